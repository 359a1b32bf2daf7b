/-
  Plain vocabulary for walks: what a block holds, and which blocks a call may have turned. No program in sight.
-/
import Derived.WalkKit
import Derived.WalkSpells
import Derived.WalkLawsBesides
import Derived.Lib.Hide
import Derived.Laws.AppendOwnNone
import Derived.Laws.BitsAllLaws
import Derived.Test.YtpihfgpgdjjfhaaDoorRows
import Derived.Lib.Atoi
import Derived.Lib.Strings
import Derived.Shelf.Strings.Builder1
import Derived.Shelf.Strings.Builder2
import Derived.Shelf.Strings.OnBuilder
import Derived.Shelf.Small.Strs
import Derived.Shelf.Strings.BuilderF
import Derived.Shelf.Strconv.Atoi
import Derived.Shelf.Strconv.Itoa0
import Derived.Shelf.Strconv.Itoa1
import Derived.Shelf.LaysM
import Derived.Shelf.Strconv.Itoa2
import Derived.Shelf.Strconv.Itoa3
import Derived.Shelf.Strconv.AtoiErrFast
import Derived.Shelf.Strconv.ParseIntEmpty
import Derived.Shelf.Strconv.AtoiFail
import Derived.Shelf.Strconv.Clone
import Derived.Shelf.Strconv.SyntaxError
import Derived.Shelf.LaysC
import Derived.Shelf.Strconv.ToError
import Derived.Shelf.Strconv.Lower
import Derived.Shelf.Strconv.ParseUint10
import Derived.Shelf.Strconv.ParseUint10Empty
import Derived.Shelf.Strconv.ParseUint10Any
import Derived.Shelf.Strconv.ParseInt10
import Derived.Shelf.Strconv.AtoiLong
import Derived.Shelf.Strconv.AtoiInnerAll
import Derived.Shelf.Strconv.RangeError
import Derived.Shelf.Strconv.ToErrorRange
import Derived.Shelf.Strconv.AtoiAll
import Derived.Shelf.Strconv.ErrVarAll
import Derived.Shelf.Strings.Search1
import Derived.Shelf.Strings.Search2
import Derived.Shelf.Strings.Search3
import Derived.Shelf.Strings.Count
import Derived.Shelf.Strings.Shaped
import Derived.Shelf.Strings.Prefix
import Derived.Shelf.Strings.Split
import Derived.Shelf.Bits.Mul64
import Derived.Shelf.Strings.Repeat
import Derived.Shelf.Unicode.DecodeSlow
import Derived.Test.YtpihfgpgdjjfhaaDoorProg
import Derived.WalkSmall
import Derived.Recover
import Derived.Laws.Bits64b
import Ieee.Arith
import Derived.Deep.RegionWith
import Derived.Lib.Join
import Derived.Lib.SplitLaws
import Derived.Lib.IndexBytes
import Derived.Lib.IndexLaws
import Derived.Lib.ItoaNum
namespace Go.Proofs.YtpihfgpgdjjfhaaDoor
open Go.RowKit

/-- block b of w is a plain row of cells -/
def Blk (w : World) (b : Nat) (c : Array Value) (t : TypeId) : Prop := w.heap[b]? = some (.cells c t (0, 0))

/-- w' is w with new blocks, and with writes to blocks of S alone -/
structure Kp (S : Nat → Prop) (w w' : World) : Prop where
  os : w'.os = w.os
  tape : w'.tape = w.tape
  output : w'.output = w.output
  size : w.heap.size ≤ w'.heap.size
  block : ∀ k, k < w.heap.size → ¬ S k → w'.heap[k]? = w.heap[k]?

theorem Kp.refl (S : Nat → Prop) (w : World) : Kp S w w := ⟨rfl, rfl, rfl, Nat.le_refl _, fun _ _ _ => rfl⟩

theorem Kp.trans {S T : Nat → Prop} {a b c : World} (h : Kp S a b) (k : Kp T b c) (hT : ∀ i, i < a.heap.size → T i → S i) : Kp S a c :=
  ⟨k.os.trans h.os, k.tape.trans h.tape, k.output.trans h.output, Nat.le_trans h.size k.size,
    fun i hi hS => (k.block i (Nat.lt_of_lt_of_le hi h.size) (fun ht => hS (hT i hi ht))).trans (h.block i hi hS)⟩

theorem Kp.mono {S T : Nat → Prop} {w w' : World} (h : Kp S w w') (hs : ∀ i, i < w.heap.size → S i → T i) : Kp T w w' :=
  ⟨h.os, h.tape, h.output, h.size, fun i hi ht => h.block i hi (fun s => ht (hs i hi s))⟩

theorem Kp.drew {S : Nat → Prop} {a w : World} (h : Kp S a w) : Kp S a w.drew := ⟨h.os, h.tape, h.output, h.size, h.block⟩

theorem Kp.drewN {S : Nat → Prop} {a w : World} (h : Kp S a w) (n : Nat) : Kp S a (w.drewN n) := ⟨h.os, h.tape, h.output, h.size, h.block⟩

theorem Kp.alloc {S : Nat → Prop} {a w : World} (h : Kp S a w) (o : Obj) : Kp S a (w.alloc o) :=
  ⟨h.os, h.tape, h.output, Nat.le_trans h.size (by simp), fun k hk hS => (Below.heap_alloc w o k (Nat.lt_of_lt_of_le hk h.size)).trans (h.block k hk hS)⟩

theorem Kp.setCell {S : Nat → Prop} {a w : World} (h : Kp S a w) {p : Addr} (hp : p.block < a.heap.size → S p.block) (u : Value) : Kp S a (w.setCell p u) :=
  ⟨h.os, h.tape, h.output, by rw [show (w.setCell p u).heap.size = w.heap.size from by simp [World.setCell]]; exact h.size,
    fun k hk hS => (Below.heap_setCell w p u k (fun e => hS (by subst e; exact hp hk))).trans (h.block k hk hS)⟩

theorem Kp.set (w : World) (p : Addr) (u : Value) : Kp (· = p.block) w (w.setCell p u) := (Kp.refl (· = p.block) w).setCell (p := p) (fun _ => rfl) u

theorem Kp.grown {S : Nat → Prop} {a w w' : World} {row : Option Nat} (h : Kp S a w) (hg : w.grownBy w' row) (hr : ∀ k, row = some k → k < a.heap.size → S k) : Kp S a w' :=
  ⟨hg.os.trans h.os, hg.tape.trans h.tape, hg.output.trans h.output, Nat.le_trans h.size hg.size,
    fun k hk hS => (hg.block k (Nat.lt_of_lt_of_le hk h.size) (fun e => hS (hr k e.symm hk))).trans (h.block k hk hS)⟩

theorem Kp.below {S : Nat → Prop} {w w' : World} (h : Kp S w w') {B : Nat} (hB : B ≤ w.heap.size) (hS : ∀ k, k < B → ¬ S k) : Below B w w' :=
  ⟨h.os, h.tape, h.output, h.size, fun k hk => h.block k (by omega) (hS k hk)⟩

theorem Kp.of_below {w w' : World} (h : Below w.heap.size w w') (S : Nat → Prop) : Kp S w w' :=
  ⟨h.os, h.tape, h.output, h.size, fun k hk _ => h.block k hk⟩

section
variable {w w' : World} {b : Nat} {c : Array Value} {t : TypeId}

theorem Blk.lt (h : Blk w b c t) : b < w.heap.size := (Array.getElem?_eq_some_iff.1 h).1

theorem Blk.kp {S : Nat → Prop} (h : Blk w b c t) (k : Kp S w w') (hS : ¬ S b) : Blk w' b c t := (k.block b h.lt hS).trans h

theorem Blk.drew (h : Blk w b c t) : Blk w.drew b c t := h
theorem Blk.drewN (h : Blk w b c t) (n : Nat) : Blk (w.drewN n) b c t := h

theorem Blk.alloc (h : Blk w b c t) (o : Obj) : Blk (w.alloc o) b c t := (Below.heap_alloc w o b h.lt).trans h

theorem Blk.new (w : World) (c : Array Value) (t : TypeId) : Blk (w.alloc (.cells c t)) w.heap.size c t := heap_alloc_new w _

theorem Blk.cell (h : Blk w b c t) {i : Nat} {v : Value} (hi : c[i]? = some v) : w.cell? ⟨b, i, none⟩ = some v :=
  (cell_of_row w b i c t (0, 0) h).trans hi

theorem Blk.free (h : Blk w b c t) (i : Nat) : w.frozen? ⟨b, i, none⟩ = false := by
  unfold World.frozen?
  show (match w.heap[b]? with | some (.cells _ _ (lo, hi)) => decide (lo ≤ i) && decide (i < hi) | _ => false) = false
  rw [show w.heap[b]? = some (.cells c t (0, 0)) from h]
  simp

theorem Blk.set_same (h : Blk w b c t) (i : Nat) (v : Value) : Blk (w.setCell ⟨b, i, none⟩ v) b (c.setIfInBounds i v) t := by
  have hlt := h.lt
  unfold Blk at h ⊢
  simp only [World.setCell, Array.getElem?_modify, if_true, h, Option.map_some]
  rfl

theorem Blk.set_other (h : Blk w b c t) {p : Addr} (hp : b ≠ p.block) (v : Value) : Blk (w.setCell p v) b c t :=
  (Below.heap_setCell w p v b hp).trans h
end

theorem cell_after_set {w : World} {p q : Addr} {v : Value} (x : Value) (h : w.cell? q = some v) : ∃ v', ((w.setCell p x).drew).cell? q = some v' := by
  by_cases e : p = q
  · subst e; exact ⟨x, World.cell?_setCell_same w p x h⟩
  · exact ⟨v, (World.cell?_setCell_other w p q x e).trans h⟩

/-- the int at a place (closed to simp) -/
def gi (l : List Int) (k : Nat) : Int := l[k]?.getD 0

/-- a row of ints -/
def ints (l : List Int) : Array Value := (l.map (Value.int .i64)).toArray

theorem ints_get (l : List Int) (i : Nat) : (ints l)[i]? = (l[i]?).map (Value.int .i64) := by simp [ints]
theorem ints_at {l : List Int} {i : Nat} (h : i < l.length) : (ints l)[i]? = some (.int .i64 (gi l i)) := by
  rw [ints_get, List.getElem?_eq_getElem h]; simp [gi, List.getElem?_eq_getElem h]
theorem ints_set (l : List Int) (i : Nat) (x : Int) : (ints l).setIfInBounds i (.int .i64 x) = ints (l.set i x) := by
  simp [ints, List.map_set]
theorem ints_size (l : List Int) : (ints l).size = l.length := by simp [ints]

/-- place j of the row at a holds u -/
def Elem (w : World) (a : Option Addr) (j : Nat) (u : Value) : Prop := ∃ b off, a = some ⟨b, off, none⟩ ∧ w.cell? ⟨b, off + j, none⟩ = some u

/-- the row at a reads cs -/
def RowAt (w : World) (a : Option Addr) (cs : List Value) : Prop := ∀ j u, cs[j]? = some u → Elem w a j u

/-- the row at a reads the ints l -/
def IntsAt (w : World) (a : Option Addr) (l : List Int) : Prop := RowAt w a (l.map (Value.int .i64))

theorem IntsAt.get {w : World} {a : Option Addr} {l : List Int} (h : IntsAt w a l) {j : Nat} (hj : j < l.length) : Elem w a j (.int .i64 (gi l j)) :=
  h j _ (by simp [gi, List.getElem?_eq_getElem hj])

theorem RowAt.nil (w : World) (a : Option Addr) : RowAt w a [] := fun j u h => by simp at h

theorem Elem.kp {S : Nat → Prop} {w w' : World} {a : Option Addr} {j : Nat} {u : Value} (h : Elem w a j u) (k : Kp S w w') (hS : ∀ p, a = some p → ¬ S p.block) : Elem w' a j u := by
  obtain ⟨b, off, rfl, hc⟩ := h
  have hlt : b < w.heap.size := World.block_lt_of_cell? w _ hc
  exact ⟨b, off, rfl, (World.cell?_of_block (w := w) (w' := w') (a := ⟨b, off + j, none⟩) (k.block b hlt (hS _ rfl))).trans hc⟩

theorem RowAt.kp {S : Nat → Prop} {w w' : World} {a : Option Addr} {cs : List Value} (h : RowAt w a cs) (k : Kp S w w') (hS : ∀ p, a = some p → ¬ S p.block) : RowAt w' a cs :=
  fun j u hu => (h j u hu).kp k hS

theorem RowAt.drewN {w : World} {a : Option Addr} {cs : List Value} (h : RowAt w a cs) (n : Nat) : RowAt (w.drewN n) a cs := h

theorem Blk.rowAt {w : World} {b : Nat} {c : Array Value} {t : TypeId} (h : Blk w b c t) {off n : Nat} {cs : List Value} (hc : (c.toList.drop off).take n = cs) : RowAt w (some ⟨b, off, none⟩) cs := by
  intro j u hu
  refine ⟨b, off, rfl, h.cell ?_⟩
  subst hc
  rw [List.getElem?_take] at hu
  split at hu
  · rw [List.getElem?_drop] at hu; simpa using hu
  · cases hu

theorem Blk.intsAt {w : World} {b : Nat} {l : List Int} {t : TypeId} (h : Blk w b (ints l) t) : IntsAt w (some ⟨b, 0, none⟩) l :=
  h.rowAt (n := l.length) (by simp [ints]; exact List.take_of_length_le (by simp))

/-- v owns the row cs: a slice of one-cell elements of type e that begins a block from base on -/
def Own (w : World) (base : Nat) (e : TypeId) (v : Value) (cs : List Value) : Prop := w.ownsRow base e 1 v cs.length cs

section
variable {w w' : World} {base : Nat} {e : TypeId} {v : Value} {cs : List Value}

theorem Own.nil (w : World) (base : Nat) (e : TypeId) : Own w base e (.slice none 0 0) [] := World.ownsRow_nil _ _ _ _

theorem Own.form (h : Own w base e v cs) : ∃ a cap, v = .slice a cs.length cap ∧ cs.length ≤ cap ∧ cap ≤ maxLen ∧ (∀ p, a = some p → ∃ g, p = ⟨g, 0, none⟩ ∧ base ≤ g ∧ g < w.heap.size) ∧ RowAt w a cs := by
  rcases h.2 with ⟨rfl, hn⟩ | ⟨g, cap, cur, rfl, hb, hg, hnc, hcm, hcs, htake⟩
  · refine ⟨none, 0, by rw [hn], by omega, by simp [maxLen], fun p hp => by simp at hp, ?_⟩
    have : cs = [] := List.eq_nil_of_length_eq_zero hn
    subst this
    exact RowAt.nil _ _
  · refine ⟨_, cap, rfl, hnc, hcm, fun p hp => ⟨g, by simpa using hp.symm, hb, (Array.getElem?_eq_some_iff.1 hg).1⟩, ?_⟩
    have hB : Blk w g cur e := hg
    exact hB.rowAt (off := 0) (n := cs.length * 1) (by simpa using htake)

theorem Own.kp {S : Nat → Prop} (h : Own w base e v cs) (k : Kp S w w') (hS : ∀ j, v.ownBlock = some j → ¬ S j) : Own w' base e v cs := by
  refine ⟨h.1, ?_⟩
  rcases h.2 with hn | ⟨g, cap, cur, rfl, hb, hgg, rest⟩
  · exact .inl hn
  · refine .inr ⟨g, cap, cur, rfl, hb, ?_, rest⟩
    rw [k.block g (Array.getElem?_eq_some_iff.1 hgg).1 (hS g rfl)]
    exact hgg

theorem Own.mono {b' : Nat} (h : Own w base e v cs) (hb : b' ≤ base) : Own w b' e v cs := by
  refine ⟨h.1, ?_⟩
  rcases h.2 with hn | ⟨g, cap, cur, rfl, hg, hgg, rest⟩
  · exact .inl hn
  · exact .inr ⟨g, cap, cur, rfl, by omega, hgg, rest⟩

theorem Own.lt (h : Own w base e v cs) : ∀ k, v.ownBlock = some k → base ≤ k ∧ k < w.heap.size := World.ownsRow.lt h

/-- a slice that owns something leads somewhere -/
theorem Own.leads (h : Own w base e v cs) (hc : 0 < cs.length) : ∃ g cap, v = .slice (some ⟨g, 0, none⟩) cs.length cap ∧ base ≤ g ∧ g < w.heap.size := by
  rcases h.2 with ⟨rfl, hn⟩ | ⟨g, cap, cur, rfl, hb, hg, _⟩
  · omega
  · exact ⟨g, cap, rfl, hb, (Array.getElem?_eq_some_iff.1 hg).1⟩

theorem Own.cell {g n cap : Nat} (h : Own w base e (.slice (some ⟨g, 0, none⟩) n cap) cs) {j : Nat} {u : Value} (hj : cs[j]? = some u) : w.cell? ⟨g, j, none⟩ = some u := by
  have hl : j < cs.length := by
    rcases Nat.lt_or_ge j cs.length with h | h
    · exact h
    · rw [List.getElem?_eq_none h] at hj; cases hj
  have hn : n = cs.length := by
    obtain ⟨a, c, e, _⟩ := h.form
    simp only [Value.slice.injEq] at e
    exact e.2.1
  subst hn
  rw [World.ownsRow.cellAt (show w.ownsRow base e 1 _ _ _ from h) j (by omega), hj]

theorem Own.free {g n cap : Nat} (h : Own w base e (.slice (some ⟨g, 0, none⟩) n cap) cs) (j : Nat) : w.frozen? ⟨g, j, none⟩ = false := by
  have hn : n = cs.length := by
    obtain ⟨a, c, e, _⟩ := h.form
    simp only [Value.slice.injEq] at e
    exact e.2.1
  subst hn
  exact World.ownsRow.frozenAt (show w.ownsRow base e 1 _ _ _ from h) j

theorem Own.set {g n cap : Nat} (h : Own w base e (.slice (some ⟨g, 0, none⟩) n cap) cs) (j : Nat) (u : Value) :
    Own (w.setCell ⟨g, j, none⟩ u) base e (.slice (some ⟨g, 0, none⟩) n cap) (cs.set j u) := by
  have hn : n = cs.length := by
    obtain ⟨a, c, e, _⟩ := h.form
    simp only [Value.slice.injEq] at e
    exact e.2.1
  subst hn
  have := (World.ownsRow.stored (show w.ownsRow base e 1 _ _ _ from h) j u).1
  unfold Own
  rw [List.length_set]
  exact this

theorem Own.set_other (h : Own w base e v cs) {p : Addr} (hp : ∀ j, v.ownBlock = some j → j ≠ p.block) (u : Value) : Own (w.setCell p u) base e v cs :=
  h.kp (Kp.set w p u) (fun j hj e => hp j hj e)

theorem Own.drew (h : Own w base e v cs) : Own w.drew base e v cs := h
theorem Own.drewN (h : Own w base e v cs) (n : Nat) : Own (w.drewN n) base e v cs := h
theorem Own.alloc (h : Own w base e v cs) (o : Obj) : Own (w.alloc o) base e v cs := World.ownsRow.alloc h o
end

/-- 'append(v, u)': v owns cs; the new element lies at ad -/
theorem wpList_append1 {P : Program} {w : World} {ops : Array Oper} {rest : List Oper} {o : Oper} {a : Act} {Q : Exit → Act → World → Prop} (hgd : o.guard = none) (s x : Operand) (t e : TypeId)
    (ho : o.op = .call { callee := .builtin .append, args := #[s, x], argTypes := #[t, t] }) {z : Value} {bytes : Nat}
    (ht : P.underlying t = some (.slice e)) (hI : (P.info? e).map (fun i => (i.zero, i.size, i.bytes)) = some (some z, 1, bytes)) (hzs : z.cells.size = 1)
    {base : Nat} {v : Value} {cs : List Value} (hown : Own w base e v cs) (hs : a.eval s = v) (ad : Addr) (u : Value) (hx : a.eval x = .slice (some ad) 1 1) (hnew : w.cell? ad = some u) (h1 : u.oneCell' = true)
    (hbytes : (cs.length + 1) * bytes ≤ 140737488355328) (hm : cs.length + 1 ≤ maxLen) (hbase : base ≤ w.heap.size)
    (h : ∀ v' w', Own w' base e v' (cs ++ [u]) → w.grownBy w' v.ownBlock → wpList P ops Q rest (a.put o.dst v') w') : wpList P ops Q (o :: rest) a w := by
  obtain ⟨i0, hi, hz0, hz1, hz2⟩ := info_parts hI
  refine wpList_append_own _ hgd s x t ho base e i0 z 1 bytes ht hi hz0 hz1 hz2 hzs (by decide) v cs.length cs hs hown ad 1 1 [u] hx rfl ?_ ?_ hm hbytes hbase ?_
  · intro j u' hj
    match j, hj with
    | 0, hj =>
      have : ad.add 0 = ad := by unfold Addr.add; split <;> simp_all
      simp at hj
      rw [this, ← hj]; exact hnew
  · intro u' hu; simp at hu; subst hu; exact h1
  · intro v' w' h2 h3 _
    exact h v' w' (by unfold Own; rw [List.length_append]; exact h2) h3

theorem add_plain' (b off n : Nat) : (⟨b, off, none⟩ : Addr).add n = ⟨b, off + n, none⟩ := by
  unfold Addr.add
  split <;> simp_all

/-- 'append(v, xs...)': v owns cs; the source reads news -/
theorem wpList_appendAll {P : Program} {w : World} {ops : Array Oper} {rest : List Oper} {o : Oper} {a : Act} {Q : Exit → Act → World → Prop} (hgd : o.guard = none) (s x : Operand) (t e : TypeId)
    (ho : o.op = .call { callee := .builtin .append, args := #[s, x], argTypes := #[t, t] }) {z : Value} {bytes : Nat}
    (ht : P.underlying t = some (.slice e)) (hI : (P.info? e).map (fun i => (i.zero, i.size, i.bytes)) = some (some z, 1, bytes)) (hzs : z.cells.size = 1)
    {base : Nat} {v : Value} {cs : List Value} (hown : Own w base e v cs) (hs : a.eval s = v) (src : Option Addr) (m c : Nat) (news : List Value) (hx : a.eval x = .slice src m c) (hm : news.length = m) (hrow : RowAt w src news) (hnil : src = none → c = 0) (h1 : ∀ u ∈ news, u.oneCell' = true)
    (hbytes : (cs.length + m) * bytes ≤ 140737488355328) (hml : cs.length + m ≤ maxLen) (hbase : base ≤ w.heap.size)
    (h : ∀ v' w', Own w' base e v' (cs ++ news) → w.grownBy w' v.ownBlock → wpList P ops Q rest (a.put o.dst v') w') : wpList P ops Q (o :: rest) a w := by
  obtain ⟨i0, hi, hz0, hz1, hz2⟩ := info_parts hI
  cases src with
  | none =>
    have hn : news = [] := by
      cases news with
      | nil => rfl
      | cons u r => obtain ⟨_, _, h, _⟩ := hrow 0 u rfl; cases h
    subst hn
    have hm0 : m = 0 := by simpa using hm.symm
    subst hm0
    rw [hnil rfl] at hx
    refine wpList_append_own_none hgd s x t ho base e i0 1 ht hi v cs.length cs hs hown hx ?_
    exact h v w (by rw [List.append_nil]; exact hown) ⟨rfl, rfl, rfl, Nat.le_refl _, fun _ _ _ => rfl⟩
  | some ad =>
    refine wpList_append_own _ hgd s x t ho base e i0 z 1 bytes ht hi hz0 hz1 hz2 hzs (by decide) v cs.length cs hs hown ad m c news hx (by omega) ?_ h1 hml hbytes hbase ?_
    · intro j u hj
      obtain ⟨b, off, hab, hc⟩ := hrow j u hj
      simp only [Option.some.injEq] at hab
      subst hab
      rw [add_plain']
      exact hc
    · intro v' w' h2 h3 _
      exact h v' w' (by unfold Own; rw [List.length_append, hm]; exact h2) h3

/-- a slice of ints that came in -/
def IntsArg (w : World) (v : Value) : Prop :=
  ∃ (a : Option Addr) (len cap : Nat) (l : List Int), v = .slice a len cap ∧ l.length = len ∧ len ≤ cap ∧ cap ≤ maxLen ∧ (a = none → cap = 0) ∧ IntsAt w a l ∧ ∀ x ∈ l, -9223372036854775808 ≤ x ∧ x ≤ 9223372036854775807

theorem RowAt.take {w : World} {a : Option Addr} {cs : List Value} (h : RowAt w a cs) (m : Nat) : RowAt w a (cs.take m) := by
  intro j u hu
  rw [List.getElem?_take] at hu
  split at hu
  · exact h j u hu
  · cases hu

end Go.Proofs.YtpihfgpgdjjfhaaDoor

/-
  Layer 1 in plain words: bytes of a string, the number at a place.
-/
namespace Go.Proofs.YtpihfgpgdjjfhaaDoor
open Go.RowKit

/-- the byte at a place -/
def bt (s : ByteArray) (i : Nat) : Nat := if h : i < s.size then (s[i]'h).toNat else 0

theorem bt_eq {s : ByteArray} {i : Nat} (h : i < s.size) : (s[i]'h).toNat = bt s i := by simp [bt, h]
theorem bt_lt (s : ByteArray) (i : Nat) : bt s i < 256 := by
  unfold bt
  split
  · exact UInt8.toNat_lt _
  · decide

/-- the number at a place, by digits of seven bits: r rounds are left, k are done, n is what they came to -/
def getR (s : ByteArray) (at_ : Nat) : Nat → Nat → Nat → Nat × Nat × Nat
  | 0, _, _ => (0, 0, 5)
  | r + 1, k, n =>
    if at_ + k = s.size then (0, 0, 3)
    else if k = 4 ∧ 15 < bt s (at_ + k) then (0, 0, 5)
    else if 0 < k ∧ bt s (at_ + k) = 0 then (0, 0, 2)
    else if bt s (at_ + k) < 128 then (n + bt s (at_ + k) % 128 * 128 ^ k, at_ + k + 1, 0)
    else getR s at_ r (k + 1) (n + bt s (at_ + k) % 128 * 128 ^ k)

def getN (s : ByteArray) (at_ : Nat) : Nat × Nat × Nat := getR s at_ 5 0 0

/-- what Get tells, of any place -/
def getT (s : ByteArray) (x : Int) : Nat × Nat × Nat := if x < 0 ∨ (s.size : Int) < x then (0, 0, 1) else getN s x.toNat

theorem nat_or_add {n k y : Nat} (h : n < 2 ^ k) : n ||| (y * 2 ^ k) = n + y * 2 ^ k := by
  have h1 := Nat.two_pow_add_eq_or_of_lt h y
  rw [Nat.or_comm, Nat.mul_comm y, ← h1]
  omega

theorem or_u32 {n y : Nat} (hn : n < 4294967296) (hy : y < 4294967296) : bits .or .u32 (n : Int) (y : Int) = ((n ||| y : Nat) : Int) := Go.u32_or_nat n y hn hy

theorem and_127 (b : Nat) (h : b < 256) : bits .and .u8 (b : Int) 127 = ((b % 128 : Nat) : Int) := by
  have h1 := Go.u8_and_nat b 127 h (by decide)
  have h2 : b &&& 127 = b % 128 := by
    have := Nat.and_two_pow_sub_one_eq_mod b 7
    simpa using this
  rw [h2] at h1
  exact h1

theorem pow_128 (k : Nat) : 128 ^ k = 2 ^ (7 * k) := by rw [Nat.pow_mul]

/-- one digit is put to the number -/
theorem digit_step {n c k : Nat} (hn : n < 128 ^ k) (hc : c * 128 ^ k < 4294967296) (hk : 128 ^ k ≤ 4294967296) :
    bits .or .u32 (n : Int) (((c : Nat) : Int) % 4294967296 * 2 ^ (7 * k) % 4294967296) = ((n + c * 128 ^ k : Nat) : Int) := by
  have e1 : (((c : Nat) : Int) % 4294967296 * 2 ^ (7 * k) % 4294967296) = ((c * 128 ^ k : Nat) : Int) := by
    have hc' : c < 4294967296 := by
      have : c * 1 ≤ c * 128 ^ k := Nat.mul_le_mul_left c (Nat.pos_of_ne_zero (by simp))
      omega
    rw [pow_128] at hc ⊢
    rw [show ((c : Nat) : Int) % 4294967296 = (c : Int) from Int.emod_eq_of_lt (by omega) (by omega)]
    have : ((c : Nat) : Int) * 2 ^ (7 * k) = ((c * 2 ^ (7 * k) : Nat) : Int) := by simp
    rw [this]
    generalize c * 2 ^ (7 * k) = z at hc
    omega
  rw [e1, or_u32 (by omega) hc]
  rw [pow_128] at hn ⊢
  rw [nat_or_add hn]

theorem digit_step2 {n B k : Nat} (hn : n < 128 ^ k) (hc : B % 128 * 128 ^ k < 4294967296) (hk : 128 ^ k ≤ 4294967296) :
    bits .or .u32 (n : Int) ((B : Int) % 128 * 2 ^ (7 * k) % 4294967296) = ((n + B % 128 * 128 ^ k : Nat) : Int) := by
  have h := digit_step hn hc hk
  rw [← h]
  congr 3
  omega

end Go.Proofs.YtpihfgpgdjjfhaaDoor

/-
  octet.Get and its reference: what they compute.
-/
namespace Go.Proofs.YtpihfgpgdjjfhaaDoor
open Go.RowKit

def tripV (r : Nat × Nat × Nat) : Value := .tuple #[.int .u32 r.1, .int .i64 r.2.1, .int .i64 r.2.2]

/-- what one round of getR comes to -/
theorem getR_step (s : ByteArray) (at_ r k n : Nat) :
    getR s at_ (r + 1) k n = if at_ + k = s.size then (0, 0, 3)
    else if k = 4 ∧ 15 < bt s (at_ + k) then (0, 0, 5)
    else if 0 < k ∧ bt s (at_ + k) = 0 then (0, 0, 2)
    else if bt s (at_ + k) < 128 then (n + bt s (at_ + k) % 128 * 128 ^ k, at_ + k + 1, 0)
    else getR s at_ r (k + 1) (n + bt s (at_ + k) % 128 * 128 ^ k) := rfl

theorem pow_le {k : Nat} (h : k ≤ 4) : 128 ^ k ≤ 268435456 := Nat.pow_le_pow_right (show 0 < 128 by decide) h

end Go.Proofs.YtpihfgpgdjjfhaaDoor

/-
  Layer 1 in plain words: the number whose digits stand at a place.
-/
namespace Go.Proofs.YtpihfgpgdjjfhaaDoor
open Go.RowKit

/-- whether the byte at a place is a digit -/
def isDig (s : ByteArray) (i : Nat) : Prop := 48 ≤ bt s i ∧ bt s i ≤ 57

/-- how many digits stand from a place on -/
def runL (s : ByteArray) : Nat → Nat → Nat
  | 0, _ => 0
  | f + 1, i => if 48 ≤ bt s i ∧ bt s i ≤ 57 then runL s f (i + 1) + 1 else 0

def endOf (s : ByteArray) (i : Nat) : Nat := i + runL s (s.size - i) i

theorem runL_le (s : ByteArray) (f : Nat) : ∀ i, runL s f i ≤ f := by
  induction f with
  | zero => intro i; simp [runL]
  | succ f ih => intro i; simp only [runL]; split; (have := ih (i + 1); omega); omega

theorem runL_dig (s : ByteArray) (f : Nat) : ∀ i j, j < runL s f i → isDig s (i + j) := by
  induction f with
  | zero => intro i j h; simp [runL] at h
  | succ f ih =>
    intro i j h
    simp only [runL] at h
    split at h
    · rename_i hd
      cases j with
      | zero => exact hd
      | succ j => have := ih (i + 1) j (by omega); rw [show i + (j + 1) = i + 1 + j from by omega]; exact this
    · omega

theorem runL_stop (s : ByteArray) (f : Nat) : ∀ i, runL s f i < f → ¬ isDig s (i + runL s f i) := by
  induction f with
  | zero => intro i h; omega
  | succ f ih =>
    intro i h
    simp only [runL] at h ⊢
    split
    · rename_i hd
      rw [if_pos hd] at h
      have := ih (i + 1) (by omega)
      rw [show i + (runL s f (i + 1) + 1) = i + 1 + runL s f (i + 1) from by omega]
      exact this
    · rename_i hd; rw [Nat.add_zero]; exact hd

theorem endOf_ge (s : ByteArray) (i : Nat) : i ≤ endOf s i := by unfold endOf; omega
theorem endOf_le {s : ByteArray} {i : Nat} (h : i ≤ s.size) : endOf s i ≤ s.size := by
  have := runL_le s (s.size - i) i
  unfold endOf; omega

/-- where digits stand up to j and none at j, j is the end -/
theorem endOf_is {s : ByteArray} {i j : Nat} (hij : i ≤ j) (hj : j ≤ s.size) (h : ∀ k, i ≤ k → k < j → isDig s k) (hs : j = s.size ∨ ¬ isDig s j) : endOf s i = j := by
  have h1 := runL_le s (s.size - i) i
  unfold endOf
  rcases Nat.lt_trichotomy (i + runL s (s.size - i) i) j with h2 | h2 | h2
  · exact absurd (h _ (by omega) h2) (runL_stop s (s.size - i) i (by omega))
  · exact h2
  · have := runL_dig s (s.size - i) i (j - i) (by omega)
    rw [show i + (j - i) = j from by omega] at this
    rcases hs with e | e
    · omega
    · exact absurd this e

/-- the number of k digits -/
def numb (s : ByteArray) (i : Nat) : Nat → Nat
  | 0 => 0
  | k + 1 => 10 * numb s i k + (bt s (i + k) - 48)

theorem numb_lt {s : ByteArray} {i : Nat} (k : Nat) (h : ∀ j, j < k → isDig s (i + j)) : numb s i k < 10 ^ k := by
  induction k with
  | zero => simp [numb]
  | succ k ih =>
    have h1 := ih (fun j hj => h j (by omega))
    have h2 := h k (by omega)
    unfold isDig at h2
    simp only [numb]
    rw [Nat.pow_succ]
    omega

def natN (s : ByteArray) (i : Nat) : Nat × Nat × Nat :=
  if i = s.size then (0, 0, 3)
  else if endOf s i = i ∨ bt s i = 48 ∧ i + 1 < endOf s i then (0, 0, 2)
  else if 9 < endOf s i - i then (0, 0, 5)
  else (numb s i (endOf s i - i), endOf s i, 0)

def natT (s : ByteArray) (x : Int) : Nat × Nat × Nat := if x < 0 ∨ (s.size : Int) < x then (0, 0, 1) else natN s x.toNat

theorem byte_at {s : ByteArray} {i : Nat} (h : i < s.size) : ∃ b : UInt8, s.data.toList[i]? = some b ∧ b.toNat = bt s i := by
  refine ⟨s[i]'h, ?_, bt_eq h⟩
  have h2 : i < s.data.size := h
  rw [Array.getElem?_toList, Array.getElem?_eq_getElem h2]
  rfl

theorem word_dec {s : ByteArray} {i : Nat} (k : Nat) (hk : i + k ≤ s.size) (h : ∀ j, j < k → isDig s (i + j)) : Lib.decFrom 0 ((s.data.toList.drop i).take k) = some (numb s i k) := by
  induction k with
  | zero => simp [Lib.decFrom, numb]
  | succ k ih =>
    have h1 := ih (by omega) (fun j hj => h j (by omega))
    obtain ⟨b, hb, hb2⟩ := byte_at (s := s) (i := i + k) (by omega)
    have hd := h k (by omega)
    unfold isDig at hd
    have hv : Lib.digitVal b = some (bt s (i + k) - 48) := by
      unfold Lib.digitVal
      rw [if_pos ⟨by omega, by omega⟩, hb2]
    have := Lib.decFrom_take (s.data.toList.drop i) k 0 (numb s i k) b _ h1 (by rw [List.getElem?_drop]; exact hb) hv
    rw [this]
    simp only [numb]
    congr 1
    omega

theorem word_atoi {s : ByteArray} {i k : Nat} (hk0 : 0 < k) (hk : i + k ≤ s.size) (h : ∀ j, j < k → isDig s (i + j)) : Lib.atoi ((s.data.toList.drop i).take k) = some (numb s i k : Int) := by
  obtain ⟨b, hb, hb2⟩ := byte_at (s := s) (i := i) (by omega)
  have h0 := h 0 hk0
  unfold isDig at h0
  rw [Nat.add_zero] at h0
  have hd := word_dec k hk h
  have hlen : i < s.data.toList.length := by rw [← Lib.size_eq]; omega
  have e : (s.data.toList.drop i).take k = b :: ((s.data.toList.drop (i + 1)).take (k - 1)) := by
    obtain ⟨k', rfl⟩ : ∃ k', k = k' + 1 := ⟨k - 1, by omega⟩
    rw [List.drop_eq_getElem_cons hlen, List.take_succ_cons]
    rw [List.getElem?_eq_getElem hlen] at hb
    simp only [Option.some.injEq] at hb
    rw [hb]
    rfl
  rw [e] at hd ⊢
  have n1 : (b == 45) = false := by
    rw [beq_eq_false_iff_ne]; intro h; subst h; simp at hb2; omega
  have n2 : (b == 43) = false := by
    rw [beq_eq_false_iff_ne]; intro h; subst h; simp at hb2; omega
  simp only [Lib.atoi, n1, n2, Bool.false_eq_true, if_false, Lib.decNat, List.isEmpty_cons, hd, Option.map_some]

theorem cut_size {s : ByteArray} {i n : Nat} (h : i + n ≤ s.size) : (s.extract i (i + n)).size = n := by
  rw [ByteArray.size_extract]; omega

theorem cut_list {s : ByteArray} {i n : Nat} : (s.extract i (i + n)).data.toList = (s.data.toList.drop i).take n := by
  rw [Lib.extract_data, show i + n - i = n from by omega]

theorem cut_empty (s : ByteArray) (i : Nat) : (s.extract i i).toList = [] := by
  rw [Lib.extract_toList]; simp

theorem cut_first {s : ByteArray} {i n : Nat} (h : i + n ≤ s.size) (h0 : 0 < (s.extract i (i + n)).size) : ((s.extract i (i + n))[0]'h0).toNat = bt s i := by
  have hn : 0 < n := by rw [cut_size h] at h0; exact h0
  rw [ByteArray.getElem_extract]
  simp only [Nat.add_zero]
  exact bt_eq (by omega)

theorem cut_some {s : ByteArray} {i n : Nat} (h : i + n ≤ s.size) (hn : 0 < n) : (s.extract i (i + n)).toList ≠ [] := by
  intro e
  have h1 := congrArg List.length e
  rw [Lib.toList_data, ← Lib.size_eq, cut_size h] at h1
  simp at h1
  omega

end Go.Proofs.YtpihfgpgdjjfhaaDoor

/-
  The library's contracts at this dump, as the kit's own tool lays them.
-/
namespace Go.Proofs
open Go.Shelf
def Tryd.lays156_ren : Go.Shelf.Ren := ⟨fun | 156 => 31 | 165 => 46 | 166 => 47 | 169 => 49 | 240 => 68 | 241 => 69 | 276 => 82 | 277 => 83 | n => n, fun | 31 => 45 | 9 => 9 | 3 => 3 | 4 => 4 | 0 => 0 | 20 => 20 | 72 => 84 | 76 => 54 | 70 => 82 | 37 => 78 | 75 => 53 | 127 => 107 | 164 => 120 | 5 => 5 | 80 => 87 | n => n, fun | n => n⟩
theorem Tryd.lays156 : Go.Proofs.Lays.n156 Tryd.prog Tryd.lays156_ren := {
  mixed := by kernel_rfl
  f156 := Tryd.func31.trans (congrArg some (by kernel_rfl))
  f165 := Tryd.func46.trans (congrArg some (by kernel_rfl))
  f166 := Tryd.func47.trans (congrArg some (by kernel_rfl))
  f169 := Tryd.func49.trans (congrArg some (by kernel_rfl))
  f240 := Tryd.func68.trans (congrArg some (by kernel_rfl))
  f241 := Tryd.func69.trans (congrArg some (by kernel_rfl))
  f276 := Tryd.func82.trans (congrArg some (by kernel_rfl))
  f277 := Tryd.func83.trans (congrArg some (by kernel_rfl))
  t0 := Tryd.underlying0
  a0 := Tryd.isAgg0
  z0 := Tryd.sizeOf0
  v0 := Tryd.zeroValue0
  t3 := Tryd.underlying3
  a3 := Tryd.isAgg3
  z3 := Tryd.sizeOf3
  v3 := Tryd.zeroValue3
  t4 := Tryd.underlying4
  a4 := Tryd.isAgg4
  z4 := Tryd.sizeOf4
  v4 := Tryd.zeroValue4
  t9 := Tryd.underlying9
  a9 := Tryd.isAgg9
  z9 := Tryd.sizeOf9
  v9 := Tryd.zeroValue9
  t20 := Tryd.underlying20
  a20 := Tryd.isAgg20
  z20 := Tryd.sizeOf20
  v20 := Tryd.zeroValue20
  t31 := Tryd.underlying45
  a31 := Tryd.isAgg45
  z31 := Tryd.sizeOf45
  v31 := Tryd.zeroValue45
  t37 := Tryd.underlying78
  a37 := Tryd.isAgg78
  z37 := Tryd.sizeOf78
  v37 := Tryd.zeroValue78
  t70 := Tryd.underlying82
  a70 := Tryd.isAgg82
  z70 := Tryd.sizeOf82
  v70 := Tryd.zeroValue82
  t72 := Tryd.underlying84
  a72 := Tryd.isAgg84
  z72 := Tryd.sizeOf84
  v72 := Tryd.zeroValue84
  t75 := Tryd.underlying53
  a75 := Tryd.isAgg53
  z75 := Tryd.sizeOf53
  v75 := Tryd.zeroValue53
  t76 := Tryd.underlying54
  a76 := Tryd.isAgg54
  z76 := Tryd.sizeOf54
  v76 := Tryd.zeroValue54
  t127 := Tryd.underlying107
  a127 := Tryd.isAgg107
  z127 := Tryd.sizeOf107
  v127 := Tryd.zeroValue107
  t164 := Tryd.underlying120
  a164 := Tryd.isAgg120
  z164 := Tryd.sizeOf120
  v164 := Tryd.zeroValue120 }
theorem Tryd.Builder_Extra_156 : Builder.Extra Tryd.prog Tryd.lays156_ren := {
  sizeBuilder := by kernel_rfl
  liesBuilder := by kernel_rfl
  t5 := Tryd.underlying5
  a5 := Tryd.isAgg5
  z5 := Tryd.sizeOf5
  v5 := Tryd.zeroValue5
  infoByte := by kernel_rfl
  cellsByte := by kernel_rfl
  sizeByte := by kernel_rfl
  neB5 := by decide }
open Go.RowKit in
theorem Tryd.strings_Join_none (a : Option Addr) (c : Nat) (sep : ByteArray) (w : World) :
    Calls Tryd.prog 31 #[.slice a 0 c, .string sep] w fun e w' => e = .returned (.string ⟨#[]⟩) ∧ w' = w := Any.strings_Join_none Tryd.lays156 Tryd.Builder_Extra_156 a c sep w
open Go.RowKit in
theorem Tryd.strings_Join (bk o c : Nat) (xs : List ByteArray) (sep : ByteArray) (w : World) (hcells : ∀ (j : Nat) x, xs[j]? = some x → w.cell? ⟨bk, o + j, none⟩ = some (.string x)) (hbk : bk < w.heap.size) (hN : xs.length ≤ 140737488355328) (hcap : xs.length ≤ c) (hlen : (Lib.join (xs.map (·.data.toList)) sep.data.toList).length ≤ 140737488355328) :
    Calls Tryd.prog 31 #[.slice (some ⟨bk, o, none⟩) xs.length c, .string sep] w fun e w' => e = .returned (.string ⟨(Lib.join (xs.map (·.data.toList)) sep.data.toList).toArray⟩) ∧ Below w.heap.size w w' := Any.strings_Join Tryd.lays156 Tryd.Builder_Extra_156 bk o c xs sep w hcells hbk hN hcap hlen
def Tryd.lays137_ren : Go.Shelf.Ren := ⟨fun | 137 => 39 | 217 => 59 | 266 => 76 | n => n, fun | 9 => 9 | 5 => 5 | 3 => 3 | n => n, fun | n => n⟩
theorem Tryd.lays137 : Go.Proofs.Lays.n137 Tryd.prog Tryd.lays137_ren := {
  mixed := by kernel_rfl
  f137 := Tryd.func39.trans (congrArg some (by kernel_rfl))
  f217 := Tryd.func59.trans (congrArg some (by kernel_rfl))
  f266 := Tryd.func76.trans (congrArg some (by kernel_rfl))
  t3 := Tryd.underlying3
  a3 := Tryd.isAgg3
  z3 := Tryd.sizeOf3
  v3 := Tryd.zeroValue3
  t5 := Tryd.underlying5
  a5 := Tryd.isAgg5
  z5 := Tryd.sizeOf5
  v5 := Tryd.zeroValue5
  t9 := Tryd.underlying9
  a9 := Tryd.isAgg9
  z9 := Tryd.sizeOf9
  v9 := Tryd.zeroValue9 }
open Go.RowKit in
theorem Tryd.strings_IndexByte (s : ByteArray) (c : Int) (w : World) :
    Calls Tryd.prog 39 #[.string s, .int .u8 c] w fun e w' => e = .returned (.int .i64 (Lib.indexByte s.data.toList c.toNat.toUInt8)) ∧ w' = w := Any.strings_IndexByte Tryd.lays137 s c w
def Tryd.lays172_ren : Go.Shelf.Ren := ⟨fun | 172 => 17 | 244 => 36 | 245 => 37 | 247 => 52 | 279 => 53 | 280 => 54 | 281 => 55 | 282 => 56 | 287 => 38 | 316 => 74 | 171 => 50 | 205 => 75 | 321 => 57 | 322 => 58 | 243 => 70 | 246 => 84 | 283 => 61 | 284 => 62 | 285 => 63 | 286 => 64 | 129 => 78 | 317 => 77 | 318 => 79 | 319 => 80 | 320 => 81 | 337 => 89 | 338 => 90 | n => n, fun | 9 => 9 | 3 => 3 | 75 => 53 | 76 => 54 | 4 => 4 | 5 => 5 | 167 => 89 | 37 => 78 | 0 => 0 | 85 => 90 | 2 => 2 | 168 => 92 | 53 => 22 | 175 => 56 | 46 => 76 | 210 => 112 | 127 => 107 | 145 => 128 | 143 => 126 | 21 => 21 | 171 => 97 | 173 => 100 | 212 => 116 | 51 => 102 | 20 => 20 | 213 => 117 | 232 => 130 | 233 => 131 | 80 => 87 | n => n, fun | 15 => 1 | 16 => 2 | 17 => 3 | 18 => 5 | 19 => 6 | n => n⟩
theorem Tryd.lays172 : Go.Proofs.Lays.n172 Tryd.prog Tryd.lays172_ren := {
  mixed := by kernel_rfl
  f129 := Tryd.func78.trans (congrArg some (by kernel_rfl))
  f171 := Tryd.func50.trans (congrArg some (by kernel_rfl))
  f172 := Tryd.func17.trans (congrArg some (by kernel_rfl))
  f205 := Tryd.func75.trans (congrArg some (by kernel_rfl))
  f243 := Tryd.func70.trans (congrArg some (by kernel_rfl))
  f244 := Tryd.func36.trans (congrArg some (by kernel_rfl))
  f245 := Tryd.func37.trans (congrArg some (by kernel_rfl))
  f246 := Tryd.func84.trans (congrArg some (by kernel_rfl))
  f247 := Tryd.func52.trans (congrArg some (by kernel_rfl))
  f279 := Tryd.func53.trans (congrArg some (by kernel_rfl))
  f280 := Tryd.func54.trans (congrArg some (by kernel_rfl))
  f281 := Tryd.func55.trans (congrArg some (by kernel_rfl))
  f282 := Tryd.func56.trans (congrArg some (by kernel_rfl))
  f283 := Tryd.func61.trans (congrArg some (by kernel_rfl))
  f284 := Tryd.func62.trans (congrArg some (by kernel_rfl))
  f285 := Tryd.func63.trans (congrArg some (by kernel_rfl))
  f286 := Tryd.func64.trans (congrArg some (by kernel_rfl))
  f287 := Tryd.func38.trans (congrArg some (by kernel_rfl))
  f316 := Tryd.func74.trans (congrArg some (by kernel_rfl))
  f317 := Tryd.func77.trans (congrArg some (by kernel_rfl))
  f318 := Tryd.func79.trans (congrArg some (by kernel_rfl))
  f319 := Tryd.func80.trans (congrArg some (by kernel_rfl))
  f320 := Tryd.func81.trans (congrArg some (by kernel_rfl))
  f321 := Tryd.func57.trans (congrArg some (by kernel_rfl))
  f322 := Tryd.func58.trans (congrArg some (by kernel_rfl))
  f337 := Tryd.func89.trans (congrArg some (by kernel_rfl))
  f338 := Tryd.func90.trans (congrArg some (by kernel_rfl))
  t0 := Tryd.underlying0
  a0 := Tryd.isAgg0
  z0 := Tryd.sizeOf0
  v0 := Tryd.zeroValue0
  t2 := Tryd.underlying2
  a2 := Tryd.isAgg2
  z2 := Tryd.sizeOf2
  v2 := Tryd.zeroValue2
  t3 := Tryd.underlying3
  a3 := Tryd.isAgg3
  z3 := Tryd.sizeOf3
  v3 := Tryd.zeroValue3
  t4 := Tryd.underlying4
  a4 := Tryd.isAgg4
  z4 := Tryd.sizeOf4
  v4 := Tryd.zeroValue4
  t5 := Tryd.underlying5
  a5 := Tryd.isAgg5
  z5 := Tryd.sizeOf5
  v5 := Tryd.zeroValue5
  t9 := Tryd.underlying9
  a9 := Tryd.isAgg9
  z9 := Tryd.sizeOf9
  v9 := Tryd.zeroValue9
  t20 := Tryd.underlying20
  a20 := Tryd.isAgg20
  z20 := Tryd.sizeOf20
  v20 := Tryd.zeroValue20
  t21 := Tryd.underlying21
  a21 := Tryd.isAgg21
  z21 := Tryd.sizeOf21
  v21 := Tryd.zeroValue21
  t37 := Tryd.underlying78
  a37 := Tryd.isAgg78
  z37 := Tryd.sizeOf78
  v37 := Tryd.zeroValue78
  t46 := Tryd.underlying76
  a46 := Tryd.isAgg76
  z46 := Tryd.sizeOf76
  v46 := Tryd.zeroValue76
  t51 := Tryd.underlying102
  a51 := Tryd.isAgg102
  z51 := Tryd.sizeOf102
  v51 := Tryd.zeroValue102
  t53 := Tryd.underlying22
  a53 := Tryd.isAgg22
  z53 := Tryd.sizeOf22
  v53 := Tryd.zeroValue22
  t75 := Tryd.underlying53
  a75 := Tryd.isAgg53
  z75 := Tryd.sizeOf53
  v75 := Tryd.zeroValue53
  t76 := Tryd.underlying54
  a76 := Tryd.isAgg54
  z76 := Tryd.sizeOf54
  v76 := Tryd.zeroValue54
  t85 := Tryd.underlying90
  a85 := Tryd.isAgg90
  z85 := Tryd.sizeOf90
  v85 := Tryd.zeroValue90
  t127 := Tryd.underlying107
  a127 := Tryd.isAgg107
  z127 := Tryd.sizeOf107
  v127 := Tryd.zeroValue107
  t143 := Tryd.underlying126
  a143 := Tryd.isAgg126
  z143 := Tryd.sizeOf126
  v143 := Tryd.zeroValue126
  t145 := Tryd.underlying128
  a145 := Tryd.isAgg128
  z145 := Tryd.sizeOf128
  v145 := Tryd.zeroValue128
  t167 := Tryd.underlying89
  a167 := Tryd.isAgg89
  z167 := Tryd.sizeOf89
  v167 := Tryd.zeroValue89
  t168 := Tryd.underlying92
  a168 := Tryd.isAgg92
  z168 := Tryd.sizeOf92
  v168 := Tryd.zeroValue92
  t171 := Tryd.underlying97
  a171 := Tryd.isAgg97
  z171 := Tryd.sizeOf97
  v171 := Tryd.zeroValue97
  t173 := Tryd.underlying100
  a173 := Tryd.isAgg100
  z173 := Tryd.sizeOf100
  v173 := Tryd.zeroValue100
  t175 := Tryd.underlying56
  a175 := Tryd.isAgg56
  z175 := Tryd.sizeOf56
  v175 := Tryd.zeroValue56
  t210 := Tryd.underlying112
  a210 := Tryd.isAgg112
  z210 := Tryd.sizeOf112
  v210 := Tryd.zeroValue112
  t212 := Tryd.underlying116
  a212 := Tryd.isAgg116
  z212 := Tryd.sizeOf116
  v212 := Tryd.zeroValue116
  t213 := Tryd.underlying117
  a213 := Tryd.isAgg117
  z213 := Tryd.sizeOf117
  t232 := Tryd.underlying130
  a232 := Tryd.isAgg130
  z232 := Tryd.sizeOf130
  v232 := Tryd.zeroValue130
  t233 := Tryd.underlying131
  a233 := Tryd.isAgg131
  z233 := Tryd.sizeOf131
  v233 := Tryd.zeroValue131
  g15 := by kernel_rfl
  g16 := by kernel_rfl
  g17 := by kernel_rfl
  g18 := by kernel_rfl
  g19 := by kernel_rfl }
open Go.RowKit in
theorem Tryd.strconv_Atoi (s : ByteArray) (n : Int) (hl : s.size ≤ 18) (h : Lib.atoi s.data.toList = some n) (w : World) :
    Calls Tryd.prog 17 #[.string s] w fun e w' => e = .returned (.tuple #[.int .i64 n, .nilIface]) ∧ ∃ t, w' = Lib.bytesWorld w 5 t := Any.strconv_Atoi Tryd.lays172 s n hl h w
def Tryd.laysM171_ren : Go.Shelf.Ren := ⟨fun | 171 => 50 | 243 => 70 | 246 => 84 | 283 => 61 | 284 => 62 | 285 => 63 | 286 => 64 | 129 => 78 | 317 => 77 | 318 => 79 | 319 => 80 | 320 => 81 | 337 => 89 | 338 => 90 | n => n, fun | 3 => 3 | 9 => 9 | 2 => 2 | 4 => 4 | 171 => 97 | 0 => 0 | 53 => 22 | 37 => 78 | 5 => 5 | 173 => 100 | 212 => 116 | 51 => 102 | 20 => 20 | 213 => 117 | 46 => 76 | 232 => 130 | 233 => 131 | n => n, fun | 17 => 3 | 18 => 5 | 19 => 6 | n => n⟩
theorem Tryd.laysM171 : Go.Proofs.LaysM.n171 Tryd.prog Tryd.laysM171_ren := {
  mixed := by kernel_rfl
  f129 := Tryd.func78.trans (congrArg some (by kernel_rfl))
  f171 := Tryd.func50.trans (congrArg some (by kernel_rfl))
  f243 := Tryd.func70.trans (congrArg some (by kernel_rfl))
  f246 := Tryd.func84.trans (congrArg some (by kernel_rfl))
  f283 := Tryd.func61.trans (congrArg some (by kernel_rfl))
  f284 := Tryd.func62.trans (congrArg some (by kernel_rfl))
  f285 := Tryd.func63.trans (congrArg some (by kernel_rfl))
  f286 := Tryd.func64.trans (congrArg some (by kernel_rfl))
  f317 := Tryd.func77.trans (congrArg some (by kernel_rfl))
  f318 := Tryd.func79.trans (congrArg some (by kernel_rfl))
  f319 := Tryd.func80.trans (congrArg some (by kernel_rfl))
  f320 := Tryd.func81.trans (congrArg some (by kernel_rfl))
  f337 := Tryd.func89.trans (congrArg some (by kernel_rfl))
  f338 := Tryd.func90.trans (congrArg some (by kernel_rfl))
  t0 := Tryd.underlying0
  a0 := Tryd.isAgg0
  z0 := Tryd.sizeOf0
  v0 := Tryd.zeroValue0
  t2 := Tryd.underlying2
  a2 := Tryd.isAgg2
  z2 := Tryd.sizeOf2
  v2 := Tryd.zeroValue2
  t3 := Tryd.underlying3
  a3 := Tryd.isAgg3
  z3 := Tryd.sizeOf3
  v3 := Tryd.zeroValue3
  t4 := Tryd.underlying4
  a4 := Tryd.isAgg4
  z4 := Tryd.sizeOf4
  v4 := Tryd.zeroValue4
  t5 := Tryd.underlying5
  a5 := Tryd.isAgg5
  z5 := Tryd.sizeOf5
  v5 := Tryd.zeroValue5
  t9 := Tryd.underlying9
  a9 := Tryd.isAgg9
  z9 := Tryd.sizeOf9
  v9 := Tryd.zeroValue9
  t20 := Tryd.underlying20
  a20 := Tryd.isAgg20
  z20 := Tryd.sizeOf20
  v20 := Tryd.zeroValue20
  t37 := Tryd.underlying78
  a37 := Tryd.isAgg78
  z37 := Tryd.sizeOf78
  v37 := Tryd.zeroValue78
  t46 := Tryd.underlying76
  a46 := Tryd.isAgg76
  z46 := Tryd.sizeOf76
  v46 := Tryd.zeroValue76
  t51 := Tryd.underlying102
  a51 := Tryd.isAgg102
  z51 := Tryd.sizeOf102
  v51 := Tryd.zeroValue102
  t53 := Tryd.underlying22
  a53 := Tryd.isAgg22
  z53 := Tryd.sizeOf22
  v53 := Tryd.zeroValue22
  t171 := Tryd.underlying97
  a171 := Tryd.isAgg97
  z171 := Tryd.sizeOf97
  v171 := Tryd.zeroValue97
  t173 := Tryd.underlying100
  a173 := Tryd.isAgg100
  z173 := Tryd.sizeOf100
  v173 := Tryd.zeroValue100
  t212 := Tryd.underlying116
  a212 := Tryd.isAgg116
  z212 := Tryd.sizeOf116
  v212 := Tryd.zeroValue116
  t213 := Tryd.underlying117
  a213 := Tryd.isAgg117
  z213 := Tryd.sizeOf117
  t232 := Tryd.underlying130
  a232 := Tryd.isAgg130
  z232 := Tryd.sizeOf130
  v232 := Tryd.zeroValue130
  t233 := Tryd.underlying131
  a233 := Tryd.isAgg131
  z233 := Tryd.sizeOf131
  v233 := Tryd.zeroValue131
  g17 := by kernel_rfl
  g18 := by kernel_rfl
  g19 := by kernel_rfl
  i0 := by kernel_rfl
  i2 := by kernel_rfl
  i3 := by kernel_rfl
  i4 := by kernel_rfl
  i5 := by kernel_rfl
  i9 := by kernel_rfl
  i20 := by kernel_rfl
  i37 := by kernel_rfl
  i46 := by kernel_rfl
  i51 := by kernel_rfl
  i53 := by kernel_rfl
  i171 := by kernel_rfl
  i173 := by kernel_rfl
  i212 := by kernel_rfl
  i232 := by kernel_rfl
  i233 := by kernel_rfl
  m17 := by kernel_rfl
  m18 := by kernel_rfl
  m19 := by kernel_rfl }
open Go.RowKit Go.Sort Go.Lib in
theorem Tryd.strconv_Itoa (n : Int) (h0 : -9223372036854775808 ≤ n) (h1 : n ≤ 9223372036854775807) (w : World) (htab : Lib.TabIs Tryd.prog w "internal/strconv.uint64pow10" .u64 Lib.pow10Tab) :
    Calls Tryd.prog 50 #[.int .i64 n] w fun e w' => e = .returned (.string ⟨(Lib.itoa n).toArray⟩) ∧ ∃ k os, w' = grow (w.drewN k) os := Any.strconv_Itoa Tryd.laysM171 n h0 h1 w htab
def Tryd.lays171_ren : Go.Shelf.Ren := ⟨fun | 171 => 50 | 243 => 70 | 246 => 84 | 283 => 61 | 284 => 62 | 285 => 63 | 286 => 64 | 129 => 78 | 317 => 77 | 318 => 79 | 319 => 80 | 320 => 81 | 337 => 89 | 338 => 90 | n => n, fun | 3 => 3 | 9 => 9 | 2 => 2 | 4 => 4 | 171 => 97 | 0 => 0 | 53 => 22 | 37 => 78 | 5 => 5 | 173 => 100 | 212 => 116 | 51 => 102 | 20 => 20 | 213 => 117 | 46 => 76 | 232 => 130 | 233 => 131 | n => n, fun | 17 => 3 | 18 => 5 | 19 => 6 | n => n⟩
theorem Tryd.lays171 : Go.Proofs.Lays.n171 Tryd.prog Tryd.lays171_ren := {
  mixed := by kernel_rfl
  f129 := Tryd.func78.trans (congrArg some (by kernel_rfl))
  f171 := Tryd.func50.trans (congrArg some (by kernel_rfl))
  f243 := Tryd.func70.trans (congrArg some (by kernel_rfl))
  f246 := Tryd.func84.trans (congrArg some (by kernel_rfl))
  f283 := Tryd.func61.trans (congrArg some (by kernel_rfl))
  f284 := Tryd.func62.trans (congrArg some (by kernel_rfl))
  f285 := Tryd.func63.trans (congrArg some (by kernel_rfl))
  f286 := Tryd.func64.trans (congrArg some (by kernel_rfl))
  f317 := Tryd.func77.trans (congrArg some (by kernel_rfl))
  f318 := Tryd.func79.trans (congrArg some (by kernel_rfl))
  f319 := Tryd.func80.trans (congrArg some (by kernel_rfl))
  f320 := Tryd.func81.trans (congrArg some (by kernel_rfl))
  f337 := Tryd.func89.trans (congrArg some (by kernel_rfl))
  f338 := Tryd.func90.trans (congrArg some (by kernel_rfl))
  t0 := Tryd.underlying0
  a0 := Tryd.isAgg0
  z0 := Tryd.sizeOf0
  v0 := Tryd.zeroValue0
  t2 := Tryd.underlying2
  a2 := Tryd.isAgg2
  z2 := Tryd.sizeOf2
  v2 := Tryd.zeroValue2
  t3 := Tryd.underlying3
  a3 := Tryd.isAgg3
  z3 := Tryd.sizeOf3
  v3 := Tryd.zeroValue3
  t4 := Tryd.underlying4
  a4 := Tryd.isAgg4
  z4 := Tryd.sizeOf4
  v4 := Tryd.zeroValue4
  t5 := Tryd.underlying5
  a5 := Tryd.isAgg5
  z5 := Tryd.sizeOf5
  v5 := Tryd.zeroValue5
  t9 := Tryd.underlying9
  a9 := Tryd.isAgg9
  z9 := Tryd.sizeOf9
  v9 := Tryd.zeroValue9
  t20 := Tryd.underlying20
  a20 := Tryd.isAgg20
  z20 := Tryd.sizeOf20
  v20 := Tryd.zeroValue20
  t37 := Tryd.underlying78
  a37 := Tryd.isAgg78
  z37 := Tryd.sizeOf78
  v37 := Tryd.zeroValue78
  t46 := Tryd.underlying76
  a46 := Tryd.isAgg76
  z46 := Tryd.sizeOf76
  v46 := Tryd.zeroValue76
  t51 := Tryd.underlying102
  a51 := Tryd.isAgg102
  z51 := Tryd.sizeOf102
  v51 := Tryd.zeroValue102
  t53 := Tryd.underlying22
  a53 := Tryd.isAgg22
  z53 := Tryd.sizeOf22
  v53 := Tryd.zeroValue22
  t171 := Tryd.underlying97
  a171 := Tryd.isAgg97
  z171 := Tryd.sizeOf97
  v171 := Tryd.zeroValue97
  t173 := Tryd.underlying100
  a173 := Tryd.isAgg100
  z173 := Tryd.sizeOf100
  v173 := Tryd.zeroValue100
  t212 := Tryd.underlying116
  a212 := Tryd.isAgg116
  z212 := Tryd.sizeOf116
  v212 := Tryd.zeroValue116
  t213 := Tryd.underlying117
  a213 := Tryd.isAgg117
  z213 := Tryd.sizeOf117
  t232 := Tryd.underlying130
  a232 := Tryd.isAgg130
  z232 := Tryd.sizeOf130
  v232 := Tryd.zeroValue130
  t233 := Tryd.underlying131
  a233 := Tryd.isAgg131
  z233 := Tryd.sizeOf131
  v233 := Tryd.zeroValue131
  g17 := by kernel_rfl
  g18 := by kernel_rfl
  g19 := by kernel_rfl }
open Go.RowKit Go.Sort Go.Lib in
theorem Tryd.strconv_Itoa_small (i : Nat) (hi : i < 100) (w : World) :
    Calls Tryd.prog 50 #[.int .i64 i] w fun e w' => e = .returned (.string ⟨(Lib.decDigits i).toArray⟩) ∧ w' = w := Any.strconv_Itoa_small Tryd.lays171 i hi w
def Tryd.lays143_ren : Go.Shelf.Ren := ⟨fun | 143 => 73 | 219 => 88 | 217 => 59 | 225 => 92 | 224 => 93 | 267 => 94 | 266 => 76 | 314 => 95 | n => n, fun | 9 => 9 | 3 => 3 | 4 => 4 | 5 => 5 | 46 => 76 | 146 => 103 | 51 => 102 | n => n, fun | 1 => 4 | n => n⟩
theorem Tryd.lays143 : Go.Proofs.Lays.n143 Tryd.prog Tryd.lays143_ren := {
  mixed := by kernel_rfl
  f143 := Tryd.func73.trans (congrArg some (by kernel_rfl))
  f217 := Tryd.func59.trans (congrArg some (by kernel_rfl))
  f219 := Tryd.func88.trans (congrArg some (by kernel_rfl))
  f224 := Tryd.func93.trans (congrArg some (by kernel_rfl))
  f225 := Tryd.func92.trans (congrArg some (by kernel_rfl))
  f266 := Tryd.func76.trans (congrArg some (by kernel_rfl))
  f267 := Tryd.func94.trans (congrArg some (by kernel_rfl))
  f314 := Tryd.func95.trans (congrArg some (by kernel_rfl))
  t3 := Tryd.underlying3
  a3 := Tryd.isAgg3
  z3 := Tryd.sizeOf3
  v3 := Tryd.zeroValue3
  t4 := Tryd.underlying4
  a4 := Tryd.isAgg4
  z4 := Tryd.sizeOf4
  v4 := Tryd.zeroValue4
  t5 := Tryd.underlying5
  a5 := Tryd.isAgg5
  z5 := Tryd.sizeOf5
  v5 := Tryd.zeroValue5
  t9 := Tryd.underlying9
  a9 := Tryd.isAgg9
  z9 := Tryd.sizeOf9
  v9 := Tryd.zeroValue9
  t46 := Tryd.underlying76
  a46 := Tryd.isAgg76
  z46 := Tryd.sizeOf76
  v46 := Tryd.zeroValue76
  t51 := Tryd.underlying102
  a51 := Tryd.isAgg102
  z51 := Tryd.sizeOf102
  v51 := Tryd.zeroValue102
  t146 := Tryd.underlying103
  a146 := Tryd.isAgg103
  z146 := Tryd.sizeOf103
  v146 := Tryd.zeroValue103
  g1 := by kernel_rfl }
open Go.RowKit Go.Lib in
theorem Tryd.strings_Index_one (s : ByteArray) (c : UInt8) (w : World) :
    Calls Tryd.prog 73 #[.string s, .string ⟨#[c]⟩] w fun e w' => e = .returned (.int .i64 (Lib.indexByte s.data.toList c)) ∧ w' = w := Any.strings_Index_one Tryd.lays143 s c w
open Go.RowKit Go.Lib in
theorem Tryd.strings_Index (s sub : ByteArray) (m : Int) (w : World) (hs : s.size < 4294967281) (hm : w.cell? ⟨4, 0, none⟩ = some (.int .i64 m)) :
    Calls Tryd.prog 73 #[.string s, .string sub] w fun e w' => e = .returned (.int .i64 (Lib.index s.data.toList sub.data.toList)) ∧ w' = w := Any.strings_Index Tryd.lays143 s sub m w hs hm
def Tryd.lays99_ren : Go.Shelf.Ren := ⟨fun | 99 => 45 | 206 => 67 | n => n, fun | 9 => 9 | 4 => 4 | 3 => 3 | n => n, fun | n => n⟩
theorem Tryd.lays99 : Go.Proofs.Lays.n99 Tryd.prog Tryd.lays99_ren := {
  mixed := by kernel_rfl
  f99 := Tryd.func45.trans (congrArg some (by kernel_rfl))
  f206 := Tryd.func67.trans (congrArg some (by kernel_rfl))
  t3 := Tryd.underlying3
  a3 := Tryd.isAgg3
  z3 := Tryd.sizeOf3
  v3 := Tryd.zeroValue3
  t4 := Tryd.underlying4
  a4 := Tryd.isAgg4
  z4 := Tryd.sizeOf4
  v4 := Tryd.zeroValue4
  t9 := Tryd.underlying9
  a9 := Tryd.isAgg9
  z9 := Tryd.sizeOf9
  v9 := Tryd.zeroValue9 }
open Go.RowKit Go.Lib in
theorem Tryd.strings_HasPrefix (s p : ByteArray) (w : World) :
    Calls Tryd.prog 45 #[.string s, .string p] w fun e w' => e = .returned (.bool (Lib.hasPrefix s.data.toList p.data.toList)) ∧ w' = w := Any.strings_HasPrefix Tryd.lays99 s p w
def Tryd.lays146_ren : Go.Shelf.Ren := ⟨fun | 146 => 35 | 221 => 51 | 268 => 71 | 138 => 72 | 143 => 73 | 195 => 85 | 197 => 86 | 218 => 87 | 219 => 88 | 260 => 91 | 217 => 59 | 225 => 92 | 224 => 93 | 267 => 94 | 266 => 76 | 314 => 95 | n => n, fun | 9 => 9 | 31 => 45 | 3 => 3 | 4 => 4 | 0 => 0 | 105 => 124 | 21 => 21 | 5 => 5 | 46 => 76 | 119 => 132 | 139 => 135 | 138 => 134 | 146 => 103 | 51 => 102 | n => n, fun | 1 => 4 | 3 => 7 | 4 => 8 | n => n⟩
theorem Tryd.lays146 : Go.Proofs.Lays.n146 Tryd.prog Tryd.lays146_ren := {
  mixed := by kernel_rfl
  f138 := Tryd.func72.trans (congrArg some (by kernel_rfl))
  f143 := Tryd.func73.trans (congrArg some (by kernel_rfl))
  f146 := Tryd.func35.trans (congrArg some (by kernel_rfl))
  f195 := Tryd.func85.trans (congrArg some (by kernel_rfl))
  f197 := Tryd.func86.trans (congrArg some (by kernel_rfl))
  f217 := Tryd.func59.trans (congrArg some (by kernel_rfl))
  f218 := Tryd.func87.trans (congrArg some (by kernel_rfl))
  f219 := Tryd.func88.trans (congrArg some (by kernel_rfl))
  f221 := Tryd.func51.trans (congrArg some (by kernel_rfl))
  f224 := Tryd.func93.trans (congrArg some (by kernel_rfl))
  f225 := Tryd.func92.trans (congrArg some (by kernel_rfl))
  f260 := Tryd.func91.trans (congrArg some (by kernel_rfl))
  f266 := Tryd.func76.trans (congrArg some (by kernel_rfl))
  f267 := Tryd.func94.trans (congrArg some (by kernel_rfl))
  f268 := Tryd.func71.trans (congrArg some (by kernel_rfl))
  f314 := Tryd.func95.trans (congrArg some (by kernel_rfl))
  t0 := Tryd.underlying0
  a0 := Tryd.isAgg0
  z0 := Tryd.sizeOf0
  v0 := Tryd.zeroValue0
  t3 := Tryd.underlying3
  a3 := Tryd.isAgg3
  z3 := Tryd.sizeOf3
  v3 := Tryd.zeroValue3
  t4 := Tryd.underlying4
  a4 := Tryd.isAgg4
  z4 := Tryd.sizeOf4
  v4 := Tryd.zeroValue4
  t5 := Tryd.underlying5
  a5 := Tryd.isAgg5
  z5 := Tryd.sizeOf5
  v5 := Tryd.zeroValue5
  t9 := Tryd.underlying9
  a9 := Tryd.isAgg9
  z9 := Tryd.sizeOf9
  v9 := Tryd.zeroValue9
  t21 := Tryd.underlying21
  a21 := Tryd.isAgg21
  z21 := Tryd.sizeOf21
  v21 := Tryd.zeroValue21
  t31 := Tryd.underlying45
  a31 := Tryd.isAgg45
  z31 := Tryd.sizeOf45
  v31 := Tryd.zeroValue45
  t46 := Tryd.underlying76
  a46 := Tryd.isAgg76
  z46 := Tryd.sizeOf76
  v46 := Tryd.zeroValue76
  t51 := Tryd.underlying102
  a51 := Tryd.isAgg102
  z51 := Tryd.sizeOf102
  v51 := Tryd.zeroValue102
  t105 := Tryd.underlying124
  a105 := Tryd.isAgg124
  z105 := Tryd.sizeOf124
  v105 := Tryd.zeroValue124
  t119 := Tryd.underlying132
  a119 := Tryd.isAgg132
  z119 := Tryd.sizeOf132
  t138 := Tryd.underlying134
  a138 := Tryd.isAgg134
  z138 := Tryd.sizeOf134
  v138 := Tryd.zeroValue134
  t139 := Tryd.underlying135
  a139 := Tryd.isAgg135
  z139 := Tryd.sizeOf135
  v139 := Tryd.zeroValue135
  t146 := Tryd.underlying103
  a146 := Tryd.isAgg103
  z146 := Tryd.sizeOf103
  v146 := Tryd.zeroValue103
  g1 := by kernel_rfl
  g3 := by kernel_rfl
  g4 := by kernel_rfl }
open Go.RowKit Go.Lib in
theorem Tryd.strings_Split (s sep : ByteArray) (m : Int) (w : World) (hs : s.size < 4294967281) (hm : w.cell? ⟨4, 0, none⟩ = some (.int .i64 m)) (h1 : 1 ≤ sep.size) :
    Calls Tryd.prog 35 #[.string s, .string sep] w fun e w' =>
      e = .returned (.slice (some ⟨w.heap.size, 0, none⟩) (Lib.countB s sep + 1) (Lib.countB s sep + 1)) ∧ w' = w.alloc (.cells ((Lib.splitB sep 0 (Lib.countB s sep) s).map Value.string).toArray 9) := Any.strings_Split Tryd.lays146 (by kernel_rfl) s sep m w hs hm h1
end Go.Proofs

/-
  octet.Nat and its reference: what they compute.
-/
namespace Go.Proofs.YtpihfgpgdjjfhaaDoor
open Go.RowKit

def tripI (r : Nat × Nat × Nat) : Value := .tuple #[.int .i64 r.1, .int .i64 r.2.1, .int .i64 r.2.2]

theorem Kp.freeze {S : Nat → Prop} {a w : World} (h : Kp S a w) {p : Addr} (hp : p.block < a.heap.size → S p.block) (n : Nat) : Kp S a (w.freeze p n) := by
  unfold World.freeze
  split
  · exact h
  · refine ⟨h.os, h.tape, h.output, by simpa using h.size, fun k hk hS => ?_⟩
    show (w.heap.modify p.block _)[k]? = _
    rw [Array.getElem?_modify, if_neg (fun e => hS (by subst e; exact hp hk))]
    exact h.block k hk hS

theorem kp_bytesWorld (w : World) (e : TypeId) (t : ByteArray) : Kp (fun _ => False) w (Lib.bytesWorld w e t) := by
  unfold Lib.bytesWorld
  exact Kp.freeze (((Kp.refl _ w).drew).alloc _) (fun h => absurd h (by simp)) 1

end Go.Proofs.YtpihfgpgdjjfhaaDoor

/-
  octet.Num and its reference; octet.Dec: what they compute.
-/
namespace Go.Proofs.YtpihfgpgdjjfhaaDoor
open Go.RowKit

/-- a number's digits of seven bits -/
def numL : Nat → Nat → List UInt8
  | 0, n => [UInt8.ofNat n]
  | f + 1, n => if n ≤ 127 then [UInt8.ofNat n] else UInt8.ofNat (n % 128 + 128) :: numL f (n / 128)

def bytesV (l : List UInt8) : List Value := l.map (fun b => Value.int .u8 (b.toNat : Int))

theorem bytesV_length (l : List UInt8) : (bytesV l).length = l.length := by simp [bytesV]

theorem numL_length (f : Nat) : ∀ n, (numL f n).length ≤ f + 1 := by
  induction f with
  | zero => intro n; simp [numL]
  | succ f ih => intro n; simp only [numL]; split; simp; (have := ih (n / 128); simp; omega)

theorem or_128 {m : Nat} (h : m < 256) : m ||| 128 = m % 128 + 128 := by
  have : ∀ m, m < 256 → m ||| 128 = m % 128 + 128 := by decide +kernel
  exact this m h

theorem byte_or (m : Nat) : bits .or .u8 ((m : Int) % 256) 128 = (((UInt8.ofNat (m % 128 + 128)).toNat : Nat) : Int) := by
  have h := Go.u8_or_nat (m % 256) 128 (by omega) (by decide)
  rw [or_128 (by omega)] at h
  rw [show ((m : Int) % 256) = ((m % 256 : Nat) : Int) from by omega]
  refine h.trans ?_
  simp only [UInt8.toNat_ofNat']
  omega

/-- 'string(b)' of an owned row of bytes -/
theorem own_string {w : World} {base g n cap : Nat} {l : List UInt8} (h : Own w base 5 (.slice (some ⟨g, 0, none⟩) n cap) (bytesV l)) :
    (convert 78 9 (.slice (some ⟨g, 0, none⟩) n cap)).run Tryd.prog w = .ok (.string ⟨l.toArray⟩) w := by
  have hn : n = l.length := by
    obtain ⟨a, c, e, _⟩ := h.form
    simp only [Value.slice.injEq] at e
    rw [e.2.1, bytesV_length]
  subst hn
  refine run_convert_bytes_back w 78 9 5 ⟨g, 0, none⟩ cap l Tryd.underlying78 Tryd.underlying5 Tryd.underlying9 (fun j hj => ?_)
  rw [add_plain', Nat.zero_add]
  exact h.cell (by simp [bytesV, hj])

theorem Tryd.info5 : (Tryd.prog.info? 5).map (fun i => (i.zero, i.size, i.bytes)) = some (some (.int .u8 0), 1, 1) := by kernel_rfl

end Go.Proofs.YtpihfgpgdjjfhaaDoor

/-
  latchetlaw01: lives; the table that strconv.Itoa reads.
-/
namespace Go.Proofs.YtpihfgpgdjjfhaaDoor
open Go.RowKit

/-- the table of powers of ten lies as its text lays it -/
def Tab (w : World) : Prop := Lib.TabIs Tryd.prog w "internal/strconv.uint64pow10" .u64 Lib.pow10Tab

theorem gPow : Tryd.prog.globalNamed "internal/strconv.uint64pow10" = some 3 := by kernel_rfl

theorem Tab.lt {w : World} (h : Tab w) : 3 < w.heap.size :=
  World.block_lt_of_cell? w _ (Lib.TabIs.cell h gPow 0 (by decide))

theorem Tab.kp {w w' : World} (h : Tab w) (k : Kp (fun _ => False) w w') : Tab w' :=
  var?_below (k.below (Nat.le_refl _) (fun _ _ h => h)) gPow h.lt h

theorem kp_grow (w : World) (k : Nat) (os : Array Obj) : Kp (fun _ => False) w (Sort.grow (w.drewN k) os) := by
  refine ⟨rfl, rfl, rfl, ?_, fun i hi _ => ?_⟩
  · show w.heap.size ≤ (w.heap ++ os).size
    simp
  · show (w.heap ++ os)[i]? = _
    rw [Array.getElem?_append_left hi]

theorem octet_Dec (n : Int) (w : World) (h0 : -9223372036854775808 ≤ n) (h1 : n ≤ 9223372036854775807) (ht : Tab w) :
    Calls Tryd.prog 30 #[.int .i64 n] w fun e w' => e = .returned (.string ⟨(Lib.itoa n).toArray⟩) ∧ Kp (fun _ => False) w w' := by
  have HT := Lib.hid ht; clear ht
  go_enter Tryd.func30, Tryd.ntmps30
  go_wp2_with fail
  refine (Tryd.strconv_Itoa n h0 h1 _ HT.out).mono ?_
  rintro e w' ⟨rfl, k, os, rfl⟩
  go_wp2_with fail
  go_ret
  exact ⟨rfl, kp_grow _ _ _⟩

end Go.Proofs.YtpihfgpgdjjfhaaDoor

/-
  ascii's reader: numbers and signs, one behind the other; the stop with which it panics, and what recovers it.
-/
namespace Go.Proofs.YtpihfgpgdjjfhaaDoor
open Go.RowKit

theorem Blk.cells1 {w : World} {b : Nat} {x0 : Value} {t : TypeId} (h : Blk w b #[x0] t) : w.cell? ⟨b, 0, none⟩ = some x0 ∧ w.frozen? ⟨b, 0, none⟩ = false := ⟨h.cell rfl, h.free 0⟩
theorem Blk.cells2 {w : World} {b : Nat} {x0 x1 : Value} {t : TypeId} (h : Blk w b #[x0, x1] t) :
    w.cell? ⟨b, 0, none⟩ = some x0 ∧ w.cell? ⟨b, 1, none⟩ = some x1 ∧ w.frozen? ⟨b, 0, none⟩ = false ∧ w.frozen? ⟨b, 1, none⟩ = false := ⟨h.cell rfl, h.cell rfl, h.free 0, h.free 1⟩

end Go.Proofs.YtpihfgpgdjjfhaaDoor

/-
  Numbers in sixteen's digits: strconv.FormatUint of base sixteen.
-/
namespace Go.Proofs.YtpihfgpgdjjfhaaDoor
open Go.RowKit

/-- the table of the library's TrailingZeros64 holds four where sixteen leads -/
def Tz (w : World) : Prop := w.cell? ⟨6, 15, none⟩ = some (.int .u8 4)

theorem Tz.kp {w w' : World} (h : Tz w) (k : Kp (fun _ => False) w w') : Tz w' :=
  (World.cell?_of_block (a := ⟨6, 15, none⟩) (k.block _ (World.block_lt_of_cell? w _ h) (fun h => h))).trans h

theorem pow_16 (w : World) : Calls Tryd.prog 80 #[.int .i64 16] w fun e w' => e = .returned (.bool true) ∧ w = w' := by
  go_enter Tryd.func80, Tryd.ntmps80
  go_wp2
  go_ret
  exact ⟨rfl, rfl⟩

theorem tz64_16 (w : World) (h : Tz w) : Calls Tryd.prog 90 #[.int .u64 16] w fun e w' => e = .returned (.int .i64 4) ∧ w = w' := by
  unfold Tz at h
  have key : IntKind.u64.wrap (bits BinOp.and IntKind.u64 16 (IntKind.u64.wrap (-16)) * 285870213051353865) / 288230376151711744 = 15 := by decide +kernel
  go_enter Tryd.func90, Tryd.ntmps90
  go_wp2_with (simp only [key])
  go_ret
  exact ⟨rfl, rfl⟩

theorem tz_16 (w : World) (h : Tz w) : Calls Tryd.prog 81 #[.int .u64 16] w fun e w' => e = .returned (.int .i64 4) ∧ w = w' := by
  have H := Lib.hid h
  clear h
  go_enter Tryd.func81, Tryd.ntmps81
  go_wp2_with fail
  refine (tz64_16 _ H.out).mono ?_
  rintro e w' ⟨rfl, rfl⟩
  go_wp2_with fail
  go_ret
  exact ⟨rfl, rfl⟩

def hexD (d : Nat) : UInt8 := UInt8.ofNat (if d < 10 then 48 + d else 87 + d)

/-- the last so many digits -/
def hexN : Nat → Nat → List UInt8
  | 0, _ => []
  | k + 1, n => hexN k (n / 16) ++ [hexD (n % 16)]

theorem hexN_length (k : Nat) : ∀ n, (hexN k n).length = k := by
  induction k with
  | zero => intro n; rfl
  | succ k ih => intro n; simp [hexN, ih]

theorem hexN_front (k : Nat) : ∀ n, hexN (k + 1) n = hexD (n / 16 ^ k % 16) :: hexN k n := by
  induction k with
  | zero => intro n; simp [hexN]
  | succ k ih =>
    intro n
    rw [hexN, ih, hexN, List.cons_append, Nat.div_div_eq_div_mul, Nat.pow_succ, Nat.mul_comm 16]

theorem hexN_zeros (k j : Nat) : ∀ n, n < 16 ^ j → hexN (k + j) n = List.replicate k 48 ++ hexN j n := by
  induction k with
  | zero => intro n _; simp
  | succ k ih =>
    intro n hn
    rw [show k + 1 + j = (k + j) + 1 by omega, hexN_front, ih n hn, List.replicate_succ, List.cons_append]
    have : n / 16 ^ (k + j) = 0 := Nat.div_eq_of_lt (Nat.lt_of_lt_of_le hn (Nat.pow_le_pow_right (by omega) (by omega)))
    rw [this]
    rfl

def digs : ByteArray := ⟨#[48, 49, 50, 51, 52, 53, 54, 55, 56, 57, 97, 98, 99, 100, 101, 102, 103, 104, 105, 106, 107, 108, 109, 110, 111, 112, 113, 114, 115, 116, 117, 118, 119, 120, 121, 122]⟩

theorem digs_key : ∀ d : Fin 16, digs.data[d.val]? = some (hexD d.val) := by decide

theorem digs_get {d : Nat} (h : d < 16) (h2 : d < digs.size) : digs[d]'h2 = hexD d := by
  have h3 := digs_key ⟨d, h⟩
  have h4 : digs.data[d]? = some (digs.data[d]'h2) := Array.getElem?_eq_getElem h2
  exact Option.some.inj (h4.symm.trans h3)

theorem digs_at {d : Nat} (h : d < 16) : digs.data[d]? = some (hexD d) := digs_key ⟨d, h⟩

end Go.Proofs.YtpihfgpgdjjfhaaDoor

/-
  strconv.FormatUint of base sixteen: the walk.
-/
namespace Go.Proofs.YtpihfgpgdjjfhaaDoor
open Go.RowKit

theorem bytes_conv_at {cs : List UInt8} {n k o : Nat} {u : World} (hn : cs.length = n) (h : ∀ j (hj : j < cs.length), u.cell? ⟨k, o + j, none⟩ = some (.int .u8 ((cs[j]'hj).toNat : Int))) :
    (convert 78 9 (.slice (some ⟨k, o, none⟩) n n)).run Tryd.prog u = .ok (.string ⟨cs.toArray⟩) u := by
  subst hn
  exact run_convert_bytes_back (P := Tryd.prog) u 78 9 5 ⟨k, o, none⟩ cs.length cs Tryd.underlying78 Tryd.underlying5 Tryd.underlying9 (fun j hj => by
    rw [show (⟨k, o, none⟩ : Addr).add j = ⟨k, o + j, none⟩ from add_plain' k o j]
    exact h j hj)

theorem slice65 (b I : Nat) (hI : I < 65) (u : World) : (Instr.sliceAt 117 (.pointer (some ⟨b, 0, none⟩)) (some (.int .i64 (I : Nat))) none none).run Tryd.prog u = .ok (.slice (some ⟨b, I, none⟩) (65 - I) (65 - I)) u := by
  have hl : Tryd.prog.arrayLen 117 = 65 := by kernel_rfl
  have he : Tryd.prog.elem 117 = 5 := by kernel_rfl
  have ht : Tryd.prog.underlying 117 = some (.array (Tryd.prog.arrayLen 117) (Tryd.prog.elem 117)) := by rw [hl, he]; exact Tryd.underlying117
  rw [run_sliceAt_array_l u 117 ⟨b, 0, none⟩ ht .i64 (I : Int) (by omega) (by rw [hl]; omega), hl, he]
  have hz : (sizeOf 5).run Tryd.prog u = .ok 1 u := Tryd.sizeOf5 u
  rw [hz]
  simp only [Result.andThen, slicedAt, Int.toNat_natCast, Nat.mul_one]
  rw [if_neg (by omega), add_plain', Nat.zero_add]

set_option maxRecDepth 100000 in
set_option maxHeartbeats 4000000 in
theorem format_16 (n : Nat) (hn : n < 18446744073709551616) (w : World) (ht : Tz w) :
    Calls Tryd.prog 64 #[.slice none 0 0, .int .u64 n, .int .i64 16, .bool false, .bool false] w fun e w' =>
      (∃ k, 1 ≤ k ∧ k ≤ 16 ∧ n < 16 ^ k ∧ e = .returned (.tuple #[.slice none 0 0, .string ⟨(hexN k n).toArray⟩])) ∧ Kp (fun _ => False) w w' := by
  have HT := Lib.hid ht
  have HN := Lib.hid hn
  clear ht hn
  go_enter Tryd.func64, Tryd.ntmps64
  go_wp2_with fail
  refine (pow_16 _).mono ?_
  rintro e w1 ⟨rfl, rfl⟩
  go_wp2_with fail
  refine (tz_16 _ (HT.out.kp ((Kp.refl _ w).alloc _))).mono ?_
  rintro e w2 ⟨rfl, hw⟩
  subst hw
  have HB0 : Hid (Blk (w.alloc (.cells Tryd.zeroCells117 117)) w.heap.size (Lib.byteCells (List.replicate 65 0)).toArray 117) := Lib.hid (by
    have h := Blk.new w Tryd.zeroCells117 117
    rwa [show Tryd.zeroCells117 = (Lib.byteCells (List.replicate 65 0)).toArray by kernel_rfl] at h)
  go_wp2_with fail
  go_loopw [1, 13] (fun v1 v13 wr => ∃ (j I m : Nat) (cs : List UInt8), v1 = .int .u64 m ∧ v13 = .int .i64 (I : Nat) ∧ m = n / 16 ^ j ∧ I + j = 65 ∧ j ≤ 15 ∧ cs.length = 65 ∧ cs.drop I = hexN j n ∧ Blk wr w.heap.size (Lib.byteCells cs).toArray 117 ∧ Kp (fun _ => False) w wr) (fun v1 _ _ => (intOf v1).toNat)
  case atStart => exact ⟨0, 65, n, List.replicate 65 0, rfl, rfl, by simp, rfl, by omega, by simp, by simp [hexN], HB0.out, (Kp.refl _ w).alloc _⟩
  case round =>
    obtain ⟨j, I, m, cs, rfl, rfl, hm, hI, hj, hl, hd, hB, hK⟩ := hrel
    obtain ⟨I', rfl⟩ : ∃ I', I = I' + 1 := ⟨I - 1, by omega⟩
    have hd2 : cs.drop I' = cs[I']'(by omega) :: cs.drop (I' + 1) := List.drop_eq_getElem_cons (by omega)
    have hset : ∀ x : UInt8, (cs.set I' x).drop I' = x :: cs.drop (I' + 1) := fun x => by
      rw [List.drop_eq_getElem_cons (by simp; omega), List.getElem_set_self, List.drop_set_of_lt (by omega)]
    have HBs := Lib.hid (fun x : UInt8 => show Blk (wr.setCell ⟨w.heap.size, I', none⟩ (.int .u8 (x.toNat : Int))) w.heap.size (Lib.byteCells (cs.set I' x)).toArray 117 by
      have := hB.set_same I' (.int .u8 (x.toNat : Int))
      rwa [show (Lib.byteCells cs).toArray.setIfInBounds I' (.int .u8 (x.toNat : Int)) = (Lib.byteCells (cs.set I' x)).toArray by simp [Lib.byteCells, List.map_set]] at this)
    obtain ⟨x0, hx0⟩ : ∃ x0, cs[I']? = some x0 := ⟨_, List.getElem?_eq_getElem (by omega)⟩
    have c0 := hB.cell (i := I') (v := .int .u8 (x0.toNat : Int)) (by simp [Lib.byteCells, hx0])
    have f0 := hB.free I'
    have lb := hB.lt
    have i0 : (0 : Int) ≤ (I' : Int) := by omega
    have i1 : (I' : Int) < 65 := by omega
    have hm64 : m < 18446744073709551616 := by rw [hm]; exact Nat.lt_of_le_of_lt (Nat.div_le_self _ _) HN.out
    have HL := Lib.hid (And.intro hm (And.intro hI (And.intro hj (And.intro hl (And.intro hd hset)))))
    have HK := Lib.hid hK
    clear hx0 hm hI hj hset hd2 hl hd hB hK
    by_cases h16 : 16 ≤ m
    · have hd : decide ((16 : Int) ≤ (m : Int)) = true := by simp; omega
      obtain ⟨d, hdd⟩ : ∃ d, d = m % 16 := ⟨_, rfl⟩
      have hd16 : d < 16 := by omega
      have hand : bits BinOp.and IntKind.u64 (m : Int) 15 = (d : Int) := by
        have := bits_and_u64_nat m 15 hm64 (by omega)
        rw [show ((15 : Nat) : Int) = 15 from rfl] at this
        rw [this, show m &&& 15 = m % 16 from Nat.and_two_pow_sub_one_eq_mod m 4, hdd]
      have d0 : (0 : Int) ≤ (d : Int) := by omega
      have d1 : (d : Int) < 36 := by omega
      have HRel := Lib.hid (fun (x : UInt8) (hx : x = hexD d) => show ∃ (j I m_1 : Nat) (cs : List UInt8), Value.int .u64 ((m : Int) / 16) = .int .u64 m_1 ∧ Value.int .i64 (I' : Int) = .int .i64 (I : Nat) ∧ m_1 = n / 16 ^ j ∧ I + j = 65 ∧ j ≤ 15 ∧ cs.length = 65 ∧ cs.drop I = hexN j n ∧
          Blk (wr.setCell ⟨w.heap.size, I', none⟩ (.int .u8 (x.toNat : Int))) w.heap.size (Lib.byteCells cs).toArray 117 ∧ Kp (fun _ => False) w (wr.setCell ⟨w.heap.size, I', none⟩ (.int .u8 (x.toNat : Int))) from by
        obtain ⟨hm, hI, hj, hl, hdr, hset⟩ := HL.out
        refine ⟨j + 1, I', m / 16, cs.set I' x, rfl, rfl, ?_, by omega, ?_, by simp [hl], ?_, HBs.out x, HK.out.setCell (p := ⟨w.heap.size, I', none⟩) (by simp) _⟩
        · rw [hm, Nat.div_div_eq_div_mul, Nat.pow_succ]
        · by_cases e : j = 15
          · exfalso
            subst e
            have := HN.out
            omega
          · omega
        · rw [hset, hdr, hexN_front, hx, hdd, hm])
      have HD := Lib.hid hd16
      clear hdd hd16
      go_wp2_with fail
      refine ⟨HRel.out _ ?_, ?_⟩
      · exact digs_get HD.out _
      · simp [intOf]; omega
    · have hd : decide ((16 : Int) ≤ (m : Int)) = false := by simp; omega
      have d0 : (0 : Int) ≤ (m : Int) := by omega
      have d1 : (m : Int) < 36 := by omega
      have hm16 : m < 16 := by omega
      have HFin := Lib.hid (fun (x : UInt8) (hx : x = hexD m) => show ∀ u, u = wr.setCell ⟨w.heap.size, I', none⟩ (.int .u8 (x.toNat : Int)) →
          (convert 78 9 (.slice (some ⟨w.heap.size, I', none⟩) (65 - I') (65 - I'))).run Tryd.prog u = .ok (.string ⟨(hexN (j + 1) n).toArray⟩) u ∧ 1 ≤ j + 1 ∧ j + 1 ≤ 16 ∧ n < 16 ^ (j + 1) ∧ Kp (fun _ => False) w u from by
        intro u hu
        obtain ⟨hm, hI, hj, hl, hdr, hset⟩ := HL.out
        have he : (cs.set I' x).drop I' = hexN (j + 1) n := by rw [hset, hdr, hexN_front, hx]; congr 1; rw [hm, Nat.mod_eq_of_lt (by omega)]
        refine ⟨bytes_conv_at (by rw [hexN_length]; omega) (fun i hi => ?_), by omega, by omega, ?_, by rw [hu]; exact HK.out.setCell (p := ⟨w.heap.size, I', none⟩) (by simp) _⟩
        · rw [hu]
          refine (HBs.out x).cell ?_
          obtain ⟨b, hb⟩ : ∃ b, b = (hexN (j + 1) n)[i]'hi := ⟨_, rfl⟩
          have h1 : (hexN (j + 1) n)[i]? = some b := by rw [hb]; exact List.getElem?_eq_getElem hi
          rw [← he, List.getElem?_drop] at h1
          rw [← hb]
          simp only [Lib.byteCells, List.getElem?_toArray, List.getElem?_map, h1, Option.map_some]
        · rw [Nat.pow_succ]
          have := Nat.div_lt_iff_lt_mul (x := n) (y := 16) (Nat.pow_pos (n := j) (show 0 < 16 by omega))
          rw [Nat.mul_comm]
          exact this.1 (by omega))
      have HM := Lib.hid hm16
      clear hm16
      go_upto_region 30 with fail
      have hF := HFin.out (digs[m]'(Nat.lt_trans HM.out (by decide))) (digs_get HM.out _) _ rfl
      unfold digs at hF
      obtain ⟨hcv, k1, k2, k3, hK2⟩ := hF
      have HEnd := Lib.hid (And.intro k1 (And.intro k2 (And.intro k3 hK2)))
      have hsl := slice65 w.heap.size I' (by omega)
      clear k1 k2 k3 hK2 HFin HL HBs
      go_wp2_with fail
      go_ret2
      exact ⟨⟨j + 1, HEnd.out.1, HEnd.out.2.1, HEnd.out.2.2.1, rfl⟩, HEnd.out.2.2.2⟩

theorem format_16_int (n : Nat) (hn : n < 18446744073709551616) (w : World) (ht : Tz w) :
    Calls Tryd.prog 43 #[.int .u64 n, .int .i64 16] w fun e w' =>
      (∃ k, 1 ≤ k ∧ k ≤ 16 ∧ n < 16 ^ k ∧ e = .returned (.string ⟨(hexN k n).toArray⟩)) ∧ Kp (fun _ => False) w w' := by
  have HF := Lib.hid (format_16 n hn w ht)
  clear hn ht
  go_enter Tryd.func43, Tryd.ntmps43
  go_wp2_with fail
  refine HF.out.mono ?_
  rintro e w' ⟨⟨k, h1, h2, h3, rfl⟩, hK⟩
  have HE := Lib.hid (And.intro h1 (And.intro h2 (And.intro h3 hK)))
  clear h1 h2 h3 hK
  go_wp2_with fail
  go_ret
  exact ⟨⟨k, HE.out.1, HE.out.2.1, HE.out.2.2.1, rfl⟩, HE.out.2.2.2⟩

theorem FormatUint_16 (n : Nat) (hn : n < 18446744073709551616) (w : World) (ht : Tz w) :
    Calls Tryd.prog 28 #[.int .u64 n, .int .i64 16] w fun e w' =>
      (∃ k, 1 ≤ k ∧ k ≤ 16 ∧ n < 16 ^ k ∧ e = .returned (.string ⟨(hexN k n).toArray⟩)) ∧ Kp (fun _ => False) w w' := by
  have HF := Lib.hid (format_16_int n hn w ht)
  clear hn ht
  go_enter Tryd.func28, Tryd.ntmps28
  go_wp2_with fail
  refine HF.out.mono ?_
  rintro e w' ⟨⟨k, h1, h2, h3, rfl⟩, hK⟩
  have HE := Lib.hid (And.intro h1 (And.intro h2 (And.intro h3 hK)))
  clear h1 h2 h3 hK
  go_wp2_with fail
  go_ret
  exact ⟨⟨k, HE.out.1, HE.out.2.1, HE.out.2.2.1, rfl⟩, HE.out.2.2.2⟩

end Go.Proofs.YtpihfgpgdjjfhaaDoor

/-
  Scores' order, and a tree in a list in that order. No program in sight.
-/
namespace Go.Proofs.YtpihfgpgdjjfhaaDoor
open Ieee

/-- a key that tells a word's order: what is no number first -/
def fk (x : Nat) : Int × Int :=
  match double.read x with
  | .nan .. => (-2, 0)
  | .infinity true => (-1, 0)
  | .infinity false => (1, 0)
  | .number s m i => (0, signed s m (i - double.leastPlace).toNat)

def klt (a b : Int × Int) : Prop := a.1 < b.1 ∨ a.1 = b.1 ∧ a.2 < b.2
instance (a b : Int × Int) : Decidable (klt a b) := inferInstanceAs (Decidable (_ ∨ _))

theorem read_place {x : Nat} {s : Bool} {m : Nat} {i : Int} (h : double.read x = .number s m i) : double.leastPlace ≤ i := by
  unfold Format.read at h
  simp only at h
  split at h
  · simp only [Datum.number.injEq] at h; omega
  · split at h
    · simp only [Datum.number.injEq] at h; omega
    · split at h <;> cases h

theorem signed_up (s : Bool) (m a b : Nat) : signed s m (a + b) = signed s m a * (2 ^ b : Nat) := by
  unfold signed
  have : m <<< (a + b) = (m <<< a) * 2 ^ b := by simp [Nat.shiftLeft_eq, Nat.pow_add, Nat.mul_assoc]
  rw [this]
  cases s <;> simp [Int.neg_mul]

theorem compare_up {x y : Int} {p : Nat} (hp : 0 < p) : compare (x * (p : Int)) (y * (p : Int)) = compare x y := by
  have hp' : (0 : Int) < p := by omega
  rcases Int.lt_trichotomy x y with h | h | h
  · rw [(Int.compare_eq_lt).2 h, (Int.compare_eq_lt).2 (Int.mul_lt_mul_of_pos_right h hp')]
  · subst h; simp
  · rw [(Int.compare_eq_gt).2 h, (Int.compare_eq_gt).2 (Int.mul_lt_mul_of_pos_right h hp')]

/-- the order of two words that are numbers, infinities too -/
theorem order_key (x y : Nat) : double.order x y = if (fk x).1 = -2 ∨ (fk y).1 = -2 then none else some (if klt (fk x) (fk y) then .lt else if klt (fk y) (fk x) then .gt else .eq) := by
  unfold Format.order fk
  have hpx := @read_place x
  have hpy := @read_place y
  generalize double.read x = dx at *
  generalize double.read y = dy at *
  cases dx with
  | nan => simp [Datum.order]
  | infinity s =>
    cases dy with
    | nan => cases s <;> simp [Datum.order]
    | infinity t => cases s <;> cases t <;> simp [Datum.order, klt] <;> rfl
    | number t n j => cases s <;> simp [Datum.order, klt]
  | number s m i =>
    cases dy with
    | nan => simp [Datum.order]
    | infinity t => cases t <;> simp [Datum.order, klt]
    | number t n j =>
      have h1 := hpx rfl
      have h2 := hpy rfl
      generalize double.leastPlace = L at *
      simp only [Datum.order, klt]
      have e1 : (i - L).toNat = (i - min i j).toNat + (min i j - L).toNat := by omega
      have e2 : (j - L).toNat = (j - min i j).toNat + (min i j - L).toNat := by omega
      rw [e1, e2, signed_up, signed_up, ← compare_up (p := 2 ^ (min i j - L).toNat) (Nat.two_pow_pos _)]
      generalize signed s m (i - min i j).toNat * ((2 ^ (min i j - L).toNat : Nat) : Int) = a
      generalize signed t n (j - min i j).toNat * ((2 ^ (min i j - L).toNat : Nat) : Int) = b
      rcases Int.lt_trichotomy a b with h | h | h
      · rw [(Int.compare_eq_lt).2 h]; simp [h]
      · subst h; simp
      · rw [(Int.compare_eq_gt).2 h]; simp [h]; omega

theorem fk_ge (x : Nat) : -2 ≤ (fk x).1 ∧ ((fk x).1 = -2 → (fk x).2 = 0) := by
  unfold fk
  split <;> simp

theorem self_order (x : Nat) : (double.order x x == some .eq) = decide ((fk x).1 ≠ -2) := by
  rw [order_key]
  by_cases h : (fk x).1 = -2
  · simp [h]
  · simp [h, klt]

/-- one stands ahead of another one -/
def lessB (a b : Nat) : Bool := decide (klt (fk a) (fk b))

theorem less_lt {a b : Nat} (ha : (fk a).1 ≠ -2) (hb : (fk b).1 ≠ -2) : (double.order a b == some .lt) = lessB a b := by
  rw [order_key, if_neg (by omega)]
  unfold lessB
  by_cases h : klt (fk a) (fk b)
  · simp [h]
  · by_cases h2 : klt (fk b) (fk a) <;> simp [h, h2]

theorem less_odd {a b : Nat} (h : (fk a).1 = -2 ∨ (fk b).1 = -2) : (decide ((fk a).1 = -2) && decide ((fk b).1 ≠ -2)) = lessB a b := by
  have ha := fk_ge a
  have hb := fk_ge b
  unfold lessB klt
  rw [← Bool.decide_and]
  apply decide_eq_decide.2
  omega

/-- a thing stands ahead of another one, by scores -/
def aheadB (S : Nat → Nat) (a b : Nat) : Bool := lessB (S b) (S a) || (!lessB (S a) (S b) && decide (a < b))

/-- an order as a heap needs it -/
structure Ord (A : Nat → Nat → Prop) : Prop where
  asym : ∀ {a b}, A a b → ¬ A b a
  neg : ∀ {a b c}, ¬ A b a → ¬ A c b → ¬ A c a
  irr : ∀ {a}, ¬ A a a
  tot : ∀ {a b}, a ≠ b → ¬ A a b → A b a

def ah (S : Nat → Nat) (a b : Nat) : Prop := aheadB S a b = true

theorem ah_iff (S : Nat → Nat) (a b : Nat) : ah S a b ↔ klt (fk (S b)) (fk (S a)) ∨ ¬ klt (fk (S a)) (fk (S b)) ∧ a < b := by
  simp [ah, aheadB, lessB]

theorem ah_ord (S : Nat → Nat) : Ord (ah S) := by
  constructor
  · intro a b h
    rw [ah_iff] at h ⊢
    unfold klt at *
    omega
  · intro a b c h h'
    rw [ah_iff] at h h' ⊢
    unfold klt at *
    omega
  · intro a
    rw [ah_iff]
    unfold klt
    omega
  · intro a b hne h
    rw [ah_iff] at h ⊢
    unfold klt at *
    omega

/-- two places change -/
def sw (T : Nat → Nat) (i k : Nat) : Nat → Nat := fun j => if j = i then T k else if j = k then T i else T j

def HeapOK (A : Nat → Nat → Prop) (T : Nat → Nat) (m : Nat) : Prop := ∀ j, 0 < j → j < m → ¬ A (T j) (T ((j - 1) / 2))

/-- all is right but for what touches place i, and what is below it is right with what is above it -/
structure Weak (A : Nat → Nat → Prop) (T : Nat → Nat) (m i : Nat) : Prop where
  off : ∀ j, 0 < j → j < m → j ≠ i → (j - 1) / 2 ≠ i → ¬ A (T j) (T ((j - 1) / 2))
  over : ∀ j, 0 < j → j < m → (j - 1) / 2 = i → 0 < i → ¬ A (T j) (T ((i - 1) / 2))

def UpOK (A : Nat → Nat → Prop) (T : Nat → Nat) (i : Nat) : Prop := 0 < i → ¬ A (T i) (T ((i - 1) / 2))
def DownOK (A : Nat → Nat → Prop) (T : Nat → Nat) (m i : Nat) : Prop := ∀ j, 0 < j → j < m → (j - 1) / 2 = i → ¬ A (T j) (T i)

theorem ok_of {A : Nat → Nat → Prop} {T : Nat → Nat} {m i : Nat} (h : Weak A T m i) (hu : UpOK A T i) (hd : DownOK A T m i) : HeapOK A T m := by
  intro j h0 hj
  by_cases e : j = i
  · subst e; exact hu h0
  · by_cases e2 : (j - 1) / 2 = i
    · rw [e2]; exact hd j h0 hj e2
    · exact h.off j h0 hj e e2

theorem Weak.of_ok {A : Nat → Nat → Prop} (hA : Ord A) {T : Nat → Nat} {m i : Nat} (h : HeapOK A T m) (hi : i < m) : Weak A T m i := by
  refine ⟨fun j h0 hj _ _ => h j h0 hj, fun j h0 hj hp hi0 => ?_⟩
  have h1 := h j h0 hj
  rw [hp] at h1
  exact hA.neg (h i hi0 hi) h1

theorem sw_l (T : Nat → Nat) (i k : Nat) : sw T i k i = T k := by simp [sw]
theorem sw_r (T : Nat → Nat) (i k : Nat) : sw T i k k = T i := by by_cases h : k = i <;> simp [sw, h]
theorem sw_o {T : Nat → Nat} {i k j : Nat} (h1 : j ≠ i) (h2 : j ≠ k) : sw T i k j = T j := by simp [sw, h1, h2]

theorem up_step {A : Nat → Nat → Prop} (hA : Ord A) {T : Nat → Nat} {m i p : Nat} (h : Weak A T m i) (hi0 : 0 < i) (hp : p = (i - 1) / 2) (hi : i < m) (ha : A (T i) (T p)) :
    Weak A (sw T i p) m p ∧ DownOK A (sw T i p) m p := by
  have hpi : p < i := by omega
  refine ⟨⟨fun j h0 hj hjp hpp => ?_, fun j h0 hj hpp hp0 => ?_⟩, fun j h0 hj hpp => ?_⟩
  · have hji : j ≠ i := fun e => hpp (by rw [e]; exact hp.symm)
    rw [sw_o hji hjp]
    by_cases e : (j - 1) / 2 = i
    · rw [e, sw_l, hp]; exact h.over j h0 hj e hi0
    · rw [sw_o e hpp]; exact h.off j h0 hj hji e
  · rw [sw_o (j := (p - 1) / 2) (by omega) (by omega)]
    have h1 : ¬ A (T p) (T ((p - 1) / 2)) := h.off p hp0 (by omega) (by omega) (by omega)
    by_cases e : j = i
    · subst e; rw [sw_l]; exact h1
    · rw [sw_o e (by omega)]
      have h2 := h.off j h0 hj e (by omega)
      rw [hpp] at h2
      exact hA.neg h1 h2
  · rw [sw_r]
    by_cases e : j = i
    · subst e; rw [sw_l]; exact hA.asym ha
    · rw [sw_o e (by omega)]
      have h2 := h.off j h0 hj e (by omega)
      rw [hpp] at h2
      exact hA.neg (hA.asym ha) h2

theorem down_step {A : Nat → Nat → Prop} (hA : Ord A) {T : Nat → Nat} {m i f : Nat} (h : Weak A T m i) (hf0 : 0 < f) (hf : f < m) (hp : (f - 1) / 2 = i) (ha : A (T f) (T i)) (hfirst : ∀ j, 0 < j → j < m → (j - 1) / 2 = i → ¬ A (T j) (T f)) :
    Weak A (sw T i f) m f ∧ UpOK A (sw T i f) f := by
  have hfi : i < f := by omega
  refine ⟨⟨fun j h0 hj hjf hpf => ?_, fun j h0 hj hpf _ => ?_⟩, fun _ => ?_⟩
  · by_cases e : j = i
    · subst e
      rw [sw_l, sw_o (by omega) (by omega)]
      exact h.over f hf0 hf hp h0
    · rw [sw_o e hjf]
      by_cases e2 : (j - 1) / 2 = i
      · rw [e2, sw_l]; exact hfirst j h0 hj e2
      · rw [sw_o e2 hpf]; exact h.off j h0 hj e e2
  · rw [hp, sw_l, sw_o (by omega) (by omega)]
    have := h.off j h0 hj (by omega) (by omega)
    rw [hpf] at this
    exact this
  · rw [hp, sw_l, sw_r]; exact hA.asym ha

theorem root_first {A : Nat → Nat → Prop} (hA : Ord A) {T : Nat → Nat} {m : Nat} (h : HeapOK A T m) : ∀ j, j < m → ¬ A (T j) (T 0) := by
  intro j
  induction j using Nat.strongRecOn with
  | _ j ih =>
    intro hj
    by_cases e : j = 0
    · subst e; exact hA.irr
    · exact hA.neg (ih ((j - 1) / 2) (by omega) (by omega)) (h j (by omega) hj)

theorem pop_weak {A : Nat → Nat → Prop} {T : Nat → Nat} {m : Nat} (h : HeapOK A T (m + 1)) : Weak A (sw T 0 m) m 0 ∧ UpOK A (sw T 0 m) 0 := by
  refine ⟨⟨fun j h0 hj h1 h2 => ?_, fun j _ _ _ h => by omega⟩, fun h => by omega⟩
  rw [sw_o (by omega) (by omega), sw_o h2 (by omega)]
  exact h j h0 (by omega)

/-- where things stand, and which stand there -/
structure Inv (n m : Nat) (T : Nat → Nat) (Q : Nat → Int) : Prop where
  here : ∀ i, i < m → T i < n ∧ Q (T i) = i
  there : ∀ x, x < n → Q x = -1 ∨ ∃ i, i < m ∧ Q x = i ∧ T i = x

def up1 {α : Type} (f : Nat → α) (i : Nat) (x : α) : Nat → α := fun j => if j = i then x else f j

theorem up1_at {α : Type} (f : Nat → α) (i : Nat) (x : α) : up1 f i x i = x := by simp [up1]
theorem up1_off {α : Type} (f : Nat → α) {i j : Nat} (x : α) (h : j ≠ i) : up1 f i x j = f j := by simp [up1, h]

theorem Inv.inj {n m : Nat} {T : Nat → Nat} {Q : Nat → Int} (h : Inv n m T Q) {i k : Nat} (hi : i < m) (hk : k < m) (e : T i = T k) : i = k := by
  have h1 := (h.here i hi).2
  have h2 := (h.here k hk).2
  rw [e] at h1
  omega

/-- the positions behind a change of two places -/
def swQ (T : Nat → Nat) (Q : Nat → Int) (i k : Nat) : Nat → Int := up1 (up1 Q (sw T i k i) (i : Int)) (sw T i k k) (k : Int)

theorem Inv.swap {n m : Nat} {T : Nat → Nat} {Q : Nat → Int} (h : Inv n m T Q) {i k : Nat} (hi : i < m) (hk : k < m) : Inv n m (sw T i k) (swQ T Q i k) := by
  unfold swQ
  rw [sw_l, sw_r]
  refine ⟨fun j hj => ?_, fun x hx => ?_⟩
  · by_cases e1 : j = k
    · subst e1; rw [sw_r, up1_at]; exact ⟨(h.here i hi).1, rfl⟩
    · by_cases e2 : j = i
      · subst e2
        rw [sw_l, up1_off _ _ (fun e => e1 (h.inj hj hk e.symm)), up1_at]
        exact ⟨(h.here k hk).1, rfl⟩
      · rw [sw_o e2 e1, up1_off _ _ (fun e => e2 (h.inj hj hi e)), up1_off _ _ (fun e => e1 (h.inj hj hk e))]
        exact h.here j hj
  · by_cases e1 : x = T i
    · subst e1; rw [up1_at]; exact .inr ⟨k, hk, rfl, sw_r ..⟩
    · rw [up1_off _ _ e1]
      by_cases e2 : x = T k
      · subst e2; rw [up1_at]; exact .inr ⟨i, hi, rfl, sw_l ..⟩
      · rw [up1_off _ _ e2]
        rcases h.there x hx with h1 | ⟨j, hj, h1, h2⟩
        · exact .inl h1
        · refine .inr ⟨j, hj, h1, ?_⟩
          rw [sw_o (fun e => e1 (by rw [← h2, e])) (fun e => e2 (by rw [← h2, e]))]
          exact h2

/-- one more at the end -/
theorem Inv.push {n m : Nat} {T : Nat → Nat} {Q : Nat → Int} (h : Inv n m T Q) {x : Nat} (hx : x < n) (hq : Q x < 0) : Inv n (m + 1) (up1 T m x) (up1 Q x (m : Int)) := by
  have hno : ∀ i, i < m → T i ≠ x := fun i hi e => by have := (h.here i hi).2; rw [e] at this; omega
  refine ⟨fun i hi => ?_, fun y hy => ?_⟩
  · by_cases e : i = m
    · subst e; rw [up1_at, up1_at]; exact ⟨hx, rfl⟩
    · rw [up1_off _ _ e, up1_off _ _ (hno i (by omega))]; exact h.here i (by omega)
  · by_cases e : y = x
    · subst e; rw [up1_at]; exact .inr ⟨m, by omega, rfl, up1_at ..⟩
    · rw [up1_off _ _ e]
      rcases h.there y hy with h1 | ⟨j, hj, h1, h2⟩
      · exact .inl h1
      · exact .inr ⟨j, by omega, h1, by rw [up1_off _ _ (by omega)]; exact h2⟩

/-- the last one is let go -/
theorem Inv.drop {n m : Nat} {T : Nat → Nat} {Q : Nat → Int} (h : Inv n (m + 1) T Q) : Inv n m T (up1 Q (T m) (-1)) := by
  refine ⟨fun i hi => ?_, fun y hy => ?_⟩
  · have hne : T i ≠ T m := fun e => by have := h.inj (show i < m + 1 by omega) (show m < m + 1 by omega) e; omega
    rw [up1_off _ _ hne]
    exact h.here i (by omega)
  · by_cases e : y = T m
    · subst e; rw [up1_at]; exact .inl rfl
    · rw [up1_off _ _ e]
      rcases h.there y hy with h1 | ⟨j, hj, h1, h2⟩
      · exact .inl h1
      · refine .inr ⟨j, ?_, h1, h2⟩
        have : j ≠ m := fun e2 => e (by rw [← h2, e2])
        omega

/-- all that stands in the one stands in the other -/
def Sub (T' : Nat → Nat) (m' : Nat) (T : Nat → Nat) (m : Nat) : Prop := ∀ j, j < m' → ∃ k, k < m ∧ T' j = T k

theorem Sub.refl (T : Nat → Nat) (m : Nat) : Sub T m T m := fun j h => ⟨j, h, rfl⟩
theorem Sub.trans {T1 T2 T3 : Nat → Nat} {a b c : Nat} (h : Sub T1 a T2 b) (h' : Sub T2 b T3 c) : Sub T1 a T3 c := fun j hj => by
  obtain ⟨k, hk, e⟩ := h j hj
  obtain ⟨l, hl, e'⟩ := h' k hk
  exact ⟨l, hl, e.trans e'⟩
theorem Sub.sw {T : Nat → Nat} {m i k : Nat} (hi : i < m) (hk : k < m) : Sub (sw T i k) m T m := fun j hj => by
  by_cases e1 : j = i
  · subst e1; exact ⟨k, hk, sw_l ..⟩
  · by_cases e2 : j = k
    · subst e2; exact ⟨i, hi, sw_r ..⟩
    · exact ⟨j, hj, sw_o e1 e2⟩

/-- another score of the thing at place i -/
theorem weak_set {n m : Nat} {S T : Nat → Nat} {Q : Nat → Int} (h : HeapOK (ah S) T m) (hI : Inv n m T Q) {i x : Nat} (hi : i < m) : Weak (ah (up1 S (T i) x)) T m i := by
  have hsame : ∀ a b, a ≠ T i → b ≠ T i → (ah (up1 S (T i) x) a b ↔ ah S a b) := by
    intro a b ha hb
    rw [ah_iff, ah_iff, up1_off _ _ ha, up1_off _ _ hb]
  have hne : ∀ j, j < m → j ≠ i → T j ≠ T i := fun j hj hn e => hn (hI.inj hj hi e)
  have hw := Weak.of_ok (ah_ord S) h hi
  refine ⟨fun j h0 hj h1 h2 => ?_, fun j h0 hj h1 h2 => ?_⟩
  · rw [hsame _ _ (hne j hj h1) (hne _ (by omega) h2)]; exact hw.off j h0 hj h1 h2
  · rw [hsame _ _ (hne j hj (by omega)) (hne _ (by omega) (by omega))]; exact hw.over j h0 hj h1 h2

/-- another score of a thing that stands nowhere -/
theorem ok_set_out {n m : Nat} {S T : Nat → Nat} {Q : Nat → Int} (h : HeapOK (ah S) T m) (hI : Inv n m T Q) {id x : Nat} (hq : Q id < 0) : HeapOK (ah (up1 S id x)) T m := by
  have hne : ∀ j, j < m → T j ≠ id := fun j hj e => by have := (hI.here j hj).2; rw [e] at this; omega
  intro j h0 hj
  rw [ah_iff, up1_off _ _ (hne j hj), up1_off _ _ (hne _ (by omega)), ← ah_iff]
  exact h j h0 hj

theorem push_weak {A : Nat → Nat → Prop} {T : Nat → Nat} {m x : Nat} (h : HeapOK A T m) : Weak A (up1 T m x) (m + 1) m ∧ DownOK A (up1 T m x) (m + 1) m := by
  refine ⟨⟨fun j h0 hj h1 h2 => ?_, fun j _ hj h1 h2 => by omega⟩, fun j _ hj h1 => by omega⟩
  rw [up1_off _ _ h1, up1_off _ _ h2]
  exact h j h0 (by omega)

end Go.Proofs.YtpihfgpgdjjfhaaDoor

/-
  The library's contracts at this dump, as the kit's own tool lays them.
-/
namespace Go.Proofs
open Go.Shelf
def Tryd.lays169_ren : Go.Shelf.Ren := ⟨fun | 169 => 49 | n => n, fun | 70 => 82 | 9 => 9 | 0 => 0 | 72 => 84 | 37 => 78 | 127 => 107 | 3 => 3 | 5 => 5 | n => n, fun | n => n⟩
theorem Tryd.lays169 : Go.Proofs.Lays.n169 Tryd.prog Tryd.lays169_ren := {
  mixed := by kernel_rfl
  f169 := Tryd.func49.trans (congrArg some (by kernel_rfl))
  t0 := Tryd.underlying0
  a0 := Tryd.isAgg0
  z0 := Tryd.sizeOf0
  v0 := Tryd.zeroValue0
  t3 := Tryd.underlying3
  a3 := Tryd.isAgg3
  z3 := Tryd.sizeOf3
  v3 := Tryd.zeroValue3
  t9 := Tryd.underlying9
  a9 := Tryd.isAgg9
  z9 := Tryd.sizeOf9
  v9 := Tryd.zeroValue9
  t37 := Tryd.underlying78
  a37 := Tryd.isAgg78
  z37 := Tryd.sizeOf78
  v37 := Tryd.zeroValue78
  t70 := Tryd.underlying82
  a70 := Tryd.isAgg82
  z70 := Tryd.sizeOf82
  v70 := Tryd.zeroValue82
  t72 := Tryd.underlying84
  a72 := Tryd.isAgg84
  z72 := Tryd.sizeOf84
  v72 := Tryd.zeroValue84
  t127 := Tryd.underlying107
  a127 := Tryd.isAgg107
  z127 := Tryd.sizeOf107
  v127 := Tryd.zeroValue107 }
theorem Tryd.Builder_Extra_169 : Builder.Extra Tryd.prog Tryd.lays169_ren := {
  sizeBuilder := by kernel_rfl
  liesBuilder := by kernel_rfl
  t5 := Tryd.underlying5
  a5 := Tryd.isAgg5
  z5 := Tryd.sizeOf5
  v5 := Tryd.zeroValue5
  infoByte := by kernel_rfl
  cellsByte := by kernel_rfl
  sizeByte := by kernel_rfl
  neB5 := by decide }
open Go.RowKit in
theorem Tryd.Builder_String_any (B b : Nat) (l : List UInt8) (w : World) (h : Lib.IsBuilder 84 5 B b (Lib.byteCells l) w) (hBw : B ≤ w.heap.size) :
    Calls Tryd.prog 49 #[.pointer (some ⟨b, 0, none⟩)] w fun e w' => e = .returned (.string ⟨l.toArray⟩) ∧ Below B w w' := Any.Builder_String_any Tryd.lays169 Tryd.Builder_Extra_169 B b l w h hBw
def Tryd.lays105_ren : Go.Shelf.Ren := ⟨fun | 105 => 29 | 212 => 44 | 99 => 45 | 165 => 46 | 166 => 47 | 170 => 48 | 169 => 49 | 263 => 65 | 264 => 66 | 206 => 67 | 240 => 68 | 241 => 69 | 276 => 82 | 277 => 83 | n => n, fun | 9 => 9 | 3 => 3 | 4 => 4 | 20 => 20 | 0 => 0 | 46 => 76 | 109 => 79 | 5 => 5 | 72 => 84 | 76 => 54 | 51 => 102 | 146 => 103 | 53 => 22 | 148 => 105 | 70 => 82 | 37 => 78 | 75 => 53 | 127 => 107 | 164 => 120 | 80 => 87 | n => n, fun | n => n⟩
theorem Tryd.lays105 : Go.Proofs.Lays.n105 Tryd.prog Tryd.lays105_ren := {
  mixed := by kernel_rfl
  f99 := Tryd.func45.trans (congrArg some (by kernel_rfl))
  f105 := Tryd.func29.trans (congrArg some (by kernel_rfl))
  f165 := Tryd.func46.trans (congrArg some (by kernel_rfl))
  f166 := Tryd.func47.trans (congrArg some (by kernel_rfl))
  f169 := Tryd.func49.trans (congrArg some (by kernel_rfl))
  f170 := Tryd.func48.trans (congrArg some (by kernel_rfl))
  f206 := Tryd.func67.trans (congrArg some (by kernel_rfl))
  f212 := Tryd.func44.trans (congrArg some (by kernel_rfl))
  f240 := Tryd.func68.trans (congrArg some (by kernel_rfl))
  f241 := Tryd.func69.trans (congrArg some (by kernel_rfl))
  f263 := Tryd.func65.trans (congrArg some (by kernel_rfl))
  f264 := Tryd.func66.trans (congrArg some (by kernel_rfl))
  f276 := Tryd.func82.trans (congrArg some (by kernel_rfl))
  f277 := Tryd.func83.trans (congrArg some (by kernel_rfl))
  t0 := Tryd.underlying0
  a0 := Tryd.isAgg0
  z0 := Tryd.sizeOf0
  v0 := Tryd.zeroValue0
  t3 := Tryd.underlying3
  a3 := Tryd.isAgg3
  z3 := Tryd.sizeOf3
  v3 := Tryd.zeroValue3
  t4 := Tryd.underlying4
  a4 := Tryd.isAgg4
  z4 := Tryd.sizeOf4
  v4 := Tryd.zeroValue4
  t5 := Tryd.underlying5
  a5 := Tryd.isAgg5
  z5 := Tryd.sizeOf5
  v5 := Tryd.zeroValue5
  t9 := Tryd.underlying9
  a9 := Tryd.isAgg9
  z9 := Tryd.sizeOf9
  v9 := Tryd.zeroValue9
  t20 := Tryd.underlying20
  a20 := Tryd.isAgg20
  z20 := Tryd.sizeOf20
  v20 := Tryd.zeroValue20
  t37 := Tryd.underlying78
  a37 := Tryd.isAgg78
  z37 := Tryd.sizeOf78
  v37 := Tryd.zeroValue78
  t46 := Tryd.underlying76
  a46 := Tryd.isAgg76
  z46 := Tryd.sizeOf76
  v46 := Tryd.zeroValue76
  t51 := Tryd.underlying102
  a51 := Tryd.isAgg102
  z51 := Tryd.sizeOf102
  v51 := Tryd.zeroValue102
  t53 := Tryd.underlying22
  a53 := Tryd.isAgg22
  z53 := Tryd.sizeOf22
  v53 := Tryd.zeroValue22
  t70 := Tryd.underlying82
  a70 := Tryd.isAgg82
  z70 := Tryd.sizeOf82
  v70 := Tryd.zeroValue82
  t72 := Tryd.underlying84
  a72 := Tryd.isAgg84
  z72 := Tryd.sizeOf84
  v72 := Tryd.zeroValue84
  t75 := Tryd.underlying53
  a75 := Tryd.isAgg53
  z75 := Tryd.sizeOf53
  v75 := Tryd.zeroValue53
  t76 := Tryd.underlying54
  a76 := Tryd.isAgg54
  z76 := Tryd.sizeOf54
  v76 := Tryd.zeroValue54
  t109 := Tryd.underlying79
  a109 := Tryd.isAgg79
  z109 := Tryd.sizeOf79
  v109 := Tryd.zeroValue79
  t127 := Tryd.underlying107
  a127 := Tryd.isAgg107
  z127 := Tryd.sizeOf107
  v127 := Tryd.zeroValue107
  t146 := Tryd.underlying103
  a146 := Tryd.isAgg103
  z146 := Tryd.sizeOf103
  v146 := Tryd.zeroValue103
  t148 := Tryd.underlying105
  a148 := Tryd.isAgg105
  z148 := Tryd.sizeOf105
  v148 := Tryd.zeroValue105
  t164 := Tryd.underlying120
  a164 := Tryd.isAgg120
  z164 := Tryd.sizeOf120
  v164 := Tryd.zeroValue120 }
theorem Tryd.Builder_Extra_105 : Builder.Extra Tryd.prog Tryd.lays105_ren := {
  sizeBuilder := by kernel_rfl
  liesBuilder := by kernel_rfl
  t5 := Tryd.underlying5
  a5 := Tryd.isAgg5
  z5 := Tryd.sizeOf5
  v5 := Tryd.zeroValue5
  infoByte := by kernel_rfl
  cellsByte := by kernel_rfl
  sizeByte := by kernel_rfl
  neB5 := by decide }
open Go.RowKit Go.Lib in
theorem Tryd.strings_Repeat (s : ByteArray) (c : Nat) (w : World) (hc : c ≤ 9223372036854775807) (hlen : s.size * c ≤ 140737488355328) :
    Calls Tryd.prog 29 #[.string s, .int .i64 c] w fun e w' => e = .returned (.string ⟨(Lib.repeatL s.data.toList c).toArray⟩) ∧ Below w.heap.size w w' := Any.strings_Repeat Tryd.lays105 Tryd.Builder_Extra_105 s c w hc hlen
end Go.Proofs

/-
  A number by digits of seven bits is got again.
-/
namespace Go.Proofs.YtpihfgpgdjjfhaaDoor
open Go.RowKit

theorem bt_list (l : List UInt8) (i : Nat) (b : UInt8) (h : l[i]? = some b) : bt ⟨l.toArray⟩ i = b.toNat := by
  have hi : i < l.length := (List.getElem?_eq_some_iff.1 h).1
  have hs : i < (⟨l.toArray⟩ : ByteArray).size := by simpa [ByteArray.size] using hi
  rw [← bt_eq hs]
  have : (⟨l.toArray⟩ : ByteArray)[i]'hs = l[i] := rfl
  rw [this]
  rw [List.getElem?_eq_getElem hi] at h
  simp only [Option.some.injEq] at h
  rw [h]

theorem size_list (l : List UInt8) : (⟨l.toArray⟩ : ByteArray).size = l.length := by simp [ByteArray.size]

theorem ofNat_toNat {m : Nat} (h : m < 256) : (UInt8.ofNat m).toNat = m := by
  simp only [UInt8.toNat_ofNat']; omega

theorem get_num (more : List UInt8) (r : Nat) : ∀ (k m a : Nat) (pre : List UInt8), pre.length = k → k + (r + 1) = 5 → m * 128 ^ k < 4294967296 → (0 < k → 0 < m) →
    getR ⟨(pre ++ numL (r + 1) m ++ more).toArray⟩ 0 (r + 1) k a = (a + m * 128 ^ k, k + (numL (r + 1) m).length, 0) := by
  induction r with
  | zero =>
    intro k m a pre hp hk hm h0
    have hk4 : k = 4 := by omega
    subst hk4
    have hm15 : m ≤ 15 := by omega
    have hL : numL 1 m = [UInt8.ofNat m] := by simp only [numL]; rw [if_pos (by omega)]
    have hb : bt ⟨(pre ++ numL 1 m ++ more).toArray⟩ (0 + 4) = m := by
      rw [bt_list _ _ (UInt8.ofNat m) (by rw [hL, List.append_assoc, List.getElem?_append_right (by omega), hp]; rfl), ofNat_toNat (by omega)]
    rw [getR_step, hb, if_neg (by rw [size_list]; simp [hL]; omega), if_neg (by omega), if_neg (by have := h0 (by omega); omega), if_pos (by omega), hL]
    simp only [List.length_singleton]
    rw [Nat.mod_eq_of_lt (by omega)]
  | succ r ih =>
    intro k m a pre hp hk hm h0
    by_cases hs : m ≤ 127
    · have hL : numL (r + 1 + 1) m = [UInt8.ofNat m] := by simp only [numL]; rw [if_pos hs]
      have hb : bt ⟨(pre ++ numL (r + 1 + 1) m ++ more).toArray⟩ (0 + k) = m := by
        rw [bt_list _ _ (UInt8.ofNat m) (by rw [hL, List.append_assoc, List.getElem?_append_right (by omega), hp, Nat.zero_add, Nat.sub_self]; rfl), ofNat_toNat (by omega)]
      rw [getR_step, hb, if_neg (by rw [size_list]; simp [hL]; omega), if_neg (by omega), if_neg (fun h => by have := h0 h.1; omega), if_pos (by omega), hL]
      simp only [List.length_singleton]
      rw [Nat.mod_eq_of_lt (by omega)]
      simp
    · have hL : numL (r + 1 + 1) m = UInt8.ofNat (m % 128 + 128) :: numL (r + 1) (m / 128) := by rw [numL, if_neg hs]
      have hb : bt ⟨(pre ++ numL (r + 1 + 1) m ++ more).toArray⟩ (0 + k) = m % 128 + 128 := by
        rw [bt_list _ _ (UInt8.ofNat (m % 128 + 128)) (by rw [hL, List.append_assoc, List.getElem?_append_right (by omega), hp, Nat.zero_add, Nat.sub_self]; rfl), ofNat_toNat (by omega)]
      have e : pre ++ numL (r + 1 + 1) m ++ more = (pre ++ [UInt8.ofNat (m % 128 + 128)]) ++ numL (r + 1) (m / 128) ++ more := by rw [hL]; simp
      rw [getR_step, hb, if_neg (by rw [size_list]; simp [hL]; omega), if_neg (by omega), if_neg (by omega), if_neg (by omega), e]
      rw [ih (k + 1) (m / 128) _ _ (by simp [hp]) (by omega) ?_ (fun _ => by omega)]
      · rw [hL, List.length_cons]
        refine Prod.ext ?_ (Prod.ext ?_ rfl)
        · show a + (m % 128 + 128) % 128 * 128 ^ k + m / 128 * 128 ^ (k + 1) = a + m * 128 ^ k
          have e1 : (m % 128 + 128) % 128 = m % 128 := by omega
          have e2 : m * 128 ^ k = (m % 128 + 128 * (m / 128)) * 128 ^ k := by congr 1; omega
          rw [e1, e2, Nat.pow_succ, Nat.add_mul]
          have : m / 128 * (128 ^ k * 128) = 128 * (m / 128) * 128 ^ k := by
            rw [Nat.mul_comm (128 ^ k) 128, ← Nat.mul_assoc, Nat.mul_comm (m / 128) 128]
          omega
        · show k + 1 + _ = k + (_ + 1)
          omega
      · rw [Nat.pow_succ]
        have : m / 128 * (128 ^ k * 128) = (m / 128 * 128) * 128 ^ k := by
          rw [Nat.mul_comm (128 ^ k) 128, ← Nat.mul_assoc]
        rw [this]
        exact Nat.lt_of_le_of_lt (Nat.mul_le_mul_right _ (Nat.div_mul_le_self m 128)) hm

theorem get_puts (n : Nat) (more : List UInt8) (hn : n < 4294967296) : getT ⟨(numL 5 n ++ more).toArray⟩ 0 = (n, (numL 5 n).length, 0) := by
  have h := get_num more 4 0 n 0 [] rfl rfl (by omega) (by omega)
  unfold getT
  rw [if_neg (by omega)]
  unfold getN
  simpa using h

end Go.Proofs.YtpihfgpgdjjfhaaDoor

/-
  latchetref01.Num and Dec: what they compute.
-/
namespace Go.Proofs.YtpihfgpgdjjfhaaDoor
open Go.RowKit

/-- 'string([]byte{b})' -/
theorem one_string (E : Nat) (hE : E < 256) (u : World) :
    (convert 78 9 (.slice (some ⟨u.heap.size, 0, none⟩) 1 1)).run Tryd.prog (u.alloc (.cells #[.int .u8 (E : Int)] 5)) = .ok (.string ⟨#[UInt8.ofNat E]⟩) (u.alloc (.cells #[.int .u8 (E : Int)] 5)) := by
  have h := run_convert_bytes_back (P := Tryd.prog) (u.alloc (.cells #[.int .u8 (E : Int)] 5)) 78 9 5 ⟨u.heap.size, 0, none⟩ 1 [UInt8.ofNat E] Tryd.underlying78 Tryd.underlying5 Tryd.underlying9 (fun j hj => by
    have hj0 : j = 0 := by simpa using hj
    subst hj0
    rw [add_plain', Nat.zero_add]
    refine (World.cell?_alloc_at _ _ _ _ rfl).trans ?_
    simp [ofNat_toNat hE])
  exact h

theorem cat_bytes (a b : List UInt8) : (⟨a.toArray⟩ : ByteArray) ++ ⟨b.toArray⟩ = ⟨(a ++ b).toArray⟩ := by
  apply ByteArray.ext; simp

end Go.Proofs.YtpihfgpgdjjfhaaDoor

/-
  Scores' bits: which are no numbers, and the text of one.
-/
namespace Go.Proofs.YtpihfgpgdjjfhaaDoor
open Go.RowKit

def nanB (b : Nat) : Bool := decide (9218868437227405312 < b % 9223372036854775808)
def canon (b : Nat) : Nat := if nanB b then 9221120237041090561 else b

theorem canon_lt {b : Nat} (h : b < 18446744073709551616) : canon b < 18446744073709551616 := by unfold canon; split <;> omega
theorem canon_canon (b : Nat) : canon (canon b) = canon b := by
  unfold canon
  by_cases h : nanB b
  · simp only [h, if_true]
    rw [if_pos (by decide)]
  · simp [h]

theorem fk_nan (b : Nat) : ((fk b).1 = -2) ↔ nanB b = true := by
  have e1 : Ieee.double.signWeight = 9223372036854775808 := rfl
  have e2 : Ieee.double.infRung = 9218868437227405312 := rfl
  have e3 : Ieee.double.binade = 4503599627370496 := rfl
  unfold fk Ieee.Format.read nanB
  simp only [e1, e2, e3]
  by_cases h1 : b % 9223372036854775808 < 4503599627370496
  · rw [if_pos h1]; simp; omega
  rw [if_neg h1]
  by_cases h2 : b % 9223372036854775808 < 9218868437227405312
  · rw [if_pos h2]; simp; omega
  rw [if_neg h2]
  by_cases h3 : b % 9223372036854775808 = 9218868437227405312
  · rw [if_pos h3, h3]
    cases (b / 9223372036854775808 % 2 == 1) <;> simp
  · rw [if_neg h3]; simp; omega

theorem bits_run (b : Nat) (w : World) : (callFunc 27 #[.float .f64 b]).run Tryd.prog w = .ok (.value (.int .u64 (b : Nat))) w := by
  rw [run_callFunc_extern (e := Extern.MathFloatBits.float64bits) Tryd.func27 (by kernel_rfl) (by kernel_rfl) (by kernel_rfl) (by kernel_rfl)]
  rfl

theorem score_bits (b : Nat) (w : World) :
    Calls Tryd.prog 41 #[.float .f64 b] w fun e w' => e = .returned (.int .u64 (canon b : Nat)) ∧ w = w' := by
  have ha := self_order b
  have hn := fk_nan b
  have fa : FloatKind.f64.format = Ieee.double := rfl
  have hbr := bits_run b
  cases h : nanB b with
  | true =>
    have q1 : (FloatKind.f64.format.order b b != some .eq) = true := by rw [fa]; unfold bne; rw [ha]; simp [hn, h]
    have HC := Lib.hid (show canon b = 9221120237041090561 by unfold canon; rw [h]; rfl)
    clear ha hn fa h
    go_enter Tryd.func41, Tryd.ntmps41
    go_wp2_with fail
    go_ret
    exact ⟨congrArg (fun x : Nat => Ending.returned (Value.int .u64 (x : Int))) HC.out.symm, rfl⟩
  | false =>
    have q1 : (FloatKind.f64.format.order b b != some .eq) = false := by rw [fa]; unfold bne; rw [ha]; simp [hn, h]
    have HC := Lib.hid (show canon b = b by unfold canon; rw [h]; rfl)
    clear ha hn fa h
    go_enter Tryd.func41, Tryd.ntmps41
    go_wp2_with fail
    go_ret
    exact ⟨congrArg (fun x : Nat => Ending.returned (Value.int .u64 (x : Int))) HC.out.symm, rfl⟩

theorem hex_key : ∀ d : Fin 16, (⟨#[48, 49, 50, 51, 52, 53, 54, 55, 56, 57, 97, 98, 99, 100, 101, 102]⟩ : ByteArray).extract d.val (d.val + 1) = ⟨[hexD d.val].toArray⟩ := by decide +kernel

theorem hex_cut {d : Nat} (h : d < 16) : (⟨#[48, 49, 50, 51, 52, 53, 54, 55, 56, 57, 97, 98, 99, 100, 101, 102]⟩ : ByteArray).extract d (d + 1) = ⟨[hexD d].toArray⟩ := hex_key ⟨d, h⟩

set_option maxRecDepth 100000 in
set_option maxHeartbeats 4000000 in
theorem ref39_hex (N : Nat) (hn : N < 18446744073709551616) (w : World) :
    Calls Tryd.prog 25 #[.int .u64 N] w fun e w' => e = .returned (.string ⟨(hexN 16 N).toArray⟩) ∧ w' = w := by
  have HN := Lib.hid hn
  clear hn
  go_enter Tryd.func25, Tryd.ntmps25
  go_wp2_with fail
  go_loopw [0, 3, 4] (fun v0 v3 v4 wr => ∃ (j m : Nat), v4 = .int .i64 j ∧ j ≤ 16 ∧ m = N / 16 ^ j ∧ v0 = .int .u64 m ∧ v3 = .string ⟨(hexN j N).toArray⟩ ∧ wr = w) (fun _ _ v4 _ => 16 - (intOf v4).toNat)
  case atStart => exact ⟨0, N, rfl, by omega, by simp, rfl, rfl, rfl⟩
  case round =>
    obtain ⟨j, m, rfl, hj, hm, rfl, rfl, rfl⟩ := hrel
    have hm64 : m < 18446744073709551616 := by rw [hm]; exact Nat.lt_of_le_of_lt (Nat.div_le_self _ _) HN.out
    have HM := Lib.hid hm
    clear hm
    by_cases h : j < 16
    · have hd : decide ((j : Int) < 16) = true := by simp; omega
      obtain ⟨d, hdd⟩ : ∃ d, d = m % 16 := ⟨_, rfl⟩
      have hmod : (m : Int) % 16 = (d : Int) := by rw [hdd]; omega
      obtain ⟨m', hm'⟩ : ∃ m', m' = m / 16 := ⟨_, rfl⟩
      have hdiv : (m : Int) / 16 = (m' : Int) := by rw [hm']; omega
      have d0 : (0 : Int) ≤ (d : Int) := by omega
      have d1 : (d : Int) < 16 := by omega
      have hlen := hexN_length j N
      have j0 : (0 : Int) ≤ (j : Int) := by omega
      have HD := Lib.hid (show (⟨#[48, 49, 50, 51, 52, 53, 54, 55, 56, 57, 97, 98, 99, 100, 101, 102]⟩ : ByteArray).extract d (d + 1) ++ (⟨(hexN j N).toArray⟩ : ByteArray) = ⟨(hexN (j + 1) N).toArray⟩ by
        rw [hexN_front, hex_cut (by omega), cat_bytes, hdd, HM.out]; rfl)
      have HR := Lib.hid (show m' = N / 16 ^ (j + 1) by rw [hm', HM.out, Nat.div_div_eq_div_mul, Nat.pow_succ])
      have HLen := Lib.hid (show (⟨(hexN j N).toArray⟩ : ByteArray).size = j from hlen)
      have hw : IntKind.u64.wrap (m' : Int) = (m' : Int) := by unfold IntKind.wrap; simp [IntKind.signed, IntKind.bits]; omega
      have hcs : ((⟨#[48, 49, 50, 51, 52, 53, 54, 55, 56, 57, 97, 98, 99, 100, 101, 102]⟩ : ByteArray).extract d (d + 1)).size = 1 := by rw [hex_cut (by omega)]; rfl
      have HCs := Lib.hid hcs
      clear hdd hm' hm64 hlen hcs
      go_wp2_with fail
      case isTrue hbig => exfalso; have h1 := hexN_length j N; omega
      refine ⟨⟨j + 1, m', by go_num, by omega, HR.out, rfl, congrArg Value.string HD.out, trivial⟩, ?_⟩
      simp [intOf]; omega
    · have hd : decide ((j : Int) < 16) = false := by simp; omega
      have hj16 : j = 16 := by omega
      subst hj16
      go_wp2_with fail
      go_ret
      exact ⟨rfl, rfl⟩


theorem ref05_Nan (b : Nat) (w : World) :
    Calls Tryd.prog 60 #[.int .u64 b] w fun e w' => e = .returned (.bool (nanB b)) ∧ w' = w := by
  obtain ⟨m, hm⟩ : ∃ m, m = b % 9223372036854775808 := ⟨_, rfl⟩
  have hmod : (b : Int) % 9223372036854775808 = (m : Int) := by rw [hm]; omega
  obtain ⟨B, hB⟩ : ∃ B, nanB b = B := ⟨_, rfl⟩
  have hd : decide ((9218868437227405312 : Int) < (m : Int)) = B := by rw [← hB]; unfold nanB; rw [← hm]; exact decide_eq_decide.2 (by omega)
  rw [hB]
  clear hm hB
  go_enter Tryd.func60, Tryd.ntmps60
  go_wp2_with fail
  go_ret
  exact ⟨rfl, rfl⟩

theorem ref05_Plain (b : Nat) (w : World) :
    Calls Tryd.prog 42 #[.int .u64 b] w fun e w' => e = .returned (.int .u64 (canon b : Nat)) ∧ w' = w := by
  have HNa := Lib.hid (ref05_Nan b)
  unfold canon
  cases h : nanB b with
  | true =>
    rw [h] at HNa
    go_enter Tryd.func42, Tryd.ntmps42
    go_wp2_with fail
    refine (HNa.out _).mono ?_
    rintro e w' ⟨rfl, rfl⟩
    go_wp2_with fail
    go_ret
    exact ⟨rfl, rfl⟩
  | false =>
    rw [h] at HNa
    go_enter Tryd.func42, Tryd.ntmps42
    go_wp2_with fail
    refine (HNa.out _).mono ?_
    rintro e w' ⟨rfl, rfl⟩
    go_wp2_with fail
    go_ret
    exact ⟨rfl, rfl⟩

set_option maxRecDepth 100000 in
set_option maxHeartbeats 4000000 in
theorem ref05_Text (b : Nat) (hb : b < 18446744073709551616) (w : World) :
    Calls Tryd.prog 26 #[.int .u64 b] w fun e w' => e = .returned (.string ⟨(hexN 16 (canon b)).toArray⟩) ∧ w' = w := by
  have HP := Lib.hid (ref05_Plain b)
  obtain ⟨N, hN⟩ : ∃ N, canon b = N := ⟨_, rfl⟩
  have HN := Lib.hid (show N < 18446744073709551616 by rw [← hN]; exact canon_lt hb)
  rw [hN] at HP ⊢
  clear hN hb
  go_enter Tryd.func26, Tryd.ntmps26
  go_wp2_with fail
  refine (HP.out _).mono ?_
  rintro e w' ⟨rfl, hw⟩
  subst w'
  obtain ⟨wx, rfl⟩ : ∃ wx : World, wx = w := ⟨_, rfl⟩
  go_wp2_with fail
  go_loopw [0, 3, 4] (fun v0 v3 v4 wr => ∃ (j m : Nat), v4 = .int .i64 j ∧ j ≤ 16 ∧ m = N / 16 ^ j ∧ v0 = .int .u64 m ∧ v3 = .string ⟨(hexN j N).toArray⟩ ∧ wr = wx) (fun _ _ v4 _ => 16 - (intOf v4).toNat)
  case atStart => exact ⟨0, N, rfl, by omega, by simp, rfl, rfl, rfl⟩
  case round =>
    obtain ⟨j, m, rfl, hj, hm, rfl, rfl, rfl⟩ := hrel
    have hm64 : m < 18446744073709551616 := by rw [hm]; exact Nat.lt_of_le_of_lt (Nat.div_le_self _ _) HN.out
    have HM := Lib.hid hm
    clear hm
    by_cases h : j < 16
    · have hd : decide ((j : Int) < 16) = true := by simp; omega
      obtain ⟨d, hdd⟩ : ∃ d, d = m % 16 := ⟨_, rfl⟩
      have hmod : (m : Int) % 16 = (d : Int) := by rw [hdd]; omega
      obtain ⟨m', hm'⟩ : ∃ m', m' = m / 16 := ⟨_, rfl⟩
      have hdiv : (m : Int) / 16 = (m' : Int) := by rw [hm']; omega
      have d0 : (0 : Int) ≤ (d : Int) := by omega
      have d1 : (d : Int) < 16 := by omega
      have hlen := hexN_length j N
      have j0 : (0 : Int) ≤ (j : Int) := by omega
      have HD := Lib.hid (show (⟨#[48, 49, 50, 51, 52, 53, 54, 55, 56, 57, 97, 98, 99, 100, 101, 102]⟩ : ByteArray).extract d (d + 1) ++ (⟨(hexN j N).toArray⟩ : ByteArray) = ⟨(hexN (j + 1) N).toArray⟩ by
        rw [hexN_front, hex_cut (by omega), cat_bytes, hdd, HM.out]; rfl)
      have HR := Lib.hid (show m' = N / 16 ^ (j + 1) by rw [hm', HM.out, Nat.div_div_eq_div_mul, Nat.pow_succ])
      have HLen := Lib.hid (show (⟨(hexN j N).toArray⟩ : ByteArray).size = j from hlen)
      have hw : IntKind.u64.wrap (m' : Int) = (m' : Int) := by unfold IntKind.wrap; simp [IntKind.signed, IntKind.bits]; omega
      have hcs : ((⟨#[48, 49, 50, 51, 52, 53, 54, 55, 56, 57, 97, 98, 99, 100, 101, 102]⟩ : ByteArray).extract d (d + 1)).size = 1 := by rw [hex_cut (by omega)]; rfl
      have HCs := Lib.hid hcs
      clear hdd hm' hm64 hlen hcs
      go_wp2_with fail
      case isTrue hbig => exfalso; have h1 := hexN_length j N; omega
      refine ⟨⟨j + 1, m', by go_num, by omega, HR.out, rfl, congrArg Value.string HD.out, trivial⟩, ?_⟩
      simp [intOf]; omega
    · have hd : decide ((j : Int) < 16) = false := by simp; omega
      have hj16 : j = 16 := by omega
      subst hj16
      go_wp2_with fail
      go_ret
      exact ⟨rfl, rfl⟩

theorem score_Text (b : Nat) (hb : b < 18446744073709551616) (w : World) (ht : Tz w) :
    Calls Tryd.prog 32 #[.float .f64 b] w fun e w' => e = .returned (.string ⟨(hexN 16 (canon b)).toArray⟩) ∧ Kp (fun _ => False) w w' := by
  have HF := Lib.hid (fun u hu => FormatUint_16 (canon b) (canon_lt hb) u hu)
  have HT := Lib.hid ht
  clear ht hb
  go_enter Tryd.func32, Tryd.ntmps32
  go_wp2_with fail
  refine (score_bits b _).mono ?_
  rintro e w' ⟨rfl, rfl⟩
  go_wp2_with fail
  refine (HF.out _ HT.out).mono ?_
  rintro e w1 ⟨⟨k, h1, h2, h3, rfl⟩, hK⟩
  have HK := Lib.hid hK
  obtain ⟨z, hz⟩ : ∃ z, z + k = 16 := ⟨16 - k, by omega⟩
  have hlen : (⟨(hexN k (canon b)).toArray⟩ : ByteArray).size = k := hexN_length k _
  have hsub : (16 : Int) - (k : Int) = (z : Int) := by omega
  have HE := Lib.hid (show (⟨(Lib.repeatL (⟨#[48]⟩ : ByteArray).data.toList z).toArray⟩ : ByteArray) ++ ⟨(hexN k (canon b)).toArray⟩ = ⟨(hexN 16 (canon b)).toArray⟩ by
    rw [cat_bytes, ← hz, hexN_zeros z k _ h3]
    congr 3
    show Lib.repeatL [48] z = _
    have key : ∀ z, Lib.repeatL [(48 : UInt8)] z = List.replicate z 48 := by
      intro z
      induction z with
      | zero => rfl
      | succ z ih => simp [Lib.repeatL, List.replicate_succ, ih]
    exact key z)
  have HZ := Lib.hid hz
  clear h1 h2 h3 hK hz
  have HRep := Lib.hid (fun u => Tryd.strings_Repeat ⟨#[48]⟩ z u (by omega) (by show 1 * z ≤ _; omega))
  have hsz : (⟨(Lib.repeatL (⟨#[48]⟩ : ByteArray).data.toList z).toArray⟩ : ByteArray).size = z := by
    show (Lib.repeatL [48] z).length = z
    rw [Lib.repeatL_length]; simp
  obtain ⟨R, hR⟩ : ∃ R : ByteArray, R = ⟨(Lib.repeatL (⟨#[48]⟩ : ByteArray).data.toList z).toArray⟩ := ⟨_, rfl⟩
  obtain ⟨F, hF⟩ : ∃ F : ByteArray, F = ⟨(hexN k (canon b)).toArray⟩ := ⟨_, rfl⟩
  rw [← hR] at HE HRep hsz
  rw [← hF] at HE hlen ⊢
  have hcat : ¬ 9223372036854775807 < R.size + F.size := by have := HZ.out; omega
  clear hR hF hsz
  go_wp2_with fail
  refine (HRep.out _).mono ?_
  rintro e w2 ⟨rfl, hb2⟩
  have HK2 := Lib.hid (HK.out.trans (Kp.of_below hb2 (fun _ => False)) (fun _ _ h => h))
  clear hb2
  go_wp2_with fail
  go_ret
  exact ⟨congrArg (fun x => Ending.returned (Value.string x)) HE.out, HK2.out⟩

end Go.Proofs.YtpihfgpgdjjfhaaDoor

/-
  latchetref01.Dec: what it computes: strconv.Itoa's numeral.
-/
namespace Go.Proofs.YtpihfgpgdjjfhaaDoor
open Go.RowKit

theorem decLen : ∀ (k u : Nat), u < 10 ^ (k + 1) → (Lib.decDigits u).length ≤ k + 1
  | 0, u, h => by rw [Lib.decDigits, dif_pos (by simpa using h)]; simp
  | k + 1, u, h => by
    by_cases hu : u < 10
    · rw [Lib.decDigits, dif_pos hu]; simp
    · rw [Lib.decDigits, dif_neg hu]
      have := decLen k (u / 10) (by rw [Nat.pow_succ] at h; omega)
      simp; omega

theorem itoaLen {n : Int} (h1 : -9223372036854775808 ≤ n) (h2 : n ≤ 9223372036854775807) : (Lib.itoa n).length ≤ 21 := by
  have h := decLen 19 n.natAbs (by omega)
  unfold Lib.itoa
  split
  · simp; omega
  · have e : n.toNat = n.natAbs := by omega
    rw [e]; omega

theorem itoa_one {n : Int} (h0 : ¬ n < 0) (h : n < 10) : Lib.itoa n = [UInt8.ofNat (48 + n.toNat)] := by
  unfold Lib.itoa; rw [if_neg h0, Lib.decDigits, dif_pos (by omega)]

theorem itoa_more {n : Int} (h : ¬ n < 10) : Lib.itoa n = Lib.itoa (n / 10) ++ [UInt8.ofNat (48 + (n % 10).toNat)] := by
  unfold Lib.itoa
  rw [if_neg (by omega), if_neg (by omega)]
  conv => lhs; rw [Lib.decDigits, dif_neg (by omega)]
  rw [show (n / 10).toNat = n.toNat / 10 from by omega, show (n % 10).toNat = n.toNat % 10 from by omega]

theorem itoa_neg1 {n : Int} (h : n < 0) (h1 : -10 < n) : Lib.itoa n = 45 :: [UInt8.ofNat (48 - n).toNat] := by
  unfold Lib.itoa
  rw [if_pos h, Lib.decDigits, dif_pos (by omega), show (48 - n).toNat = 48 + n.natAbs from by omega]

theorem itoa_negm {n : Int} (h1 : n ≤ -10) : Lib.itoa n = Lib.itoa (n.tdiv 10) ++ [UInt8.ofNat (48 - n.tmod 10).toNat] := by
  obtain ⟨m, rfl⟩ : ∃ m : Nat, n = -(m : Int) := ⟨n.natAbs, by omega⟩
  rw [Int.neg_tdiv, Int.neg_tmod, Int.tdiv_eq_ediv_of_nonneg (by omega), Int.tmod_eq_emod_of_nonneg (by omega)]
  unfold Lib.itoa
  rw [if_pos (by omega), if_pos (by omega)]
  conv => lhs; rw [Lib.decDigits, dif_neg (by omega)]
  rw [show (-((m : Int) / 10)).natAbs = (-(m : Int)).natAbs / 10 from by omega, show (48 - -((m : Int) % 10)).toNat = 48 + (-(m : Int)).natAbs % 10 from by omega]
  rfl

/-- 'string([]byte{b})', wherever the cell lies -/
theorem one_string_at {E : Nat} (hE : E < 256) {k : Nat} {u : World} (h : u.cell? ⟨k, 0, none⟩ = some (.int .u8 (E : Int))) :
    (convert 78 9 (.slice (some ⟨k, 0, none⟩) 1 1)).run Tryd.prog u = .ok (.string ⟨#[UInt8.ofNat E]⟩) u := by
  have h := run_convert_bytes_back (P := Tryd.prog) u 78 9 5 ⟨k, 0, none⟩ 1 [UInt8.ofNat E] Tryd.underlying78 Tryd.underlying5 Tryd.underlying9 (fun j hj => by
    have hj0 : j = 0 := by simpa using hj
    subst hj0
    rw [add_plain', Nat.zero_add]
    refine h.trans ?_
    simp [ofNat_toNat hE])
  exact h

theorem one_string_v {V : Int} {E : Nat} (hE : E < 256) (hV : V = E) (u : World) :
    (convert 78 9 (.slice (some ⟨u.heap.size, 0, none⟩) 1 1)).run Tryd.prog (u.alloc (.cells #[.int .u8 V] 5)) = .ok (.string ⟨#[UInt8.ofNat E]⟩) (u.alloc (.cells #[.int .u8 V] 5)) := by
  subst hV; exact one_string E hE u

theorem one_kept {V : Int} {E : Nat} (hE : E < 256) (hV : V = E) {u w1 : World} (hK : Kp (fun _ => False) (u.alloc (.cells #[.int .u8 V] 5)).drew w1) :
    (convert 78 9 (.slice (some ⟨u.heap.size, 0, none⟩) 1 1)).run Tryd.prog w1 = .ok (.string ⟨#[UInt8.ofNat E]⟩) w1 := by
  subst hV
  refine one_string_at hE ?_
  have hb : w1.heap[u.heap.size]? = (u.alloc (.cells #[.int .u8 (E : Int)] 5)).heap[u.heap.size]? := Kp.block hK u.heap.size (by simp) (fun h => h)
  exact (World.cell?_of_block (a := ⟨u.heap.size, 0, none⟩) hb).trans (World.cell?_alloc_at _ _ _ _ rfl)

set_option maxHeartbeats 2000000 in
set_option maxRecDepth 100000 in
theorem ref_Dec_any (k : Nat) : ∀ (n : Int) (w : World), n.natAbs ≤ k → -9223372036854775808 ≤ n → n ≤ 9223372036854775807 →
    Calls Tryd.prog 24 #[.int .i64 n] w fun e w' => e = .returned (.string ⟨(Lib.itoa n).toArray⟩) ∧ Kp (fun _ => False) w w' := by
  induction k using Nat.strongRecOn with
  | _ k ih =>
    intro n w hk h1 h2
    by_cases hneg : n < 0
    · by_cases hs : -10 < n
      · have HI := Lib.hid (itoa_neg1 hneg hs)
        have hq : n.tdiv 10 = 0 := by
          obtain ⟨m, rfl⟩ : ∃ m : Nat, n = -(m : Int) := ⟨n.natAbs, by omega⟩
          rw [Int.neg_tdiv, Int.tdiv_eq_ediv_of_nonneg (by omega)]; omega
        obtain ⟨E, hE, hE2⟩ : ∃ E : Nat, 48 - n = (E : Int) ∧ E = (48 - n).toNat := ⟨(48 - n).toNat, by omega, rfl⟩
        have hE3 : E < 256 := by omega
        have HE2 := Lib.hid hE2; clear hE2
        have hcv := one_string E hE3
        clear ih
        go_enter Tryd.func24, Tryd.ntmps24
        go_wp2_with fail
        go_ret
        refine ⟨congrArg (fun x => Ending.returned (Value.string x)) ((cat_bytes [45] [UInt8.ofNat E]).trans ?_), (Kp.refl _ w).alloc _⟩
        rw [HI.out, HE2.out]; rfl
      · have HI := Lib.hid (itoa_negm (n := n) (by omega))
        obtain ⟨q, r, hq, hr, h10⟩ : ∃ q r : Int, n.tdiv 10 = q ∧ n.tmod 10 = r ∧ (q ≤ -1 ∧ n ≤ q ∧ n < q ∧ -9 ≤ r ∧ r ≤ 0) := by
          refine ⟨_, _, rfl, rfl, ?_⟩
          obtain ⟨m, rfl⟩ : ∃ m : Nat, n = -(m : Int) := ⟨n.natAbs, by omega⟩
          rw [Int.neg_tdiv, Int.neg_tmod, Int.tdiv_eq_ediv_of_nonneg (by omega), Int.tmod_eq_emod_of_nonneg (by omega)]; omega
        obtain ⟨E, hE2⟩ : ∃ E : Nat, E = (48 - r).toNat := ⟨_, rfl⟩
        have hE3 : E < 256 := by omega
        have hV : IntKind.wrap .u8 (IntKind.wrap .i64 (48 - r)) = (E : Int) := by
          rw [wrap_small _ (by omega) (by omega)]; unfold IntKind.wrap; simp [IntKind.bits, IntKind.signed]; omega
        have HE2 := Lib.hid hE2; clear hE2
        have HV := Lib.hid hV; clear hV
        have hcv := one_string_v hE3 HV.out
        have hcd := one_kept hE3 HV.out (Kp.refl _ (w.alloc (.cells #[.int .u8 (IntKind.wrap .u8 (IntKind.wrap .i64 (48 - r)))] 5)).drew)
        have hlen : ¬ 9223372036854775807 < (Lib.itoa q).length + 1 := by have := itoaLen (n := q) (by omega) (by omega); omega
        have hwq : IntKind.wrap .i64 q = q := hq ▸ wrap_i64_tdiv n 10 h1 h2 (by omega)
        have hrec : ∀ u : World, Calls Tryd.prog 24 #[.int .i64 q] u fun e w' => e = .returned (.string ⟨(Lib.itoa q).toArray⟩) ∧ Kp (fun _ => False) u w' :=
          fun u => ih q.natAbs (by omega) _ u (Nat.le_refl _) (by omega) (by omega)
        have hfin : ∀ w1, Kp (fun _ => False) w w1 → Ending.returned (Value.string ((⟨(Lib.itoa q).toArray⟩ : ByteArray) ++ ⟨#[UInt8.ofNat E]⟩)) = Ending.returned (.string ⟨(Lib.itoa n).toArray⟩) ∧ Kp (fun _ => False) w w1 :=
          fun w1 h => ⟨congrArg (fun x => Ending.returned (Value.string x)) ((cat_bytes _ [UInt8.ofNat E]).trans (by rw [HI.out, HE2.out, hq, hr])), h⟩
        have h0 : ¬ q = 0 := by omega
        clear ih
        go_enter Tryd.func24, Tryd.ntmps24
        go_wp2_with fail
        go_region_with (go_at_call 24; refine (hrec _).mono ?_; rintro e w1 ⟨rfl, hK1⟩; try have hcw : (convert 78 9 (.slice (some ⟨w.heap.size, 0, none⟩) 1 1)).run Tryd.prog w1 = _ := one_kept hE3 HV.out hK1)
        all_goals (go_wp2_with fail)
        all_goals go_ret
        · exact hfin _ ((Kp.trans (Kp.drew (Kp.refl _ w)) hK1 (fun _ _ h => h)).alloc _)
        · exact hfin _ (Kp.trans (Kp.drew (Kp.alloc (Kp.refl _ w) _)) hK1 (fun _ _ h => h))
        · exact hfin _ (Kp.trans (Kp.drew (Kp.alloc (Kp.refl _ w) _)) hK1 (fun _ _ h => h))
    by_cases hs : n < 10
    · have HI := Lib.hid (itoa_one hneg hs)
      obtain ⟨m, rfl⟩ : ∃ m : Nat, n = m := ⟨n.toNat, by omega⟩
      have hm : m < 10 := by omega
      obtain ⟨E, hE, hE2⟩ : ∃ E : Nat, 48 + (m : Int) = (E : Int) ∧ E = 48 + m := ⟨48 + m, by omega, rfl⟩
      have hE3 : E < 256 := by omega
      have HE2 := Lib.hid hE2; clear hE2
      have hcv := one_string E hE3
      go_enter Tryd.func24, Tryd.ntmps24
      go_wp2_with fail
      go_ret
      refine ⟨?_, (Kp.refl _ w).alloc _⟩
      rw [HI.out, HE2.out]; rfl
    · have HI := Lib.hid (itoa_more hs)
      obtain ⟨m, rfl⟩ : ∃ m : Nat, n = m := ⟨n.toNat, by omega⟩
      have hm : ¬ m < 10 := by omega
      obtain ⟨E, hE2⟩ : ∃ E : Nat, E = 48 + m % 10 := ⟨_, rfl⟩
      have hE3 : E < 256 := by omega
      have hV : IntKind.wrap .u8 (IntKind.wrap .i64 (48 + (m : Int).tmod 10)) = (E : Int) := by
        rw [Int.tmod_eq_emod_of_nonneg (by omega), wrap_small _ (by omega) (by omega)]; unfold IntKind.wrap; simp [IntKind.bits, IntKind.signed]; omega
      have HE2 := Lib.hid hE2; clear hE2
      have HV := Lib.hid hV; clear hV
      have hcv := one_string_v hE3 HV.out
      have hcd := one_kept hE3 HV.out (Kp.refl _ (w.alloc (.cells #[.int .u8 (IntKind.wrap .u8 (IntKind.wrap .i64 (48 + (m : Int).tmod 10)))] 5)).drew)
      have hlen : ¬ 9223372036854775807 < (Lib.itoa ((m : Int) / 10)).length + 1 := by have := itoaLen (n := (m : Int) / 10) (by omega) (by omega); omega
      have hwq : IntKind.wrap .i64 ((m : Int) / 10) = (m : Int) / 10 := wrap_small _ (by omega) (by omega)
      have hrec : ∀ u : World, Calls Tryd.prog 24 #[.int .i64 (IntKind.wrap .i64 ((m : Int) / 10))] u fun e w' => e = .returned (.string ⟨(Lib.itoa ((m : Int) / 10)).toArray⟩) ∧ Kp (fun _ => False) u w' :=
        fun u => by rw [hwq]; exact ih ((m : Int) / 10).natAbs (by omega) _ u (Nat.le_refl _) (by omega) (by omega)
      have hfin : ∀ w1, Kp (fun _ => False) w w1 → Ending.returned (Value.string ((⟨(Lib.itoa ((m : Int) / 10)).toArray⟩ : ByteArray) ++ ⟨#[UInt8.ofNat E]⟩)) = Ending.returned (.string ⟨(Lib.itoa (m : Int)).toArray⟩) ∧ Kp (fun _ => False) w w1 :=
        fun w1 h => ⟨congrArg (fun x => Ending.returned (Value.string x)) ((cat_bytes _ [UInt8.ofNat E]).trans (by rw [HI.out, HE2.out, show ((m : Int) % 10).toNat = m % 10 from by omega])), h⟩
      clear ih hwq
      go_enter Tryd.func24, Tryd.ntmps24
      go_wp2_with fail
      go_region_with (go_at_call 24; refine (hrec _).mono ?_; rintro e w1 ⟨rfl, hK1⟩; try have hcw : (convert 78 9 (.slice (some ⟨w.heap.size, 0, none⟩) 1 1)).run Tryd.prog w1 = _ := one_kept hE3 HV.out hK1)
      all_goals (go_wp2_with fail)
      all_goals go_ret
      · exact hfin _ ((Kp.trans (Kp.drew (Kp.refl _ w)) hK1 (fun _ _ h => h)).alloc _)
      · exact hfin _ (Kp.trans (Kp.drew (Kp.alloc (Kp.refl _ w) _)) hK1 (fun _ _ h => h))
      · exact hfin _ (Kp.trans (Kp.drew (Kp.alloc (Kp.refl _ w) _)) hK1 (fun _ _ h => h))

theorem ref_Dec (n : Int) (w : World) (h1 : -9223372036854775808 ≤ n) (h2 : n ≤ 9223372036854775807) :
    Calls Tryd.prog 24 #[.int .i64 n] w fun e w' => e = .returned (.string ⟨(Lib.itoa n).toArray⟩) ∧ Kp (fun _ => False) w w' :=
  ref_Dec_any n.natAbs n w (Nat.le_refl _) h1 h2

end Go.Proofs.YtpihfgpgdjjfhaaDoor

/-
  Options in plain words, and their line.
-/
namespace Go.Proofs.YtpihfgpgdjjfhaaDoor
open Go.RowKit

structure Opt where
  e : Int
  b : Int
  p : Int
  f : Int
  u : Int
  k : Int
  s : Nat
  d : Nat
  m : Nat

def okN (x : Int) : Prop := -9223372036854775808 ≤ x ∧ x ≤ 9223372036854775807

structure Opt.ok (o : Opt) : Prop where
  e : okN o.e
  b : okN o.b
  p : okN o.p
  f : okN o.f
  u : okN o.u
  k : okN o.k
  s : o.s < 18446744073709551616
  d : o.d < 18446744073709551616
  m : o.m < 18446744073709551616

def sEngine : List UInt8 := [101, 110, 103, 105, 110, 101]
def sBound : List UInt8 := [98, 111, 117, 110, 100]
def sProp : List UInt8 := [112, 114, 111, 112]
def sSeed : List UInt8 := [115, 101, 101, 100]
def sFuel : List UInt8 := [102, 117, 101, 108]
def sUnit : List UInt8 := [117, 110, 105, 116]
def sKeep : List UInt8 := [107, 101, 101, 112]
def sDecay : List UInt8 := [100, 101, 99, 97, 121]
def sBump : List UInt8 := [98, 117, 109, 112]

/-- the words of a line -/
def optW (o : Opt) : List (List UInt8) :=
  [sEngine, Lib.itoa o.e, sBound, Lib.itoa o.b, sProp, Lib.itoa o.p, sSeed, hexN 16 o.s, sFuel, Lib.itoa o.f, sUnit, Lib.itoa o.u, sKeep, Lib.itoa o.k, sDecay, hexN 16 (canon o.d), sBump, hexN 16 (canon o.m)]

/-- the line -/
def optT (o : Opt) : List UInt8 := Lib.join (optW o) [32]

/-- its nine parts -/
def optP (o : Opt) : List (List UInt8) :=
  [sEngine ++ [32] ++ Lib.itoa o.e, sBound ++ [32] ++ Lib.itoa o.b, sProp ++ [32] ++ Lib.itoa o.p, sSeed ++ [32] ++ hexN 16 o.s, sFuel ++ [32] ++ Lib.itoa o.f, sUnit ++ [32] ++ Lib.itoa o.u, sKeep ++ [32] ++ Lib.itoa o.k, sDecay ++ [32] ++ hexN 16 (canon o.d), sBump ++ [32] ++ hexN 16 (canon o.m)]

theorem optP_join (o : Opt) : Lib.join (optP o) [32] = optT o := by
  unfold optP optT optW
  simp [Lib.join_cons, Lib.joinTail]

theorem optT_eq (o : Opt) : optT o = sEngine ++ [32] ++ Lib.itoa o.e ++ ([32] ++ sBound ++ [32]) ++ Lib.itoa o.b ++ ([32] ++ sProp ++ [32]) ++ Lib.itoa o.p ++ ([32] ++ sSeed ++ [32]) ++ hexN 16 o.s ++
    ([32] ++ sFuel ++ [32]) ++ Lib.itoa o.f ++ ([32] ++ sUnit ++ [32]) ++ Lib.itoa o.u ++ ([32] ++ sKeep ++ [32]) ++ Lib.itoa o.k ++ ([32] ++ sDecay ++ [32]) ++ hexN 16 (canon o.d) ++ ([32] ++ sBump ++ [32]) ++ hexN 16 (canon o.m) := by
  unfold optT optW
  simp [Lib.join_cons, Lib.joinTail]

end Go.Proofs.YtpihfgpgdjjfhaaDoor

/-
  Lines and words in plain words.
-/
namespace Go.Proofs.YtpihfgpgdjjfhaaDoor
open Go.RowKit

/-- the first feed from a place on -/
def feedAt (s : ByteArray) (at_ : Nat) : Option Nat := (List.range s.size).find? (fun i => decide (at_ ≤ i) && (bt s i == 10))

theorem feed_some {s : ByteArray} {at_ i : Nat} (hi : i < s.size) (h : at_ ≤ i) (hb : bt s i = 10) (hn : ∀ j, at_ ≤ j → j < i → bt s j ≠ 10) : feedAt s at_ = some i := by
  unfold feedAt
  rw [List.find?_range_eq_some]
  refine ⟨by simp [h, hb], by simpa using hi, fun j hj => ?_⟩
  simp
  by_cases h' : j < at_
  · exact .inl h'
  · exact .inr (hn j (by omega) hj)

theorem feed_none {s : ByteArray} {at_ : Nat} (hn : ∀ j, at_ ≤ j → j < s.size → bt s j ≠ 10) : feedAt s at_ = none := by
  unfold feedAt
  rw [List.find?_range_eq_none]
  intro j hj
  simp
  by_cases h' : j < at_
  · exact .inl h'
  · exact .inr (hn j (by omega) hj)

theorem feed_cases (s : ByteArray) (at_ : Nat) : (∃ i, feedAt s at_ = some i ∧ at_ ≤ i ∧ i < s.size ∧ bt s i = 10 ∧ ∀ j, at_ ≤ j → j < i → bt s j ≠ 10) ∨ feedAt s at_ = none ∧ ∀ j, at_ ≤ j → j < s.size → bt s j ≠ 10 := by
  cases h : feedAt s at_ with
  | some i =>
    left
    unfold feedAt at h
    rw [List.find?_range_eq_some] at h
    obtain ⟨h1, h2, h3⟩ := h
    simp at h1 h2 h3
    exact ⟨i, rfl, h1.1, h2, h1.2, fun j h4 h5 => (h3 j h5).resolve_left (by omega)⟩
  | none =>
    right
    unfold feedAt at h
    rw [List.find?_range_eq_none] at h
    simp at h
    exact ⟨rfl, fun j h1 h2 => (h j h2).resolve_left (by omega)⟩

/-- what Line tells, of any place -/
def lineT (s : ByteArray) (x : Int) : ByteArray × Nat × Nat :=
  if x < 0 ∨ (s.size : Int) < x then (⟨#[]⟩, 0, 1)
  else match feedAt s x.toNat with
    | some i => (s.extract x.toNat i, i + 1, 0)
    | none => (⟨#[]⟩, 0, 3)

theorem bt_feed {s : ByteArray} {i : Nat} : s.data.toList[i]? = some 10 ↔ i < s.size ∧ bt s i = 10 := by
  constructor
  · intro h
    have hi : i < s.data.toList.length := (List.getElem?_eq_some_iff.1 h).1
    have hi' : i < s.size := by simpa using hi
    refine ⟨hi', ?_⟩
    rw [← bt_eq hi']
    have h2 := (List.getElem?_eq_some_iff.1 h).2
    have : s[i] = 10 := h2
    rw [this]; rfl
  · rintro ⟨hi, hb⟩
    rw [List.getElem?_eq_getElem (by simpa using hi)]
    rw [← bt_eq hi] at hb
    have : s[i] = 10 := UInt8.toNat_inj.1 hb
    exact congrArg some this

/-- the library's word for the first feed behind a place -/
theorem feed_index (s : ByteArray) (at_ : Nat) : Lib.indexByte (s.extract at_ s.size).data.toList 10 = match feedAt s at_ with | some i => ((i - at_ : Nat) : Int) | none => -1 := by
  have he : (s.extract at_ s.size).data.toList = s.data.toList.drop at_ := by
    rw [Lib.extract_to_end]
  rw [he]
  have hge := Lib.indexByte_ge (s.data.toList.drop at_) 10
  rcases (show Lib.indexByte (s.data.toList.drop at_) 10 = -1 ∨ ∃ o : Nat, Lib.indexByte (s.data.toList.drop at_) 10 = o by
    by_cases e : Lib.indexByte (s.data.toList.drop at_) 10 = -1
    · exact .inl e
    · exact .inr ⟨(Lib.indexByte (s.data.toList.drop at_) 10).toNat, by omega⟩) with e | ⟨o, e⟩
  · have hn := Lib.indexByte_none e
    rw [e, feed_none]
    intro j h1 h2 hb
    refine hn (j - at_) ?_
    rw [List.getElem?_drop, show at_ + (j - at_) = j by omega]
    exact bt_feed.2 ⟨h2, hb⟩
  · obtain ⟨h1, h2⟩ := Lib.indexByte_some e
    rw [List.getElem?_drop] at h1
    obtain ⟨h3, h4⟩ := bt_feed.1 h1
    rw [e, feed_some h3 (Nat.le_add_right _ _) h4]
    · simp
    · intro j h5 h6 hb
      refine h2 (j - at_) (by omega) ?_
      rw [List.getElem?_drop, show at_ + (j - at_) = j by omega]
      exact bt_feed.2 ⟨by omega, hb⟩

/-- what stands between blanks -/
def wordsF : List UInt8 → List (List UInt8)
  | [] => [[]]
  | b :: l => if b = 32 then [] :: wordsF l else match wordsF l with
    | [] => [[b]]
    | x :: r => (b :: x) :: r

theorem words_app : ∀ {a : List UInt8} (r : List UInt8), (∀ b ∈ a, b ≠ 32) → wordsF (a ++ 32 :: r) = a :: wordsF r
  | [], r, _ => by simp [wordsF]
  | b :: a, r, h => by
    have hb : b ≠ 32 := h b (by simp)
    rw [List.cons_append, wordsF, if_neg hb, words_app r (fun x hx => h x (by simp [hx]))]

theorem words_none : ∀ {a : List UInt8}, (∀ b ∈ a, b ≠ 32) → wordsF a = [a]
  | [], _ => rfl
  | b :: a, h => by
    rw [wordsF, if_neg (h b (by simp)), words_none (fun x hx => h x (by simp [hx]))]

/-- words with blanks between -/
def jn : List (List UInt8) → List UInt8
  | [] => []
  | [a] => a
  | a :: b :: r => a ++ 32 :: jn (b :: r)

theorem words_ne (l : List UInt8) : wordsF l ≠ [] := by
  cases l with
  | nil => simp [wordsF]
  | cons b l => unfold wordsF; split; · simp
                split <;> simp

theorem jn_cons {a : List UInt8} {r : List (List UInt8)} (h : r ≠ []) : jn (a :: r) = a ++ 32 :: jn r := by
  cases r with
  | nil => exact absurd rfl h
  | cons b r => rfl

theorem jn_words : ∀ l : List UInt8, jn (wordsF l) = l
  | [] => rfl
  | b :: l => by
    have ih := jn_words l
    unfold wordsF
    split
    · rename_i h
      rw [jn_cons (words_ne l), ih, h]; rfl
    · cases hw : wordsF l with
      | nil => exact absurd hw (words_ne l)
      | cons x r =>
        rw [hw] at ih
        simp only
        cases r with
        | nil => simp [jn] at ih ⊢; exact ih
        | cons y r => simp [jn] at ih ⊢; exact ih

theorem jn_snoc : ∀ {xs : List (List UInt8)} {a : List UInt8}, xs ≠ [] → jn (xs ++ [a]) = jn xs ++ 32 :: a
  | [], _, h => absurd rfl h
  | [x], a, _ => by simp [jn]
  | x :: y :: r, a, _ => by
    have := jn_snoc (xs := y :: r) (a := a) (by simp)
    simp only [List.cons_append] at this ⊢
    rw [jn, this, jn]; simp

theorem split_words : ∀ (n : Nat) (l : List UInt8), l.length ≤ n → Lib.splitK [32] 0 (Lib.count l [32]) l = wordsF l
  | n, l, hl => by
    have hge := Lib.indexByte_ge l 32
    by_cases e : Lib.indexByte l 32 = -1
    · have hi : Lib.index l [32] = -1 := by rw [Lib.index_one]; exact e
      have hc : Lib.count l [32] = 0 := Lib.count_miss hi
      rw [hc, words_none]
      · rfl
      · intro b hb hb2
        obtain ⟨k, hk⟩ := List.mem_iff_getElem?.1 hb
        exact Lib.indexByte_none e k (by rw [hk, hb2])
    · obtain ⟨o, ho⟩ : ∃ o : Nat, Lib.indexByte l 32 = o := ⟨(Lib.indexByte l 32).toNat, by omega⟩
      obtain ⟨h1, h2⟩ := Lib.indexByte_some ho
      have hi : Lib.index l [32] = o := by rw [Lib.index_one]; exact ho
      have hlt : o < l.length := (List.getElem?_eq_some_iff.1 h1).1
      have hsp : l = l.take o ++ 32 :: l.drop (o + 1) := by
        have h3 := (List.getElem?_eq_some_iff.1 h1).2
        conv => lhs; rw [← List.take_append_drop o l, List.drop_eq_getElem_cons hlt, h3]
      have hw : wordsF l = l.take o :: wordsF (l.drop (o + 1)) := by
        conv => lhs; rw [hsp]
        apply words_app
        intro b hb hb2
        obtain ⟨k, hk⟩ := List.mem_iff_getElem?.1 hb
        rw [List.getElem?_take] at hk
        split at hk
        · exact h2 k (by assumption) (by rw [hk, hb2])
        · cases hk
      match n with
      | 0 => omega
      | n + 1 =>
        have hcnt : Lib.count l [32] = Lib.count (l.drop (o + 1)) [32] + 1 := by
          have := Lib.count_hit (s := l) (sub := [32]) (i := o) (by simp) hi
          simp at this
          omega
        rw [hcnt, Lib.splitK, if_neg (by rw [hi]; simp), hi, hw]
        simp only [Int.toNat_natCast, Nat.add_zero, List.length_singleton]
        rw [split_words n (l.drop (o + 1)) (by simp; omega)]

end Go.Proofs.YtpihfgpgdjjfhaaDoor

/-
  Symbols and a comment behind a circuit: what is read. No program in sight.
-/
namespace Go.Proofs.YtpihfgpgdjjfhaaDoor
open Go.RowKit

structure Sym where
  kind : Nat
  idx : Nat
  name : ByteArray

structure Hd where
  bin : Bool
  m : Int
  i : Int
  l : Int
  o : Int
  a : Int
  b : Int
  c : Int

/-- how many there are of a kind -/
def cnt (h : Hd) (k : Nat) : Int := if k = 105 then h.i else if k = 108 then h.l else if k = 111 then h.o else if k = 98 then h.b else if k = 99 then h.c else 0

def isKind (k : Nat) : Prop := k = 105 ∨ k = 108 ∨ k = 111 ∨ k = 98 ∨ k = 99
instance (k : Nat) : Decidable (isKind k) := by unfold isKind; infer_instance

inductive SymR where
  | bad (p e : Nat)
  | ok (x : Sym) (next : Nat)

/-- the symbol of the line at a place -/
def symT (h : Hd) (s : ByteArray) (p : Nat) : SymR :=
  if ¬ isKind (bt s p) then .bad p 2
  else if (natN s (p + 1)).2.2 ≠ 0 then .bad (p + 1) (natN s (p + 1)).2.2
  else if cnt h (bt s p) ≤ (natN s (p + 1)).1 then .bad (p + 1) 5
  else if (natN s (p + 1)).2.1 = s.size then .bad (natN s (p + 1)).2.1 3
  else if bt s (natN s (p + 1)).2.1 ≠ 32 then .bad (natN s (p + 1)).2.1 2
  else if (lineT s ((natN s (p + 1)).2.1 + 1 : Nat)).2.2 ≠ 0 then .bad ((natN s (p + 1)).2.1 + 1) (lineT s ((natN s (p + 1)).2.1 + 1 : Nat)).2.2
  else if (lineT s ((natN s (p + 1)).2.1 + 1 : Nat)).1.size = 0 then .bad ((natN s (p + 1)).2.1 + 1) 2
  else if 64 < (lineT s ((natN s (p + 1)).2.1 + 1 : Nat)).1.size then .bad ((natN s (p + 1)).2.1 + 1) 4
  else .ok ⟨bt s p, (natN s (p + 1)).1, (lineT s ((natN s (p + 1)).2.1 + 1 : Nat)).1⟩ (lineT s ((natN s (p + 1)).2.1 + 1 : Nat)).2.1

def markAt (s : ByteArray) (p : Nat) : Prop := bt s p = 99 ∧ p + 1 < s.size ∧ bt s (p + 1) = 10
instance (s : ByteArray) (p : Nat) : Decidable (markAt s p) := by unfold markAt; infer_instance

def alike (x y : Sym) : Bool := x.kind == y.kind && x.idx == y.idx

structure TailR where
  l : List Sym
  c : ByteArray
  «to» : Nat
  e : Nat

def readR (h : Hd) (s : ByteArray) : Nat → List Sym → Nat → TailR
  | 0, L, _ => ⟨L, ⟨#[]⟩, s.size, 0⟩
  | f + 1, L, p =>
    if s.size ≤ p then ⟨L, ⟨#[]⟩, s.size, 0⟩
    else if markAt s p then ⟨L, s.extract (p + 2) s.size, s.size, 0⟩
    else match symT h s p with
      | .bad p' e => ⟨[], ⟨#[]⟩, p', e⟩
      | .ok x next => if L.any (fun y => alike y x) then ⟨[], ⟨#[]⟩, p, 7⟩ else readR h s f (L ++ [x]) next

/-- what is read from a place on -/
def readT (h : Hd) (s : ByteArray) (x : Int) : TailR := if x < 0 ∨ (s.size : Int) < x then ⟨[], ⟨#[]⟩, 0, 1⟩ else readR h s (s.size + 1) [] x.toNat

theorem natN_end {s : ByteArray} {p : Nat} (hp : p ≤ s.size) (h : (natN s p).2.2 = 0) : p < (natN s p).2.1 ∧ (natN s p).2.1 ≤ s.size ∧ (natN s p).1 < 1000000000 := by
  have h1 := endOf_ge s p
  have h2 := endOf_le hp
  unfold natN at h ⊢
  by_cases c1 : p = s.size
  · rw [if_pos c1] at h; simp at h
  · rw [if_neg c1] at h ⊢
    by_cases c2 : endOf s p = p ∨ bt s p = 48 ∧ p + 1 < endOf s p
    · rw [if_pos c2] at h; simp at h
    · rw [if_neg c2] at h ⊢
      by_cases c3 : 9 < endOf s p - p
      · rw [if_pos c3] at h; simp at h
      · rw [if_neg c3]
        refine ⟨by simp only; omega, h2, ?_⟩
        have hd : ∀ j, j < endOf s p - p → isDig s (p + j) := by
          intro j hj
          have : j < runL s (s.size - p) p := by unfold endOf at hj; omega
          exact runL_dig s _ p j this
        have := numb_lt (endOf s p - p) hd
        have h9 : 10 ^ (endOf s p - p) ≤ 10 ^ 9 := Nat.pow_le_pow_right (by decide) (by omega)
        simp only
        omega

theorem lineT_end {s : ByteArray} {p : Nat} (hp : p ≤ s.size) (h : (lineT s (p : Nat)).2.2 = 0) : p < (lineT s (p : Nat)).2.1 ∧ (lineT s (p : Nat)).2.1 ≤ s.size ∧ (lineT s (p : Nat)).1.size ≤ s.size := by
  unfold lineT at h ⊢
  rw [if_neg (by omega)] at h ⊢
  rw [Int.toNat_natCast] at h ⊢
  rcases feed_cases s p with ⟨i, hf, h1, h2, _⟩ | ⟨hf, _⟩
  · rw [hf]
    simp only
    refine ⟨by omega, by omega, ?_⟩
    rw [ByteArray.size_extract]
    omega
  · rw [hf] at h
    simp at h

theorem symT_ok {h : Hd} {s : ByteArray} {p : Nat} (hp : p < s.size) {x : Sym} {next : Nat} (e : symT h s p = .ok x next) : p < next ∧ next ≤ s.size ∧ x.kind < 256 ∧ x.idx < 1000000000 ∧ x.name.size ≤ 64 := by
  unfold symT at e
  by_cases c1 : ¬ isKind (bt s p)
  · rw [if_pos c1] at e; cases e
  rw [if_neg c1] at e
  by_cases c2 : (natN s (p + 1)).2.2 ≠ 0
  · rw [if_pos c2] at e; cases e
  rw [if_neg c2] at e
  have hn := natN_end (s := s) (p := p + 1) (by omega) (by simpa using c2)
  by_cases c3 : cnt h (bt s p) ≤ (natN s (p + 1)).1
  · rw [if_pos c3] at e; cases e
  rw [if_neg c3] at e
  by_cases c4 : (natN s (p + 1)).2.1 = s.size
  · rw [if_pos c4] at e; cases e
  rw [if_neg c4] at e
  by_cases c5 : bt s (natN s (p + 1)).2.1 ≠ 32
  · rw [if_pos c5] at e; cases e
  rw [if_neg c5] at e
  by_cases c6 : (lineT s ((natN s (p + 1)).2.1 + 1 : Nat)).2.2 ≠ 0
  · rw [if_pos c6] at e; cases e
  rw [if_neg c6] at e
  have hl := lineT_end (s := s) (p := (natN s (p + 1)).2.1 + 1) (by omega) (by simpa using c6)
  by_cases c7 : (lineT s ((natN s (p + 1)).2.1 + 1 : Nat)).1.size = 0
  · rw [if_pos c7] at e; cases e
  rw [if_neg c7] at e
  by_cases c8 : 64 < (lineT s ((natN s (p + 1)).2.1 + 1 : Nat)).1.size
  · rw [if_pos c8] at e; cases e
  rw [if_neg c8] at e
  injection e with e1 e2
  subst e1 e2
  exact ⟨by omega, hl.2.1, bt_lt _ _, hn.2.2, by simp only; omega⟩

section
variable {h : Hd} {s : ByteArray} {p n en er nx f : Nat} {nm : ByteArray}
theorem sym1 (c1 : isKind (bt s p)) (hN : natN s (p + 1) = (n, en, er)) (c2 : er ≠ 0) : symT h s p = .bad (p + 1) er := by
  unfold symT; rw [if_neg (by simpa using c1), hN, if_pos c2]
theorem sym2 (c1 : isKind (bt s p)) (hN : natN s (p + 1) = (n, en, er)) (c2 : er = 0) (c3 : cnt h (bt s p) ≤ n) : symT h s p = .bad (p + 1) 5 := by
  unfold symT; rw [if_neg (by simpa using c1), hN, if_neg (by simpa using c2), if_pos c3]
theorem sym3 (c1 : isKind (bt s p)) (hN : natN s (p + 1) = (n, en, er)) (c2 : er = 0) (c3 : ¬ cnt h (bt s p) ≤ n) (c4 : en = s.size) : symT h s p = .bad en 3 := by
  unfold symT; rw [if_neg (by simpa using c1), hN, if_neg (by simpa using c2), if_neg c3, if_pos c4]
theorem sym4 (c1 : isKind (bt s p)) (hN : natN s (p + 1) = (n, en, er)) (c2 : er = 0) (c3 : ¬ cnt h (bt s p) ≤ n) (c4 : ¬ en = s.size) (c5 : bt s en ≠ 32) : symT h s p = .bad en 2 := by
  unfold symT; rw [if_neg (by simpa using c1), hN, if_neg (by simpa using c2), if_neg c3, if_neg c4, if_pos c5]
theorem sym5 (c1 : isKind (bt s p)) (hN : natN s (p + 1) = (n, en, er)) (c2 : er = 0) (c3 : ¬ cnt h (bt s p) ≤ n) (c4 : ¬ en = s.size) (c5 : bt s en = 32) (hL : lineT s (en + 1 : Nat) = (nm, nx, f)) (c6 : f ≠ 0) : symT h s p = .bad (en + 1) f := by
  unfold symT; rw [if_neg (by simpa using c1), hN, if_neg (by simpa using c2), if_neg c3, if_neg c4, if_neg (by simpa using c5), hL, if_pos c6]
theorem sym6 (c1 : isKind (bt s p)) (hN : natN s (p + 1) = (n, en, er)) (c2 : er = 0) (c3 : ¬ cnt h (bt s p) ≤ n) (c4 : ¬ en = s.size) (c5 : bt s en = 32) (hL : lineT s (en + 1 : Nat) = (nm, nx, f)) (c6 : f = 0) (c7 : nm.size = 0) : symT h s p = .bad (en + 1) 2 := by
  unfold symT; rw [if_neg (by simpa using c1), hN, if_neg (by simpa using c2), if_neg c3, if_neg c4, if_neg (by simpa using c5), hL, if_neg (by simpa using c6), if_pos c7]
theorem sym7 (c1 : isKind (bt s p)) (hN : natN s (p + 1) = (n, en, er)) (c2 : er = 0) (c3 : ¬ cnt h (bt s p) ≤ n) (c4 : ¬ en = s.size) (c5 : bt s en = 32) (hL : lineT s (en + 1 : Nat) = (nm, nx, f)) (c6 : f = 0) (c7 : ¬ nm.size = 0) (c8 : 64 < nm.size) : symT h s p = .bad (en + 1) 4 := by
  unfold symT; rw [if_neg (by simpa using c1), hN, if_neg (by simpa using c2), if_neg c3, if_neg c4, if_neg (by simpa using c5), hL, if_neg (by simpa using c6), if_neg c7, if_pos c8]
theorem sym8 (c1 : isKind (bt s p)) (hN : natN s (p + 1) = (n, en, er)) (c2 : er = 0) (c3 : ¬ cnt h (bt s p) ≤ n) (c4 : ¬ en = s.size) (c5 : bt s en = 32) (hL : lineT s (en + 1 : Nat) = (nm, nx, f)) (c6 : f = 0) (c7 : ¬ nm.size = 0) (c8 : ¬ 64 < nm.size) : symT h s p = .ok ⟨bt s p, n, nm⟩ nx := by
  unfold symT; rw [if_neg (by simpa using c1), hN, if_neg (by simpa using c2), if_neg c3, if_neg c4, if_neg (by simpa using c5), hL, if_neg (by simpa using c6), if_neg c7, if_neg c8]
end

theorem readR_len (h : Hd) (s : ByteArray) : ∀ (f : Nat) (L : List Sym) (p : Nat), L.length ≤ p → p ≤ s.size → (readR h s f L p).l.length ≤ s.size
  | 0, L, p, hL, hp => by simp only [readR]; omega
  | f + 1, L, p, hL, hp => by
    unfold readR
    by_cases c1 : s.size ≤ p
    · rw [if_pos c1]; simp only; omega
    rw [if_neg c1]
    by_cases c2 : markAt s p
    · rw [if_pos c2]; simp only; omega
    rw [if_neg c2]
    cases hs : symT h s p with
    | bad p' e => simp
    | ok x next =>
      have h1 := symT_ok (by omega) hs
      simp only
      by_cases c3 : L.any (fun y => alike y x) = true
      · rw [if_pos c3]; simp
      · rw [if_neg c3]
        exact readR_len h s f _ next (by rw [List.length_append]; simp; omega) h1.2.1

theorem readT_len (h : Hd) (s : ByteArray) (x : Int) : (readT h s x).l.length ≤ s.size := by
  unfold readT
  by_cases c : x < 0 ∨ (s.size : Int) < x
  · rw [if_pos c]; simp
  · rw [if_neg c]; exact readR_len h s _ _ _ (by simp) (by omega)

end Go.Proofs.YtpihfgpgdjjfhaaDoor

/-
  Numerals: a number's digits, and the number that digits stand for, there and back. No program in sight.
-/
namespace Go.Proofs.YtpihfgpgdjjfhaaDoor
open Go.RowKit

theorem dd_one {u : Nat} (h : u < 10) : Lib.decDigits u = [UInt8.ofNat (48 + u)] := Lib.decDigits_one h
theorem dd_more {u : Nat} (h : ¬ u < 10) : Lib.decDigits u = Lib.decDigits (u / 10) ++ [UInt8.ofNat (48 + u % 10)] := by
  conv => lhs; rw [Lib.decDigits, dif_neg h]

theorem dd_byte {d : Nat} (h : d < 10) : (UInt8.ofNat (48 + d)).toNat = 48 + d := by
  rw [UInt8.toNat_ofNat']; omega

theorem dd_digit : ∀ (u : Nat), ∀ b ∈ Lib.decDigits u, 48 ≤ b.toNat ∧ b.toNat ≤ 57 := by
  intro u
  induction u using Nat.strongRecOn with
  | _ u ih =>
    intro b hb
    by_cases h : u < 10
    · rw [dd_one h] at hb
      simp only [List.mem_singleton] at hb
      subst hb
      rw [dd_byte h]; omega
    · rw [dd_more h] at hb
      rcases List.mem_append.1 hb with hb | hb
      · exact ih (u / 10) (by omega) b hb
      · simp only [List.mem_singleton] at hb
        subst hb
        rw [dd_byte (by omega)]; omega

theorem dd_pos (u : Nat) : 0 < (Lib.decDigits u).length := by
  by_cases h : u < 10
  · rw [dd_one h]; simp
  · rw [dd_more h]; simp

theorem dd_head : ∀ (u : Nat), 0 < u → ∃ b r, Lib.decDigits u = b :: r ∧ b.toNat ≠ 48 := by
  intro u
  induction u using Nat.strongRecOn with
  | _ u ih =>
    intro h0
    by_cases h : u < 10
    · exact ⟨_, [], dd_one h, by rw [dd_byte h]; omega⟩
    · obtain ⟨b, r, e, hb⟩ := ih (u / 10) (by omega) (by omega)
      exact ⟨b, r ++ [UInt8.ofNat (48 + u % 10)], by rw [dd_more h, e]; rfl, hb⟩

theorem dd_len : ∀ (k u : Nat), u < 10 ^ (k + 1) → (Lib.decDigits u).length ≤ k + 1
  | 0, u, h => by rw [dd_one (by simpa using h)]; simp
  | k + 1, u, h => by
    by_cases hu : u < 10
    · rw [dd_one hu]; simp
    · rw [dd_more hu]
      have := dd_len k (u / 10) (by rw [Nat.pow_succ] at h; omega)
      simp; omega

theorem decFrom_snoc : ∀ (l : List UInt8) (acc : Nat) (b : UInt8), Lib.decFrom acc (l ++ [b]) = match Lib.decFrom acc l with
    | some n => match Lib.digitVal b with
      | some d => some (n * 10 + d)
      | none => none
    | none => none
  | [], acc, b => by
    simp only [List.nil_append, Lib.decFrom]
    cases Lib.digitVal b <;> rfl
  | c :: l, acc, b => by
    rw [List.cons_append]
    simp only [Lib.decFrom]
    cases Lib.digitVal c with
    | none => rfl
    | some d => exact decFrom_snoc l _ b

theorem digitVal_of {d : Nat} (h : d < 10) : Lib.digitVal (UInt8.ofNat (48 + d)) = some d := by
  unfold Lib.digitVal
  rw [dd_byte h, if_pos ⟨by omega, by omega⟩, show 48 + d - 48 = d by omega]

theorem dd_from : ∀ (u : Nat), Lib.decFrom 0 (Lib.decDigits u) = some u := by
  intro u
  induction u using Nat.strongRecOn with
  | _ u ih =>
    by_cases h : u < 10
    · rw [dd_one h]
      simp only [Lib.decFrom, digitVal_of h]
      simp
    · rw [dd_more h, decFrom_snoc, ih (u / 10) (by omega), digitVal_of (by omega)]
      simp only [Option.some.injEq]; omega

theorem dd_inj {u v : Nat} (h : Lib.decDigits u = Lib.decDigits v) : u = v := by
  have := dd_from u
  rw [h, dd_from v] at this
  exact (Option.some.inj this).symm

/-- digits without a nought ahead are their number's numeral -/
theorem numb_dd {s : ByteArray} {i : Nat} : ∀ (k : Nat), i + (k + 1) ≤ s.size → (∀ j, j < k + 1 → isDig s (i + j)) → (k = 0 ∨ bt s i ≠ 48) →
    (s.data.toList.drop i).take (k + 1) = Lib.decDigits (numb s i (k + 1)) ∧ (bt s i ≠ 48 → 0 < numb s i (k + 1))
  | 0, hs, hd, _ => by
    have h := hd 0 (by omega)
    unfold isDig at h
    rw [Nat.add_zero] at h
    obtain ⟨b, hb, hb2⟩ := byte_at (s := s) (i := i) (by omega)
    simp only [numb, Nat.mul_zero, Nat.zero_add, Nat.add_zero]
    refine ⟨?_, fun h48 => by omega⟩
    rw [dd_one (by omega), show 48 + (bt s i - 48) = b.toNat by omega]
    obtain ⟨hi, hb3⟩ := List.getElem?_eq_some_iff.1 hb
    rw [List.drop_eq_getElem_cons hi, hb3]
    simp
  | k + 1, hs, hd, hz => by
    have h48 : bt s i ≠ 48 := by rcases hz with h | h; omega; exact h
    obtain ⟨h1, h2⟩ := numb_dd k (by omega) (fun j hj => hd j (by omega)) (.inr h48)
    have h2 := h2 h48
    have h := hd (k + 1) (by omega)
    unfold isDig at h
    obtain ⟨b, hb, hb2⟩ := byte_at (s := s) (i := i + (k + 1)) (by omega)
    have e : numb s i (k + 1 + 1) = 10 * numb s i (k + 1) + (bt s (i + (k + 1)) - 48) := rfl
    refine ⟨?_, fun _ => by omega⟩
    have hl : (s.data.toList.drop i)[k + 1]? = some b := by rw [List.getElem?_drop]; exact hb
    obtain ⟨hi, hb3⟩ := List.getElem?_eq_some_iff.1 hl
    rw [List.take_succ_eq_append_getElem hi, hb3, h1, dd_more (u := numb s i (k + 1 + 1)) (by omega), e,
      show (10 * numb s i (k + 1) + (bt s (i + (k + 1)) - 48)) / 10 = numb s i (k + 1) by omega,
      show 48 + (10 * numb s i (k + 1) + (bt s (i + (k + 1)) - 48)) % 10 = b.toNat by omega]
    simp

theorem endOf_dig {s : ByteArray} {i j : Nat} (h : j < endOf s i - i) : isDig s (i + j) := by
  have : j < runL s (s.size - i) i := by unfold endOf at h; omega
  exact runL_dig s _ i j this

/-- a number that is read is the digits' numeral -/
theorem dec_natN {s : ByteArray} {p v q : Nat} (hp : p ≤ s.size) (h : natN s p = (v, q, 0)) : p < q ∧ q ≤ s.size ∧ v < 1000000000 ∧ (s.data.toList.drop p).take (q - p) = Lib.decDigits v := by
  have h0 := natN_end hp (by rw [h])
  rw [h] at h0
  simp only at h0
  refine ⟨h0.1, h0.2.1, h0.2.2, ?_⟩
  unfold natN at h
  by_cases c1 : p = s.size
  · rw [if_pos c1] at h; simp at h
  rw [if_neg c1] at h
  by_cases c2 : endOf s p = p ∨ bt s p = 48 ∧ p + 1 < endOf s p
  · rw [if_pos c2] at h; simp at h
  rw [if_neg c2] at h
  by_cases c3 : 9 < endOf s p - p
  · rw [if_pos c3] at h; simp at h
  rw [if_neg c3] at h
  simp only [Prod.mk.injEq, and_true] at h
  obtain ⟨h1, h2⟩ := h
  rw [h2] at h1 c2
  have hd : ∀ j, j < q - p → isDig s (p + j) := fun j hj => endOf_dig (by rw [h2]; exact hj)
  obtain ⟨k, hk⟩ : ∃ k, q - p = k + 1 := ⟨q - p - 1, by omega⟩
  rw [hk] at h1 hd ⊢
  rw [← h1]
  exact (numb_dd k (by omega) hd (by omega)).1

/-- a numeral is read as its number -/
theorem natN_dec {s : ByteArray} {p u : Nat} (hu : u < 1000000000) (hp : p + (Lib.decDigits u).length ≤ s.size)
    (hs : (s.data.toList.drop p).take (Lib.decDigits u).length = Lib.decDigits u) (he : p + (Lib.decDigits u).length = s.size ∨ ¬ isDig s (p + (Lib.decDigits u).length)) :
    natN s p = (u, p + (Lib.decDigits u).length, 0) := by
  have hpos := dd_pos u
  have hlen : (Lib.decDigits u).length ≤ 9 := dd_len 8 u (by omega)
  obtain ⟨n, hn⟩ : ∃ n, (Lib.decDigits u).length = n := ⟨_, rfl⟩
  rw [hn] at hpos hlen hp hs he ⊢
  have hbyte : ∀ j b, (Lib.decDigits u)[j]? = some b → bt s (p + j) = b.toNat := by
    intro j b hb
    have hj : j < n := by rw [← hn]; exact (List.getElem?_eq_some_iff.1 hb).1
    rw [← hs, List.getElem?_take, if_pos hj, List.getElem?_drop] at hb
    obtain ⟨c, hc, hc2⟩ := byte_at (s := s) (i := p + j) (by omega)
    rw [hb] at hc
    rw [← hc2, Option.some.inj hc]
  have hd : ∀ j, j < n → isDig s (p + j) := by
    intro j hj
    have hj' : j < (Lib.decDigits u).length := by omega
    have := dd_digit u _ (List.getElem_mem hj')
    have hb := hbyte j _ (List.getElem?_eq_getElem hj')
    unfold isDig
    rw [hb]; exact this
  have hend : endOf s p = p + n := endOf_is (by omega) hp (fun k h1 h2 => by have := hd (k - p) (by omega); rwa [show p + (k - p) = k by omega] at this) he
  unfold natN
  rw [if_neg (by omega), hend, if_neg ?_, if_neg (by omega), show p + n - p = n by omega]
  · have h1 := word_dec (s := s) (i := p) n hp hd
    rw [hs, dd_from] at h1
    rw [← Option.some.inj h1]
  · rintro (h | ⟨h1, h2⟩)
    · omega
    · have hu10 : ¬ u < 10 := by intro h; rw [dd_one h] at hn; simp at hn; omega
      obtain ⟨b, r, e, hb⟩ := dd_head u (by omega)
      have := hbyte 0 b (by rw [e]; rfl)
      rw [Nat.add_zero] at this
      omega

theorem itoa_nat (u : Nat) : Lib.itoa (u : Int) = Lib.decDigits u := by unfold Lib.itoa; rw [if_neg (by omega), Int.toNat_natCast]

end Go.Proofs.YtpihfgpgdjjfhaaDoor
