/-
  Plain vocabulary for walks: what a block holds, and which blocks a call may have turned. No program in sight.
-/
import Derived.WalkKit
import Derived.WalkSpells
import Derived.WalkLawsBesides
import Derived.Lib.Hide
import Derived.Laws.AppendOwnNone
import Derived.Laws.BitsAllLaws
import Derived.Lib.Atoi
import Derived.Lib.Strings
import Derived.Lib.SplitLaws
import Derived.Lib.IndexBytes
import Derived.Lib.IndexLaws
import Derived.Test.YtkgmiclmpfahlaaDoorRows
import Derived.Shelf.Strings.Builder1
import Derived.Shelf.Strings.Builder2
import Derived.Shelf.Strings.OnBuilder
import Derived.Shelf.Small.Strs
import Derived.Shelf.Small.Wraps
import Derived.Shelf.Strconv.Atoi
import Derived.Shelf.Strconv.Itoa0
import Derived.Shelf.Strconv.Itoa1
import Derived.Shelf.LaysM
import Derived.Shelf.Strconv.Itoa2
import Derived.Shelf.Strconv.Itoa3
import Derived.Shelf.Strings.Search1
import Derived.Shelf.Strings.Search2
import Derived.Shelf.Strings.Search3
import Derived.Shelf.Strings.Count
import Derived.Shelf.Strings.Shaped
import Derived.Shelf.Strings.Prefix
import Derived.Shelf.Strings.Split
import Derived.Shelf.Unicode.DecodeSlow
import Derived.Test.YtkgmiclmpfahlaaDoorProg
import Derived.Deep.QuietTactic
import Derived.BigQuiet
import Derived.WalkSmall
import Derived.Deep.RegionWith
import Derived.Lib.ItoaNum
namespace Go.Proofs.YtkgmiclmpfahlaaDoor
open Go.RowKit

/-- block b of w is a plain row of cells -/
def Blk (w : World) (b : Nat) (c : Array Value) (t : TypeId) : Prop := w.heap[b]? = some (.cells c t (0, 0))

/-- w' is w with new blocks, and with writes to blocks of S alone -/
structure Kp (S : Nat → Prop) (w w' : World) : Prop where
  os : w'.os = w.os
  tape : w'.tape = w.tape
  output : w'.output = w.output
  size : w.heap.size ≤ w'.heap.size
  block : ∀ k, k < w.heap.size → ¬ S k → w'.heap[k]? = w.heap[k]?

theorem Kp.refl (S : Nat → Prop) (w : World) : Kp S w w := ⟨rfl, rfl, rfl, Nat.le_refl _, fun _ _ _ => rfl⟩

theorem Kp.trans {S T : Nat → Prop} {a b c : World} (h : Kp S a b) (k : Kp T b c) (hT : ∀ i, i < a.heap.size → T i → S i) : Kp S a c :=
  ⟨k.os.trans h.os, k.tape.trans h.tape, k.output.trans h.output, Nat.le_trans h.size k.size,
    fun i hi hS => (k.block i (Nat.lt_of_lt_of_le hi h.size) (fun ht => hS (hT i hi ht))).trans (h.block i hi hS)⟩

theorem Kp.mono {S T : Nat → Prop} {w w' : World} (h : Kp S w w') (hs : ∀ i, i < w.heap.size → S i → T i) : Kp T w w' :=
  ⟨h.os, h.tape, h.output, h.size, fun i hi ht => h.block i hi (fun s => ht (hs i hi s))⟩

theorem Kp.drew {S : Nat → Prop} {a w : World} (h : Kp S a w) : Kp S a w.drew := ⟨h.os, h.tape, h.output, h.size, h.block⟩

theorem Kp.drewN {S : Nat → Prop} {a w : World} (h : Kp S a w) (n : Nat) : Kp S a (w.drewN n) := ⟨h.os, h.tape, h.output, h.size, h.block⟩

theorem Kp.alloc {S : Nat → Prop} {a w : World} (h : Kp S a w) (o : Obj) : Kp S a (w.alloc o) :=
  ⟨h.os, h.tape, h.output, Nat.le_trans h.size (by simp), fun k hk hS => (Below.heap_alloc w o k (Nat.lt_of_lt_of_le hk h.size)).trans (h.block k hk hS)⟩

theorem Kp.setCell {S : Nat → Prop} {a w : World} (h : Kp S a w) {p : Addr} (hp : p.block < a.heap.size → S p.block) (u : Value) : Kp S a (w.setCell p u) :=
  ⟨h.os, h.tape, h.output, by rw [show (w.setCell p u).heap.size = w.heap.size from by simp [World.setCell]]; exact h.size,
    fun k hk hS => (Below.heap_setCell w p u k (fun e => hS (by subst e; exact hp hk))).trans (h.block k hk hS)⟩

theorem Kp.set (w : World) (p : Addr) (u : Value) : Kp (· = p.block) w (w.setCell p u) := (Kp.refl (· = p.block) w).setCell (p := p) (fun _ => rfl) u

theorem Kp.grown {S : Nat → Prop} {a w w' : World} {row : Option Nat} (h : Kp S a w) (hg : w.grownBy w' row) (hr : ∀ k, row = some k → k < a.heap.size → S k) : Kp S a w' :=
  ⟨hg.os.trans h.os, hg.tape.trans h.tape, hg.output.trans h.output, Nat.le_trans h.size hg.size,
    fun k hk hS => (hg.block k (Nat.lt_of_lt_of_le hk h.size) (fun e => hS (hr k e.symm hk))).trans (h.block k hk hS)⟩

theorem Kp.below {S : Nat → Prop} {w w' : World} (h : Kp S w w') {B : Nat} (hB : B ≤ w.heap.size) (hS : ∀ k, k < B → ¬ S k) : Below B w w' :=
  ⟨h.os, h.tape, h.output, h.size, fun k hk => h.block k (by omega) (hS k hk)⟩

theorem Kp.of_below {w w' : World} (h : Below w.heap.size w w') (S : Nat → Prop) : Kp S w w' :=
  ⟨h.os, h.tape, h.output, h.size, fun k hk _ => h.block k hk⟩

section
variable {w w' : World} {b : Nat} {c : Array Value} {t : TypeId}

theorem Blk.lt (h : Blk w b c t) : b < w.heap.size := (Array.getElem?_eq_some_iff.1 h).1

theorem Blk.kp {S : Nat → Prop} (h : Blk w b c t) (k : Kp S w w') (hS : ¬ S b) : Blk w' b c t := (k.block b h.lt hS).trans h

theorem Blk.drew (h : Blk w b c t) : Blk w.drew b c t := h
theorem Blk.drewN (h : Blk w b c t) (n : Nat) : Blk (w.drewN n) b c t := h

theorem Blk.alloc (h : Blk w b c t) (o : Obj) : Blk (w.alloc o) b c t := (Below.heap_alloc w o b h.lt).trans h

theorem Blk.new (w : World) (c : Array Value) (t : TypeId) : Blk (w.alloc (.cells c t)) w.heap.size c t := heap_alloc_new w _

theorem Blk.cell (h : Blk w b c t) {i : Nat} {v : Value} (hi : c[i]? = some v) : w.cell? ⟨b, i, none⟩ = some v :=
  (cell_of_row w b i c t (0, 0) h).trans hi

theorem Blk.free (h : Blk w b c t) (i : Nat) : w.frozen? ⟨b, i, none⟩ = false := by
  unfold World.frozen?
  show (match w.heap[b]? with | some (.cells _ _ (lo, hi)) => decide (lo ≤ i) && decide (i < hi) | _ => false) = false
  rw [show w.heap[b]? = some (.cells c t (0, 0)) from h]
  simp

theorem Blk.set_same (h : Blk w b c t) (i : Nat) (v : Value) : Blk (w.setCell ⟨b, i, none⟩ v) b (c.setIfInBounds i v) t := by
  have hlt := h.lt
  unfold Blk at h ⊢
  simp only [World.setCell, Array.getElem?_modify, if_true, h, Option.map_some]
  rfl

theorem Blk.set_other (h : Blk w b c t) {p : Addr} (hp : b ≠ p.block) (v : Value) : Blk (w.setCell p v) b c t :=
  (Below.heap_setCell w p v b hp).trans h
end

theorem cell_after_set {w : World} {p q : Addr} {v : Value} (x : Value) (h : w.cell? q = some v) : ∃ v', ((w.setCell p x).drew).cell? q = some v' := by
  by_cases e : p = q
  · subst e; exact ⟨x, World.cell?_setCell_same w p x h⟩
  · exact ⟨v, (World.cell?_setCell_other w p q x e).trans h⟩

/-- the int at a place (closed to simp) -/
def gi (l : List Int) (k : Nat) : Int := l[k]?.getD 0

/-- a row of ints -/
def ints (l : List Int) : Array Value := (l.map (Value.int .i64)).toArray

theorem ints_get (l : List Int) (i : Nat) : (ints l)[i]? = (l[i]?).map (Value.int .i64) := by simp [ints]
theorem ints_at {l : List Int} {i : Nat} (h : i < l.length) : (ints l)[i]? = some (.int .i64 (gi l i)) := by
  rw [ints_get, List.getElem?_eq_getElem h]; simp [gi, List.getElem?_eq_getElem h]
theorem ints_set (l : List Int) (i : Nat) (x : Int) : (ints l).setIfInBounds i (.int .i64 x) = ints (l.set i x) := by
  simp [ints, List.map_set]
theorem ints_size (l : List Int) : (ints l).size = l.length := by simp [ints]

/-- place j of the row at a holds u -/
def Elem (w : World) (a : Option Addr) (j : Nat) (u : Value) : Prop := ∃ b off, a = some ⟨b, off, none⟩ ∧ w.cell? ⟨b, off + j, none⟩ = some u

/-- the row at a reads cs -/
def RowAt (w : World) (a : Option Addr) (cs : List Value) : Prop := ∀ j u, cs[j]? = some u → Elem w a j u

/-- the row at a reads the ints l -/
def IntsAt (w : World) (a : Option Addr) (l : List Int) : Prop := RowAt w a (l.map (Value.int .i64))

theorem IntsAt.get {w : World} {a : Option Addr} {l : List Int} (h : IntsAt w a l) {j : Nat} (hj : j < l.length) : Elem w a j (.int .i64 (gi l j)) :=
  h j _ (by simp [gi, List.getElem?_eq_getElem hj])

theorem RowAt.nil (w : World) (a : Option Addr) : RowAt w a [] := fun j u h => by simp at h

theorem Elem.kp {S : Nat → Prop} {w w' : World} {a : Option Addr} {j : Nat} {u : Value} (h : Elem w a j u) (k : Kp S w w') (hS : ∀ p, a = some p → ¬ S p.block) : Elem w' a j u := by
  obtain ⟨b, off, rfl, hc⟩ := h
  have hlt : b < w.heap.size := World.block_lt_of_cell? w _ hc
  exact ⟨b, off, rfl, (World.cell?_of_block (w := w) (w' := w') (a := ⟨b, off + j, none⟩) (k.block b hlt (hS _ rfl))).trans hc⟩

theorem RowAt.kp {S : Nat → Prop} {w w' : World} {a : Option Addr} {cs : List Value} (h : RowAt w a cs) (k : Kp S w w') (hS : ∀ p, a = some p → ¬ S p.block) : RowAt w' a cs :=
  fun j u hu => (h j u hu).kp k hS

theorem RowAt.drewN {w : World} {a : Option Addr} {cs : List Value} (h : RowAt w a cs) (n : Nat) : RowAt (w.drewN n) a cs := h

theorem Blk.rowAt {w : World} {b : Nat} {c : Array Value} {t : TypeId} (h : Blk w b c t) {off n : Nat} {cs : List Value} (hc : (c.toList.drop off).take n = cs) : RowAt w (some ⟨b, off, none⟩) cs := by
  intro j u hu
  refine ⟨b, off, rfl, h.cell ?_⟩
  subst hc
  rw [List.getElem?_take] at hu
  split at hu
  · rw [List.getElem?_drop] at hu; simpa using hu
  · cases hu

theorem Blk.intsAt {w : World} {b : Nat} {l : List Int} {t : TypeId} (h : Blk w b (ints l) t) : IntsAt w (some ⟨b, 0, none⟩) l :=
  h.rowAt (n := l.length) (by simp [ints]; exact List.take_of_length_le (by simp))

/-- v owns the row cs: a slice of one-cell elements of type e that begins a block from base on -/
def Own (w : World) (base : Nat) (e : TypeId) (v : Value) (cs : List Value) : Prop := w.ownsRow base e 1 v cs.length cs

section
variable {w w' : World} {base : Nat} {e : TypeId} {v : Value} {cs : List Value}

theorem Own.nil (w : World) (base : Nat) (e : TypeId) : Own w base e (.slice none 0 0) [] := World.ownsRow_nil _ _ _ _

theorem Own.form (h : Own w base e v cs) : ∃ a cap, v = .slice a cs.length cap ∧ cs.length ≤ cap ∧ cap ≤ maxLen ∧ (∀ p, a = some p → ∃ g, p = ⟨g, 0, none⟩ ∧ base ≤ g ∧ g < w.heap.size) ∧ RowAt w a cs := by
  rcases h.2 with ⟨rfl, hn⟩ | ⟨g, cap, cur, rfl, hb, hg, hnc, hcm, hcs, htake⟩
  · refine ⟨none, 0, by rw [hn], by omega, by simp [maxLen], fun p hp => by simp at hp, ?_⟩
    have : cs = [] := List.eq_nil_of_length_eq_zero hn
    subst this
    exact RowAt.nil _ _
  · refine ⟨_, cap, rfl, hnc, hcm, fun p hp => ⟨g, by simpa using hp.symm, hb, (Array.getElem?_eq_some_iff.1 hg).1⟩, ?_⟩
    have hB : Blk w g cur e := hg
    exact hB.rowAt (off := 0) (n := cs.length * 1) (by simpa using htake)

theorem Own.kp {S : Nat → Prop} (h : Own w base e v cs) (k : Kp S w w') (hS : ∀ j, v.ownBlock = some j → ¬ S j) : Own w' base e v cs := by
  refine ⟨h.1, ?_⟩
  rcases h.2 with hn | ⟨g, cap, cur, rfl, hb, hgg, rest⟩
  · exact .inl hn
  · refine .inr ⟨g, cap, cur, rfl, hb, ?_, rest⟩
    rw [k.block g (Array.getElem?_eq_some_iff.1 hgg).1 (hS g rfl)]
    exact hgg

theorem Own.mono {b' : Nat} (h : Own w base e v cs) (hb : b' ≤ base) : Own w b' e v cs := by
  refine ⟨h.1, ?_⟩
  rcases h.2 with hn | ⟨g, cap, cur, rfl, hg, hgg, rest⟩
  · exact .inl hn
  · exact .inr ⟨g, cap, cur, rfl, by omega, hgg, rest⟩

theorem Own.lt (h : Own w base e v cs) : ∀ k, v.ownBlock = some k → base ≤ k ∧ k < w.heap.size := World.ownsRow.lt h

/-- a slice that owns something leads somewhere -/
theorem Own.leads (h : Own w base e v cs) (hc : 0 < cs.length) : ∃ g cap, v = .slice (some ⟨g, 0, none⟩) cs.length cap ∧ base ≤ g ∧ g < w.heap.size := by
  rcases h.2 with ⟨rfl, hn⟩ | ⟨g, cap, cur, rfl, hb, hg, _⟩
  · omega
  · exact ⟨g, cap, rfl, hb, (Array.getElem?_eq_some_iff.1 hg).1⟩

theorem Own.cell {g n cap : Nat} (h : Own w base e (.slice (some ⟨g, 0, none⟩) n cap) cs) {j : Nat} {u : Value} (hj : cs[j]? = some u) : w.cell? ⟨g, j, none⟩ = some u := by
  have hl : j < cs.length := by
    rcases Nat.lt_or_ge j cs.length with h | h
    · exact h
    · rw [List.getElem?_eq_none h] at hj; cases hj
  have hn : n = cs.length := by
    obtain ⟨a, c, e, _⟩ := h.form
    simp only [Value.slice.injEq] at e
    exact e.2.1
  subst hn
  rw [World.ownsRow.cellAt (show w.ownsRow base e 1 _ _ _ from h) j (by omega), hj]

theorem Own.free {g n cap : Nat} (h : Own w base e (.slice (some ⟨g, 0, none⟩) n cap) cs) (j : Nat) : w.frozen? ⟨g, j, none⟩ = false := by
  have hn : n = cs.length := by
    obtain ⟨a, c, e, _⟩ := h.form
    simp only [Value.slice.injEq] at e
    exact e.2.1
  subst hn
  exact World.ownsRow.frozenAt (show w.ownsRow base e 1 _ _ _ from h) j

theorem Own.set {g n cap : Nat} (h : Own w base e (.slice (some ⟨g, 0, none⟩) n cap) cs) (j : Nat) (u : Value) :
    Own (w.setCell ⟨g, j, none⟩ u) base e (.slice (some ⟨g, 0, none⟩) n cap) (cs.set j u) := by
  have hn : n = cs.length := by
    obtain ⟨a, c, e, _⟩ := h.form
    simp only [Value.slice.injEq] at e
    exact e.2.1
  subst hn
  have := (World.ownsRow.stored (show w.ownsRow base e 1 _ _ _ from h) j u).1
  unfold Own
  rw [List.length_set]
  exact this

theorem Own.set_other (h : Own w base e v cs) {p : Addr} (hp : ∀ j, v.ownBlock = some j → j ≠ p.block) (u : Value) : Own (w.setCell p u) base e v cs :=
  h.kp (Kp.set w p u) (fun j hj e => hp j hj e)

theorem Own.drew (h : Own w base e v cs) : Own w.drew base e v cs := h
theorem Own.drewN (h : Own w base e v cs) (n : Nat) : Own (w.drewN n) base e v cs := h
theorem Own.alloc (h : Own w base e v cs) (o : Obj) : Own (w.alloc o) base e v cs := World.ownsRow.alloc h o
end

/-- 'append(v, u)': v owns cs; the new element lies at ad -/
theorem wpList_append1 {P : Program} {w : World} {ops : Array Oper} {rest : List Oper} {o : Oper} {a : Act} {Q : Exit → Act → World → Prop} (hgd : o.guard = none) (s x : Operand) (t e : TypeId)
    (ho : o.op = .call { callee := .builtin .append, args := #[s, x], argTypes := #[t, t] }) {z : Value} {bytes : Nat}
    (ht : P.underlying t = some (.slice e)) (hI : (P.info? e).map (fun i => (i.zero, i.size, i.bytes)) = some (some z, 1, bytes)) (hzs : z.cells.size = 1)
    {base : Nat} {v : Value} {cs : List Value} (hown : Own w base e v cs) (hs : a.eval s = v) (ad : Addr) (u : Value) (hx : a.eval x = .slice (some ad) 1 1) (hnew : w.cell? ad = some u) (h1 : u.oneCell' = true)
    (hbytes : (cs.length + 1) * bytes ≤ 140737488355328) (hm : cs.length + 1 ≤ maxLen) (hbase : base ≤ w.heap.size)
    (h : ∀ v' w', Own w' base e v' (cs ++ [u]) → w.grownBy w' v.ownBlock → wpList P ops Q rest (a.put o.dst v') w') : wpList P ops Q (o :: rest) a w := by
  obtain ⟨i0, hi, hz0, hz1, hz2⟩ := info_parts hI
  refine wpList_append_own _ hgd s x t ho base e i0 z 1 bytes ht hi hz0 hz1 hz2 hzs (by decide) v cs.length cs hs hown ad 1 1 [u] hx rfl ?_ ?_ hm hbytes hbase ?_
  · intro j u' hj
    match j, hj with
    | 0, hj =>
      have : ad.add 0 = ad := by unfold Addr.add; split <;> simp_all
      simp at hj
      rw [this, ← hj]; exact hnew
  · intro u' hu; simp at hu; subst hu; exact h1
  · intro v' w' h2 h3 _
    exact h v' w' (by unfold Own; rw [List.length_append]; exact h2) h3

theorem add_plain' (b off n : Nat) : (⟨b, off, none⟩ : Addr).add n = ⟨b, off + n, none⟩ := by
  unfold Addr.add
  split <;> simp_all

/-- 'append(v, xs...)': v owns cs; the source reads news -/
theorem wpList_appendAll {P : Program} {w : World} {ops : Array Oper} {rest : List Oper} {o : Oper} {a : Act} {Q : Exit → Act → World → Prop} (hgd : o.guard = none) (s x : Operand) (t e : TypeId)
    (ho : o.op = .call { callee := .builtin .append, args := #[s, x], argTypes := #[t, t] }) {z : Value} {bytes : Nat}
    (ht : P.underlying t = some (.slice e)) (hI : (P.info? e).map (fun i => (i.zero, i.size, i.bytes)) = some (some z, 1, bytes)) (hzs : z.cells.size = 1)
    {base : Nat} {v : Value} {cs : List Value} (hown : Own w base e v cs) (hs : a.eval s = v) (src : Option Addr) (m c : Nat) (news : List Value) (hx : a.eval x = .slice src m c) (hm : news.length = m) (hrow : RowAt w src news) (hnil : src = none → c = 0) (h1 : ∀ u ∈ news, u.oneCell' = true)
    (hbytes : (cs.length + m) * bytes ≤ 140737488355328) (hml : cs.length + m ≤ maxLen) (hbase : base ≤ w.heap.size)
    (h : ∀ v' w', Own w' base e v' (cs ++ news) → w.grownBy w' v.ownBlock → wpList P ops Q rest (a.put o.dst v') w') : wpList P ops Q (o :: rest) a w := by
  obtain ⟨i0, hi, hz0, hz1, hz2⟩ := info_parts hI
  cases src with
  | none =>
    have hn : news = [] := by
      cases news with
      | nil => rfl
      | cons u r => obtain ⟨_, _, h, _⟩ := hrow 0 u rfl; cases h
    subst hn
    have hm0 : m = 0 := by simpa using hm.symm
    subst hm0
    rw [hnil rfl] at hx
    refine wpList_append_own_none hgd s x t ho base e i0 1 ht hi v cs.length cs hs hown hx ?_
    exact h v w (by rw [List.append_nil]; exact hown) ⟨rfl, rfl, rfl, Nat.le_refl _, fun _ _ _ => rfl⟩
  | some ad =>
    refine wpList_append_own _ hgd s x t ho base e i0 z 1 bytes ht hi hz0 hz1 hz2 hzs (by decide) v cs.length cs hs hown ad m c news hx (by omega) ?_ h1 hml hbytes hbase ?_
    · intro j u hj
      obtain ⟨b, off, hab, hc⟩ := hrow j u hj
      simp only [Option.some.injEq] at hab
      subst hab
      rw [add_plain']
      exact hc
    · intro v' w' h2 h3 _
      exact h v' w' (by unfold Own; rw [List.length_append, hm]; exact h2) h3

/-- a slice of ints that came in -/
def IntsArg (w : World) (v : Value) : Prop :=
  ∃ (a : Option Addr) (len cap : Nat) (l : List Int), v = .slice a len cap ∧ l.length = len ∧ len ≤ cap ∧ cap ≤ maxLen ∧ (a = none → cap = 0) ∧ IntsAt w a l ∧ ∀ x ∈ l, -9223372036854775808 ≤ x ∧ x ≤ 9223372036854775807

theorem RowAt.take {w : World} {a : Option Addr} {cs : List Value} (h : RowAt w a cs) (m : Nat) : RowAt w a (cs.take m) := by
  intro j u hu
  rw [List.getElem?_take] at hu
  split at hu
  · exact h j u hu
  · cases hu

end Go.Proofs.YtkgmiclmpfahlaaDoor

/-
  Layer 1 in plain words: bytes of a string, the number at a place.
-/
namespace Go.Proofs.YtkgmiclmpfahlaaDoor
open Go.RowKit

/-- the byte at a place -/
def bt (s : ByteArray) (i : Nat) : Nat := if h : i < s.size then (s[i]'h).toNat else 0

theorem bt_eq {s : ByteArray} {i : Nat} (h : i < s.size) : (s[i]'h).toNat = bt s i := by simp [bt, h]
theorem bt_lt (s : ByteArray) (i : Nat) : bt s i < 256 := by
  unfold bt
  split
  · exact UInt8.toNat_lt _
  · decide

/-- the number at a place, by digits of seven bits: r rounds are left, k are done, n is what they came to -/
def getR (s : ByteArray) (at_ : Nat) : Nat → Nat → Nat → Nat × Nat × Nat
  | 0, _, _ => (0, 0, 5)
  | r + 1, k, n =>
    if at_ + k = s.size then (0, 0, 3)
    else if k = 4 ∧ 15 < bt s (at_ + k) then (0, 0, 5)
    else if 0 < k ∧ bt s (at_ + k) = 0 then (0, 0, 2)
    else if bt s (at_ + k) < 128 then (n + bt s (at_ + k) % 128 * 128 ^ k, at_ + k + 1, 0)
    else getR s at_ r (k + 1) (n + bt s (at_ + k) % 128 * 128 ^ k)

def getN (s : ByteArray) (at_ : Nat) : Nat × Nat × Nat := getR s at_ 5 0 0

/-- what Get tells, of any place -/
def getT (s : ByteArray) (x : Int) : Nat × Nat × Nat := if x < 0 ∨ (s.size : Int) < x then (0, 0, 1) else getN s x.toNat

theorem nat_or_add {n k y : Nat} (h : n < 2 ^ k) : n ||| (y * 2 ^ k) = n + y * 2 ^ k := by
  have h1 := Nat.two_pow_add_eq_or_of_lt h y
  rw [Nat.or_comm, Nat.mul_comm y, ← h1]
  omega

theorem or_u32 {n y : Nat} (hn : n < 4294967296) (hy : y < 4294967296) : bits .or .u32 (n : Int) (y : Int) = ((n ||| y : Nat) : Int) := Go.u32_or_nat n y hn hy

theorem and_127 (b : Nat) (h : b < 256) : bits .and .u8 (b : Int) 127 = ((b % 128 : Nat) : Int) := by
  have h1 := Go.u8_and_nat b 127 h (by decide)
  have h2 : b &&& 127 = b % 128 := by
    have := Nat.and_two_pow_sub_one_eq_mod b 7
    simpa using this
  rw [h2] at h1
  exact h1

theorem pow_128 (k : Nat) : 128 ^ k = 2 ^ (7 * k) := by rw [Nat.pow_mul]

/-- one digit is put to the number -/
theorem digit_step {n c k : Nat} (hn : n < 128 ^ k) (hc : c * 128 ^ k < 4294967296) (hk : 128 ^ k ≤ 4294967296) :
    bits .or .u32 (n : Int) (((c : Nat) : Int) % 4294967296 * 2 ^ (7 * k) % 4294967296) = ((n + c * 128 ^ k : Nat) : Int) := by
  have e1 : (((c : Nat) : Int) % 4294967296 * 2 ^ (7 * k) % 4294967296) = ((c * 128 ^ k : Nat) : Int) := by
    have hc' : c < 4294967296 := by
      have : c * 1 ≤ c * 128 ^ k := Nat.mul_le_mul_left c (Nat.pos_of_ne_zero (by simp))
      omega
    rw [pow_128] at hc ⊢
    rw [show ((c : Nat) : Int) % 4294967296 = (c : Int) from Int.emod_eq_of_lt (by omega) (by omega)]
    have : ((c : Nat) : Int) * 2 ^ (7 * k) = ((c * 2 ^ (7 * k) : Nat) : Int) := by simp
    rw [this]
    generalize c * 2 ^ (7 * k) = z at hc
    omega
  rw [e1, or_u32 (by omega) hc]
  rw [pow_128] at hn ⊢
  rw [nat_or_add hn]

theorem digit_step2 {n B k : Nat} (hn : n < 128 ^ k) (hc : B % 128 * 128 ^ k < 4294967296) (hk : 128 ^ k ≤ 4294967296) :
    bits .or .u32 (n : Int) ((B : Int) % 128 * 2 ^ (7 * k) % 4294967296) = ((n + B % 128 * 128 ^ k : Nat) : Int) := by
  have h := digit_step hn hc hk
  rw [← h]
  congr 3
  omega

end Go.Proofs.YtkgmiclmpfahlaaDoor

/-
  Layer 1 in plain words: the number whose digits stand at a place.
-/
namespace Go.Proofs.YtkgmiclmpfahlaaDoor
open Go.RowKit

/-- whether the byte at a place is a digit -/
def isDig (s : ByteArray) (i : Nat) : Prop := 48 ≤ bt s i ∧ bt s i ≤ 57

/-- how many digits stand from a place on -/
def runL (s : ByteArray) : Nat → Nat → Nat
  | 0, _ => 0
  | f + 1, i => if 48 ≤ bt s i ∧ bt s i ≤ 57 then runL s f (i + 1) + 1 else 0

def endOf (s : ByteArray) (i : Nat) : Nat := i + runL s (s.size - i) i

theorem runL_le (s : ByteArray) (f : Nat) : ∀ i, runL s f i ≤ f := by
  induction f with
  | zero => intro i; simp [runL]
  | succ f ih => intro i; simp only [runL]; split; (have := ih (i + 1); omega); omega

theorem runL_dig (s : ByteArray) (f : Nat) : ∀ i j, j < runL s f i → isDig s (i + j) := by
  induction f with
  | zero => intro i j h; simp [runL] at h
  | succ f ih =>
    intro i j h
    simp only [runL] at h
    split at h
    · rename_i hd
      cases j with
      | zero => exact hd
      | succ j => have := ih (i + 1) j (by omega); rw [show i + (j + 1) = i + 1 + j from by omega]; exact this
    · omega

theorem runL_stop (s : ByteArray) (f : Nat) : ∀ i, runL s f i < f → ¬ isDig s (i + runL s f i) := by
  induction f with
  | zero => intro i h; omega
  | succ f ih =>
    intro i h
    simp only [runL] at h ⊢
    split
    · rename_i hd
      rw [if_pos hd] at h
      have := ih (i + 1) (by omega)
      rw [show i + (runL s f (i + 1) + 1) = i + 1 + runL s f (i + 1) from by omega]
      exact this
    · rename_i hd; rw [Nat.add_zero]; exact hd

theorem endOf_ge (s : ByteArray) (i : Nat) : i ≤ endOf s i := by unfold endOf; omega
theorem endOf_le {s : ByteArray} {i : Nat} (h : i ≤ s.size) : endOf s i ≤ s.size := by
  have := runL_le s (s.size - i) i
  unfold endOf; omega

/-- where digits stand up to j and none at j, j is the end -/
theorem endOf_is {s : ByteArray} {i j : Nat} (hij : i ≤ j) (hj : j ≤ s.size) (h : ∀ k, i ≤ k → k < j → isDig s k) (hs : j = s.size ∨ ¬ isDig s j) : endOf s i = j := by
  have h1 := runL_le s (s.size - i) i
  unfold endOf
  rcases Nat.lt_trichotomy (i + runL s (s.size - i) i) j with h2 | h2 | h2
  · exact absurd (h _ (by omega) h2) (runL_stop s (s.size - i) i (by omega))
  · exact h2
  · have := runL_dig s (s.size - i) i (j - i) (by omega)
    rw [show i + (j - i) = j from by omega] at this
    rcases hs with e | e
    · omega
    · exact absurd this e

/-- the number of k digits -/
def numb (s : ByteArray) (i : Nat) : Nat → Nat
  | 0 => 0
  | k + 1 => 10 * numb s i k + (bt s (i + k) - 48)

theorem numb_lt {s : ByteArray} {i : Nat} (k : Nat) (h : ∀ j, j < k → isDig s (i + j)) : numb s i k < 10 ^ k := by
  induction k with
  | zero => simp [numb]
  | succ k ih =>
    have h1 := ih (fun j hj => h j (by omega))
    have h2 := h k (by omega)
    unfold isDig at h2
    simp only [numb]
    rw [Nat.pow_succ]
    omega

def natN (s : ByteArray) (i : Nat) : Nat × Nat × Nat :=
  if i = s.size then (0, 0, 3)
  else if endOf s i = i ∨ bt s i = 48 ∧ i + 1 < endOf s i then (0, 0, 2)
  else if 9 < endOf s i - i then (0, 0, 5)
  else (numb s i (endOf s i - i), endOf s i, 0)

def natT (s : ByteArray) (x : Int) : Nat × Nat × Nat := if x < 0 ∨ (s.size : Int) < x then (0, 0, 1) else natN s x.toNat

theorem byte_at {s : ByteArray} {i : Nat} (h : i < s.size) : ∃ b : UInt8, s.data.toList[i]? = some b ∧ b.toNat = bt s i := by
  refine ⟨s[i]'h, ?_, bt_eq h⟩
  have h2 : i < s.data.size := h
  rw [Array.getElem?_toList, Array.getElem?_eq_getElem h2]
  rfl

theorem word_dec {s : ByteArray} {i : Nat} (k : Nat) (hk : i + k ≤ s.size) (h : ∀ j, j < k → isDig s (i + j)) : Lib.decFrom 0 ((s.data.toList.drop i).take k) = some (numb s i k) := by
  induction k with
  | zero => simp [Lib.decFrom, numb]
  | succ k ih =>
    have h1 := ih (by omega) (fun j hj => h j (by omega))
    obtain ⟨b, hb, hb2⟩ := byte_at (s := s) (i := i + k) (by omega)
    have hd := h k (by omega)
    unfold isDig at hd
    have hv : Lib.digitVal b = some (bt s (i + k) - 48) := by
      unfold Lib.digitVal
      rw [if_pos ⟨by omega, by omega⟩, hb2]
    have := Lib.decFrom_take (s.data.toList.drop i) k 0 (numb s i k) b _ h1 (by rw [List.getElem?_drop]; exact hb) hv
    rw [this]
    simp only [numb]
    congr 1
    omega

theorem word_atoi {s : ByteArray} {i k : Nat} (hk0 : 0 < k) (hk : i + k ≤ s.size) (h : ∀ j, j < k → isDig s (i + j)) : Lib.atoi ((s.data.toList.drop i).take k) = some (numb s i k : Int) := by
  obtain ⟨b, hb, hb2⟩ := byte_at (s := s) (i := i) (by omega)
  have h0 := h 0 hk0
  unfold isDig at h0
  rw [Nat.add_zero] at h0
  have hd := word_dec k hk h
  have hlen : i < s.data.toList.length := by rw [← Lib.size_eq]; omega
  have e : (s.data.toList.drop i).take k = b :: ((s.data.toList.drop (i + 1)).take (k - 1)) := by
    obtain ⟨k', rfl⟩ : ∃ k', k = k' + 1 := ⟨k - 1, by omega⟩
    rw [List.drop_eq_getElem_cons hlen, List.take_succ_cons]
    rw [List.getElem?_eq_getElem hlen] at hb
    simp only [Option.some.injEq] at hb
    rw [hb]
    rfl
  rw [e] at hd ⊢
  have n1 : (b == 45) = false := by
    rw [beq_eq_false_iff_ne]; intro h; subst h; simp at hb2; omega
  have n2 : (b == 43) = false := by
    rw [beq_eq_false_iff_ne]; intro h; subst h; simp at hb2; omega
  simp only [Lib.atoi, n1, n2, Bool.false_eq_true, if_false, Lib.decNat, List.isEmpty_cons, hd, Option.map_some]

theorem cut_size {s : ByteArray} {i n : Nat} (h : i + n ≤ s.size) : (s.extract i (i + n)).size = n := by
  rw [ByteArray.size_extract]; omega

theorem cut_list {s : ByteArray} {i n : Nat} : (s.extract i (i + n)).data.toList = (s.data.toList.drop i).take n := by
  rw [Lib.extract_data, show i + n - i = n from by omega]

theorem cut_empty (s : ByteArray) (i : Nat) : (s.extract i i).toList = [] := by
  rw [Lib.extract_toList]; simp

theorem cut_first {s : ByteArray} {i n : Nat} (h : i + n ≤ s.size) (h0 : 0 < (s.extract i (i + n)).size) : ((s.extract i (i + n))[0]'h0).toNat = bt s i := by
  have hn : 0 < n := by rw [cut_size h] at h0; exact h0
  rw [ByteArray.getElem_extract]
  simp only [Nat.add_zero]
  exact bt_eq (by omega)

theorem cut_some {s : ByteArray} {i n : Nat} (h : i + n ≤ s.size) (hn : 0 < n) : (s.extract i (i + n)).toList ≠ [] := by
  intro e
  have h1 := congrArg List.length e
  rw [Lib.toList_data, ← Lib.size_eq, cut_size h] at h1
  simp at h1
  omega

end Go.Proofs.YtkgmiclmpfahlaaDoor

/-
  Lines and words in plain words.
-/
namespace Go.Proofs.YtkgmiclmpfahlaaDoor
open Go.RowKit

/-- the first feed from a place on -/
def feedAt (s : ByteArray) (at_ : Nat) : Option Nat := (List.range s.size).find? (fun i => decide (at_ ≤ i) && (bt s i == 10))

theorem feed_some {s : ByteArray} {at_ i : Nat} (hi : i < s.size) (h : at_ ≤ i) (hb : bt s i = 10) (hn : ∀ j, at_ ≤ j → j < i → bt s j ≠ 10) : feedAt s at_ = some i := by
  unfold feedAt
  rw [List.find?_range_eq_some]
  refine ⟨by simp [h, hb], by simpa using hi, fun j hj => ?_⟩
  simp
  by_cases h' : j < at_
  · exact .inl h'
  · exact .inr (hn j (by omega) hj)

theorem feed_none {s : ByteArray} {at_ : Nat} (hn : ∀ j, at_ ≤ j → j < s.size → bt s j ≠ 10) : feedAt s at_ = none := by
  unfold feedAt
  rw [List.find?_range_eq_none]
  intro j hj
  simp
  by_cases h' : j < at_
  · exact .inl h'
  · exact .inr (hn j (by omega) hj)

theorem feed_cases (s : ByteArray) (at_ : Nat) : (∃ i, feedAt s at_ = some i ∧ at_ ≤ i ∧ i < s.size ∧ bt s i = 10 ∧ ∀ j, at_ ≤ j → j < i → bt s j ≠ 10) ∨ feedAt s at_ = none ∧ ∀ j, at_ ≤ j → j < s.size → bt s j ≠ 10 := by
  cases h : feedAt s at_ with
  | some i =>
    left
    unfold feedAt at h
    rw [List.find?_range_eq_some] at h
    obtain ⟨h1, h2, h3⟩ := h
    simp at h1 h2 h3
    exact ⟨i, rfl, h1.1, h2, h1.2, fun j h4 h5 => (h3 j h5).resolve_left (by omega)⟩
  | none =>
    right
    unfold feedAt at h
    rw [List.find?_range_eq_none] at h
    simp at h
    exact ⟨rfl, fun j h1 h2 => (h j h2).resolve_left (by omega)⟩

/-- what Line tells, of any place -/
def lineT (s : ByteArray) (x : Int) : ByteArray × Nat × Nat :=
  if x < 0 ∨ (s.size : Int) < x then (⟨#[]⟩, 0, 1)
  else match feedAt s x.toNat with
    | some i => (s.extract x.toNat i, i + 1, 0)
    | none => (⟨#[]⟩, 0, 3)

theorem bt_feed {s : ByteArray} {i : Nat} : s.data.toList[i]? = some 10 ↔ i < s.size ∧ bt s i = 10 := by
  constructor
  · intro h
    have hi : i < s.data.toList.length := (List.getElem?_eq_some_iff.1 h).1
    have hi' : i < s.size := by simpa using hi
    refine ⟨hi', ?_⟩
    rw [← bt_eq hi']
    have h2 := (List.getElem?_eq_some_iff.1 h).2
    have : s[i] = 10 := h2
    rw [this]; rfl
  · rintro ⟨hi, hb⟩
    rw [List.getElem?_eq_getElem (by simpa using hi)]
    rw [← bt_eq hi] at hb
    have : s[i] = 10 := UInt8.toNat_inj.1 hb
    exact congrArg some this

/-- the library's word for the first feed behind a place -/
theorem feed_index (s : ByteArray) (at_ : Nat) : Lib.indexByte (s.extract at_ s.size).data.toList 10 = match feedAt s at_ with | some i => ((i - at_ : Nat) : Int) | none => -1 := by
  have he : (s.extract at_ s.size).data.toList = s.data.toList.drop at_ := by
    rw [Lib.extract_to_end]
  rw [he]
  have hge := Lib.indexByte_ge (s.data.toList.drop at_) 10
  rcases (show Lib.indexByte (s.data.toList.drop at_) 10 = -1 ∨ ∃ o : Nat, Lib.indexByte (s.data.toList.drop at_) 10 = o by
    by_cases e : Lib.indexByte (s.data.toList.drop at_) 10 = -1
    · exact .inl e
    · exact .inr ⟨(Lib.indexByte (s.data.toList.drop at_) 10).toNat, by omega⟩) with e | ⟨o, e⟩
  · have hn := Lib.indexByte_none e
    rw [e, feed_none]
    intro j h1 h2 hb
    refine hn (j - at_) ?_
    rw [List.getElem?_drop, show at_ + (j - at_) = j by omega]
    exact bt_feed.2 ⟨h2, hb⟩
  · obtain ⟨h1, h2⟩ := Lib.indexByte_some e
    rw [List.getElem?_drop] at h1
    obtain ⟨h3, h4⟩ := bt_feed.1 h1
    rw [e, feed_some h3 (Nat.le_add_right _ _) h4]
    · simp
    · intro j h5 h6 hb
      refine h2 (j - at_) (by omega) ?_
      rw [List.getElem?_drop, show at_ + (j - at_) = j by omega]
      exact bt_feed.2 ⟨by omega, hb⟩

/-- what stands between blanks -/
def wordsF : List UInt8 → List (List UInt8)
  | [] => [[]]
  | b :: l => if b = 32 then [] :: wordsF l else match wordsF l with
    | [] => [[b]]
    | x :: r => (b :: x) :: r

theorem words_app : ∀ {a : List UInt8} (r : List UInt8), (∀ b ∈ a, b ≠ 32) → wordsF (a ++ 32 :: r) = a :: wordsF r
  | [], r, _ => by simp [wordsF]
  | b :: a, r, h => by
    have hb : b ≠ 32 := h b (by simp)
    rw [List.cons_append, wordsF, if_neg hb, words_app r (fun x hx => h x (by simp [hx]))]

theorem words_none : ∀ {a : List UInt8}, (∀ b ∈ a, b ≠ 32) → wordsF a = [a]
  | [], _ => rfl
  | b :: a, h => by
    rw [wordsF, if_neg (h b (by simp)), words_none (fun x hx => h x (by simp [hx]))]

/-- words with blanks between -/
def jn : List (List UInt8) → List UInt8
  | [] => []
  | [a] => a
  | a :: b :: r => a ++ 32 :: jn (b :: r)

theorem words_ne (l : List UInt8) : wordsF l ≠ [] := by
  cases l with
  | nil => simp [wordsF]
  | cons b l => unfold wordsF; split; · simp
                split <;> simp

theorem jn_cons {a : List UInt8} {r : List (List UInt8)} (h : r ≠ []) : jn (a :: r) = a ++ 32 :: jn r := by
  cases r with
  | nil => exact absurd rfl h
  | cons b r => rfl

theorem jn_words : ∀ l : List UInt8, jn (wordsF l) = l
  | [] => rfl
  | b :: l => by
    have ih := jn_words l
    unfold wordsF
    split
    · rename_i h
      rw [jn_cons (words_ne l), ih, h]; rfl
    · cases hw : wordsF l with
      | nil => exact absurd hw (words_ne l)
      | cons x r =>
        rw [hw] at ih
        simp only
        cases r with
        | nil => simp [jn] at ih ⊢; exact ih
        | cons y r => simp [jn] at ih ⊢; exact ih

theorem jn_snoc : ∀ {xs : List (List UInt8)} {a : List UInt8}, xs ≠ [] → jn (xs ++ [a]) = jn xs ++ 32 :: a
  | [], _, h => absurd rfl h
  | [x], a, _ => by simp [jn]
  | x :: y :: r, a, _ => by
    have := jn_snoc (xs := y :: r) (a := a) (by simp)
    simp only [List.cons_append] at this ⊢
    rw [jn, this, jn]; simp

theorem split_words : ∀ (n : Nat) (l : List UInt8), l.length ≤ n → Lib.splitK [32] 0 (Lib.count l [32]) l = wordsF l
  | n, l, hl => by
    have hge := Lib.indexByte_ge l 32
    by_cases e : Lib.indexByte l 32 = -1
    · have hi : Lib.index l [32] = -1 := by rw [Lib.index_one]; exact e
      have hc : Lib.count l [32] = 0 := Lib.count_miss hi
      rw [hc, words_none]
      · rfl
      · intro b hb hb2
        obtain ⟨k, hk⟩ := List.mem_iff_getElem?.1 hb
        exact Lib.indexByte_none e k (by rw [hk, hb2])
    · obtain ⟨o, ho⟩ : ∃ o : Nat, Lib.indexByte l 32 = o := ⟨(Lib.indexByte l 32).toNat, by omega⟩
      obtain ⟨h1, h2⟩ := Lib.indexByte_some ho
      have hi : Lib.index l [32] = o := by rw [Lib.index_one]; exact ho
      have hlt : o < l.length := (List.getElem?_eq_some_iff.1 h1).1
      have hsp : l = l.take o ++ 32 :: l.drop (o + 1) := by
        have h3 := (List.getElem?_eq_some_iff.1 h1).2
        conv => lhs; rw [← List.take_append_drop o l, List.drop_eq_getElem_cons hlt, h3]
      have hw : wordsF l = l.take o :: wordsF (l.drop (o + 1)) := by
        conv => lhs; rw [hsp]
        apply words_app
        intro b hb hb2
        obtain ⟨k, hk⟩ := List.mem_iff_getElem?.1 hb
        rw [List.getElem?_take] at hk
        split at hk
        · exact h2 k (by assumption) (by rw [hk, hb2])
        · cases hk
      match n with
      | 0 => omega
      | n + 1 =>
        have hcnt : Lib.count l [32] = Lib.count (l.drop (o + 1)) [32] + 1 := by
          have := Lib.count_hit (s := l) (sub := [32]) (i := o) (by simp) hi
          simp at this
          omega
        rw [hcnt, Lib.splitK, if_neg (by rw [hi]; simp), hi, hw]
        simp only [Int.toNat_natCast, Nat.add_zero, List.length_singleton]
        rw [split_words n (l.drop (o + 1)) (by simp; omega)]

end Go.Proofs.YtkgmiclmpfahlaaDoor

/-
  octet.Get and its reference: what they compute.
-/
namespace Go.Proofs.YtkgmiclmpfahlaaDoor
open Go.RowKit

theorem octet_out (s : ByteArray) (x : Int) (w : World) :
    Calls Tryd.prog 30 #[.string s, .int .i64 x] w fun e w' => e = .returned (.bool (decide (x < 0) || decide ((s.size : Int) < x))) ∧ w = w' := by
  by_cases h : x < 0
  · go_enter Tryd.func30, Tryd.ntmps30
    go_wp2
    go_ret
    exact ⟨by simp [h], rfl⟩
  · go_enter Tryd.func30, Tryd.ntmps30
    go_wp2
    go_ret
    exact ⟨by simp; omega, rfl⟩

def tripV (r : Nat × Nat × Nat) : Value := .tuple #[.int .u32 r.1, .int .i64 r.2.1, .int .i64 r.2.2]

/-- what one round of getR comes to -/
theorem getR_step (s : ByteArray) (at_ r k n : Nat) :
    getR s at_ (r + 1) k n = if at_ + k = s.size then (0, 0, 3)
    else if k = 4 ∧ 15 < bt s (at_ + k) then (0, 0, 5)
    else if 0 < k ∧ bt s (at_ + k) = 0 then (0, 0, 2)
    else if bt s (at_ + k) < 128 then (n + bt s (at_ + k) % 128 * 128 ^ k, at_ + k + 1, 0)
    else getR s at_ r (k + 1) (n + bt s (at_ + k) % 128 * 128 ^ k) := rfl

theorem pow_le {k : Nat} (h : k ≤ 4) : 128 ^ k ≤ 268435456 := Nat.pow_le_pow_right (show 0 < 128 by decide) h

end Go.Proofs.YtkgmiclmpfahlaaDoor

/-
  The library's contracts at this dump, as the kit's own tool lays them.
-/
namespace Go.Proofs
open Go.Shelf
def Tryd.lays156_ren : Go.Shelf.Ren := ⟨fun | 156 => 15 | 165 => 25 | 166 => 26 | 169 => 27 | 240 => 39 | 241 => 40 | 276 => 51 | 277 => 52 | n => n, fun | 31 => 43 | 9 => 9 | 3 => 3 | 4 => 4 | 0 => 0 | 20 => 20 | 72 => 59 | 76 => 63 | 70 => 56 | 37 => 57 | 75 => 62 | 127 => 82 | 164 => 92 | 5 => 5 | 80 => 65 | n => n, fun | n => n⟩
theorem Tryd.lays156 : Go.Proofs.Lays.n156 Tryd.prog Tryd.lays156_ren := {
  mixed := by kernel_rfl
  f156 := Tryd.func15.trans (congrArg some (by kernel_rfl))
  f165 := Tryd.func25.trans (congrArg some (by kernel_rfl))
  f166 := Tryd.func26.trans (congrArg some (by kernel_rfl))
  f169 := Tryd.func27.trans (congrArg some (by kernel_rfl))
  f240 := Tryd.func39.trans (congrArg some (by kernel_rfl))
  f241 := Tryd.func40.trans (congrArg some (by kernel_rfl))
  f276 := Tryd.func51.trans (congrArg some (by kernel_rfl))
  f277 := Tryd.func52.trans (congrArg some (by kernel_rfl))
  t0 := Tryd.underlying0
  a0 := Tryd.isAgg0
  z0 := Tryd.sizeOf0
  v0 := Tryd.zeroValue0
  t3 := Tryd.underlying3
  a3 := Tryd.isAgg3
  z3 := Tryd.sizeOf3
  v3 := Tryd.zeroValue3
  t4 := Tryd.underlying4
  a4 := Tryd.isAgg4
  z4 := Tryd.sizeOf4
  v4 := Tryd.zeroValue4
  t9 := Tryd.underlying9
  a9 := Tryd.isAgg9
  z9 := Tryd.sizeOf9
  v9 := Tryd.zeroValue9
  t20 := Tryd.underlying20
  a20 := Tryd.isAgg20
  z20 := Tryd.sizeOf20
  v20 := Tryd.zeroValue20
  t31 := Tryd.underlying43
  a31 := Tryd.isAgg43
  z31 := Tryd.sizeOf43
  v31 := Tryd.zeroValue43
  t37 := Tryd.underlying57
  a37 := Tryd.isAgg57
  z37 := Tryd.sizeOf57
  v37 := Tryd.zeroValue57
  t70 := Tryd.underlying56
  a70 := Tryd.isAgg56
  z70 := Tryd.sizeOf56
  v70 := Tryd.zeroValue56
  t72 := Tryd.underlying59
  a72 := Tryd.isAgg59
  z72 := Tryd.sizeOf59
  v72 := Tryd.zeroValue59
  t75 := Tryd.underlying62
  a75 := Tryd.isAgg62
  z75 := Tryd.sizeOf62
  v75 := Tryd.zeroValue62
  t76 := Tryd.underlying63
  a76 := Tryd.isAgg63
  z76 := Tryd.sizeOf63
  v76 := Tryd.zeroValue63
  t127 := Tryd.underlying82
  a127 := Tryd.isAgg82
  z127 := Tryd.sizeOf82
  v127 := Tryd.zeroValue82
  t164 := Tryd.underlying92
  a164 := Tryd.isAgg92
  z164 := Tryd.sizeOf92
  v164 := Tryd.zeroValue92 }
theorem Tryd.Builder_Extra_156 : Builder.Extra Tryd.prog Tryd.lays156_ren := {
  sizeBuilder := by kernel_rfl
  liesBuilder := by kernel_rfl
  t5 := Tryd.underlying5
  a5 := Tryd.isAgg5
  z5 := Tryd.sizeOf5
  v5 := Tryd.zeroValue5
  infoByte := by kernel_rfl
  cellsByte := by kernel_rfl
  sizeByte := by kernel_rfl
  neB5 := by decide }
open Go.RowKit in
theorem Tryd.strings_Join_none (a : Option Addr) (c : Nat) (sep : ByteArray) (w : World) :
    Calls Tryd.prog 15 #[.slice a 0 c, .string sep] w fun e w' => e = .returned (.string ⟨#[]⟩) ∧ w' = w := Any.strings_Join_none Tryd.lays156 Tryd.Builder_Extra_156 a c sep w
open Go.RowKit in
theorem Tryd.strings_Join (bk o c : Nat) (xs : List ByteArray) (sep : ByteArray) (w : World) (hcells : ∀ (j : Nat) x, xs[j]? = some x → w.cell? ⟨bk, o + j, none⟩ = some (.string x)) (hbk : bk < w.heap.size) (hN : xs.length ≤ 140737488355328) (hcap : xs.length ≤ c) (hlen : (Lib.join (xs.map (·.data.toList)) sep.data.toList).length ≤ 140737488355328) :
    Calls Tryd.prog 15 #[.slice (some ⟨bk, o, none⟩) xs.length c, .string sep] w fun e w' => e = .returned (.string ⟨(Lib.join (xs.map (·.data.toList)) sep.data.toList).toArray⟩) ∧ Below w.heap.size w w' := Any.strings_Join Tryd.lays156 Tryd.Builder_Extra_156 bk o c xs sep w hcells hbk hN hcap hlen
def Tryd.lays137_ren : Go.Shelf.Ren := ⟨fun | 137 => 31 | 217 => 42 | 266 => 53 | n => n, fun | 9 => 9 | 5 => 5 | 3 => 3 | n => n, fun | n => n⟩
theorem Tryd.lays137 : Go.Proofs.Lays.n137 Tryd.prog Tryd.lays137_ren := {
  mixed := by kernel_rfl
  f137 := Tryd.func31.trans (congrArg some (by kernel_rfl))
  f217 := Tryd.func42.trans (congrArg some (by kernel_rfl))
  f266 := Tryd.func53.trans (congrArg some (by kernel_rfl))
  t3 := Tryd.underlying3
  a3 := Tryd.isAgg3
  z3 := Tryd.sizeOf3
  v3 := Tryd.zeroValue3
  t5 := Tryd.underlying5
  a5 := Tryd.isAgg5
  z5 := Tryd.sizeOf5
  v5 := Tryd.zeroValue5
  t9 := Tryd.underlying9
  a9 := Tryd.isAgg9
  z9 := Tryd.sizeOf9
  v9 := Tryd.zeroValue9 }
open Go.RowKit in
theorem Tryd.strings_IndexByte (s : ByteArray) (c : Int) (w : World) :
    Calls Tryd.prog 31 #[.string s, .int .u8 c] w fun e w' => e = .returned (.int .i64 (Lib.indexByte s.data.toList c.toNat.toUInt8)) ∧ w' = w := Any.strings_IndexByte Tryd.lays137 s c w
def Tryd.lays103_ren : Go.Shelf.Ren := ⟨fun | 103 => 48 | 210 => 61 | 206 => 75 | n => n, fun | 9 => 9 | 4 => 4 | 24 => 87 | 3 => 3 | n => n, fun | n => n⟩
theorem Tryd.lays103 : Go.Proofs.Lays.n103 Tryd.prog Tryd.lays103_ren := {
  mixed := by kernel_rfl
  f103 := Tryd.func48.trans (congrArg some (by kernel_rfl))
  f206 := Tryd.func75.trans (congrArg some (by kernel_rfl))
  f210 := Tryd.func61.trans (congrArg some (by kernel_rfl))
  t3 := Tryd.underlying3
  a3 := Tryd.isAgg3
  z3 := Tryd.sizeOf3
  v3 := Tryd.zeroValue3
  t4 := Tryd.underlying4
  a4 := Tryd.isAgg4
  z4 := Tryd.sizeOf4
  v4 := Tryd.zeroValue4
  t9 := Tryd.underlying9
  a9 := Tryd.isAgg9
  z9 := Tryd.sizeOf9
  v9 := Tryd.zeroValue9
  t24 := Tryd.underlying87
  a24 := Tryd.isAgg87
  z24 := Tryd.sizeOf87
  v24 := Tryd.zeroValue87 }
open Go.RowKit in
theorem Tryd.strings_CutPrefix (s p : ByteArray) (w : World) :
    Calls Tryd.prog 48 #[.string s, .string p] w fun e w' => e = .returned (.tuple #[.string ⟨(Lib.trimPrefix s.data.toList p.data.toList).toArray⟩, .bool (Lib.hasPrefix s.data.toList p.data.toList)]) ∧ w' = w := Any.strings_CutPrefix Tryd.lays103 s p w
def Tryd.lays172_ren : Go.Shelf.Ren := ⟨fun | 172 => 44 | 244 => 54 | 245 => 55 | 247 => 66 | 279 => 67 | 280 => 68 | 281 => 69 | 282 => 70 | 287 => 81 | 316 => 82 | 171 => 24 | 205 => 83 | 321 => 87 | 322 => 88 | 243 => 38 | 246 => 50 | 283 => 62 | 284 => 63 | 285 => 64 | 286 => 65 | 129 => 77 | 317 => 76 | 318 => 78 | 319 => 79 | 320 => 80 | 337 => 85 | 338 => 86 | n => n, fun | 9 => 9 | 3 => 3 | 75 => 62 | 76 => 63 | 4 => 4 | 5 => 5 | 167 => 105 | 37 => 57 | 0 => 0 | 85 => 106 | 2 => 2 | 168 => 108 | 53 => 100 | 175 => 123 | 46 => 98 | 210 => 127 | 127 => 82 | 145 => 134 | 143 => 132 | 21 => 21 | 171 => 99 | 173 => 103 | 212 => 119 | 51 => 114 | 20 => 20 | 213 => 120 | 232 => 139 | 233 => 140 | 80 => 65 | n => n, fun | 15 => 3 | 16 => 4 | 17 => 2 | 18 => 7 | 19 => 8 | n => n⟩
theorem Tryd.lays172 : Go.Proofs.Lays.n172 Tryd.prog Tryd.lays172_ren := {
  mixed := by kernel_rfl
  f129 := Tryd.func77.trans (congrArg some (by kernel_rfl))
  f171 := Tryd.func24.trans (congrArg some (by kernel_rfl))
  f172 := Tryd.func44.trans (congrArg some (by kernel_rfl))
  f205 := Tryd.func83.trans (congrArg some (by kernel_rfl))
  f243 := Tryd.func38.trans (congrArg some (by kernel_rfl))
  f244 := Tryd.func54.trans (congrArg some (by kernel_rfl))
  f245 := Tryd.func55.trans (congrArg some (by kernel_rfl))
  f246 := Tryd.func50.trans (congrArg some (by kernel_rfl))
  f247 := Tryd.func66.trans (congrArg some (by kernel_rfl))
  f279 := Tryd.func67.trans (congrArg some (by kernel_rfl))
  f280 := Tryd.func68.trans (congrArg some (by kernel_rfl))
  f281 := Tryd.func69.trans (congrArg some (by kernel_rfl))
  f282 := Tryd.func70.trans (congrArg some (by kernel_rfl))
  f283 := Tryd.func62.trans (congrArg some (by kernel_rfl))
  f284 := Tryd.func63.trans (congrArg some (by kernel_rfl))
  f285 := Tryd.func64.trans (congrArg some (by kernel_rfl))
  f286 := Tryd.func65.trans (congrArg some (by kernel_rfl))
  f287 := Tryd.func81.trans (congrArg some (by kernel_rfl))
  f316 := Tryd.func82.trans (congrArg some (by kernel_rfl))
  f317 := Tryd.func76.trans (congrArg some (by kernel_rfl))
  f318 := Tryd.func78.trans (congrArg some (by kernel_rfl))
  f319 := Tryd.func79.trans (congrArg some (by kernel_rfl))
  f320 := Tryd.func80.trans (congrArg some (by kernel_rfl))
  f321 := Tryd.func87.trans (congrArg some (by kernel_rfl))
  f322 := Tryd.func88.trans (congrArg some (by kernel_rfl))
  f337 := Tryd.func85.trans (congrArg some (by kernel_rfl))
  f338 := Tryd.func86.trans (congrArg some (by kernel_rfl))
  t0 := Tryd.underlying0
  a0 := Tryd.isAgg0
  z0 := Tryd.sizeOf0
  v0 := Tryd.zeroValue0
  t2 := Tryd.underlying2
  a2 := Tryd.isAgg2
  z2 := Tryd.sizeOf2
  v2 := Tryd.zeroValue2
  t3 := Tryd.underlying3
  a3 := Tryd.isAgg3
  z3 := Tryd.sizeOf3
  v3 := Tryd.zeroValue3
  t4 := Tryd.underlying4
  a4 := Tryd.isAgg4
  z4 := Tryd.sizeOf4
  v4 := Tryd.zeroValue4
  t5 := Tryd.underlying5
  a5 := Tryd.isAgg5
  z5 := Tryd.sizeOf5
  v5 := Tryd.zeroValue5
  t9 := Tryd.underlying9
  a9 := Tryd.isAgg9
  z9 := Tryd.sizeOf9
  v9 := Tryd.zeroValue9
  t20 := Tryd.underlying20
  a20 := Tryd.isAgg20
  z20 := Tryd.sizeOf20
  v20 := Tryd.zeroValue20
  t21 := Tryd.underlying21
  a21 := Tryd.isAgg21
  z21 := Tryd.sizeOf21
  v21 := Tryd.zeroValue21
  t37 := Tryd.underlying57
  a37 := Tryd.isAgg57
  z37 := Tryd.sizeOf57
  v37 := Tryd.zeroValue57
  t46 := Tryd.underlying98
  a46 := Tryd.isAgg98
  z46 := Tryd.sizeOf98
  v46 := Tryd.zeroValue98
  t51 := Tryd.underlying114
  a51 := Tryd.isAgg114
  z51 := Tryd.sizeOf114
  v51 := Tryd.zeroValue114
  t53 := Tryd.underlying100
  a53 := Tryd.isAgg100
  z53 := Tryd.sizeOf100
  v53 := Tryd.zeroValue100
  t75 := Tryd.underlying62
  a75 := Tryd.isAgg62
  z75 := Tryd.sizeOf62
  v75 := Tryd.zeroValue62
  t76 := Tryd.underlying63
  a76 := Tryd.isAgg63
  z76 := Tryd.sizeOf63
  v76 := Tryd.zeroValue63
  t85 := Tryd.underlying106
  a85 := Tryd.isAgg106
  z85 := Tryd.sizeOf106
  v85 := Tryd.zeroValue106
  t127 := Tryd.underlying82
  a127 := Tryd.isAgg82
  z127 := Tryd.sizeOf82
  v127 := Tryd.zeroValue82
  t143 := Tryd.underlying132
  a143 := Tryd.isAgg132
  z143 := Tryd.sizeOf132
  v143 := Tryd.zeroValue132
  t145 := Tryd.underlying134
  a145 := Tryd.isAgg134
  z145 := Tryd.sizeOf134
  v145 := Tryd.zeroValue134
  t167 := Tryd.underlying105
  a167 := Tryd.isAgg105
  z167 := Tryd.sizeOf105
  v167 := Tryd.zeroValue105
  t168 := Tryd.underlying108
  a168 := Tryd.isAgg108
  z168 := Tryd.sizeOf108
  v168 := Tryd.zeroValue108
  t171 := Tryd.underlying99
  a171 := Tryd.isAgg99
  z171 := Tryd.sizeOf99
  v171 := Tryd.zeroValue99
  t173 := Tryd.underlying103
  a173 := Tryd.isAgg103
  z173 := Tryd.sizeOf103
  v173 := Tryd.zeroValue103
  t175 := Tryd.underlying123
  a175 := Tryd.isAgg123
  z175 := Tryd.sizeOf123
  v175 := Tryd.zeroValue123
  t210 := Tryd.underlying127
  a210 := Tryd.isAgg127
  z210 := Tryd.sizeOf127
  v210 := Tryd.zeroValue127
  t212 := Tryd.underlying119
  a212 := Tryd.isAgg119
  z212 := Tryd.sizeOf119
  v212 := Tryd.zeroValue119
  t213 := Tryd.underlying120
  a213 := Tryd.isAgg120
  z213 := Tryd.sizeOf120
  t232 := Tryd.underlying139
  a232 := Tryd.isAgg139
  z232 := Tryd.sizeOf139
  v232 := Tryd.zeroValue139
  t233 := Tryd.underlying140
  a233 := Tryd.isAgg140
  z233 := Tryd.sizeOf140
  v233 := Tryd.zeroValue140
  g15 := by kernel_rfl
  g16 := by kernel_rfl
  g17 := by kernel_rfl
  g18 := by kernel_rfl
  g19 := by kernel_rfl }
open Go.RowKit in
theorem Tryd.strconv_Atoi (s : ByteArray) (n : Int) (hl : s.size ≤ 18) (h : Lib.atoi s.data.toList = some n) (w : World) :
    Calls Tryd.prog 44 #[.string s] w fun e w' => e = .returned (.tuple #[.int .i64 n, .nilIface]) ∧ ∃ t, w' = Lib.bytesWorld w 5 t := Any.strconv_Atoi Tryd.lays172 s n hl h w
def Tryd.laysM171_ren : Go.Shelf.Ren := ⟨fun | 171 => 24 | 243 => 38 | 246 => 50 | 283 => 62 | 284 => 63 | 285 => 64 | 286 => 65 | 129 => 77 | 317 => 76 | 318 => 78 | 319 => 79 | 320 => 80 | 337 => 85 | 338 => 86 | n => n, fun | 3 => 3 | 9 => 9 | 2 => 2 | 4 => 4 | 171 => 99 | 0 => 0 | 53 => 100 | 37 => 57 | 5 => 5 | 173 => 103 | 212 => 119 | 51 => 114 | 20 => 20 | 213 => 120 | 46 => 98 | 232 => 139 | 233 => 140 | n => n, fun | 17 => 2 | 18 => 7 | 19 => 8 | n => n⟩
theorem Tryd.laysM171 : Go.Proofs.LaysM.n171 Tryd.prog Tryd.laysM171_ren := {
  mixed := by kernel_rfl
  f129 := Tryd.func77.trans (congrArg some (by kernel_rfl))
  f171 := Tryd.func24.trans (congrArg some (by kernel_rfl))
  f243 := Tryd.func38.trans (congrArg some (by kernel_rfl))
  f246 := Tryd.func50.trans (congrArg some (by kernel_rfl))
  f283 := Tryd.func62.trans (congrArg some (by kernel_rfl))
  f284 := Tryd.func63.trans (congrArg some (by kernel_rfl))
  f285 := Tryd.func64.trans (congrArg some (by kernel_rfl))
  f286 := Tryd.func65.trans (congrArg some (by kernel_rfl))
  f317 := Tryd.func76.trans (congrArg some (by kernel_rfl))
  f318 := Tryd.func78.trans (congrArg some (by kernel_rfl))
  f319 := Tryd.func79.trans (congrArg some (by kernel_rfl))
  f320 := Tryd.func80.trans (congrArg some (by kernel_rfl))
  f337 := Tryd.func85.trans (congrArg some (by kernel_rfl))
  f338 := Tryd.func86.trans (congrArg some (by kernel_rfl))
  t0 := Tryd.underlying0
  a0 := Tryd.isAgg0
  z0 := Tryd.sizeOf0
  v0 := Tryd.zeroValue0
  t2 := Tryd.underlying2
  a2 := Tryd.isAgg2
  z2 := Tryd.sizeOf2
  v2 := Tryd.zeroValue2
  t3 := Tryd.underlying3
  a3 := Tryd.isAgg3
  z3 := Tryd.sizeOf3
  v3 := Tryd.zeroValue3
  t4 := Tryd.underlying4
  a4 := Tryd.isAgg4
  z4 := Tryd.sizeOf4
  v4 := Tryd.zeroValue4
  t5 := Tryd.underlying5
  a5 := Tryd.isAgg5
  z5 := Tryd.sizeOf5
  v5 := Tryd.zeroValue5
  t9 := Tryd.underlying9
  a9 := Tryd.isAgg9
  z9 := Tryd.sizeOf9
  v9 := Tryd.zeroValue9
  t20 := Tryd.underlying20
  a20 := Tryd.isAgg20
  z20 := Tryd.sizeOf20
  v20 := Tryd.zeroValue20
  t37 := Tryd.underlying57
  a37 := Tryd.isAgg57
  z37 := Tryd.sizeOf57
  v37 := Tryd.zeroValue57
  t46 := Tryd.underlying98
  a46 := Tryd.isAgg98
  z46 := Tryd.sizeOf98
  v46 := Tryd.zeroValue98
  t51 := Tryd.underlying114
  a51 := Tryd.isAgg114
  z51 := Tryd.sizeOf114
  v51 := Tryd.zeroValue114
  t53 := Tryd.underlying100
  a53 := Tryd.isAgg100
  z53 := Tryd.sizeOf100
  v53 := Tryd.zeroValue100
  t171 := Tryd.underlying99
  a171 := Tryd.isAgg99
  z171 := Tryd.sizeOf99
  v171 := Tryd.zeroValue99
  t173 := Tryd.underlying103
  a173 := Tryd.isAgg103
  z173 := Tryd.sizeOf103
  v173 := Tryd.zeroValue103
  t212 := Tryd.underlying119
  a212 := Tryd.isAgg119
  z212 := Tryd.sizeOf119
  v212 := Tryd.zeroValue119
  t213 := Tryd.underlying120
  a213 := Tryd.isAgg120
  z213 := Tryd.sizeOf120
  t232 := Tryd.underlying139
  a232 := Tryd.isAgg139
  z232 := Tryd.sizeOf139
  v232 := Tryd.zeroValue139
  t233 := Tryd.underlying140
  a233 := Tryd.isAgg140
  z233 := Tryd.sizeOf140
  v233 := Tryd.zeroValue140
  g17 := by kernel_rfl
  g18 := by kernel_rfl
  g19 := by kernel_rfl
  i0 := by kernel_rfl
  i2 := by kernel_rfl
  i3 := by kernel_rfl
  i4 := by kernel_rfl
  i5 := by kernel_rfl
  i9 := by kernel_rfl
  i20 := by kernel_rfl
  i37 := by kernel_rfl
  i46 := by kernel_rfl
  i51 := by kernel_rfl
  i53 := by kernel_rfl
  i171 := by kernel_rfl
  i173 := by kernel_rfl
  i212 := by kernel_rfl
  i232 := by kernel_rfl
  i233 := by kernel_rfl
  m17 := by kernel_rfl
  m18 := by kernel_rfl
  m19 := by kernel_rfl }
open Go.RowKit Go.Sort Go.Lib in
theorem Tryd.strconv_Itoa (n : Int) (h0 : -9223372036854775808 ≤ n) (h1 : n ≤ 9223372036854775807) (w : World) (htab : Lib.TabIs Tryd.prog w "internal/strconv.uint64pow10" .u64 Lib.pow10Tab) :
    Calls Tryd.prog 24 #[.int .i64 n] w fun e w' => e = .returned (.string ⟨(Lib.itoa n).toArray⟩) ∧ ∃ k os, w' = grow (w.drewN k) os := Any.strconv_Itoa Tryd.laysM171 n h0 h1 w htab
def Tryd.lays171_ren : Go.Shelf.Ren := ⟨fun | 171 => 24 | 243 => 38 | 246 => 50 | 283 => 62 | 284 => 63 | 285 => 64 | 286 => 65 | 129 => 77 | 317 => 76 | 318 => 78 | 319 => 79 | 320 => 80 | 337 => 85 | 338 => 86 | n => n, fun | 3 => 3 | 9 => 9 | 2 => 2 | 4 => 4 | 171 => 99 | 0 => 0 | 53 => 100 | 37 => 57 | 5 => 5 | 173 => 103 | 212 => 119 | 51 => 114 | 20 => 20 | 213 => 120 | 46 => 98 | 232 => 139 | 233 => 140 | n => n, fun | 17 => 2 | 18 => 7 | 19 => 8 | n => n⟩
theorem Tryd.lays171 : Go.Proofs.Lays.n171 Tryd.prog Tryd.lays171_ren := {
  mixed := by kernel_rfl
  f129 := Tryd.func77.trans (congrArg some (by kernel_rfl))
  f171 := Tryd.func24.trans (congrArg some (by kernel_rfl))
  f243 := Tryd.func38.trans (congrArg some (by kernel_rfl))
  f246 := Tryd.func50.trans (congrArg some (by kernel_rfl))
  f283 := Tryd.func62.trans (congrArg some (by kernel_rfl))
  f284 := Tryd.func63.trans (congrArg some (by kernel_rfl))
  f285 := Tryd.func64.trans (congrArg some (by kernel_rfl))
  f286 := Tryd.func65.trans (congrArg some (by kernel_rfl))
  f317 := Tryd.func76.trans (congrArg some (by kernel_rfl))
  f318 := Tryd.func78.trans (congrArg some (by kernel_rfl))
  f319 := Tryd.func79.trans (congrArg some (by kernel_rfl))
  f320 := Tryd.func80.trans (congrArg some (by kernel_rfl))
  f337 := Tryd.func85.trans (congrArg some (by kernel_rfl))
  f338 := Tryd.func86.trans (congrArg some (by kernel_rfl))
  t0 := Tryd.underlying0
  a0 := Tryd.isAgg0
  z0 := Tryd.sizeOf0
  v0 := Tryd.zeroValue0
  t2 := Tryd.underlying2
  a2 := Tryd.isAgg2
  z2 := Tryd.sizeOf2
  v2 := Tryd.zeroValue2
  t3 := Tryd.underlying3
  a3 := Tryd.isAgg3
  z3 := Tryd.sizeOf3
  v3 := Tryd.zeroValue3
  t4 := Tryd.underlying4
  a4 := Tryd.isAgg4
  z4 := Tryd.sizeOf4
  v4 := Tryd.zeroValue4
  t5 := Tryd.underlying5
  a5 := Tryd.isAgg5
  z5 := Tryd.sizeOf5
  v5 := Tryd.zeroValue5
  t9 := Tryd.underlying9
  a9 := Tryd.isAgg9
  z9 := Tryd.sizeOf9
  v9 := Tryd.zeroValue9
  t20 := Tryd.underlying20
  a20 := Tryd.isAgg20
  z20 := Tryd.sizeOf20
  v20 := Tryd.zeroValue20
  t37 := Tryd.underlying57
  a37 := Tryd.isAgg57
  z37 := Tryd.sizeOf57
  v37 := Tryd.zeroValue57
  t46 := Tryd.underlying98
  a46 := Tryd.isAgg98
  z46 := Tryd.sizeOf98
  v46 := Tryd.zeroValue98
  t51 := Tryd.underlying114
  a51 := Tryd.isAgg114
  z51 := Tryd.sizeOf114
  v51 := Tryd.zeroValue114
  t53 := Tryd.underlying100
  a53 := Tryd.isAgg100
  z53 := Tryd.sizeOf100
  v53 := Tryd.zeroValue100
  t171 := Tryd.underlying99
  a171 := Tryd.isAgg99
  z171 := Tryd.sizeOf99
  v171 := Tryd.zeroValue99
  t173 := Tryd.underlying103
  a173 := Tryd.isAgg103
  z173 := Tryd.sizeOf103
  v173 := Tryd.zeroValue103
  t212 := Tryd.underlying119
  a212 := Tryd.isAgg119
  z212 := Tryd.sizeOf119
  v212 := Tryd.zeroValue119
  t213 := Tryd.underlying120
  a213 := Tryd.isAgg120
  z213 := Tryd.sizeOf120
  t232 := Tryd.underlying139
  a232 := Tryd.isAgg139
  z232 := Tryd.sizeOf139
  v232 := Tryd.zeroValue139
  t233 := Tryd.underlying140
  a233 := Tryd.isAgg140
  z233 := Tryd.sizeOf140
  v233 := Tryd.zeroValue140
  g17 := by kernel_rfl
  g18 := by kernel_rfl
  g19 := by kernel_rfl }
open Go.RowKit Go.Sort Go.Lib in
theorem Tryd.strconv_Itoa_small (i : Nat) (hi : i < 100) (w : World) :
    Calls Tryd.prog 24 #[.int .i64 i] w fun e w' => e = .returned (.string ⟨(Lib.decDigits i).toArray⟩) ∧ w' = w := Any.strconv_Itoa_small Tryd.lays171 i hi w
def Tryd.lays143_ren : Go.Shelf.Ren := ⟨fun | 143 => 35 | 219 => 47 | 217 => 42 | 225 => 58 | 224 => 59 | 267 => 60 | 266 => 53 | 314 => 74 | n => n, fun | 9 => 9 | 3 => 3 | 4 => 4 | 5 => 5 | 46 => 98 | 146 => 115 | 51 => 114 | n => n, fun | 1 => 1 | n => n⟩
theorem Tryd.lays143 : Go.Proofs.Lays.n143 Tryd.prog Tryd.lays143_ren := {
  mixed := by kernel_rfl
  f143 := Tryd.func35.trans (congrArg some (by kernel_rfl))
  f217 := Tryd.func42.trans (congrArg some (by kernel_rfl))
  f219 := Tryd.func47.trans (congrArg some (by kernel_rfl))
  f224 := Tryd.func59.trans (congrArg some (by kernel_rfl))
  f225 := Tryd.func58.trans (congrArg some (by kernel_rfl))
  f266 := Tryd.func53.trans (congrArg some (by kernel_rfl))
  f267 := Tryd.func60.trans (congrArg some (by kernel_rfl))
  f314 := Tryd.func74.trans (congrArg some (by kernel_rfl))
  t3 := Tryd.underlying3
  a3 := Tryd.isAgg3
  z3 := Tryd.sizeOf3
  v3 := Tryd.zeroValue3
  t4 := Tryd.underlying4
  a4 := Tryd.isAgg4
  z4 := Tryd.sizeOf4
  v4 := Tryd.zeroValue4
  t5 := Tryd.underlying5
  a5 := Tryd.isAgg5
  z5 := Tryd.sizeOf5
  v5 := Tryd.zeroValue5
  t9 := Tryd.underlying9
  a9 := Tryd.isAgg9
  z9 := Tryd.sizeOf9
  v9 := Tryd.zeroValue9
  t46 := Tryd.underlying98
  a46 := Tryd.isAgg98
  z46 := Tryd.sizeOf98
  v46 := Tryd.zeroValue98
  t51 := Tryd.underlying114
  a51 := Tryd.isAgg114
  z51 := Tryd.sizeOf114
  v51 := Tryd.zeroValue114
  t146 := Tryd.underlying115
  a146 := Tryd.isAgg115
  z146 := Tryd.sizeOf115
  v146 := Tryd.zeroValue115
  g1 := by kernel_rfl }
open Go.RowKit Go.Lib in
theorem Tryd.strings_Index_one (s : ByteArray) (c : UInt8) (w : World) :
    Calls Tryd.prog 35 #[.string s, .string ⟨#[c]⟩] w fun e w' => e = .returned (.int .i64 (Lib.indexByte s.data.toList c)) ∧ w' = w := Any.strings_Index_one Tryd.lays143 s c w
open Go.RowKit Go.Lib in
theorem Tryd.strings_Index (s sub : ByteArray) (m : Int) (w : World) (hs : s.size < 4294967281) (hm : w.cell? ⟨1, 0, none⟩ = some (.int .i64 m)) :
    Calls Tryd.prog 35 #[.string s, .string sub] w fun e w' => e = .returned (.int .i64 (Lib.index s.data.toList sub.data.toList)) ∧ w' = w := Any.strings_Index Tryd.lays143 s sub m w hs hm
def Tryd.lays146_ren : Go.Shelf.Ren := ⟨fun | 146 => 33 | 221 => 45 | 268 => 56 | 138 => 57 | 143 => 35 | 195 => 71 | 197 => 72 | 218 => 73 | 219 => 47 | 260 => 84 | 217 => 42 | 225 => 58 | 224 => 59 | 267 => 60 | 266 => 53 | 314 => 74 | n => n, fun | 9 => 9 | 31 => 43 | 3 => 3 | 4 => 4 | 0 => 0 | 105 => 112 | 21 => 21 | 5 => 5 | 46 => 98 | 119 => 135 | 139 => 138 | 138 => 137 | 146 => 115 | 51 => 114 | n => n, fun | 1 => 1 | 3 => 5 | 4 => 6 | n => n⟩
theorem Tryd.lays146 : Go.Proofs.Lays.n146 Tryd.prog Tryd.lays146_ren := {
  mixed := by kernel_rfl
  f138 := Tryd.func57.trans (congrArg some (by kernel_rfl))
  f143 := Tryd.func35.trans (congrArg some (by kernel_rfl))
  f146 := Tryd.func33.trans (congrArg some (by kernel_rfl))
  f195 := Tryd.func71.trans (congrArg some (by kernel_rfl))
  f197 := Tryd.func72.trans (congrArg some (by kernel_rfl))
  f217 := Tryd.func42.trans (congrArg some (by kernel_rfl))
  f218 := Tryd.func73.trans (congrArg some (by kernel_rfl))
  f219 := Tryd.func47.trans (congrArg some (by kernel_rfl))
  f221 := Tryd.func45.trans (congrArg some (by kernel_rfl))
  f224 := Tryd.func59.trans (congrArg some (by kernel_rfl))
  f225 := Tryd.func58.trans (congrArg some (by kernel_rfl))
  f260 := Tryd.func84.trans (congrArg some (by kernel_rfl))
  f266 := Tryd.func53.trans (congrArg some (by kernel_rfl))
  f267 := Tryd.func60.trans (congrArg some (by kernel_rfl))
  f268 := Tryd.func56.trans (congrArg some (by kernel_rfl))
  f314 := Tryd.func74.trans (congrArg some (by kernel_rfl))
  t0 := Tryd.underlying0
  a0 := Tryd.isAgg0
  z0 := Tryd.sizeOf0
  v0 := Tryd.zeroValue0
  t3 := Tryd.underlying3
  a3 := Tryd.isAgg3
  z3 := Tryd.sizeOf3
  v3 := Tryd.zeroValue3
  t4 := Tryd.underlying4
  a4 := Tryd.isAgg4
  z4 := Tryd.sizeOf4
  v4 := Tryd.zeroValue4
  t5 := Tryd.underlying5
  a5 := Tryd.isAgg5
  z5 := Tryd.sizeOf5
  v5 := Tryd.zeroValue5
  t9 := Tryd.underlying9
  a9 := Tryd.isAgg9
  z9 := Tryd.sizeOf9
  v9 := Tryd.zeroValue9
  t21 := Tryd.underlying21
  a21 := Tryd.isAgg21
  z21 := Tryd.sizeOf21
  v21 := Tryd.zeroValue21
  t31 := Tryd.underlying43
  a31 := Tryd.isAgg43
  z31 := Tryd.sizeOf43
  v31 := Tryd.zeroValue43
  t46 := Tryd.underlying98
  a46 := Tryd.isAgg98
  z46 := Tryd.sizeOf98
  v46 := Tryd.zeroValue98
  t51 := Tryd.underlying114
  a51 := Tryd.isAgg114
  z51 := Tryd.sizeOf114
  v51 := Tryd.zeroValue114
  t105 := Tryd.underlying112
  a105 := Tryd.isAgg112
  z105 := Tryd.sizeOf112
  v105 := Tryd.zeroValue112
  t119 := Tryd.underlying135
  a119 := Tryd.isAgg135
  z119 := Tryd.sizeOf135
  t138 := Tryd.underlying137
  a138 := Tryd.isAgg137
  z138 := Tryd.sizeOf137
  v138 := Tryd.zeroValue137
  t139 := Tryd.underlying138
  a139 := Tryd.isAgg138
  z139 := Tryd.sizeOf138
  v139 := Tryd.zeroValue138
  t146 := Tryd.underlying115
  a146 := Tryd.isAgg115
  z146 := Tryd.sizeOf115
  v146 := Tryd.zeroValue115
  g1 := by kernel_rfl
  g3 := by kernel_rfl
  g4 := by kernel_rfl }
open Go.RowKit Go.Lib in
theorem Tryd.strings_Split (s sep : ByteArray) (m : Int) (w : World) (hs : s.size < 4294967281) (hm : w.cell? ⟨1, 0, none⟩ = some (.int .i64 m)) (h1 : 1 ≤ sep.size) :
    Calls Tryd.prog 33 #[.string s, .string sep] w fun e w' =>
      e = .returned (.slice (some ⟨w.heap.size, 0, none⟩) (Lib.countB s sep + 1) (Lib.countB s sep + 1)) ∧ w' = w.alloc (.cells ((Lib.splitB sep 0 (Lib.countB s sep) s).map Value.string).toArray 9) := Any.strings_Split Tryd.lays146 (by kernel_rfl) s sep m w hs hm h1
end Go.Proofs

/-
  octet.Line and the reference's Line.
-/
namespace Go.Proofs.YtkgmiclmpfahlaaDoor
open Go.RowKit

def lineV (t : ByteArray × Nat × Nat) : Value := .tuple #[.string t.1, .int .i64 t.2.1, .int .i64 t.2.2]

theorem lineT_out {s : ByteArray} {x : Int} (h : x < 0 ∨ (s.size : Int) < x) : lineT s x = (⟨#[]⟩, 0, 1) := by unfold lineT; rw [if_pos h]
theorem lineT_in {s : ByteArray} {at_ : Nat} (h : at_ ≤ s.size) : lineT s at_ = match feedAt s at_ with | some i => (s.extract at_ i, i + 1, 0) | none => (⟨#[]⟩, 0, 3) := by
  unfold lineT; rw [if_neg (by omega), Int.toNat_natCast] <;> rfl

set_option maxRecDepth 100000 in
set_option maxHeartbeats 1000000 in
theorem octet_Line_in (s : ByteArray) (at_ : Nat) (w : World) (hs : s.size ≤ 9223372036854775000) (ha : at_ ≤ s.size) :
    Calls Tryd.prog 20 #[.string s, .int .i64 at_] w fun e w' => e = .returned (lineV (lineT s at_)) ∧ w = w' := by
  have o1 : (decide ((at_ : Int) < 0) || decide ((s.size : Int) < (at_ : Int))) = false := by simp; omega
  have HI := Lib.hid (feed_index s at_)
  have HT := Lib.hid (lineT_in ha)
  rcases feed_cases s at_ with ⟨i, hf, h1, h2, h3, h4⟩ | ⟨hf, h4⟩
  · rw [hf] at HI HT
    clear hf h3 h4
    obtain ⟨n, rfl⟩ : ∃ n, i = at_ + n := ⟨i - at_, by omega⟩
    simp only [show at_ + n - at_ = n by omega] at HI
    go_enter Tryd.func20, Tryd.ntmps20
    go_wp2_with fail
    refine (octet_out _ _ _).mono ?_
    rintro e w' ⟨rfl, rfl⟩
    rw [o1]
    go_wp2_with fail
    refine (Tryd.strings_IndexByte _ _ _).mono ?_
    rintro e w' ⟨rfl, hw⟩
    have hw' := hw.symm; clear hw; subst hw'
    rw [show ((10 : Int).toNat.toUInt8) = 10 from rfl, HI.out]
    simp only
    go_wp2_with fail
    go_ret3
    rw [HT.out]
    exact ⟨rfl, rfl⟩
  · rw [hf] at HI HT
    clear hf h4
    go_enter Tryd.func20, Tryd.ntmps20
    go_wp2_with fail
    refine (octet_out _ _ _).mono ?_
    rintro e w' ⟨rfl, rfl⟩
    rw [o1]
    go_wp2_with fail
    refine (Tryd.strings_IndexByte _ _ _).mono ?_
    rintro e w' ⟨rfl, hw⟩
    have hw' := hw.symm; clear hw; subst hw'
    rw [show ((10 : Int).toNat.toUInt8) = 10 from rfl, HI.out]
    simp only
    go_wp2_with fail
    go_ret3
    rw [HT.out]
    exact ⟨rfl, rfl⟩

theorem octet_Line (s : ByteArray) (x : Int) (w : World) (hs : s.size ≤ 9223372036854775000) :
    Calls Tryd.prog 20 #[.string s, .int .i64 x] w fun e w' => e = .returned (lineV (lineT s x)) ∧ w = w' := by
  by_cases h : x < 0 ∨ (s.size : Int) < x
  · have HT := Lib.hid (lineT_out h)
    have o1 : (decide (x < 0) || decide ((s.size : Int) < x)) = true := by simpa using h
    clear h
    go_enter Tryd.func20, Tryd.ntmps20
    go_wp2_with fail
    refine (octet_out _ _ _).mono ?_
    rintro e w' ⟨rfl, rfl⟩
    rw [o1]
    go_wp2_with fail
    go_ret3
    rw [HT.out]
    exact ⟨rfl, rfl⟩
  · obtain ⟨at_, rfl⟩ : ∃ at_ : Nat, x = at_ := ⟨x.toNat, by omega⟩
    exact octet_Line_in s at_ w hs (by omega)

end Go.Proofs.YtkgmiclmpfahlaaDoor

/-
  octet.Words, the reference's Words and Strings.
-/
namespace Go.Proofs.YtkgmiclmpfahlaaDoor
open Go.RowKit

theorem bt_is {s : ByteArray} {i : Nat} {c : UInt8} : s.data.toList[i]? = some c ↔ i < s.size ∧ bt s i = c.toNat := by
  constructor
  · intro h
    have hi : i < s.data.toList.length := (List.getElem?_eq_some_iff.1 h).1
    have hi' : i < s.size := by simpa using hi
    refine ⟨hi', ?_⟩
    rw [← bt_eq hi']
    have h2 := (List.getElem?_eq_some_iff.1 h).2
    have : s[i] = c := h2
    rw [this]
  · rintro ⟨hi, hb⟩
    rw [List.getElem?_eq_getElem (by simpa using hi)]
    rw [← bt_eq hi] at hb
    have : s[i] = c := UInt8.toNat_inj.1 hb
    exact congrArg some this

def mkW (l : List UInt8) : List ByteArray := (wordsF l).map (fun x => (⟨x.toArray⟩ : ByteArray))
def wordsB (s : ByteArray) : List ByteArray := mkW s.data.toList
def noBlank (s : ByteArray) (a b : Nat) : Prop := ∀ j, a ≤ j → j < b → bt s j ≠ 32

theorem mk_data (b : ByteArray) : (⟨b.data.toList.toArray⟩ : ByteArray) = b := by apply ByteArray.ext; simp

theorem noBlank_piece {s : ByteArray} {a b : Nat} (hn : noBlank s a b) : ∀ x ∈ (s.data.toList.drop a).take (b - a), x ≠ 32 := by
  intro x hx h32
  obtain ⟨k, hk⟩ := List.mem_iff_getElem?.1 hx
  rw [List.getElem?_take] at hk
  split at hk
  · rw [List.getElem?_drop, h32] at hk
    exact hn (a + k) (by omega) (by omega) (bt_is.1 hk).2
  · cases hk

theorem words_blank {s : ByteArray} {a k : Nat} (h1 : a ≤ k) (h2 : k < s.size) (hb : bt s k = 32) (hn : noBlank s a k) :
    mkW (s.data.toList.drop a) = s.extract a k :: mkW (s.data.toList.drop (k + 1)) := by
  have hk : s.data.toList[k]? = some 32 := bt_is.2 ⟨h2, hb⟩
  have hlt : k < s.data.toList.length := (List.getElem?_eq_some_iff.1 hk).1
  have hv := (List.getElem?_eq_some_iff.1 hk).2
  have e : s.data.toList.drop a = (s.data.toList.drop a).take (k - a) ++ 32 :: s.data.toList.drop (k + 1) := by
    conv => lhs; rw [← List.take_append_drop (k - a) (s.data.toList.drop a)]
    rw [List.drop_drop, show a + (k - a) = k by omega, List.drop_eq_getElem_cons hlt, hv]
  unfold mkW
  rw [e, words_app _ (noBlank_piece hn), List.map_cons]
  congr 1
  rw [← Lib.extract_data, mk_data]

theorem words_end {s : ByteArray} {a : Nat} (hn : noBlank s a s.size) : mkW (s.data.toList.drop a) = [s.extract a s.size] := by
  have e : s.data.toList.drop a = (s.data.toList.drop a).take (s.size - a) := by
    rw [List.take_of_length_le (by rw [List.length_drop]; exact Nat.le_refl _)]
  unfold mkW
  rw [e, words_none (noBlank_piece hn), ← Lib.extract_data, List.map_cons, mk_data]; rfl

/-- the strings as cells -/
def strs (L : List ByteArray) : List Value := L.map Value.string

theorem splitB_words (s : ByteArray) : Lib.splitB ⟨#[32]⟩ 0 (Lib.countB s ⟨#[32]⟩) s = wordsB s := by
  have h := Lib.splitB_data ⟨#[32]⟩ 0 (Lib.countB s ⟨#[32]⟩) s
  have h2 := split_words _ s.data.toList (Nat.le_refl _)
  have h3 : (Lib.splitB ⟨#[32]⟩ 0 (Lib.countB s ⟨#[32]⟩) s).map (·.data.toList) = wordsF s.data.toList := h.trans h2
  unfold wordsB mkW
  rw [← h3, List.map_map]
  conv => lhs; rw [← List.map_id (Lib.splitB ⟨#[32]⟩ 0 (Lib.countB s ⟨#[32]⟩) s)]
  apply List.map_congr_left
  intro b _
  exact (mk_data b).symm

theorem count_words (s : ByteArray) : Lib.countB s ⟨#[32]⟩ + 1 = (wordsB s).length := by
  rw [← splitB_words]
  exact (Lib.splitB_all ⟨#[32]⟩ (by decide) 0 _ s rfl).symm

theorem count_le (s : ByteArray) : Lib.countB s ⟨#[32]⟩ ≤ s.size := Lib.countB_le ⟨#[32]⟩ (by decide) s.size s (Nat.le_refl _)

/-- a block of strings of its own is owned -/
theorem own_strs {w : World} {b base : Nat} {L : List ByteArray} (h : Blk w b (strs L).toArray 9) (hb : base ≤ b) (hl : L.length ≤ maxLen) :
    Own w base 9 (.slice (some ⟨b, 0, none⟩) L.length L.length) (strs L) := by
  refine ⟨by simp [strs], .inr ⟨b, L.length, (strs L).toArray, by simp [strs], hb, h, by simp [strs], hl, by simp [strs], by simp [strs]; exact List.take_of_length_le (by simp)⟩⟩

theorem octet_Words (s : ByteArray) (m : Int) (w : World) (hs : s.size ≤ 100000) (hm : w.cell? ⟨1, 0, none⟩ = some (.int .i64 m)) :
    Calls Tryd.prog 22 #[.string s] w fun e w' => ∃ v, e = .returned v ∧ Own w' w.heap.size 9 v (strs (wordsB s)) ∧ Kp (fun _ => False) w w' := by
  have HM := Lib.hid hm; clear hm
  go_enter Tryd.func22, Tryd.ntmps22
  go_wp2_with fail
  refine (Tryd.strings_Split s ⟨#[32]⟩ m _ (by omega) HM.out (by decide)).mono ?_
  rintro e w' ⟨rfl, hw⟩
  go_wp2_with fail
  go_ret
  subst hw
  rw [count_words, splitB_words]
  refine ⟨_, rfl, own_strs (Blk.new _ _ _) (Nat.le_refl _) ?_, (Kp.refl _ _).alloc _⟩
  rw [← count_words]
  have := count_le s
  unfold maxLen; omega

theorem strInfo : (Tryd.prog.info? 9).map (fun i => (i.zero, i.size, i.bytes)) = some (some (.string .empty), 1, 16) := by kernel_rfl

theorem strs_snoc (L : List ByteArray) (b : ByteArray) : strs (L ++ [b]) = strs L ++ [.string b] := by simp [strs]
theorem strs_length (L : List ByteArray) : (strs L).length = L.length := by simp [strs]

end Go.Proofs.YtkgmiclmpfahlaaDoor

/-
  Literals, and a derivation's lines, as text: what is read. No program in sight.
-/
namespace Go.Proofs.YtkgmiclmpfahlaaDoor
open Go.RowKit

/-- a literal's word begins with the sign of an inverse -/
def negW (w : ByteArray) : Bool := decide (0 < w.size ∧ bt w 0 = 33)
def digW (w : ByteArray) : ByteArray := if negW w then w.extract 1 w.size else w

/-- the literal of a word -/
def litR (w : ByteArray) : Option Nat :=
  if (natN (digW w) 0).2.2 = 0 ∧ (natN (digW w) 0).2.1 = (digW w).size ∧ (natN (digW w) 0).1 ≤ 16777216 then some (2 * (natN (digW w) 0).1 + (if negW w then 1 else 0)) else none

def litsR : List ByteArray → Option (List Nat)
  | [] => some []
  | w :: ws => match litR w, litsR ws with
    | some x, some l => some (x :: l)
    | _, _ => none

theorem litsR_append : ∀ a b : List ByteArray, litsR (a ++ b) = match litsR a, litsR b with
    | some x, some y => some (x ++ y)
    | _, _ => none
  | [], b => by simp only [List.nil_append, litsR]; cases litsR b <;> rfl
  | w :: a, b => by
    rw [List.cons_append]
    simp only [litsR]
    rw [litsR_append a b]
    cases litR w <;> cases litsR a <;> cases litsR b <;> rfl

theorem litsR_len : ∀ {a : List ByteArray} {l : List Nat}, litsR a = some l → l.length = a.length
  | [], l, h => by simp [litsR] at h; subst h; rfl
  | w :: a, l, h => by
    simp only [litsR] at h
    cases h1 : litR w with
    | none => rw [h1] at h; simp at h
    | some x =>
      cases h2 : litsR a with
      | none => rw [h1, h2] at h; simp at h
      | some y =>
        rw [h1, h2] at h
        simp at h
        subst h
        simp [litsR_len h2]

theorem litsR_bad {a : List ByteArray} {k : Nat} {w : ByteArray} (hk : a[k]? = some w) (h : litR w = none) : litsR a = none := by
  have hl : k < a.length := (List.getElem?_eq_some_iff.1 hk).1
  have e : a = a.take k ++ w :: a.drop (k + 1) := by
    have h1 := List.take_append_drop k a
    rw [List.drop_eq_getElem_cons hl] at h1
    rw [List.getElem?_eq_getElem hl] at hk
    rw [Option.some.inj hk] at h1
    exact h1.symm
  rw [e, litsR_append]
  simp only [litsR, h]
  cases litsR (a.take k) <;> rfl

theorem litsR_snoc {a : List ByteArray} {l : List Nat} {w : ByteArray} {x : Nat} (h1 : litsR a = some l) (h2 : litR w = some x) : litsR (a ++ [w]) = some (l ++ [x]) := by
  rw [litsR_append, h1]
  simp [litsR, h2]

/-- the line of a text without its end -/
def lineR (s : ByteArray) : Option (Bool × List Nat) :=
  match wordsB s with
  | [] => none
  | w :: ws => if w = ⟨#[43]⟩ then (litsR ws).map (fun l => (false, l)) else if w = ⟨#[45]⟩ then (litsR ws).map (fun l => (true, l)) else none

structure DerR where
  l : List (Bool × List Nat)
  n : Nat
  e : Nat

def derivR (s : ByteArray) : Nat → List (Bool × List Nat) → Nat → Nat → DerR
  | 0, L, _, _ => ⟨L, 0, 0⟩
  | f + 1, L, p, n =>
    if s.size ≤ p then ⟨L, 0, 0⟩
    else if (lineT s (p : Nat)).2.2 ≠ 0 then ⟨[], n + 1, (lineT s (p : Nat)).2.2⟩
    else match lineR (lineT s (p : Nat)).1 with
      | none => ⟨[], n + 1, 2⟩
      | some x => derivR s f (L ++ [x]) (lineT s (p : Nat)).2.1 (n + 1)

/-- what is read of a text -/
def derivT (s : ByteArray) : DerR := if 1048576 < s.size then ⟨[], 0, 4⟩ else derivR s (s.size + 1) [] 0 0

end Go.Proofs.YtkgmiclmpfahlaaDoor

/-
  octet.Nat and its reference: what they compute.
-/
namespace Go.Proofs.YtkgmiclmpfahlaaDoor
open Go.RowKit

def tripI (r : Nat × Nat × Nat) : Value := .tuple #[.int .i64 r.1, .int .i64 r.2.1, .int .i64 r.2.2]

theorem octet_digit (b : Nat) (w : World) (hb : b < 256) :
    Calls Tryd.prog 43 #[.int .u8 b] w fun e w' => e = .returned (.bool (decide (48 ≤ b ∧ b ≤ 57))) ∧ w = w' := by
  by_cases h1 : 48 ≤ b
  · by_cases h2 : b ≤ 57
    · have e := Lib.hid (show decide (48 ≤ b ∧ b ≤ 57) = true by simp [h1, h2])
      go_enter Tryd.func43, Tryd.ntmps43
      go_wp2
      go_ret
      rw [e.out]
      exact ⟨by simp; omega, rfl⟩
    · have e := Lib.hid (show decide (48 ≤ b ∧ b ≤ 57) = false by simp [h2])
      go_enter Tryd.func43, Tryd.ntmps43
      go_wp2
      go_ret
      rw [e.out]
      exact ⟨by simp; omega, rfl⟩
  · have e := Lib.hid (show decide (48 ≤ b ∧ b ≤ 57) = false by simp [h1])
    go_enter Tryd.func43, Tryd.ntmps43
    go_wp2
    go_ret
    first | exact ⟨rfl, rfl⟩ | (rw [e.out]; exact ⟨rfl, rfl⟩)

theorem Kp.freeze {S : Nat → Prop} {a w : World} (h : Kp S a w) {p : Addr} (hp : p.block < a.heap.size → S p.block) (n : Nat) : Kp S a (w.freeze p n) := by
  unfold World.freeze
  split
  · exact h
  · refine ⟨h.os, h.tape, h.output, by simpa using h.size, fun k hk hS => ?_⟩
    show (w.heap.modify p.block _)[k]? = _
    rw [Array.getElem?_modify, if_neg (fun e => hS (by subst e; exact hp hk))]
    exact h.block k hk hS

theorem kp_bytesWorld (w : World) (e : TypeId) (t : ByteArray) : Kp (fun _ => False) w (Lib.bytesWorld w e t) := by
  unfold Lib.bytesWorld
  exact Kp.freeze (((Kp.refl _ w).drew).alloc _) (fun h => absurd h (by simp)) 1

set_option maxRecDepth 100000 in
set_option maxHeartbeats 1000000 in
theorem octet_Nat_in (s : ByteArray) (at_ : Nat) (w : World) (hs : s.size ≤ 9223372036854775000) (ha : at_ ≤ s.size) :
    Calls Tryd.prog 32 #[.string s, .int .i64 at_] w fun e w' => e = .returned (tripI (natN s at_)) ∧ Kp (fun _ => False) w w' := by
  have o1 : (decide ((at_ : Int) < 0) || decide ((s.size : Int) < (at_ : Int))) = false := by simp; omega
  go_enter Tryd.func32, Tryd.ntmps32
  go_wp2_with fail
  refine (octet_out _ _ _).mono ?_
  rintro e w' ⟨rfl, rfl⟩
  rw [o1]
  go_wp2_with fail
  go_loop [7] (fun v7 => ∃ j : Nat, v7 = .int .i64 j ∧ at_ ≤ j ∧ j ≤ s.size ∧ ∀ k, at_ ≤ k → k < j → isDig s k) (fun v7 => s.size - (intOf v7).toNat)
  case atStart => exact ⟨at_, rfl, by omega, by omega, fun k h1 h2 => by omega⟩
  case round =>
    obtain ⟨j, rfl, hj1, hj2, hd⟩ := hrel
    have HD := Lib.hid hd; clear hd
    by_cases hlt : j < s.size
    · have hb2 := bt_lt s j
      obtain ⟨B, hB⟩ : ∃ B, B = bt s j := ⟨_, rfl⟩
      have hb := bt_eq hlt
      rw [← hB] at hb2 hb
      have HB := Lib.hid hB; clear hB
      by_cases hdig : 48 ≤ B ∧ B ≤ 57
      · have hb3 : decide (48 ≤ B ∧ B ≤ 57) = true := by simp [hdig]
        go_wp2_with fail
        refine (octet_digit B _ hb2).mono ?_
        rintro e w' ⟨rfl, rfl⟩
        rw [hb3]
        go_wp2_with fail
        go_round
        case rel =>
          refine ⟨j + 1, by go_num, by omega, by omega, fun k h1 h2 => ?_⟩
          by_cases e : k = j
          · subst e; unfold isDig; rw [← HB.out]; exact hdig
          · exact HD.out k h1 (by omega)
        case measure => simp [intOf]; omega
      · have hb3 : decide (48 ≤ B ∧ B ≤ 57) = false := by simp only [hdig, decide_false]
        have HE := Lib.hid (endOf_is hj1 hj2 HD.out (.inr (by unfold isDig; rw [← HB.out]; exact hdig)))
        go_wp2_with fail
        refine (octet_digit B _ hb2).mono ?_
        rintro e w' ⟨rfl, rfl⟩
        rw [hb3]
        clear hb hb3 hdig HB hb2
        obtain ⟨n, rfl⟩ : ∃ n, j = at_ + n := ⟨j - at_, by omega⟩
        have HNN : Hid (natN s at_ = if at_ = s.size then (0, 0, 3) else if n = 0 ∨ bt s at_ = 48 ∧ 1 < n then (0, 0, 2) else if 9 < n then (0, 0, 5) else (numb s at_ n, at_ + n, 0)) := by
          show natN s at_ = _
          unfold natN
          rw [HE.out, show at_ + n - at_ = n from by omega]
          simp only [show (at_ + n = at_) = (n = 0) from propext (by omega), show (at_ + 1 < at_ + n) = (1 < n) from propext (by omega)]
        clear HE
        by_cases hend : at_ = s.size
        · have t1 : ((at_ : Int) == (s.size : Int)) = true := by rw [beq_iff_eq]; omega
          rw [if_pos hend] at HNN
          clear hend
          go_wp2_with fail
          go_ret3
          rw [HNN.out]
          exact ⟨rfl, Kp.refl _ _⟩
        · have t1 : ((at_ : Int) == (s.size : Int)) = false := by rw [beq_eq_false_iff_ne]; omega
          rw [if_neg hend] at HNN
          by_cases hn0 : n = 0
          · subst hn0
            have e1 : (s.extract at_ at_).toList = [] := cut_empty s at_
            have e2 : (s.extract at_ at_).toList.isEmpty = true := by rw [e1]; rfl
            rw [if_pos (.inl rfl)] at HNN
            rw [Nat.add_zero] at *
            clear hend
            go_wp2_with fail
            go_ret3
            rw [HNN.out]
            exact ⟨rfl, Kp.refl _ _⟩
          · have hcs := cut_size (s := s) (i := at_) (n := n) hj2
            have hsz : 0 < (s.extract at_ (at_ + n)).size := by rw [hcs]; omega
            have e1 := cut_some hj2 (show 0 < n by omega)
            have e2 : (s.extract at_ (at_ + n)).toList.isEmpty = false := by simpa using e1
            have hc0 := cut_first hj2 hsz
            have hC := bt_lt s at_
            generalize bt s at_ = C at hc0 HNN hC
            have HAT := Lib.hid (show Lib.atoi (s.extract at_ (at_ + n)).data.toList = some (numb s at_ n : Int) by rw [cut_list]; exact word_atoi (by omega) hj2 (fun k hk => HD.out (at_ + k) (by omega) (by omega)))
            by_cases h48 : C = 48 ∧ 1 < n
            · obtain ⟨rfl, hn1⟩ := h48
              rw [if_pos (.inr ⟨rfl, hn1⟩)] at HNN
              have d1 : decide ((1 : Int) < (n : Int)) = true := by simp; omega
              go_wp2_with fail
              go_ret3
              rw [HNN.out]
              exact ⟨rfl, Kp.refl _ _⟩
            · rw [if_neg (by omega)] at HNN
              by_cases hn9 : 9 < n
              · rw [if_pos hn9] at HNN
                have hC48 : ¬ C = 48 := by omega
                have hC48i : ¬ (C : Int) = 48 := by omega
                have d1 : decide ((9 : Int) < (n : Int)) = true := by simp; omega
                go_wp2_with fail
                go_ret3
                rw [HNN.out]
                exact ⟨rfl, Kp.refl _ _⟩
              · rw [if_neg hn9] at HNN
                have d1 : decide ((9 : Int) < (n : Int)) = false := by simp; omega
                have hnum := numb_lt (s := s) (i := at_) n (fun k hk => HD.out (at_ + k) (by omega) (by omega))
                by_cases hC48 : C = 48
                · subst hC48
                  obtain rfl : n = 1 := by omega
                  go_wp2_with fail
                  refine (Tryd.strconv_Atoi _ _ (by rw [hcs]; omega) HAT.out _).mono ?_
                  rintro e w1 ⟨rfl, t, rfl⟩
                  go_wp2_with fail
                  go_ret3
                  rw [HNN.out]
                  exact ⟨rfl, kp_bytesWorld _ _ _⟩
                · have hC48i : ¬ (C : Int) = 48 := by omega
                  go_wp2_with fail
                  refine (Tryd.strconv_Atoi _ _ (by rw [hcs]; omega) HAT.out _).mono ?_
                  rintro e w1 ⟨rfl, t, rfl⟩
                  go_wp2_with fail
                  go_ret3
                  rw [HNN.out]
                  exact ⟨rfl, kp_bytesWorld _ _ _⟩
    · have HE := Lib.hid (endOf_is hj1 hj2 HD.out (.inl (by omega)))
      obtain ⟨n, rfl⟩ : ∃ n, j = at_ + n := ⟨j - at_, by omega⟩
      have HNN : Hid (natN s at_ = if at_ = s.size then (0, 0, 3) else if n = 0 ∨ bt s at_ = 48 ∧ 1 < n then (0, 0, 2) else if 9 < n then (0, 0, 5) else (numb s at_ n, at_ + n, 0)) := by
        show natN s at_ = _
        unfold natN
        rw [HE.out, show at_ + n - at_ = n from by omega]
        simp only [show (at_ + n = at_) = (n = 0) from propext (by omega), show (at_ + 1 < at_ + n) = (1 < n) from propext (by omega)]
      clear HE
      by_cases hend : at_ = s.size
      · have t1 : ((at_ : Int) == (s.size : Int)) = true := by rw [beq_iff_eq]; omega
        rw [if_pos hend] at HNN
        clear hend
        go_wp2_with fail
        go_ret3
        rw [HNN.out]
        exact ⟨rfl, Kp.refl _ _⟩
      · have t1 : ((at_ : Int) == (s.size : Int)) = false := by rw [beq_eq_false_iff_ne]; omega
        rw [if_neg hend] at HNN
        by_cases hn0 : n = 0
        · subst hn0
          have e1 : (s.extract at_ at_).toList = [] := cut_empty s at_
          have e2 : (s.extract at_ at_).toList.isEmpty = true := by rw [e1]; rfl
          rw [if_pos (.inl rfl)] at HNN
          rw [Nat.add_zero] at *
          clear hend
          go_wp2_with fail
          go_ret3
          rw [HNN.out]
          exact ⟨rfl, Kp.refl _ _⟩
        · have hcs := cut_size (s := s) (i := at_) (n := n) hj2
          have hsz : 0 < (s.extract at_ (at_ + n)).size := by rw [hcs]; omega
          have e1 := cut_some hj2 (show 0 < n by omega)
          have e2 : (s.extract at_ (at_ + n)).toList.isEmpty = false := by simpa using e1
          have hc0 := cut_first hj2 hsz
          have hC := bt_lt s at_
          generalize bt s at_ = C at hc0 HNN hC
          have HAT := Lib.hid (show Lib.atoi (s.extract at_ (at_ + n)).data.toList = some (numb s at_ n : Int) by rw [cut_list]; exact word_atoi (by omega) hj2 (fun k hk => HD.out (at_ + k) (by omega) (by omega)))
          by_cases h48 : C = 48 ∧ 1 < n
          · obtain ⟨rfl, hn1⟩ := h48
            rw [if_pos (.inr ⟨rfl, hn1⟩)] at HNN
            have d1 : decide ((1 : Int) < (n : Int)) = true := by simp; omega
            go_wp2_with fail
            go_ret3
            rw [HNN.out]
            exact ⟨rfl, Kp.refl _ _⟩
          · rw [if_neg (by omega)] at HNN
            by_cases hn9 : 9 < n
            · rw [if_pos hn9] at HNN
              have hC48 : ¬ C = 48 := by omega
              have hC48i : ¬ (C : Int) = 48 := by omega
              have d1 : decide ((9 : Int) < (n : Int)) = true := by simp; omega
              go_wp2_with fail
              go_ret3
              rw [HNN.out]
              exact ⟨rfl, Kp.refl _ _⟩
            · rw [if_neg hn9] at HNN
              have d1 : decide ((9 : Int) < (n : Int)) = false := by simp; omega
              have hnum := numb_lt (s := s) (i := at_) n (fun k hk => HD.out (at_ + k) (by omega) (by omega))
              by_cases hC48 : C = 48
              · subst hC48
                obtain rfl : n = 1 := by omega
                go_wp2_with fail
                refine (Tryd.strconv_Atoi _ _ (by rw [hcs]; omega) HAT.out _).mono ?_
                rintro e w1 ⟨rfl, t, rfl⟩
                go_wp2_with fail
                go_ret3
                rw [HNN.out]
                exact ⟨rfl, kp_bytesWorld _ _ _⟩
              · have hC48i : ¬ (C : Int) = 48 := by omega
                go_wp2_with fail
                refine (Tryd.strconv_Atoi _ _ (by rw [hcs]; omega) HAT.out _).mono ?_
                rintro e w1 ⟨rfl, t, rfl⟩
                go_wp2_with fail
                go_ret3
                rw [HNN.out]
                exact ⟨rfl, kp_bytesWorld _ _ _⟩

theorem octet_Nat (s : ByteArray) (x : Int) (w : World) (hs : s.size ≤ 9223372036854775000) :
    Calls Tryd.prog 32 #[.string s, .int .i64 x] w fun e w' => e = .returned (tripI (natT s x)) ∧ Kp (fun _ => False) w w' := by
  by_cases h : x < 0 ∨ (s.size : Int) < x
  · have HT := Lib.hid (show natT s x = (0, 0, 1) by unfold natT; rw [if_pos h])
    have o1 : (decide (x < 0) || decide ((s.size : Int) < x)) = true := by simpa using h
    clear h
    go_enter Tryd.func32, Tryd.ntmps32
    go_wp2_with fail
    refine (octet_out _ _ _).mono ?_
    rintro e w' ⟨rfl, rfl⟩
    rw [o1]
    go_wp2_with fail
    go_ret3
    rw [HT.out]
    exact ⟨rfl, Kp.refl _ _⟩
  · obtain ⟨at_, rfl⟩ : ∃ at_ : Nat, x = at_ := ⟨x.toNat, by omega⟩
    have e : natT s (at_ : Int) = natN s at_ := by unfold natT; rw [if_neg h, Int.toNat_natCast]
    rw [e]
    exact octet_Nat_in s at_ w hs (by omega)

end Go.Proofs.YtkgmiclmpfahlaaDoor

/-
  octet.Num and its reference; octet.Dec: what they compute.
-/
namespace Go.Proofs.YtkgmiclmpfahlaaDoor
open Go.RowKit

/-- a number's digits of seven bits -/
def numL : Nat → Nat → List UInt8
  | 0, n => [UInt8.ofNat n]
  | f + 1, n => if n ≤ 127 then [UInt8.ofNat n] else UInt8.ofNat (n % 128 + 128) :: numL f (n / 128)

def bytesV (l : List UInt8) : List Value := l.map (fun b => Value.int .u8 (b.toNat : Int))

theorem bytesV_length (l : List UInt8) : (bytesV l).length = l.length := by simp [bytesV]

theorem numL_length (f : Nat) : ∀ n, (numL f n).length ≤ f + 1 := by
  induction f with
  | zero => intro n; simp [numL]
  | succ f ih => intro n; simp only [numL]; split; simp; (have := ih (n / 128); simp; omega)

theorem or_128 {m : Nat} (h : m < 256) : m ||| 128 = m % 128 + 128 := by
  have : ∀ m, m < 256 → m ||| 128 = m % 128 + 128 := by decide +kernel
  exact this m h

theorem byte_or (m : Nat) : bits .or .u8 ((m : Int) % 256) 128 = (((UInt8.ofNat (m % 128 + 128)).toNat : Nat) : Int) := by
  have h := Go.u8_or_nat (m % 256) 128 (by omega) (by decide)
  rw [or_128 (by omega)] at h
  rw [show ((m : Int) % 256) = ((m % 256 : Nat) : Int) from by omega]
  refine h.trans ?_
  simp only [UInt8.toNat_ofNat']
  omega

/-- 'string(b)' of an owned row of bytes -/
theorem own_string {w : World} {base g n cap : Nat} {l : List UInt8} (h : Own w base 5 (.slice (some ⟨g, 0, none⟩) n cap) (bytesV l)) :
    (convert 57 9 (.slice (some ⟨g, 0, none⟩) n cap)).run Tryd.prog w = .ok (.string ⟨l.toArray⟩) w := by
  have hn : n = l.length := by
    obtain ⟨a, c, e, _⟩ := h.form
    simp only [Value.slice.injEq] at e
    rw [e.2.1, bytesV_length]
  subst hn
  refine run_convert_bytes_back w 57 9 5 ⟨g, 0, none⟩ cap l Tryd.underlying57 Tryd.underlying5 Tryd.underlying9 (fun j hj => ?_)
  rw [add_plain', Nat.zero_add]
  exact h.cell (by simp [bytesV, hj])

theorem Tryd.info5 : (Tryd.prog.info? 5).map (fun i => (i.zero, i.size, i.bytes)) = some (some (.int .u8 0), 1, 1) := by kernel_rfl

end Go.Proofs.YtkgmiclmpfahlaaDoor

/-
  latchetlaw01: lives; the table that strconv.Itoa reads.
-/
namespace Go.Proofs.YtkgmiclmpfahlaaDoor
open Go.RowKit

/-- the table of powers of ten lies as its text lays it -/
def Tab (w : World) : Prop := Lib.TabIs Tryd.prog w "internal/strconv.uint64pow10" .u64 Lib.pow10Tab

theorem gPow : Tryd.prog.globalNamed "internal/strconv.uint64pow10" = some 2 := by kernel_rfl

theorem Tab.lt {w : World} (h : Tab w) : 2 < w.heap.size :=
  World.block_lt_of_cell? w _ (Lib.TabIs.cell h gPow 0 (by decide))

theorem Tab.kp {w w' : World} (h : Tab w) (k : Kp (fun _ => False) w w') : Tab w' :=
  var?_below (k.below (Nat.le_refl _) (fun _ _ h => h)) gPow h.lt h

theorem kp_grow (w : World) (k : Nat) (os : Array Obj) : Kp (fun _ => False) w (Sort.grow (w.drewN k) os) := by
  refine ⟨rfl, rfl, rfl, ?_, fun i hi _ => ?_⟩
  · show w.heap.size ≤ (w.heap ++ os).size
    simp
  · show (w.heap ++ os)[i]? = _
    rw [Array.getElem?_append_left hi]

theorem octet_Dec (n : Int) (w : World) (h0 : -9223372036854775808 ≤ n) (h1 : n ≤ 9223372036854775807) (ht : Tab w) :
    Calls Tryd.prog 14 #[.int .i64 n] w fun e w' => e = .returned (.string ⟨(Lib.itoa n).toArray⟩) ∧ Kp (fun _ => False) w w' := by
  have HT := Lib.hid ht; clear ht
  go_enter Tryd.func14, Tryd.ntmps14
  go_wp2_with fail
  refine (Tryd.strconv_Itoa n h0 h1 _ HT.out).mono ?_
  rintro e w' ⟨rfl, k, os, rfl⟩
  go_wp2_with fail
  go_ret
  exact ⟨rfl, kp_grow _ _ _⟩

end Go.Proofs.YtkgmiclmpfahlaaDoor

/-
  A number by digits of seven bits is got again.
-/
namespace Go.Proofs.YtkgmiclmpfahlaaDoor
open Go.RowKit

theorem bt_list (l : List UInt8) (i : Nat) (b : UInt8) (h : l[i]? = some b) : bt ⟨l.toArray⟩ i = b.toNat := by
  have hi : i < l.length := (List.getElem?_eq_some_iff.1 h).1
  have hs : i < (⟨l.toArray⟩ : ByteArray).size := by simpa [ByteArray.size] using hi
  rw [← bt_eq hs]
  have : (⟨l.toArray⟩ : ByteArray)[i]'hs = l[i] := rfl
  rw [this]
  rw [List.getElem?_eq_getElem hi] at h
  simp only [Option.some.injEq] at h
  rw [h]

theorem size_list (l : List UInt8) : (⟨l.toArray⟩ : ByteArray).size = l.length := by simp [ByteArray.size]

theorem ofNat_toNat {m : Nat} (h : m < 256) : (UInt8.ofNat m).toNat = m := by
  simp only [UInt8.toNat_ofNat']; omega

theorem get_num (more : List UInt8) (r : Nat) : ∀ (k m a : Nat) (pre : List UInt8), pre.length = k → k + (r + 1) = 5 → m * 128 ^ k < 4294967296 → (0 < k → 0 < m) →
    getR ⟨(pre ++ numL (r + 1) m ++ more).toArray⟩ 0 (r + 1) k a = (a + m * 128 ^ k, k + (numL (r + 1) m).length, 0) := by
  induction r with
  | zero =>
    intro k m a pre hp hk hm h0
    have hk4 : k = 4 := by omega
    subst hk4
    have hm15 : m ≤ 15 := by omega
    have hL : numL 1 m = [UInt8.ofNat m] := by simp only [numL]; rw [if_pos (by omega)]
    have hb : bt ⟨(pre ++ numL 1 m ++ more).toArray⟩ (0 + 4) = m := by
      rw [bt_list _ _ (UInt8.ofNat m) (by rw [hL, List.append_assoc, List.getElem?_append_right (by omega), hp]; rfl), ofNat_toNat (by omega)]
    rw [getR_step, hb, if_neg (by rw [size_list]; simp [hL]; omega), if_neg (by omega), if_neg (by have := h0 (by omega); omega), if_pos (by omega), hL]
    simp only [List.length_singleton]
    rw [Nat.mod_eq_of_lt (by omega)]
  | succ r ih =>
    intro k m a pre hp hk hm h0
    by_cases hs : m ≤ 127
    · have hL : numL (r + 1 + 1) m = [UInt8.ofNat m] := by simp only [numL]; rw [if_pos hs]
      have hb : bt ⟨(pre ++ numL (r + 1 + 1) m ++ more).toArray⟩ (0 + k) = m := by
        rw [bt_list _ _ (UInt8.ofNat m) (by rw [hL, List.append_assoc, List.getElem?_append_right (by omega), hp, Nat.zero_add, Nat.sub_self]; rfl), ofNat_toNat (by omega)]
      rw [getR_step, hb, if_neg (by rw [size_list]; simp [hL]; omega), if_neg (by omega), if_neg (fun h => by have := h0 h.1; omega), if_pos (by omega), hL]
      simp only [List.length_singleton]
      rw [Nat.mod_eq_of_lt (by omega)]
      simp
    · have hL : numL (r + 1 + 1) m = UInt8.ofNat (m % 128 + 128) :: numL (r + 1) (m / 128) := by rw [numL, if_neg hs]
      have hb : bt ⟨(pre ++ numL (r + 1 + 1) m ++ more).toArray⟩ (0 + k) = m % 128 + 128 := by
        rw [bt_list _ _ (UInt8.ofNat (m % 128 + 128)) (by rw [hL, List.append_assoc, List.getElem?_append_right (by omega), hp, Nat.zero_add, Nat.sub_self]; rfl), ofNat_toNat (by omega)]
      have e : pre ++ numL (r + 1 + 1) m ++ more = (pre ++ [UInt8.ofNat (m % 128 + 128)]) ++ numL (r + 1) (m / 128) ++ more := by rw [hL]; simp
      rw [getR_step, hb, if_neg (by rw [size_list]; simp [hL]; omega), if_neg (by omega), if_neg (by omega), if_neg (by omega), e]
      rw [ih (k + 1) (m / 128) _ _ (by simp [hp]) (by omega) ?_ (fun _ => by omega)]
      · rw [hL, List.length_cons]
        refine Prod.ext ?_ (Prod.ext ?_ rfl)
        · show a + (m % 128 + 128) % 128 * 128 ^ k + m / 128 * 128 ^ (k + 1) = a + m * 128 ^ k
          have e1 : (m % 128 + 128) % 128 = m % 128 := by omega
          have e2 : m * 128 ^ k = (m % 128 + 128 * (m / 128)) * 128 ^ k := by congr 1; omega
          rw [e1, e2, Nat.pow_succ, Nat.add_mul]
          have : m / 128 * (128 ^ k * 128) = 128 * (m / 128) * 128 ^ k := by
            rw [Nat.mul_comm (128 ^ k) 128, ← Nat.mul_assoc, Nat.mul_comm (m / 128) 128]
          omega
        · show k + 1 + _ = k + (_ + 1)
          omega
      · rw [Nat.pow_succ]
        have : m / 128 * (128 ^ k * 128) = (m / 128 * 128) * 128 ^ k := by
          rw [Nat.mul_comm (128 ^ k) 128, ← Nat.mul_assoc]
        rw [this]
        exact Nat.lt_of_le_of_lt (Nat.mul_le_mul_right _ (Nat.div_mul_le_self m 128)) hm

theorem get_puts (n : Nat) (more : List UInt8) (hn : n < 4294967296) : getT ⟨(numL 5 n ++ more).toArray⟩ 0 = (n, (numL 5 n).length, 0) := by
  have h := get_num more 4 0 n 0 [] rfl rfl (by omega) (by omega)
  unfold getT
  rw [if_neg (by omega)]
  unfold getN
  simpa using h

end Go.Proofs.YtkgmiclmpfahlaaDoor

/-
  latchetref01.Num and Dec: what they compute.
-/
namespace Go.Proofs.YtkgmiclmpfahlaaDoor
open Go.RowKit

/-- 'string([]byte{b})' -/
theorem one_string (E : Nat) (hE : E < 256) (u : World) :
    (convert 57 9 (.slice (some ⟨u.heap.size, 0, none⟩) 1 1)).run Tryd.prog (u.alloc (.cells #[.int .u8 (E : Int)] 5)) = .ok (.string ⟨#[UInt8.ofNat E]⟩) (u.alloc (.cells #[.int .u8 (E : Int)] 5)) := by
  have h := run_convert_bytes_back (P := Tryd.prog) (u.alloc (.cells #[.int .u8 (E : Int)] 5)) 57 9 5 ⟨u.heap.size, 0, none⟩ 1 [UInt8.ofNat E] Tryd.underlying57 Tryd.underlying5 Tryd.underlying9 (fun j hj => by
    have hj0 : j = 0 := by simpa using hj
    subst hj0
    rw [add_plain', Nat.zero_add]
    refine (World.cell?_alloc_at _ _ _ _ rfl).trans ?_
    simp [ofNat_toNat hE])
  exact h

theorem cat_bytes (a b : List UInt8) : (⟨a.toArray⟩ : ByteArray) ++ ⟨b.toArray⟩ = ⟨(a ++ b).toArray⟩ := by
  apply ByteArray.ext; simp

end Go.Proofs.YtkgmiclmpfahlaaDoor

/-
  latchetref01.Dec: what it computes: strconv.Itoa's numeral.
-/
namespace Go.Proofs.YtkgmiclmpfahlaaDoor
open Go.RowKit

theorem decLen : ∀ (k u : Nat), u < 10 ^ (k + 1) → (Lib.decDigits u).length ≤ k + 1
  | 0, u, h => by rw [Lib.decDigits, dif_pos (by simpa using h)]; simp
  | k + 1, u, h => by
    by_cases hu : u < 10
    · rw [Lib.decDigits, dif_pos hu]; simp
    · rw [Lib.decDigits, dif_neg hu]
      have := decLen k (u / 10) (by rw [Nat.pow_succ] at h; omega)
      simp; omega

theorem itoaLen {n : Int} (h1 : -9223372036854775808 ≤ n) (h2 : n ≤ 9223372036854775807) : (Lib.itoa n).length ≤ 21 := by
  have h := decLen 19 n.natAbs (by omega)
  unfold Lib.itoa
  split
  · simp; omega
  · have e : n.toNat = n.natAbs := by omega
    rw [e]; omega

theorem itoa_one {n : Int} (h0 : ¬ n < 0) (h : n < 10) : Lib.itoa n = [UInt8.ofNat (48 + n.toNat)] := by
  unfold Lib.itoa; rw [if_neg h0, Lib.decDigits, dif_pos (by omega)]

theorem itoa_more {n : Int} (h : ¬ n < 10) : Lib.itoa n = Lib.itoa (n / 10) ++ [UInt8.ofNat (48 + (n % 10).toNat)] := by
  unfold Lib.itoa
  rw [if_neg (by omega), if_neg (by omega)]
  conv => lhs; rw [Lib.decDigits, dif_neg (by omega)]
  rw [show (n / 10).toNat = n.toNat / 10 from by omega, show (n % 10).toNat = n.toNat % 10 from by omega]

theorem itoa_neg1 {n : Int} (h : n < 0) (h1 : -10 < n) : Lib.itoa n = 45 :: [UInt8.ofNat (48 - n).toNat] := by
  unfold Lib.itoa
  rw [if_pos h, Lib.decDigits, dif_pos (by omega), show (48 - n).toNat = 48 + n.natAbs from by omega]

theorem itoa_negm {n : Int} (h1 : n ≤ -10) : Lib.itoa n = Lib.itoa (n.tdiv 10) ++ [UInt8.ofNat (48 - n.tmod 10).toNat] := by
  obtain ⟨m, rfl⟩ : ∃ m : Nat, n = -(m : Int) := ⟨n.natAbs, by omega⟩
  rw [Int.neg_tdiv, Int.neg_tmod, Int.tdiv_eq_ediv_of_nonneg (by omega), Int.tmod_eq_emod_of_nonneg (by omega)]
  unfold Lib.itoa
  rw [if_pos (by omega), if_pos (by omega)]
  conv => lhs; rw [Lib.decDigits, dif_neg (by omega)]
  rw [show (-((m : Int) / 10)).natAbs = (-(m : Int)).natAbs / 10 from by omega, show (48 - -((m : Int) % 10)).toNat = 48 + (-(m : Int)).natAbs % 10 from by omega]
  rfl

/-- 'string([]byte{b})', wherever the cell lies -/
theorem one_string_at {E : Nat} (hE : E < 256) {k : Nat} {u : World} (h : u.cell? ⟨k, 0, none⟩ = some (.int .u8 (E : Int))) :
    (convert 57 9 (.slice (some ⟨k, 0, none⟩) 1 1)).run Tryd.prog u = .ok (.string ⟨#[UInt8.ofNat E]⟩) u := by
  have h := run_convert_bytes_back (P := Tryd.prog) u 57 9 5 ⟨k, 0, none⟩ 1 [UInt8.ofNat E] Tryd.underlying57 Tryd.underlying5 Tryd.underlying9 (fun j hj => by
    have hj0 : j = 0 := by simpa using hj
    subst hj0
    rw [add_plain', Nat.zero_add]
    refine h.trans ?_
    simp [ofNat_toNat hE])
  exact h

theorem one_string_v {V : Int} {E : Nat} (hE : E < 256) (hV : V = E) (u : World) :
    (convert 57 9 (.slice (some ⟨u.heap.size, 0, none⟩) 1 1)).run Tryd.prog (u.alloc (.cells #[.int .u8 V] 5)) = .ok (.string ⟨#[UInt8.ofNat E]⟩) (u.alloc (.cells #[.int .u8 V] 5)) := by
  subst hV; exact one_string E hE u

theorem one_kept {V : Int} {E : Nat} (hE : E < 256) (hV : V = E) {u w1 : World} (hK : Kp (fun _ => False) (u.alloc (.cells #[.int .u8 V] 5)).drew w1) :
    (convert 57 9 (.slice (some ⟨u.heap.size, 0, none⟩) 1 1)).run Tryd.prog w1 = .ok (.string ⟨#[UInt8.ofNat E]⟩) w1 := by
  subst hV
  refine one_string_at hE ?_
  have hb : w1.heap[u.heap.size]? = (u.alloc (.cells #[.int .u8 (E : Int)] 5)).heap[u.heap.size]? := Kp.block hK u.heap.size (by simp) (fun h => h)
  exact (World.cell?_of_block (a := ⟨u.heap.size, 0, none⟩) hb).trans (World.cell?_alloc_at _ _ _ _ rfl)

set_option maxHeartbeats 2000000 in
set_option maxRecDepth 100000 in
theorem ref_Dec_any (k : Nat) : ∀ (n : Int) (w : World), n.natAbs ≤ k → -9223372036854775808 ≤ n → n ≤ 9223372036854775807 →
    Calls Tryd.prog 17 #[.int .i64 n] w fun e w' => e = .returned (.string ⟨(Lib.itoa n).toArray⟩) ∧ Kp (fun _ => False) w w' := by
  induction k using Nat.strongRecOn with
  | _ k ih =>
    intro n w hk h1 h2
    by_cases hneg : n < 0
    · by_cases hs : -10 < n
      · have HI := Lib.hid (itoa_neg1 hneg hs)
        have hq : n.tdiv 10 = 0 := by
          obtain ⟨m, rfl⟩ : ∃ m : Nat, n = -(m : Int) := ⟨n.natAbs, by omega⟩
          rw [Int.neg_tdiv, Int.tdiv_eq_ediv_of_nonneg (by omega)]; omega
        obtain ⟨E, hE, hE2⟩ : ∃ E : Nat, 48 - n = (E : Int) ∧ E = (48 - n).toNat := ⟨(48 - n).toNat, by omega, rfl⟩
        have hE3 : E < 256 := by omega
        have HE2 := Lib.hid hE2; clear hE2
        have hcv := one_string E hE3
        clear ih
        go_enter Tryd.func17, Tryd.ntmps17
        go_wp2_with fail
        go_ret
        refine ⟨congrArg (fun x => Ending.returned (Value.string x)) ((cat_bytes [45] [UInt8.ofNat E]).trans ?_), (Kp.refl _ w).alloc _⟩
        rw [HI.out, HE2.out]; rfl
      · have HI := Lib.hid (itoa_negm (n := n) (by omega))
        obtain ⟨q, r, hq, hr, h10⟩ : ∃ q r : Int, n.tdiv 10 = q ∧ n.tmod 10 = r ∧ (q ≤ -1 ∧ n ≤ q ∧ n < q ∧ -9 ≤ r ∧ r ≤ 0) := by
          refine ⟨_, _, rfl, rfl, ?_⟩
          obtain ⟨m, rfl⟩ : ∃ m : Nat, n = -(m : Int) := ⟨n.natAbs, by omega⟩
          rw [Int.neg_tdiv, Int.neg_tmod, Int.tdiv_eq_ediv_of_nonneg (by omega), Int.tmod_eq_emod_of_nonneg (by omega)]; omega
        obtain ⟨E, hE2⟩ : ∃ E : Nat, E = (48 - r).toNat := ⟨_, rfl⟩
        have hE3 : E < 256 := by omega
        have hV : IntKind.wrap .u8 (IntKind.wrap .i64 (48 - r)) = (E : Int) := by
          rw [wrap_small _ (by omega) (by omega)]; unfold IntKind.wrap; simp [IntKind.bits, IntKind.signed]; omega
        have HE2 := Lib.hid hE2; clear hE2
        have HV := Lib.hid hV; clear hV
        have hcv := one_string_v hE3 HV.out
        have hcd := one_kept hE3 HV.out (Kp.refl _ (w.alloc (.cells #[.int .u8 (IntKind.wrap .u8 (IntKind.wrap .i64 (48 - r)))] 5)).drew)
        have hlen : ¬ 9223372036854775807 < (Lib.itoa q).length + 1 := by have := itoaLen (n := q) (by omega) (by omega); omega
        have hwq : IntKind.wrap .i64 q = q := hq ▸ wrap_i64_tdiv n 10 h1 h2 (by omega)
        have hrec : ∀ u : World, Calls Tryd.prog 17 #[.int .i64 q] u fun e w' => e = .returned (.string ⟨(Lib.itoa q).toArray⟩) ∧ Kp (fun _ => False) u w' :=
          fun u => ih q.natAbs (by omega) _ u (Nat.le_refl _) (by omega) (by omega)
        have hfin : ∀ w1, Kp (fun _ => False) w w1 → Ending.returned (Value.string ((⟨(Lib.itoa q).toArray⟩ : ByteArray) ++ ⟨#[UInt8.ofNat E]⟩)) = Ending.returned (.string ⟨(Lib.itoa n).toArray⟩) ∧ Kp (fun _ => False) w w1 :=
          fun w1 h => ⟨congrArg (fun x => Ending.returned (Value.string x)) ((cat_bytes _ [UInt8.ofNat E]).trans (by rw [HI.out, HE2.out, hq, hr])), h⟩
        have h0 : ¬ q = 0 := by omega
        clear ih
        go_enter Tryd.func17, Tryd.ntmps17
        go_wp2_with fail
        go_region_with (go_at_call 17; refine (hrec _).mono ?_; rintro e w1 ⟨rfl, hK1⟩; try have hcw : (convert 57 9 (.slice (some ⟨w.heap.size, 0, none⟩) 1 1)).run Tryd.prog w1 = _ := one_kept hE3 HV.out hK1)
        all_goals (go_wp2_with fail)
        all_goals go_ret
        · exact hfin _ ((Kp.trans (Kp.drew (Kp.refl _ w)) hK1 (fun _ _ h => h)).alloc _)
        · exact hfin _ (Kp.trans (Kp.drew (Kp.alloc (Kp.refl _ w) _)) hK1 (fun _ _ h => h))
        · exact hfin _ (Kp.trans (Kp.drew (Kp.alloc (Kp.refl _ w) _)) hK1 (fun _ _ h => h))
    by_cases hs : n < 10
    · have HI := Lib.hid (itoa_one hneg hs)
      obtain ⟨m, rfl⟩ : ∃ m : Nat, n = m := ⟨n.toNat, by omega⟩
      have hm : m < 10 := by omega
      obtain ⟨E, hE, hE2⟩ : ∃ E : Nat, 48 + (m : Int) = (E : Int) ∧ E = 48 + m := ⟨48 + m, by omega, rfl⟩
      have hE3 : E < 256 := by omega
      have HE2 := Lib.hid hE2; clear hE2
      have hcv := one_string E hE3
      go_enter Tryd.func17, Tryd.ntmps17
      go_wp2_with fail
      go_ret
      refine ⟨?_, (Kp.refl _ w).alloc _⟩
      rw [HI.out, HE2.out]; rfl
    · have HI := Lib.hid (itoa_more hs)
      obtain ⟨m, rfl⟩ : ∃ m : Nat, n = m := ⟨n.toNat, by omega⟩
      have hm : ¬ m < 10 := by omega
      obtain ⟨E, hE2⟩ : ∃ E : Nat, E = 48 + m % 10 := ⟨_, rfl⟩
      have hE3 : E < 256 := by omega
      have hV : IntKind.wrap .u8 (IntKind.wrap .i64 (48 + (m : Int).tmod 10)) = (E : Int) := by
        rw [Int.tmod_eq_emod_of_nonneg (by omega), wrap_small _ (by omega) (by omega)]; unfold IntKind.wrap; simp [IntKind.bits, IntKind.signed]; omega
      have HE2 := Lib.hid hE2; clear hE2
      have HV := Lib.hid hV; clear hV
      have hcv := one_string_v hE3 HV.out
      have hcd := one_kept hE3 HV.out (Kp.refl _ (w.alloc (.cells #[.int .u8 (IntKind.wrap .u8 (IntKind.wrap .i64 (48 + (m : Int).tmod 10)))] 5)).drew)
      have hlen : ¬ 9223372036854775807 < (Lib.itoa ((m : Int) / 10)).length + 1 := by have := itoaLen (n := (m : Int) / 10) (by omega) (by omega); omega
      have hwq : IntKind.wrap .i64 ((m : Int) / 10) = (m : Int) / 10 := wrap_small _ (by omega) (by omega)
      have hrec : ∀ u : World, Calls Tryd.prog 17 #[.int .i64 (IntKind.wrap .i64 ((m : Int) / 10))] u fun e w' => e = .returned (.string ⟨(Lib.itoa ((m : Int) / 10)).toArray⟩) ∧ Kp (fun _ => False) u w' :=
        fun u => by rw [hwq]; exact ih ((m : Int) / 10).natAbs (by omega) _ u (Nat.le_refl _) (by omega) (by omega)
      have hfin : ∀ w1, Kp (fun _ => False) w w1 → Ending.returned (Value.string ((⟨(Lib.itoa ((m : Int) / 10)).toArray⟩ : ByteArray) ++ ⟨#[UInt8.ofNat E]⟩)) = Ending.returned (.string ⟨(Lib.itoa (m : Int)).toArray⟩) ∧ Kp (fun _ => False) w w1 :=
        fun w1 h => ⟨congrArg (fun x => Ending.returned (Value.string x)) ((cat_bytes _ [UInt8.ofNat E]).trans (by rw [HI.out, HE2.out, show ((m : Int) % 10).toNat = m % 10 from by omega])), h⟩
      clear ih hwq
      go_enter Tryd.func17, Tryd.ntmps17
      go_wp2_with fail
      go_region_with (go_at_call 17; refine (hrec _).mono ?_; rintro e w1 ⟨rfl, hK1⟩; try have hcw : (convert 57 9 (.slice (some ⟨w.heap.size, 0, none⟩) 1 1)).run Tryd.prog w1 = _ := one_kept hE3 HV.out hK1)
      all_goals (go_wp2_with fail)
      all_goals go_ret
      · exact hfin _ ((Kp.trans (Kp.drew (Kp.refl _ w)) hK1 (fun _ _ h => h)).alloc _)
      · exact hfin _ (Kp.trans (Kp.drew (Kp.alloc (Kp.refl _ w) _)) hK1 (fun _ _ h => h))
      · exact hfin _ (Kp.trans (Kp.drew (Kp.alloc (Kp.refl _ w) _)) hK1 (fun _ _ h => h))

theorem ref_Dec (n : Int) (w : World) (h1 : -9223372036854775808 ≤ n) (h2 : n ≤ 9223372036854775807) :
    Calls Tryd.prog 17 #[.int .i64 n] w fun e w' => e = .returned (.string ⟨(Lib.itoa n).toArray⟩) ∧ Kp (fun _ => False) w w' :=
  ref_Dec_any n.natAbs n w (Nat.le_refl _) h1 h2

end Go.Proofs.YtkgmiclmpfahlaaDoor

/-
  lit and latchetref02: a literal's text, and the literal of a text.
-/
namespace Go.Proofs.YtkgmiclmpfahlaaDoor
open Go.RowKit

def gl (l : Int) : Bool := decide (0 ≤ l ∧ l ≤ 33554433)

/-- a literal's text -/
def litText (l : Int) : List UInt8 := if gl l then (if l % 2 = 1 then 33 :: Lib.itoa (l / 2) else Lib.itoa (l / 2)) else [63]

theorem and_one (n : Int) : bits .and .i64 n 1 = n % 2 := by
  have h1 : (BitVec.ofInt 64 1).toNat = 2 ^ 1 - 1 := by decide
  have key : (BitVec.ofInt 64 n &&& BitVec.ofInt 64 1).toNat = (n % ((2 ^ 64 : Nat) : Int)).toNat % 2 ^ 1 := by
    rw [BitVec.toNat_and, BitVec.toNat_ofInt, h1, Nat.and_two_pow_sub_one_eq_mod]
  show IntKind.i64.wrap ((BitVec.ofInt 64 n &&& BitVec.ofInt 64 1).toNat : Nat) = n % 2
  rw [key, IntKind.wrap_i64]
  omega

theorem litSize (l : Int) : (litText l).length ≤ 23 := by
  unfold litText
  split
  · have := itoaLen (n := l / 2)
    rename_i hg
    have h : 0 ≤ l ∧ l ≤ 33554433 := by simpa [gl] using hg
    have := this (by omega) (by omega)
    split
    · simp; omega
    · omega
  · simp

end Go.Proofs.YtkgmiclmpfahlaaDoor

/-
  Symbols and a comment behind a circuit: what is read. No program in sight.
-/
namespace Go.Proofs.YtkgmiclmpfahlaaDoor
open Go.RowKit

structure Sym where
  kind : Nat
  idx : Nat
  name : ByteArray

structure Hd where
  bin : Bool
  m : Int
  i : Int
  l : Int
  o : Int
  a : Int
  b : Int
  c : Int

/-- how many there are of a kind -/
def cnt (h : Hd) (k : Nat) : Int := if k = 105 then h.i else if k = 108 then h.l else if k = 111 then h.o else if k = 98 then h.b else if k = 99 then h.c else 0

def isKind (k : Nat) : Prop := k = 105 ∨ k = 108 ∨ k = 111 ∨ k = 98 ∨ k = 99
instance (k : Nat) : Decidable (isKind k) := by unfold isKind; infer_instance

inductive SymR where
  | bad (p e : Nat)
  | ok (x : Sym) (next : Nat)

/-- the symbol of the line at a place -/
def symT (h : Hd) (s : ByteArray) (p : Nat) : SymR :=
  if ¬ isKind (bt s p) then .bad p 2
  else if (natN s (p + 1)).2.2 ≠ 0 then .bad (p + 1) (natN s (p + 1)).2.2
  else if cnt h (bt s p) ≤ (natN s (p + 1)).1 then .bad (p + 1) 5
  else if (natN s (p + 1)).2.1 = s.size then .bad (natN s (p + 1)).2.1 3
  else if bt s (natN s (p + 1)).2.1 ≠ 32 then .bad (natN s (p + 1)).2.1 2
  else if (lineT s ((natN s (p + 1)).2.1 + 1 : Nat)).2.2 ≠ 0 then .bad ((natN s (p + 1)).2.1 + 1) (lineT s ((natN s (p + 1)).2.1 + 1 : Nat)).2.2
  else if (lineT s ((natN s (p + 1)).2.1 + 1 : Nat)).1.size = 0 then .bad ((natN s (p + 1)).2.1 + 1) 2
  else if 64 < (lineT s ((natN s (p + 1)).2.1 + 1 : Nat)).1.size then .bad ((natN s (p + 1)).2.1 + 1) 4
  else .ok ⟨bt s p, (natN s (p + 1)).1, (lineT s ((natN s (p + 1)).2.1 + 1 : Nat)).1⟩ (lineT s ((natN s (p + 1)).2.1 + 1 : Nat)).2.1

def markAt (s : ByteArray) (p : Nat) : Prop := bt s p = 99 ∧ p + 1 < s.size ∧ bt s (p + 1) = 10
instance (s : ByteArray) (p : Nat) : Decidable (markAt s p) := by unfold markAt; infer_instance

def alike (x y : Sym) : Bool := x.kind == y.kind && x.idx == y.idx

structure TailR where
  l : List Sym
  c : ByteArray
  to : Nat
  e : Nat

def readR (h : Hd) (s : ByteArray) : Nat → List Sym → Nat → TailR
  | 0, L, _ => ⟨L, ⟨#[]⟩, s.size, 0⟩
  | f + 1, L, p =>
    if s.size ≤ p then ⟨L, ⟨#[]⟩, s.size, 0⟩
    else if markAt s p then ⟨L, s.extract (p + 2) s.size, s.size, 0⟩
    else match symT h s p with
      | .bad p' e => ⟨[], ⟨#[]⟩, p', e⟩
      | .ok x next => if L.any (fun y => alike y x) then ⟨[], ⟨#[]⟩, p, 7⟩ else readR h s f (L ++ [x]) next

/-- what is read from a place on -/
def readT (h : Hd) (s : ByteArray) (x : Int) : TailR := if x < 0 ∨ (s.size : Int) < x then ⟨[], ⟨#[]⟩, 0, 1⟩ else readR h s (s.size + 1) [] x.toNat

theorem natN_end {s : ByteArray} {p : Nat} (hp : p ≤ s.size) (h : (natN s p).2.2 = 0) : p < (natN s p).2.1 ∧ (natN s p).2.1 ≤ s.size ∧ (natN s p).1 < 1000000000 := by
  have h1 := endOf_ge s p
  have h2 := endOf_le hp
  unfold natN at h ⊢
  by_cases c1 : p = s.size
  · rw [if_pos c1] at h; simp at h
  · rw [if_neg c1] at h ⊢
    by_cases c2 : endOf s p = p ∨ bt s p = 48 ∧ p + 1 < endOf s p
    · rw [if_pos c2] at h; simp at h
    · rw [if_neg c2] at h ⊢
      by_cases c3 : 9 < endOf s p - p
      · rw [if_pos c3] at h; simp at h
      · rw [if_neg c3]
        refine ⟨by simp only; omega, h2, ?_⟩
        have hd : ∀ j, j < endOf s p - p → isDig s (p + j) := by
          intro j hj
          have : j < runL s (s.size - p) p := by unfold endOf at hj; omega
          exact runL_dig s _ p j this
        have := numb_lt (endOf s p - p) hd
        have h9 : 10 ^ (endOf s p - p) ≤ 10 ^ 9 := Nat.pow_le_pow_right (by decide) (by omega)
        simp only
        omega

theorem lineT_end {s : ByteArray} {p : Nat} (hp : p ≤ s.size) (h : (lineT s (p : Nat)).2.2 = 0) : p < (lineT s (p : Nat)).2.1 ∧ (lineT s (p : Nat)).2.1 ≤ s.size ∧ (lineT s (p : Nat)).1.size ≤ s.size := by
  unfold lineT at h ⊢
  rw [if_neg (by omega)] at h ⊢
  rw [Int.toNat_natCast] at h ⊢
  rcases feed_cases s p with ⟨i, hf, h1, h2, _⟩ | ⟨hf, _⟩
  · rw [hf]
    simp only
    refine ⟨by omega, by omega, ?_⟩
    rw [ByteArray.size_extract]
    omega
  · rw [hf] at h
    simp at h

theorem symT_ok {h : Hd} {s : ByteArray} {p : Nat} (hp : p < s.size) {x : Sym} {next : Nat} (e : symT h s p = .ok x next) : p < next ∧ next ≤ s.size ∧ x.kind < 256 ∧ x.idx < 1000000000 ∧ x.name.size ≤ 64 := by
  unfold symT at e
  by_cases c1 : ¬ isKind (bt s p)
  · rw [if_pos c1] at e; cases e
  rw [if_neg c1] at e
  by_cases c2 : (natN s (p + 1)).2.2 ≠ 0
  · rw [if_pos c2] at e; cases e
  rw [if_neg c2] at e
  have hn := natN_end (s := s) (p := p + 1) (by omega) (by simpa using c2)
  by_cases c3 : cnt h (bt s p) ≤ (natN s (p + 1)).1
  · rw [if_pos c3] at e; cases e
  rw [if_neg c3] at e
  by_cases c4 : (natN s (p + 1)).2.1 = s.size
  · rw [if_pos c4] at e; cases e
  rw [if_neg c4] at e
  by_cases c5 : bt s (natN s (p + 1)).2.1 ≠ 32
  · rw [if_pos c5] at e; cases e
  rw [if_neg c5] at e
  by_cases c6 : (lineT s ((natN s (p + 1)).2.1 + 1 : Nat)).2.2 ≠ 0
  · rw [if_pos c6] at e; cases e
  rw [if_neg c6] at e
  have hl := lineT_end (s := s) (p := (natN s (p + 1)).2.1 + 1) (by omega) (by simpa using c6)
  by_cases c7 : (lineT s ((natN s (p + 1)).2.1 + 1 : Nat)).1.size = 0
  · rw [if_pos c7] at e; cases e
  rw [if_neg c7] at e
  by_cases c8 : 64 < (lineT s ((natN s (p + 1)).2.1 + 1 : Nat)).1.size
  · rw [if_pos c8] at e; cases e
  rw [if_neg c8] at e
  injection e with e1 e2
  subst e1 e2
  exact ⟨by omega, hl.2.1, bt_lt _ _, hn.2.2, by simp only; omega⟩

section
variable {h : Hd} {s : ByteArray} {p n en er nx f : Nat} {nm : ByteArray}
theorem sym1 (c1 : isKind (bt s p)) (hN : natN s (p + 1) = (n, en, er)) (c2 : er ≠ 0) : symT h s p = .bad (p + 1) er := by
  unfold symT; rw [if_neg (by simpa using c1), hN, if_pos c2]
theorem sym2 (c1 : isKind (bt s p)) (hN : natN s (p + 1) = (n, en, er)) (c2 : er = 0) (c3 : cnt h (bt s p) ≤ n) : symT h s p = .bad (p + 1) 5 := by
  unfold symT; rw [if_neg (by simpa using c1), hN, if_neg (by simpa using c2), if_pos c3]
theorem sym3 (c1 : isKind (bt s p)) (hN : natN s (p + 1) = (n, en, er)) (c2 : er = 0) (c3 : ¬ cnt h (bt s p) ≤ n) (c4 : en = s.size) : symT h s p = .bad en 3 := by
  unfold symT; rw [if_neg (by simpa using c1), hN, if_neg (by simpa using c2), if_neg c3, if_pos c4]
theorem sym4 (c1 : isKind (bt s p)) (hN : natN s (p + 1) = (n, en, er)) (c2 : er = 0) (c3 : ¬ cnt h (bt s p) ≤ n) (c4 : ¬ en = s.size) (c5 : bt s en ≠ 32) : symT h s p = .bad en 2 := by
  unfold symT; rw [if_neg (by simpa using c1), hN, if_neg (by simpa using c2), if_neg c3, if_neg c4, if_pos c5]
theorem sym5 (c1 : isKind (bt s p)) (hN : natN s (p + 1) = (n, en, er)) (c2 : er = 0) (c3 : ¬ cnt h (bt s p) ≤ n) (c4 : ¬ en = s.size) (c5 : bt s en = 32) (hL : lineT s (en + 1 : Nat) = (nm, nx, f)) (c6 : f ≠ 0) : symT h s p = .bad (en + 1) f := by
  unfold symT; rw [if_neg (by simpa using c1), hN, if_neg (by simpa using c2), if_neg c3, if_neg c4, if_neg (by simpa using c5), hL, if_pos c6]
theorem sym6 (c1 : isKind (bt s p)) (hN : natN s (p + 1) = (n, en, er)) (c2 : er = 0) (c3 : ¬ cnt h (bt s p) ≤ n) (c4 : ¬ en = s.size) (c5 : bt s en = 32) (hL : lineT s (en + 1 : Nat) = (nm, nx, f)) (c6 : f = 0) (c7 : nm.size = 0) : symT h s p = .bad (en + 1) 2 := by
  unfold symT; rw [if_neg (by simpa using c1), hN, if_neg (by simpa using c2), if_neg c3, if_neg c4, if_neg (by simpa using c5), hL, if_neg (by simpa using c6), if_pos c7]
theorem sym7 (c1 : isKind (bt s p)) (hN : natN s (p + 1) = (n, en, er)) (c2 : er = 0) (c3 : ¬ cnt h (bt s p) ≤ n) (c4 : ¬ en = s.size) (c5 : bt s en = 32) (hL : lineT s (en + 1 : Nat) = (nm, nx, f)) (c6 : f = 0) (c7 : ¬ nm.size = 0) (c8 : 64 < nm.size) : symT h s p = .bad (en + 1) 4 := by
  unfold symT; rw [if_neg (by simpa using c1), hN, if_neg (by simpa using c2), if_neg c3, if_neg c4, if_neg (by simpa using c5), hL, if_neg (by simpa using c6), if_neg c7, if_pos c8]
theorem sym8 (c1 : isKind (bt s p)) (hN : natN s (p + 1) = (n, en, er)) (c2 : er = 0) (c3 : ¬ cnt h (bt s p) ≤ n) (c4 : ¬ en = s.size) (c5 : bt s en = 32) (hL : lineT s (en + 1 : Nat) = (nm, nx, f)) (c6 : f = 0) (c7 : ¬ nm.size = 0) (c8 : ¬ 64 < nm.size) : symT h s p = .ok ⟨bt s p, n, nm⟩ nx := by
  unfold symT; rw [if_neg (by simpa using c1), hN, if_neg (by simpa using c2), if_neg c3, if_neg c4, if_neg (by simpa using c5), hL, if_neg (by simpa using c6), if_neg c7, if_neg c8]
end

theorem readR_len (h : Hd) (s : ByteArray) : ∀ (f : Nat) (L : List Sym) (p : Nat), L.length ≤ p → p ≤ s.size → (readR h s f L p).l.length ≤ s.size
  | 0, L, p, hL, hp => by simp only [readR]; omega
  | f + 1, L, p, hL, hp => by
    unfold readR
    by_cases c1 : s.size ≤ p
    · rw [if_pos c1]; simp only; omega
    rw [if_neg c1]
    by_cases c2 : markAt s p
    · rw [if_pos c2]; simp only; omega
    rw [if_neg c2]
    cases hs : symT h s p with
    | bad p' e => simp
    | ok x next =>
      have h1 := symT_ok (by omega) hs
      simp only
      by_cases c3 : L.any (fun y => alike y x) = true
      · rw [if_pos c3]; simp
      · rw [if_neg c3]
        exact readR_len h s f _ next (by rw [List.length_append]; simp; omega) h1.2.1

theorem readT_len (h : Hd) (s : ByteArray) (x : Int) : (readT h s x).l.length ≤ s.size := by
  unfold readT
  by_cases c : x < 0 ∨ (s.size : Int) < x
  · rw [if_pos c]; simp
  · rw [if_neg c]; exact readR_len h s _ _ _ (by simp) (by omega)

end Go.Proofs.YtkgmiclmpfahlaaDoor

/-
  Numerals: a number's digits, and the number that digits stand for, there and back. No program in sight.
-/
namespace Go.Proofs.YtkgmiclmpfahlaaDoor
open Go.RowKit

theorem dd_one {u : Nat} (h : u < 10) : Lib.decDigits u = [UInt8.ofNat (48 + u)] := Lib.decDigits_one h
theorem dd_more {u : Nat} (h : ¬ u < 10) : Lib.decDigits u = Lib.decDigits (u / 10) ++ [UInt8.ofNat (48 + u % 10)] := by
  conv => lhs; rw [Lib.decDigits, dif_neg h]

theorem dd_byte {d : Nat} (h : d < 10) : (UInt8.ofNat (48 + d)).toNat = 48 + d := by
  rw [UInt8.toNat_ofNat']; omega

theorem dd_digit : ∀ (u : Nat), ∀ b ∈ Lib.decDigits u, 48 ≤ b.toNat ∧ b.toNat ≤ 57 := by
  intro u
  induction u using Nat.strongRecOn with
  | _ u ih =>
    intro b hb
    by_cases h : u < 10
    · rw [dd_one h] at hb
      simp only [List.mem_singleton] at hb
      subst hb
      rw [dd_byte h]; omega
    · rw [dd_more h] at hb
      rcases List.mem_append.1 hb with hb | hb
      · exact ih (u / 10) (by omega) b hb
      · simp only [List.mem_singleton] at hb
        subst hb
        rw [dd_byte (by omega)]; omega

theorem dd_pos (u : Nat) : 0 < (Lib.decDigits u).length := by
  by_cases h : u < 10
  · rw [dd_one h]; simp
  · rw [dd_more h]; simp

theorem dd_head : ∀ (u : Nat), 0 < u → ∃ b r, Lib.decDigits u = b :: r ∧ b.toNat ≠ 48 := by
  intro u
  induction u using Nat.strongRecOn with
  | _ u ih =>
    intro h0
    by_cases h : u < 10
    · exact ⟨_, [], dd_one h, by rw [dd_byte h]; omega⟩
    · obtain ⟨b, r, e, hb⟩ := ih (u / 10) (by omega) (by omega)
      exact ⟨b, r ++ [UInt8.ofNat (48 + u % 10)], by rw [dd_more h, e]; rfl, hb⟩

theorem dd_len : ∀ (k u : Nat), u < 10 ^ (k + 1) → (Lib.decDigits u).length ≤ k + 1
  | 0, u, h => by rw [dd_one (by simpa using h)]; simp
  | k + 1, u, h => by
    by_cases hu : u < 10
    · rw [dd_one hu]; simp
    · rw [dd_more hu]
      have := dd_len k (u / 10) (by rw [Nat.pow_succ] at h; omega)
      simp; omega

theorem decFrom_snoc : ∀ (l : List UInt8) (acc : Nat) (b : UInt8), Lib.decFrom acc (l ++ [b]) = match Lib.decFrom acc l with
    | some n => match Lib.digitVal b with
      | some d => some (n * 10 + d)
      | none => none
    | none => none
  | [], acc, b => by
    simp only [List.nil_append, Lib.decFrom]
    cases Lib.digitVal b <;> rfl
  | c :: l, acc, b => by
    rw [List.cons_append]
    simp only [Lib.decFrom]
    cases Lib.digitVal c with
    | none => rfl
    | some d => exact decFrom_snoc l _ b

theorem digitVal_of {d : Nat} (h : d < 10) : Lib.digitVal (UInt8.ofNat (48 + d)) = some d := by
  unfold Lib.digitVal
  rw [dd_byte h, if_pos ⟨by omega, by omega⟩, show 48 + d - 48 = d by omega]

theorem dd_from : ∀ (u : Nat), Lib.decFrom 0 (Lib.decDigits u) = some u := by
  intro u
  induction u using Nat.strongRecOn with
  | _ u ih =>
    by_cases h : u < 10
    · rw [dd_one h]
      simp only [Lib.decFrom, digitVal_of h]
      simp
    · rw [dd_more h, decFrom_snoc, ih (u / 10) (by omega), digitVal_of (by omega)]
      simp only [Option.some.injEq]; omega

theorem dd_inj {u v : Nat} (h : Lib.decDigits u = Lib.decDigits v) : u = v := by
  have := dd_from u
  rw [h, dd_from v] at this
  exact (Option.some.inj this).symm

/-- digits without a nought ahead are their number's numeral -/
theorem numb_dd {s : ByteArray} {i : Nat} : ∀ (k : Nat), i + (k + 1) ≤ s.size → (∀ j, j < k + 1 → isDig s (i + j)) → (k = 0 ∨ bt s i ≠ 48) →
    (s.data.toList.drop i).take (k + 1) = Lib.decDigits (numb s i (k + 1)) ∧ (bt s i ≠ 48 → 0 < numb s i (k + 1))
  | 0, hs, hd, _ => by
    have h := hd 0 (by omega)
    unfold isDig at h
    rw [Nat.add_zero] at h
    obtain ⟨b, hb, hb2⟩ := byte_at (s := s) (i := i) (by omega)
    simp only [numb, Nat.mul_zero, Nat.zero_add, Nat.add_zero]
    refine ⟨?_, fun h48 => by omega⟩
    rw [dd_one (by omega), show 48 + (bt s i - 48) = b.toNat by omega]
    obtain ⟨hi, hb3⟩ := List.getElem?_eq_some_iff.1 hb
    rw [List.drop_eq_getElem_cons hi, hb3]
    simp
  | k + 1, hs, hd, hz => by
    have h48 : bt s i ≠ 48 := by rcases hz with h | h; omega; exact h
    obtain ⟨h1, h2⟩ := numb_dd k (by omega) (fun j hj => hd j (by omega)) (.inr h48)
    have h2 := h2 h48
    have h := hd (k + 1) (by omega)
    unfold isDig at h
    obtain ⟨b, hb, hb2⟩ := byte_at (s := s) (i := i + (k + 1)) (by omega)
    have e : numb s i (k + 1 + 1) = 10 * numb s i (k + 1) + (bt s (i + (k + 1)) - 48) := rfl
    refine ⟨?_, fun _ => by omega⟩
    have hl : (s.data.toList.drop i)[k + 1]? = some b := by rw [List.getElem?_drop]; exact hb
    obtain ⟨hi, hb3⟩ := List.getElem?_eq_some_iff.1 hl
    rw [List.take_succ_eq_append_getElem hi, hb3, h1, dd_more (u := numb s i (k + 1 + 1)) (by omega), e,
      show (10 * numb s i (k + 1) + (bt s (i + (k + 1)) - 48)) / 10 = numb s i (k + 1) by omega,
      show 48 + (10 * numb s i (k + 1) + (bt s (i + (k + 1)) - 48)) % 10 = b.toNat by omega]
    simp

theorem endOf_dig {s : ByteArray} {i j : Nat} (h : j < endOf s i - i) : isDig s (i + j) := by
  have : j < runL s (s.size - i) i := by unfold endOf at h; omega
  exact runL_dig s _ i j this

/-- a number that is read is the digits' numeral -/
theorem dec_natN {s : ByteArray} {p v q : Nat} (hp : p ≤ s.size) (h : natN s p = (v, q, 0)) : p < q ∧ q ≤ s.size ∧ v < 1000000000 ∧ (s.data.toList.drop p).take (q - p) = Lib.decDigits v := by
  have h0 := natN_end hp (by rw [h])
  rw [h] at h0
  simp only at h0
  refine ⟨h0.1, h0.2.1, h0.2.2, ?_⟩
  unfold natN at h
  by_cases c1 : p = s.size
  · rw [if_pos c1] at h; simp at h
  rw [if_neg c1] at h
  by_cases c2 : endOf s p = p ∨ bt s p = 48 ∧ p + 1 < endOf s p
  · rw [if_pos c2] at h; simp at h
  rw [if_neg c2] at h
  by_cases c3 : 9 < endOf s p - p
  · rw [if_pos c3] at h; simp at h
  rw [if_neg c3] at h
  simp only [Prod.mk.injEq, and_true] at h
  obtain ⟨h1, h2⟩ := h
  rw [h2] at h1 c2
  have hd : ∀ j, j < q - p → isDig s (p + j) := fun j hj => endOf_dig (by rw [h2]; exact hj)
  obtain ⟨k, hk⟩ : ∃ k, q - p = k + 1 := ⟨q - p - 1, by omega⟩
  rw [hk] at h1 hd ⊢
  rw [← h1]
  exact (numb_dd k (by omega) hd (by omega)).1

/-- a numeral is read as its number -/
theorem natN_dec {s : ByteArray} {p u : Nat} (hu : u < 1000000000) (hp : p + (Lib.decDigits u).length ≤ s.size)
    (hs : (s.data.toList.drop p).take (Lib.decDigits u).length = Lib.decDigits u) (he : p + (Lib.decDigits u).length = s.size ∨ ¬ isDig s (p + (Lib.decDigits u).length)) :
    natN s p = (u, p + (Lib.decDigits u).length, 0) := by
  have hpos := dd_pos u
  have hlen : (Lib.decDigits u).length ≤ 9 := dd_len 8 u (by omega)
  obtain ⟨n, hn⟩ : ∃ n, (Lib.decDigits u).length = n := ⟨_, rfl⟩
  rw [hn] at hpos hlen hp hs he ⊢
  have hbyte : ∀ j b, (Lib.decDigits u)[j]? = some b → bt s (p + j) = b.toNat := by
    intro j b hb
    have hj : j < n := by rw [← hn]; exact (List.getElem?_eq_some_iff.1 hb).1
    rw [← hs, List.getElem?_take, if_pos hj, List.getElem?_drop] at hb
    obtain ⟨c, hc, hc2⟩ := byte_at (s := s) (i := p + j) (by omega)
    rw [hb] at hc
    rw [← hc2, Option.some.inj hc]
  have hd : ∀ j, j < n → isDig s (p + j) := by
    intro j hj
    have hj' : j < (Lib.decDigits u).length := by omega
    have := dd_digit u _ (List.getElem_mem hj')
    have hb := hbyte j _ (List.getElem?_eq_getElem hj')
    unfold isDig
    rw [hb]; exact this
  have hend : endOf s p = p + n := endOf_is (by omega) hp (fun k h1 h2 => by have := hd (k - p) (by omega); rwa [show p + (k - p) = k by omega] at this) he
  unfold natN
  rw [if_neg (by omega), hend, if_neg ?_, if_neg (by omega), show p + n - p = n by omega]
  · have h1 := word_dec (s := s) (i := p) n hp hd
    rw [hs, dd_from] at h1
    rw [← Option.some.inj h1]
  · rintro (h | ⟨h1, h2⟩)
    · omega
    · have hu10 : ¬ u < 10 := by intro h; rw [dd_one h] at hn; simp at hn; omega
      obtain ⟨b, r, e, hb⟩ := dd_head u (by omega)
      have := hbyte 0 b (by rw [e]; rfl)
      rw [Nat.add_zero] at this
      omega

theorem itoa_nat (u : Nat) : Lib.itoa (u : Int) = Lib.decDigits u := by unfold Lib.itoa; rw [if_neg (by omega), Int.toNat_natCast]

end Go.Proofs.YtkgmiclmpfahlaaDoor

/-
  A derivation's lines and their text, there and back. No program in sight.
-/
namespace Go.Proofs.YtkgmiclmpfahlaaDoor
open Go.RowKit

/-- a good literal's text -/
def lt (x : Nat) : List UInt8 := if x % 2 = 1 then 33 :: Lib.decDigits (x / 2) else Lib.decDigits (x / 2)

def goodL (l : List Nat) : Prop := ∀ x ∈ l, x ≤ 33554433

theorem list_size (s : ByteArray) : s.data.toList.length = s.size := by simp

theorem negW_iff (w : ByteArray) : negW w = true ↔ ∃ r, w.data.toList = 33 :: r := by
  unfold negW
  rw [decide_eq_true_iff]
  constructor
  · rintro ⟨h0, h1⟩
    obtain ⟨b, hb, hb2⟩ := byte_at h0
    cases hl : w.data.toList with
    | nil => rw [hl] at hb; simp at hb
    | cons c r =>
      rw [hl] at hb
      simp at hb
      subst hb
      refine ⟨r, ?_⟩
      have : c = 33 := UInt8.toNat_inj.1 (by rw [hb2, h1]; rfl)
      rw [this]
  · rintro ⟨r, h⟩
    have h0 : w.data.toList[0]? = some 33 := by rw [h]; rfl
    exact bt_is.1 h0

theorem digW_pos {w : ByteArray} {r : List UInt8} (h : w.data.toList = 33 :: r) : (digW w).data.toList = r := by
  unfold digW
  rw [if_pos ((negW_iff w).2 ⟨r, h⟩), Lib.extract_to_end, h]; rfl

theorem digW_neg {w : ByteArray} (h : ¬ negW w = true) : digW w = w := by
  unfold digW; rw [if_neg h]

theorem litR_text {w : ByteArray} {x : Nat} (h : litR w = some x) : w.data.toList = lt x ∧ x ≤ 33554433 := by
  unfold litR at h
  split at h
  next hc =>
    obtain ⟨h1, h2, h3⟩ := hc
    have hN : natN (digW w) 0 = ((natN (digW w) 0).1, (digW w).size, 0) := Prod.ext rfl (Prod.ext h2 h1)
    obtain ⟨_, _, _, hl⟩ := dec_natN (Nat.zero_le _) hN
    rw [List.drop_zero, Nat.sub_zero, List.take_of_length_le (by rw [list_size]; exact Nat.le_refl _)] at hl
    generalize (natN (digW w) 0).1 = v at h h3 hl
    have h := Option.some.inj h
    by_cases hn : negW w = true
    · rw [if_pos hn] at h
      obtain ⟨r, hr⟩ := (negW_iff w).1 hn
      rw [digW_pos hr] at hl
      subst h
      refine ⟨?_, by omega⟩
      unfold lt
      rw [if_pos (by omega), hr, hl, show (2 * v + 1) / 2 = v by omega]
    · rw [if_neg hn] at h
      rw [digW_neg hn] at hl
      subst h
      refine ⟨?_, by omega⟩
      unfold lt
      rw [if_neg (by omega), hl, show (2 * v + 0) / 2 = v by omega]
  next => cases h

theorem text_litR {w : ByteArray} {x : Nat} (hx : x ≤ 33554433) (h : w.data.toList = lt x) : litR w = some x := by
  have key : ∀ v : Nat, v ≤ 16777216 → (digW w).data.toList = Lib.decDigits v → natN (digW w) 0 = (v, (digW w).size, 0) := by
    intro v hv hd
    have hl : (Lib.decDigits v).length = (digW w).size := by rw [← hd, list_size]
    have := natN_dec (s := digW w) (p := 0) (u := v) (by omega) (by rw [hl]; omega) (by rw [List.drop_zero, hd, List.take_length]) (.inl (by rw [hl]; omega))
    rw [this, hl, Nat.zero_add]
  unfold lt at h
  unfold litR
  by_cases ho : x % 2 = 1
  · rw [if_pos ho] at h
    have hn : negW w = true := (negW_iff w).2 ⟨_, h⟩
    rw [key (x / 2) (by omega) (digW_pos h), if_pos ⟨rfl, rfl, by simp only; omega⟩, if_pos hn]
    simp only [Option.some.injEq]; omega
  · rw [if_neg ho] at h
    have hn : ¬ negW w = true := by
      intro hn
      obtain ⟨r, hr⟩ := (negW_iff w).1 hn
      have := dd_digit (x / 2) 33 (by rw [← h, hr]; simp)
      simp at this
    rw [key (x / 2) (by omega) (by rw [digW_neg hn]; exact h), if_pos ⟨rfl, rfl, by simp only; omega⟩, if_neg hn]
    simp only [Option.some.injEq]; omega

theorem litsR_texts : ∀ {ws : List ByteArray} {l : List Nat}, litsR ws = some l → ws.map (·.data.toList) = l.map lt ∧ goodL l
  | [], l, h => by
    simp [litsR] at h; subst h
    exact ⟨rfl, fun x hx => by cases hx⟩
  | w :: ws, l, h => by
    simp only [litsR] at h
    cases h1 : litR w with
    | none => rw [h1] at h; simp at h
    | some x =>
      cases h2 : litsR ws with
      | none => rw [h1, h2] at h; simp at h
      | some y =>
        rw [h1, h2] at h
        simp at h
        subst h
        obtain ⟨e1, g1⟩ := litR_text h1
        obtain ⟨e2, g2⟩ := litsR_texts h2
        refine ⟨by rw [List.map_cons, List.map_cons, e1, e2], ?_⟩
        intro z hz
        rcases List.mem_cons.1 hz with rfl | hz
        · exact g1
        · exact g2 z hz

theorem texts_litsR : ∀ {ws : List ByteArray} {l : List Nat}, goodL l → ws.map (·.data.toList) = l.map lt → litsR ws = some l
  | [], l, _, h => by
    cases l with
    | nil => rfl
    | cons x l => simp at h
  | w :: ws, l, hg, h => by
    cases l with
    | nil => simp at h
    | cons x l =>
      rw [List.map_cons, List.map_cons] at h
      injection h with h1 h2
      simp only [litsR]
      rw [text_litR (hg x (by simp)) h1, texts_litsR (fun z hz => hg z (by simp [hz])) h2]

/-- a line of words behind a sign -/
def lineText (f : Bool) (c : List (List UInt8)) : List UInt8 := (if f then 45 else 43) :: c.flatMap (fun x => 32 :: x)

theorem jn_flat : ∀ (a : List UInt8) (r : List (List UInt8)), jn (a :: r) = a ++ r.flatMap (fun x => 32 :: x)
  | a, [] => by simp [jn]
  | a, b :: r => by
    rw [jn_cons (by simp), jn_flat b r, List.flatMap_cons]; simp

theorem flat_words : ∀ (a : List UInt8) (r : List (List UInt8)), (∀ b ∈ a, b ≠ 32) → (∀ x ∈ r, ∀ b ∈ x, b ≠ 32) → wordsF (a ++ r.flatMap (fun x => 32 :: x)) = a :: r
  | a, [], ha, _ => by rw [List.flatMap_nil, List.append_nil]; exact words_none ha
  | a, b :: r, ha, hr => by
    rw [List.flatMap_cons, List.cons_append, words_app _ ha, flat_words b r (hr b (by simp)) (fun x hx => hr x (by simp [hx]))]

theorem wordsB_data (s : ByteArray) : (wordsB s).map (·.data.toList) = wordsF s.data.toList := by
  unfold wordsB mkW
  rw [List.map_map]
  conv => rhs; rw [← List.map_id (wordsF s.data.toList)]
  apply List.map_congr_left
  intro b _
  simp

theorem ba_ext {a b : ByteArray} (h : a.data.toList = b.data.toList) : a = b := by
  apply ByteArray.ext; apply Array.ext'; exact h

theorem lineR_text {s : ByteArray} {f : Bool} {c : List Nat} (h : lineR s = some (f, c)) : s.data.toList = lineText f (c.map lt) ∧ goodL c := by
  unfold lineR at h
  have hw := wordsB_data s
  cases hws : wordsB s with
  | nil => rw [hws] at h; cases h
  | cons w ws =>
    rw [hws] at h hw
    rw [List.map_cons] at hw
    have hj := jn_words s.data.toList
    rw [← hw, jn_flat] at hj
    simp only at h
    have fin : ∀ (b : Bool), w.data.toList = [if b then 45 else 43] → (litsR ws).map (fun l => (b, l)) = some (f, c) → s.data.toList = lineText f (c.map lt) ∧ goodL c := by
      intro b hb hm
      cases hl : litsR ws with
      | none => rw [hl] at hm; simp at hm
      | some l =>
        rw [hl] at hm
        simp at hm
        obtain ⟨rfl, rfl⟩ := hm
        obtain ⟨e1, e2⟩ := litsR_texts hl
        refine ⟨?_, e2⟩
        rw [← hj, hb, e1]; rfl
    by_cases h1 : w = ⟨#[43]⟩
    · rw [if_pos h1] at h
      exact fin false (by rw [h1]; rfl) h
    · rw [if_neg h1] at h
      by_cases h2 : w = ⟨#[45]⟩
      · rw [if_pos h2] at h
        exact fin true (by rw [h2]; rfl) h
      · rw [if_neg h2] at h; cases h

theorem lt_byte (x : Nat) : ∀ b ∈ lt x, b ≠ 32 ∧ b ≠ 10 := by
  intro b hb
  unfold lt at hb
  have key : ∀ v, b ∈ Lib.decDigits v → b ≠ 32 ∧ b ≠ 10 := by
    intro v hv
    have := dd_digit v b hv
    constructor <;> (rintro rfl; simp at this)
  split at hb
  · rcases List.mem_cons.1 hb with rfl | hb
    · decide
    · exact key _ hb
  · exact key _ hb

theorem text_lineR {s : ByteArray} {f : Bool} {c : List Nat} (hc : goodL c) (h : s.data.toList = lineText f (c.map lt)) : lineR s = some (f, c) := by
  have hw := wordsB_data s
  have e : wordsF s.data.toList = [if f then 45 else 43] :: c.map lt := by
    rw [h]
    exact flat_words [if f then 45 else 43] (c.map lt) (by intro b hb; simp at hb; subst hb; cases f <;> decide) (by
      intro x hx b hb
      obtain ⟨y, _, rfl⟩ := List.mem_map.1 hx
      exact (lt_byte y b hb).1)
  rw [e] at hw
  unfold lineR
  cases hws : wordsB s with
  | nil => rw [hws] at hw; simp at hw
  | cons w ws =>
    rw [hws, List.map_cons] at hw
    injection hw with h1 h2
    simp only
    rw [texts_litsR hc h2]
    cases f with
    | false =>
      have : w = ⟨#[43]⟩ := ba_ext h1
      rw [if_pos this]; rfl
    | true =>
      have : w = ⟨#[45]⟩ := ba_ext h1
      rw [if_neg (by rw [this]; decide), if_pos this]; rfl

/-- lines' text -/
def linesText (L : List (Bool × List (List UInt8))) : List UInt8 := L.flatMap (fun x => lineText x.1 x.2 ++ [10])
def ltl (L : List (Bool × List Nat)) : List (Bool × List (List UInt8)) := L.map (fun x => (x.1, x.2.map lt))

theorem linesText_append (a b : List (Bool × List (List UInt8))) : linesText (a ++ b) = linesText a ++ linesText b := by simp [linesText]
theorem ltl_append (a b : List (Bool × List Nat)) : ltl (a ++ b) = ltl a ++ ltl b := by simp [ltl]
theorem linesText_one (f : Bool) (c : List (List UInt8)) : linesText [(f, c)] = lineText f c ++ [10] := by simp [linesText]

theorem line_no10 {f : Bool} {c : List Nat} : ∀ b ∈ lineText f (c.map lt), b ≠ 10 := by
  intro b hb
  unfold lineText at hb
  rcases List.mem_cons.1 hb with rfl | hb
  · cases f <;> decide
  · obtain ⟨x, hx, hb⟩ := List.mem_flatMap.1 hb
    obtain ⟨y, _, rfl⟩ := List.mem_map.1 hx
    rcases List.mem_cons.1 hb with rfl | hb
    · decide
    · exact (lt_byte y b hb).2

/-- the line at a place whose text is known -/
theorem lineT_text {s : ByteArray} {p : Nat} {a r : List UInt8} (hp : p ≤ s.size) (ha : ∀ b ∈ a, b ≠ 10) (h : s.data.toList.drop p = a ++ 10 :: r) :
    lineT s (p : Nat) = (⟨a.toArray⟩, p + a.length + 1, 0) := by
  have hl : (s.data.toList.drop p).length = s.size - p := by rw [List.length_drop, list_size]
  have hlen : a.length + 1 + r.length = s.size - p := by rw [← hl, h]; simp; omega
  have hb : ∀ j, j < a.length → bt s (p + j) ≠ 10 := by
    intro j hj e
    have h1 : s.data.toList[p + j]? = some a[j] := by rw [← List.getElem?_drop, h, List.getElem?_append_left hj, List.getElem?_eq_getElem hj]
    have h2 := (bt_is.1 h1).2
    have h3 := ha a[j] (List.getElem_mem hj)
    exact h3 (UInt8.toNat_inj.1 (by rw [← h2, e]; rfl))
  have h10 : bt s (p + a.length) = 10 := by
    have h1 : s.data.toList[p + a.length]? = some 10 := by rw [← List.getElem?_drop, h, List.getElem?_append_right (Nat.le_refl _), Nat.sub_self]; rfl
    exact (bt_is.1 h1).2
  unfold lineT
  rw [if_neg (by omega), Int.toNat_natCast, feed_some (i := p + a.length) (by omega) (by omega) h10 (fun j h1 h2 => by have := hb (j - p) (by omega); rwa [show p + (j - p) = j by omega] at this)]
  simp only [Prod.mk.injEq, and_true]
  apply ba_ext
  rw [Lib.extract_data, h, show p + a.length - p = a.length by omega, List.take_left]

/-- what is read from a place at which lines' text begins -/
theorem derivR_text {s : ByteArray} : ∀ (L2 : List (Bool × List Nat)) (f : Nat) (L1 : List (Bool × List Nat)) (p n : Nat) (r : List UInt8), (∀ x ∈ L2, goodL x.2) → p ≤ s.size →
    s.data.toList.drop p = linesText (ltl L2) ++ r → derivR s (L2.length + f) L1 p n = derivR s f (L1 ++ L2) (p + (linesText (ltl L2)).length) (n + L2.length)
  | [], f, L1, p, n, r, _, _, _ => by simp [linesText, ltl]
  | (b, c) :: L2, f, L1, p, n, r, hg, hp, h => by
    have e0 : linesText (ltl ((b, c) :: L2)) = lineText b (c.map lt) ++ 10 :: linesText (ltl L2) := by simp [linesText, ltl]
    rw [e0, List.append_assoc, List.cons_append] at h
    have hl := lineT_text hp line_no10 h
    have hlen : (s.data.toList.drop p).length = s.size - p := by rw [List.length_drop, list_size]
    rw [h] at hlen
    simp only [List.length_append, List.length_cons] at hlen
    rw [List.length_cons, show L2.length + 1 + f = (L2.length + f) + 1 by omega]
    conv => lhs; unfold derivR
    rw [if_neg (by omega), hl]
    simp only [ne_eq, not_true_eq_false, if_false]
    rw [text_lineR (s := ⟨(lineText b (c.map lt)).toArray⟩) (f := b) (hg (b, c) (by simp)) (by simp)]
    simp only
    rw [derivR_text L2 f (L1 ++ [(b, c)]) _ (n + 1) r (fun x hx => hg x (by simp [hx])) (by omega) ?_]
    · rw [e0]
      simp only [List.length_append, List.length_cons, List.append_assoc, List.singleton_append]
      congr 1 <;> omega
    · rw [Nat.add_assoc, ← List.drop_drop, h, List.drop_append]
      rw [List.drop_of_length_le (by simp), List.nil_append, show (lineText b (c.map lt)).length + 1 - (lineText b (c.map lt)).length = 1 by omega]
      rfl

theorem derivR_done {s : ByteArray} {f p n : Nat} {L : List (Bool × List Nat)} (h : s.size ≤ p) : derivR s f L p n = ⟨L, 0, 0⟩ := by
  cases f with
  | zero => rfl
  | succ f => unfold derivR; rw [if_pos h]

/-- good lines' text is read as the lines -/
theorem text_derivT {s : ByteArray} {L : List (Bool × List Nat)} (hg : ∀ x ∈ L, goodL x.2) (hs : s.data.toList = linesText (ltl L)) (hz : s.size ≤ 1048576) : derivT s = ⟨L, 0, 0⟩ := by
  unfold derivT
  rw [if_neg (by omega)]
  have hsz : s.size = (linesText (ltl L)).length := by rw [← list_size, hs]
  have hle : L.length ≤ s.size := by
    rw [hsz]
    clear hs hz hsz
    induction L with
    | nil => simp
    | cons x L ih =>
      have := ih (fun y hy => hg y (by simp [hy]))
      have e : (linesText (ltl (x :: L))).length = (lineText x.1 (x.2.map lt)).length + 1 + (linesText (ltl L)).length := by simp [linesText, ltl]; omega
      rw [e, List.length_cons]; omega
  obtain ⟨f, hf⟩ : ∃ f, s.size + 1 = L.length + f := ⟨s.size + 1 - L.length, by omega⟩
  rw [hf, derivR_text L f [] 0 0 [] hg (Nat.zero_le _) (by simpa using hs), derivR_done (by omega)]
  rfl

/-- lines that are read from a text have that text -/
theorem derivR_back {s : ByteArray} : ∀ (f : Nat) (L : List (Bool × List Nat)) (p n : Nat) (R : List (Bool × List Nat)) (m : Nat), p ≤ s.size → s.size < p + f → s.data.toList.take p = linesText (ltl L) → (∀ x ∈ L, goodL x.2) →
    derivR s f L p n = ⟨R, m, 0⟩ → s.data.toList = linesText (ltl R) ∧ (∀ x ∈ R, goodL x.2)
  | 0, L, p, n, R, m, hp, hf, _, _, _ => by omega
  | f + 1, L, p, n, R, m, hp, hf, ht, hg, h => by
    unfold derivR at h
    by_cases c1 : s.size ≤ p
    · rw [if_pos c1] at h
      injection h with h1
      subst h1
      rw [List.take_of_length_le (by rw [list_size]; exact c1)] at ht
      exact ⟨ht, hg⟩
    rw [if_neg c1] at h
    by_cases c2 : (lineT s (p : Nat)).2.2 ≠ 0
    · rw [if_pos c2] at h
      injection h with h1 h2 h3
      exact absurd h3 c2
    rw [if_neg c2] at h
    cases hl : lineR (lineT s (p : Nat)).1 with
    | none => rw [hl] at h; simp at h
    | some x =>
      obtain ⟨b, c⟩ := x
      rw [hl] at h
      simp only at h
      obtain ⟨e1, e2⟩ := lineR_text hl
      have hend := lineT_end hp (by simpa using c2)
      rcases feed_cases s p with ⟨i, hf1, hi1, hi2, hi3, _⟩ | ⟨hf1, _⟩
      · have hL : lineT s (p : Nat) = (s.extract p i, i + 1, 0) := by
          unfold lineT; rw [if_neg (by omega), Int.toNat_natCast, hf1]
        rw [hL] at h e1 hend
        simp only at h e1 hend
        refine derivR_back f (L ++ [(b, c)]) (i + 1) (n + 1) R m (by omega) (by omega) ?_ ?_ h
        · rw [ltl_append, linesText_append, ← ht]
          have e3 : linesText (ltl [(b, c)]) = lineText b (c.map lt) ++ [10] := by simp [linesText, ltl]
          rw [e3, ← e1, Lib.extract_data]
          have hi : i < s.data.toList.length := by rw [list_size]; exact hi2
          have h10 : s.data.toList[i] = 10 := by
            have := bt_is (s := s) (i := i) (c := 10) |>.2 ⟨hi2, hi3⟩
            rw [List.getElem?_eq_getElem hi] at this
            exact Option.some.inj this
          rw [List.take_succ_eq_append_getElem hi, h10, ← List.append_assoc]
          congr 1
          rw [← List.take_append_drop p (s.data.toList.take i), List.take_take, Nat.min_eq_left hi1, List.drop_take]
        · intro x hx
          rcases List.mem_append.1 hx with hx | hx
          · exact hg x hx
          · simp at hx; subst hx; exact e2
      · have hL : (lineT s (p : Nat)).2.2 = 3 := by
          unfold lineT; rw [if_neg (by omega), Int.toNat_natCast, hf1]
        rw [hL] at c2; simp at c2

theorem derivT_back {s : ByteArray} (h : (derivT s).e = 0) : s.data.toList = linesText (ltl (derivT s).l) ∧ (∀ x ∈ (derivT s).l, goodL x.2) := by
  unfold derivT at h ⊢
  by_cases c : 1048576 < s.size
  · rw [if_pos c] at h; simp at h
  · rw [if_neg c] at h ⊢
    obtain ⟨R, m, e, he⟩ : ∃ R m e, derivR s (s.size + 1) [] 0 0 = ⟨R, m, e⟩ := ⟨_, _, _, rfl⟩
    rw [he] at h ⊢
    simp only at h
    subst h
    exact derivR_back (s.size + 1) [] 0 0 R m (Nat.zero_le _) (by omega) (by simp [linesText, ltl]) (fun x hx => by cases hx) he

end Go.Proofs.YtkgmiclmpfahlaaDoor

/-
  lit.Read and the reference's: the literal of a text.
-/
namespace Go.Proofs.YtkgmiclmpfahlaaDoor
open Go.RowKit

theorem has33 (s : ByteArray) : Lib.hasPrefix s.data.toList [33] = negW s := by
  rw [Bool.eq_iff_iff, negW_iff]
  unfold Lib.hasPrefix
  cases s.data.toList with
  | nil => simp [List.isPrefixOf]
  | cons c r =>
    simp only [List.isPrefixOf_cons_cons, List.isPrefixOf_nil_left, Bool.and_true, beq_iff_eq, List.cons.injEq]
    constructor
    · rintro rfl; exact ⟨r, rfl, rfl⟩
    · rintro ⟨_, rfl, _⟩; rfl

theorem trim33 (s : ByteArray) : (⟨(Lib.trimPrefix s.data.toList [33]).toArray⟩ : ByteArray) = digW s := by
  apply ba_ext
  unfold Lib.trimPrefix
  rw [has33]
  by_cases h : negW s = true
  · obtain ⟨r, hr⟩ := (negW_iff s).1 h
    rw [if_pos h, digW_pos hr, hr]; rfl
  · rw [if_neg h, digW_neg h]

theorem digW_size (s : ByteArray) : (digW s).size ≤ s.size := by
  unfold digW
  split
  · rw [ByteArray.size_extract]; omega
  · exact Nat.le_refl _

theorem natT_zero (s : ByteArray) : natT s 0 = natN s 0 := by unfold natT; rw [if_neg (by omega)]; rfl

/-- a variable's literal -/
def ofL (v : Nat) (ng : Bool) : Int := if 16777216 < v then -1 else if ng then 2 * v + 1 else 2 * v

def litV : Option Nat → Value
  | some x => .tuple #[.int .i64 (x : Int), .int .i64 0]
  | none => .tuple #[.int .i64 0, .int .i64 2]

theorem litR_is {s : ByteArray} {v en er : Nat} (hN : natN (digW s) 0 = (v, en, er)) : litR s = if er = 0 ∧ en = (digW s).size ∧ v ≤ 16777216 then some (2 * v + (if negW s then 1 else 0)) else none := by
  unfold litR; rw [hN]

theorem natN_small {s : ByteArray} {p v en er : Nat} (hp : p ≤ s.size) (hN : natN s p = (v, en, er)) : v < 1000000000 ∧ en ≤ s.size := by
  by_cases he : er = 0
  · subst he
    obtain ⟨_, h2, h3, _⟩ := dec_natN hp hN
    exact ⟨h3, h2⟩
  · unfold natN at hN
    split at hN
    · simp only [Prod.mk.injEq] at hN; omega
    split at hN
    · simp only [Prod.mk.injEq] at hN; omega
    split at hN
    · simp only [Prod.mk.injEq] at hN; omega
    · simp only [Prod.mk.injEq] at hN; omega

end Go.Proofs.YtkgmiclmpfahlaaDoor

/-
  clause.Read and deriv.line: a clause of a text, a line of a text.
-/
namespace Go.Proofs.YtkgmiclmpfahlaaDoor
open Go.RowKit

/-- the library's MaxLen has some value -/
def ML (w : World) : Prop := ∃ m, w.cell? ⟨1, 0, none⟩ = some (.int .i64 m)

theorem ML.kp {w w' : World} (h : ML w) (k : Kp (fun _ => False) w w') : ML w' := by
  obtain ⟨m, h⟩ := h
  have hlt := World.block_lt_of_cell? w _ h
  exact ⟨m, (World.cell?_of_block (w := w) (w' := w') (k.block _ hlt (fun h => h))).trans h⟩

def nums (l : List Nat) : List Value := l.map (fun (n : Nat) => Value.int .i64 (n : Int))

theorem nums_length (l : List Nat) : (nums l).length = l.length := by simp [nums]
theorem nums_snoc (l : List Nat) (x : Nat) : nums (l ++ [x]) = nums l ++ [.int .i64 (x : Int)] := by simp [nums]

/-- the clause of a text -/
def clauseR (s : ByteArray) : Option (List Nat) := if s.size = 0 then some [] else litsR (wordsB s)

def okE (o : Option (List Nat)) : Int := match o with
  | some _ => 0
  | none => 2

theorem jn_mem : ∀ {xs : List (List UInt8)} {x : List UInt8}, x ∈ xs → x.length ≤ (jn xs).length
  | [a], x, h => by simp at h; subst h; simp [jn]
  | a :: b :: r, x, h => by
    rw [jn_cons (by simp)]
    rcases List.mem_cons.1 h with rfl | h
    · simp
    · have := jn_mem h
      simp only [List.length_append, List.length_cons]; omega

theorem word_size {s b : ByteArray} (h : b ∈ wordsB s) : b.size ≤ s.size := by
  have h1 : b.data.toList ∈ wordsF s.data.toList := by rw [← wordsB_data]; exact List.mem_map.2 ⟨b, h, rfl⟩
  have h2 := jn_mem h1
  rw [jn_words, list_size, list_size] at h2
  exact h2

theorem words_count (s : ByteArray) : (wordsB s).length ≤ s.size + 1 := by rw [← count_words]; have := count_le s; omega

theorem litsR_take {ws : List ByteArray} {k : Nat} {b : ByteArray} {l : List Nat} (hk : ws[k]? = some b) (h : litsR (ws.take k) = some l) {x : Nat} (hx : litR b = some x) : litsR (ws.take (k + 1)) = some (l ++ [x]) := by
  have hl := (List.getElem?_eq_some_iff.1 hk)
  obtain ⟨h1, h2⟩ := hl
  rw [List.take_succ_eq_append_getElem h1, h2]
  exact litsR_snoc h hx

theorem toList_nil {s : ByteArray} (h : s.size = 0) : s.toList = [] := by
  rw [Lib.toList_data]; exact List.eq_nil_of_length_eq_zero (by rw [list_size]; exact h)
theorem nil_toList {s : ByteArray} (h : s.toList = []) : s.size = 0 := by
  rw [Lib.toList_data] at h; rw [← list_size, h]; rfl

theorem intInfo : (Tryd.prog.info? 3).map (fun i => (i.zero, i.size, i.bytes)) = some (some (.int .i64 0), 1, 8) := by kernel_rfl

def sgn (f : Bool) : ByteArray := if f then ⟨#[45]⟩ else ⟨#[43]⟩

/-- what deriv.line leaves -/
def LineP (o : Option (Bool × List Nat)) (w : World) (e : Ending) (w' : World) : Prop :=
  Kp (fun _ => False) w w' ∧ match o with
    | some (f, c) => ∃ v, e = .returned (.tuple #[.agg #[.bool f, v], .bool true]) ∧ Own w' w.heap.size 3 v (nums c)
    | none => ∃ f a n c, e = .returned (.tuple #[.agg #[.bool f, .slice a n c], .bool false])

theorem has_one (s : ByteArray) (c : UInt8) : Lib.hasPrefix s.data.toList [c] = true ↔ ∃ r, s.data.toList = c :: r := by
  unfold Lib.hasPrefix
  cases s.data.toList with
  | nil => simp [List.isPrefixOf]
  | cons d r =>
    simp only [List.isPrefixOf_cons_cons, List.isPrefixOf_nil_left, Bool.and_true, beq_iff_eq, List.cons.injEq]
    constructor
    · rintro rfl; exact ⟨r, rfl, rfl⟩
    · rintro ⟨_, rfl, _⟩; rfl

theorem has_not {s : ByteArray} {c : UInt8} (h : ¬ ∃ r, s.data.toList = c :: r) : Lib.hasPrefix s.data.toList [c] = false := by
  rw [← has_one] at h; simpa using h

theorem trim_one {s : ByteArray} {c : UInt8} {r : List UInt8} (h : s.data.toList = c :: r) : (⟨(Lib.trimPrefix s.data.toList [c]).toArray⟩ : ByteArray) = ⟨r.toArray⟩ := by
  unfold Lib.trimPrefix
  rw [(has_one s c).2 ⟨r, h⟩, if_pos rfl, h]; rfl

/-- a line that does not begin with a sign is none -/
theorem line_nosign {s : ByteArray} (h1 : ¬ ∃ r, s.data.toList = 43 :: r) (h2 : ¬ ∃ r, s.data.toList = 45 :: r) : lineR s = none := by
  cases hl : lineR s with
  | none => rfl
  | some x =>
    obtain ⟨f, c⟩ := x
    have := (lineR_text hl).1
    unfold lineText at this
    cases f
    · exact absurd ⟨_, this⟩ h1
    · exact absurd ⟨_, this⟩ h2

def sgb (f : Bool) : UInt8 := if f then 45 else 43

theorem line_bare {s : ByteArray} {f : Bool} (h : s.data.toList = [sgb f]) : lineR s = some (f, []) :=
  text_lineR (fun x hx => by cases hx) (by rw [h]; rfl)

theorem line_noblank {s : ByteArray} {f : Bool} {c : UInt8} {r : List UInt8} (h : s.data.toList = sgb f :: c :: r) (hc : c ≠ 32) : lineR s = none := by
  cases hl : lineR s with
  | none => rfl
  | some x =>
    obtain ⟨g, l⟩ := x
    have := (lineR_text hl).1
    rw [h] at this
    unfold lineText at this
    cases l with
    | nil => simp at this
    | cons y l =>
      simp at this
      exact absurd this.2.1 hc

theorem line_words {s : ByteArray} {f : Bool} {r : List UInt8} (h : s.data.toList = sgb f :: 32 :: r) : lineR s = if r = [] then none else (clauseR ⟨r.toArray⟩).map (fun l => (f, l)) := by
  have hw := wordsB_data s
  have e : wordsF s.data.toList = [sgb f] :: wordsF r := by
    rw [h]
    exact words_app (a := [sgb f]) r (by intro b hb; simp at hb; subst hb; cases f <;> decide)
  have hw2 := wordsB_data ⟨r.toArray⟩
  rw [e] at hw
  unfold lineR
  cases hws : wordsB s with
  | nil => rw [hws] at hw; simp at hw
  | cons w ws =>
    rw [hws, List.map_cons] at hw
    injection hw with h1 h2
    have hwe : ws = wordsB ⟨r.toArray⟩ := by
      have h3 : ws.map (·.data.toList) = (wordsB ⟨r.toArray⟩).map (·.data.toList) := by rw [h2, hw2]
      exact List.map_inj_right (fun a b hab => ba_ext hab) |>.1 h3
    simp only
    have key : (litsR ws).map (fun l => (f, l)) = if r = [] then none else (clauseR ⟨r.toArray⟩).map (fun l => (f, l)) := by
      rw [hwe]
      by_cases hr : r = []
      · subst hr
        rw [if_pos rfl]
        have : wordsB ⟨[].toArray⟩ = [⟨#[]⟩] := by
          have h4 := wordsB_data ⟨[].toArray⟩
          cases hx : wordsB ⟨[].toArray⟩ with
          | nil => rw [hx] at h4; simp [wordsF] at h4
          | cons a b =>
            rw [hx] at h4
            simp [wordsF] at h4
            rw [h4.2, ba_ext (a := a) (b := ⟨#[]⟩) (by rw [h4.1])]
        rw [this]
        have : litR ⟨#[]⟩ = none := by
          cases hq : litR ⟨#[]⟩ with
          | none => rfl
          | some x =>
            have h5 := (litR_text hq).1
            unfold lt at h5
            split at h5
            · simp at h5
            · have := dd_pos (x / 2)
              rw [← h5] at this; simp at this
        simp [litsR, this]
      · rw [if_neg hr]
        unfold clauseR
        rw [if_neg (by intro h0; rw [← list_size] at h0; exact hr (by simpa using h0))]
    cases f with
    | false =>
      have : w = ⟨#[43]⟩ := ba_ext h1
      rw [if_pos this, key]
    | true =>
      have : w = ⟨#[45]⟩ := ba_ext h1
      rw [if_neg (by rw [this]; decide), if_pos this, key]

end Go.Proofs.YtkgmiclmpfahlaaDoor
