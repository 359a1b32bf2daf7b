/-
  Plain vocabulary for walks: what a block holds, and which blocks a call may have turned. No program in sight.
-/
import Derived.WalkKit
import Derived.WalkSpells
import Derived.WalkLawsBesides
import Derived.Lib.Hide
import Derived.Laws.AppendOwnNone
import Derived.Maps.AppendAt
import Derived.Test.YtnoknecfdnjomaaGreatRows
import Derived.Deep.DeepCutAuto
import Derived.Deep.CutBlock
import Derived.Deep.RegionHeld3
import Derived.RangeFuncCalls
import Derived.Deep.QuietTactic
import Derived.BigQuiet
import Derived.Deep.AppendLies
import Ieee.Arith
import Derived.BigRegion
set_option linter.unusedVariables false
set_option linter.unusedSimpArgs false
namespace Go.Proofs.YtnoknecfdnjomaaGreat
open Go.RowKit

def Blk (w : World) (b : Nat) (c : Array Value) (t : TypeId) : Prop := w.heap[b]? = some (.cells c t (0, 0))

structure Kp (S : Nat → Prop) (w w' : World) : Prop where
  os : w'.os = w.os
  tape : w'.tape = w.tape
  output : w'.output = w.output
  size : w.heap.size ≤ w'.heap.size
  block : ∀ k, k < w.heap.size → ¬ S k → w'.heap[k]? = w.heap[k]?

theorem Kp.refl (S : Nat → Prop) (w : World) : Kp S w w := ⟨rfl, rfl, rfl, Nat.le_refl _, fun _ _ _ => rfl⟩

theorem Kp.trans {S T : Nat → Prop} {a b c : World} (h : Kp S a b) (k : Kp T b c) (hT : ∀ i, i < a.heap.size → T i → S i) : Kp S a c :=
 ⟨k.os.trans h.os, k.tape.trans h.tape, k.output.trans h.output, Nat.le_trans h.size k.size,
  fun i hi hS => (k.block i (Nat.lt_of_lt_of_le hi h.size) (fun ht => hS (hT i hi ht))).trans (h.block i hi hS)⟩

theorem Kp.mono {S T : Nat → Prop} {w w' : World} (h : Kp S w w') (hs : ∀ i, i < w.heap.size → S i → T i) : Kp T w w' :=
 ⟨h.os, h.tape, h.output, h.size, fun i hi ht => h.block i hi (fun s => ht (hs i hi s))⟩

theorem Kp.drew {S : Nat → Prop} {a w : World} (h : Kp S a w) : Kp S a w.drew := ⟨h.os, h.tape, h.output, h.size, h.block⟩

theorem Kp.drewN {S : Nat → Prop} {a w : World} (h : Kp S a w) (n : Nat) : Kp S a (w.drewN n) := ⟨h.os, h.tape, h.output, h.size, h.block⟩

theorem Kp.alloc {S : Nat → Prop} {a w : World} (h : Kp S a w) (o : Obj) : Kp S a (w.alloc o) :=
 ⟨h.os, h.tape, h.output, Nat.le_trans h.size (by simp), fun k hk hS => (Below.heap_alloc w o k (Nat.lt_of_lt_of_le hk h.size)).trans (h.block k hk hS)⟩

theorem Kp.setCell {S : Nat → Prop} {a w : World} (h : Kp S a w) {p : Addr} (hp : p.block < a.heap.size → S p.block) (u : Value) : Kp S a (w.setCell p u) :=
 ⟨h.os, h.tape, h.output, by rw [show (w.setCell p u).heap.size = w.heap.size from by simp [World.setCell]]; exact h.size,
  fun k hk hS => (Below.heap_setCell w p u k (fun e => hS (by subst e; exact hp hk))).trans (h.block k hk hS)⟩

theorem Kp.set (w : World) (p : Addr) (u : Value) : Kp (· = p.block) w (w.setCell p u) := (Kp.refl (· = p.block) w).setCell (p := p) (fun _ => rfl) u

theorem Kp.grown {S : Nat → Prop} {a w w' : World} {row : Option Nat} (h : Kp S a w) (hg : w.grownBy w' row) (hr : ∀ k, row = some k → k < a.heap.size → S k) : Kp S a w' :=
 ⟨hg.os.trans h.os, hg.tape.trans h.tape, hg.output.trans h.output, Nat.le_trans h.size hg.size,
  fun k hk hS => (hg.block k (Nat.lt_of_lt_of_le hk h.size) (fun e => hS (hr k e.symm hk))).trans (h.block k hk hS)⟩

theorem Kp.below {S : Nat → Prop} {w w' : World} (h : Kp S w w') {B : Nat} (hB : B ≤ w.heap.size) (hS : ∀ k, k < B → ¬ S k) : Below B w w' :=
 ⟨h.os, h.tape, h.output, h.size, fun k hk => h.block k (by omega) (hS k hk)⟩

theorem Kp.of_below {w w' : World} (h : Below w.heap.size w w') (S : Nat → Prop) : Kp S w w' :=
 ⟨h.os, h.tape, h.output, h.size, fun k hk _ => h.block k hk⟩

section
variable {w w' : World} {b : Nat} {c : Array Value} {t : TypeId}

theorem Blk.lt (h : Blk w b c t) : b < w.heap.size := (Array.getElem?_eq_some_iff.1 h).1

theorem Blk.kp {S : Nat → Prop} (h : Blk w b c t) (k : Kp S w w') (hS : ¬ S b) : Blk w' b c t := (k.block b h.lt hS).trans h

theorem Blk.drew (h : Blk w b c t) : Blk w.drew b c t := h
theorem Blk.drewN (h : Blk w b c t) (n : Nat) : Blk (w.drewN n) b c t := h

theorem Blk.alloc (h : Blk w b c t) (o : Obj) : Blk (w.alloc o) b c t := (Below.heap_alloc w o b h.lt).trans h

theorem Blk.new (w : World) (c : Array Value) (t : TypeId) : Blk (w.alloc (.cells c t)) w.heap.size c t := heap_alloc_new w _

theorem Blk.cell (h : Blk w b c t) {i : Nat} {v : Value} (hi : c[i]? = some v) : w.cell? ⟨b, i, none⟩ = some v :=
 (cell_of_row w b i c t (0, 0) h).trans hi

theorem Blk.free (h : Blk w b c t) (i : Nat) : w.frozen? ⟨b, i, none⟩ = false := by
 unfold World.frozen?
 show (match w.heap[b]? with | some (.cells _ _ (lo, hi)) => decide (lo ≤ i) && decide (i < hi) | _ => false) = false
 rw [show w.heap[b]? = some (.cells c t (0, 0)) from h]
 simp

theorem Blk.set_same (h : Blk w b c t) (i : Nat) (v : Value) : Blk (w.setCell ⟨b, i, none⟩ v) b (c.setIfInBounds i v) t := by
 have hlt := h.lt
 unfold Blk at h ⊢
 simp only [World.setCell, Array.getElem?_modify, if_true, h, Option.map_some]
 rfl

theorem Blk.set_other (h : Blk w b c t) {p : Addr} (hp : b ≠ p.block) (v : Value) : Blk (w.setCell p v) b c t :=
 (Below.heap_setCell w p v b hp).trans h
end

theorem cell_after_set {w : World} {p q : Addr} {v : Value} (x : Value) (h : w.cell? q = some v) : ∃ v', ((w.setCell p x).drew).cell? q = some v' := by
 by_cases e : p = q
 ·subst e; exact ⟨x, World.cell?_setCell_same w p x h⟩
 ·exact ⟨v, (World.cell?_setCell_other w p q x e).trans h⟩

def gi (l : List Int) (k : Nat) : Int := l[k]?.getD 0

def Elem (w : World) (a : Option Addr) (j : Nat) (u : Value) : Prop := ∃ b off, a = some ⟨b, off, none⟩ ∧ w.cell? ⟨b, off + j, none⟩ = some u

def RowAt (w : World) (a : Option Addr) (cs : List Value) : Prop := ∀ j u, cs[j]? = some u → Elem w a j u

def IntsAt (w : World) (a : Option Addr) (l : List Int) : Prop := RowAt w a (l.map (Value.int .i64))

theorem IntsAt.get {w : World} {a : Option Addr} {l : List Int} (h : IntsAt w a l) {j : Nat} (hj : j < l.length) : Elem w a j (.int .i64 (gi l j)) :=
 h j _ (by simp [gi, List.getElem?_eq_getElem hj])

theorem RowAt.nil (w : World) (a : Option Addr) : RowAt w a [] := fun j u h => by simp at h

theorem Elem.kp {S : Nat → Prop} {w w' : World} {a : Option Addr} {j : Nat} {u : Value} (h : Elem w a j u) (k : Kp S w w') (hS : ∀ p, a = some p → ¬ S p.block) : Elem w' a j u := by
 obtain ⟨b, off, rfl, hc⟩ := h
 have hlt : b < w.heap.size := World.block_lt_of_cell? w _ hc
 exact ⟨b, off, rfl, (World.cell?_of_block (w := w) (w' := w') (a := ⟨b, off + j, none⟩) (k.block b hlt (hS _ rfl))).trans hc⟩

theorem RowAt.kp {S : Nat → Prop} {w w' : World} {a : Option Addr} {cs : List Value} (h : RowAt w a cs) (k : Kp S w w') (hS : ∀ p, a = some p → ¬ S p.block) : RowAt w' a cs :=
 fun j u hu => (h j u hu).kp k hS

theorem RowAt.drewN {w : World} {a : Option Addr} {cs : List Value} (h : RowAt w a cs) (n : Nat) : RowAt (w.drewN n) a cs := h

theorem Blk.rowAt {w : World} {b : Nat} {c : Array Value} {t : TypeId} (h : Blk w b c t) {off n : Nat} {cs : List Value} (hc : (c.toList.drop off).take n = cs) : RowAt w (some ⟨b, off, none⟩) cs := by
 intro j u hu
 refine ⟨b, off, rfl, h.cell ?_⟩
 subst hc
 rw [List.getElem?_take] at hu
 split at hu
 ·rw [List.getElem?_drop] at hu; simpa using hu
 ·cases hu

def Own (w : World) (base : Nat) (e : TypeId) (v : Value) (cs : List Value) : Prop := w.ownsRow base e 1 v cs.length cs

section
variable {w w' : World} {base : Nat} {e : TypeId} {v : Value} {cs : List Value}

theorem Own.nil (w : World) (base : Nat) (e : TypeId) : Own w base e (.slice none 0 0) [] := World.ownsRow_nil _ _ _ _

theorem Own.form (h : Own w base e v cs) : ∃ a cap, v = .slice a cs.length cap ∧ cs.length ≤ cap ∧ cap ≤ maxLen ∧ (∀ p, a = some p → ∃ g, p = ⟨g, 0, none⟩ ∧ base ≤ g ∧ g < w.heap.size) ∧ RowAt w a cs := by
 rcases h.2 with ⟨rfl, hn⟩ | ⟨g, cap, cur, rfl, hb, hg, hnc, hcm, hcs, htake⟩
 ·refine ⟨none, 0, by rw [hn], by omega, by simp [maxLen], fun p hp => by simp at hp, ?_⟩
  have : cs = [] := List.eq_nil_of_length_eq_zero hn
  subst this
  exact RowAt.nil _ _
 ·refine ⟨_, cap, rfl, hnc, hcm, fun p hp => ⟨g, by simpa using hp.symm, hb, (Array.getElem?_eq_some_iff.1 hg).1⟩, ?_⟩
  have hB : Blk w g cur e := hg
  exact hB.rowAt (off := 0) (n := cs.length * 1) (by simpa using htake)

theorem Own.kp {S : Nat → Prop} (h : Own w base e v cs) (k : Kp S w w') (hS : ∀ j, v.ownBlock = some j → ¬ S j) : Own w' base e v cs := by
 refine ⟨h.1, ?_⟩
 rcases h.2 with hn | ⟨g, cap, cur, rfl, hb, hgg, rest⟩
 ·exact .inl hn
 ·refine .inr ⟨g, cap, cur, rfl, hb, ?_, rest⟩
  rw [k.block g (Array.getElem?_eq_some_iff.1 hgg).1 (hS g rfl)]
  exact hgg

theorem Own.mono {b' : Nat} (h : Own w base e v cs) (hb : b' ≤ base) : Own w b' e v cs := by
 refine ⟨h.1, ?_⟩
 rcases h.2 with hn | ⟨g, cap, cur, rfl, hg, hgg, rest⟩
 ·exact .inl hn
 ·exact .inr ⟨g, cap, cur, rfl, by omega, hgg, rest⟩

theorem Own.lt (h : Own w base e v cs) : ∀ k, v.ownBlock = some k → base ≤ k ∧ k < w.heap.size := World.ownsRow.lt h

theorem Own.leads (h : Own w base e v cs) (hc : 0 < cs.length) : ∃ g cap, v = .slice (some ⟨g, 0, none⟩) cs.length cap ∧ base ≤ g ∧ g < w.heap.size := by
 rcases h.2 with ⟨rfl, hn⟩ | ⟨g, cap, cur, rfl, hb, hg, _⟩
 ·omega
 ·exact ⟨g, cap, rfl, hb, (Array.getElem?_eq_some_iff.1 hg).1⟩

theorem Own.cell {g n cap : Nat} (h : Own w base e (.slice (some ⟨g, 0, none⟩) n cap) cs) {j : Nat} {u : Value} (hj : cs[j]? = some u) : w.cell? ⟨g, j, none⟩ = some u := by
 have hl : j < cs.length := by
  rcases Nat.lt_or_ge j cs.length with h | h
  ·exact h
  ·rw [List.getElem?_eq_none h] at hj; cases hj
 have hn : n = cs.length := by
  obtain ⟨a, c, e, _⟩ := h.form
  simp only [Value.slice.injEq] at e
  exact e.2.1
 subst hn
 rw [World.ownsRow.cellAt (show w.ownsRow base e 1 _ _ _ from h) j (by omega), hj]

theorem Own.free {g n cap : Nat} (h : Own w base e (.slice (some ⟨g, 0, none⟩) n cap) cs) (j : Nat) : w.frozen? ⟨g, j, none⟩ = false := by
 have hn : n = cs.length := by
  obtain ⟨a, c, e, _⟩ := h.form
  simp only [Value.slice.injEq] at e
  exact e.2.1
 subst hn
 exact World.ownsRow.frozenAt (show w.ownsRow base e 1 _ _ _ from h) j

theorem Own.set {g n cap : Nat} (h : Own w base e (.slice (some ⟨g, 0, none⟩) n cap) cs) (j : Nat) (u : Value) :
  Own (w.setCell ⟨g, j, none⟩ u) base e (.slice (some ⟨g, 0, none⟩) n cap) (cs.set j u) := by
 have hn : n = cs.length := by
  obtain ⟨a, c, e, _⟩ := h.form
  simp only [Value.slice.injEq] at e
  exact e.2.1
 subst hn
 have := (World.ownsRow.stored (show w.ownsRow base e 1 _ _ _ from h) j u).1
 unfold Own
 rw [List.length_set]
 exact this

theorem Own.set_other (h : Own w base e v cs) {p : Addr} (hp : ∀ j, v.ownBlock = some j → j ≠ p.block) (u : Value) : Own (w.setCell p u) base e v cs :=
 h.kp (Kp.set w p u) (fun j hj e => hp j hj e)

theorem Own.drew (h : Own w base e v cs) : Own w.drew base e v cs := h
theorem Own.drewN (h : Own w base e v cs) (n : Nat) : Own (w.drewN n) base e v cs := h
theorem Own.alloc (h : Own w base e v cs) (o : Obj) : Own (w.alloc o) base e v cs := World.ownsRow.alloc h o
end

theorem wpList_append1 {P : Program} {w : World} {ops : Array Oper} {rest : List Oper} {o : Oper} {a : Act} {Q : Exit → Act → World → Prop} (hgd : o.guard = none) (s x : Operand) (t e : TypeId)
  (ho : o.op = .call { callee := .builtin .append, args := #[s, x], argTypes := #[t, t] }) {z : Value} {bytes : Nat}
  (ht : P.underlying t = some (.slice e)) (hI : (P.info? e).map (fun i => (i.zero, i.size, i.bytes)) = some (some z, 1, bytes)) (hzs : z.cells.size = 1)
  {base : Nat} {v : Value} {cs : List Value} (hown : Own w base e v cs) (hs : a.eval s = v) (ad : Addr) (u : Value) (hx : a.eval x = .slice (some ad) 1 1) (hnew : w.cell? ad = some u) (h1 : u.oneCell' = true)
  (hbytes : (cs.length + 1) * bytes ≤ 140737488355328) (hm : cs.length + 1 ≤ maxLen) (hbase : base ≤ w.heap.size)
  (h : ∀ v' w', Own w' base e v' (cs ++ [u]) → w.grownBy w' v.ownBlock → wpList P ops Q rest (a.put o.dst v') w') : wpList P ops Q (o :: rest) a w := by
 obtain ⟨i0, hi, hz0, hz1, hz2⟩ := info_parts hI
 refine wpList_append_own _ hgd s x t ho base e i0 z 1 bytes ht hi hz0 hz1 hz2 hzs (by decide) v cs.length cs hs hown ad 1 1 [u] hx rfl ?_ ?_ hm hbytes hbase ?_
 ·intro j u' hj
  match j, hj with
  |0, hj =>
   have : ad.add 0 = ad := by unfold Addr.add; split <;> simp_all
   simp at hj
   rw [this, ← hj]; exact hnew
 ·intro u' hu; simp at hu; subst hu; exact h1
 ·intro v' w' h2 h3 _
  exact h v' w' (by unfold Own; rw [List.length_append]; exact h2) h3

theorem add_plain' (b off n : Nat) : (⟨b, off, none⟩ : Addr).add n = ⟨b, off + n, none⟩ := by
 unfold Addr.add
 split <;> simp_all

theorem wpList_appendAll {P : Program} {w : World} {ops : Array Oper} {rest : List Oper} {o : Oper} {a : Act} {Q : Exit → Act → World → Prop} (hgd : o.guard = none) (s x : Operand) (t e : TypeId)
  (ho : o.op = .call { callee := .builtin .append, args := #[s, x], argTypes := #[t, t] }) {z : Value} {bytes : Nat}
  (ht : P.underlying t = some (.slice e)) (hI : (P.info? e).map (fun i => (i.zero, i.size, i.bytes)) = some (some z, 1, bytes)) (hzs : z.cells.size = 1)
  {base : Nat} {v : Value} {cs : List Value} (hown : Own w base e v cs) (hs : a.eval s = v) (src : Option Addr) (m c : Nat) (news : List Value) (hx : a.eval x = .slice src m c) (hm : news.length = m) (hrow : RowAt w src news) (hnil : src = none → c = 0) (h1 : ∀ u ∈ news, u.oneCell' = true)
  (hbytes : (cs.length + m) * bytes ≤ 140737488355328) (hml : cs.length + m ≤ maxLen) (hbase : base ≤ w.heap.size)
  (h : ∀ v' w', Own w' base e v' (cs ++ news) → w.grownBy w' v.ownBlock → wpList P ops Q rest (a.put o.dst v') w') : wpList P ops Q (o :: rest) a w := by
 obtain ⟨i0, hi, hz0, hz1, hz2⟩ := info_parts hI
 cases src with
 |none =>
  have hn : news = [] := by
   cases news with
   |nil => rfl
   |cons u r => obtain ⟨_, _, h, _⟩ := hrow 0 u rfl; cases h
  subst hn
  have hm0 : m = 0 := by simpa using hm.symm
  subst hm0
  rw [hnil rfl] at hx
  refine wpList_append_own_none hgd s x t ho base e i0 1 ht hi v cs.length cs hs hown hx ?_
  exact h v w (by rw [List.append_nil]; exact hown) ⟨rfl, rfl, rfl, Nat.le_refl _, fun _ _ _ => rfl⟩
 |some ad =>
  refine wpList_append_own _ hgd s x t ho base e i0 z 1 bytes ht hi hz0 hz1 hz2 hzs (by decide) v cs.length cs hs hown ad m c news hx (by omega) ?_ h1 hml hbytes hbase ?_
  ·intro j u hj
   obtain ⟨b, off, hab, hc⟩ := hrow j u hj
   simp only [Option.some.injEq] at hab
   subst hab
   rw [add_plain']
   exact hc
  ·intro v' w' h2 h3 _
   exact h v' w' (by unfold Own; rw [List.length_append, hm]; exact h2) h3

def IntsArg (w : World) (v : Value) : Prop :=
  ∃ (a : Option Addr) (len cap : Nat) (l : List Int), v = .slice a len cap ∧ l.length = len ∧ len ≤ cap ∧ cap ≤ maxLen ∧ (a = none → cap = 0) ∧ IntsAt w a l ∧ ∀ x ∈ l, -9223372036854775808 ≤ x ∧ x ≤ 9223372036854775807

theorem RowAt.take {w : World} {a : Option Addr} {cs : List Value} (h : RowAt w a cs) (m : Nat) : RowAt w a (cs.take m) := by
 intro j u hu
 rw [List.getElem?_take] at hu
 split at hu
 ·exact h j u hu
 ·cases hu

end Go.Proofs.YtnoknecfdnjomaaGreat

/-
  Numbers and their lowest bits. No program in sight.
-/
namespace Go.Proofs.YtnoknecfdnjomaaGreat
open Go.RowKit

def bitsP : Nat → Nat → List Bool
  | _, 0 => []
  | n, m + 1 => decide (n % 2 = 1) :: bitsP (n / 2) m
def numP : List Bool → Nat
  | [] => 0
  | b :: r => (if b = true then 1 else 0) + 2 * numP r
theorem bitsP_len : ∀ n m, (bitsP n m).length = m
 |_, 0 => rfl
 |n, m + 1 => by rw [bitsP, List.length_cons, bitsP_len]
theorem numP_lt : ∀ l, numP l < 2 ^ l.length
 |[] => by simp [numP]
 |b :: r => by
  have := numP_lt r
  rw [numP, List.length_cons, Nat.pow_succ]
  split <;> omega
theorem bitsP_succ : ∀ m n, bitsP n (m + 1) = bitsP n m ++ [decide (n / 2 ^ m % 2 = 1)]
 |0, n => by simp [bitsP]
 |m + 1, n => by
  rw [bitsP, bitsP_succ m (n / 2), bitsP, List.cons_append, Nat.div_div_eq_div_mul, Nat.pow_succ, Nat.mul_comm 2]
theorem numP_snoc : ∀ (l : List Bool) (b : Bool), numP (l ++ [b]) = numP l + (if b = true then 2 ^ l.length else 0)
 |[], b => by simp [numP]
 |c :: r, b => by
  rw [List.cons_append, numP, numP_snoc r b, numP, List.length_cons, Nat.pow_succ]
  split <;> split <;> omega
theorem numP_drop {l : List Bool} {i : Nat} {b : Bool} (h : l[i]? = some b) : numP (l.drop i) = (if b = true then 1 else 0) + 2 * numP (l.drop (i + 1)) := by
 obtain ⟨hi, e⟩ := List.getElem?_eq_some_iff.1 h
 rw [List.drop_eq_getElem_cons hi, e, numP]

end Go.Proofs.YtnoknecfdnjomaaGreat

/-
  Circuits, plainly: which literals are owned and used, and the order of gates. No program in sight.
-/
namespace Go.Proofs.YtnoknecfdnjomaaGreat

structure Circ where
  max : Int
  ins : List Int
  lats : List (Int × Int × Int)
  outs : List Int
  bads : List Int
  cons : List Int
  gates : List (Int × Int × Int)

def Circ.owned (C : Circ) : List Int := C.ins ++ C.lats.map (fun x => x.1) ++ C.gates.map (fun x => x.1)
def Circ.used (C : Circ) : List Int := C.outs ++ C.bads ++ C.cons ++ C.lats.map (fun x => x.2.1) ++ C.gates.flatMap (fun g => [g.2.1, g.2.2])

def g3 (G : List (Int × Int × Int)) (i : Nat) : Int × Int × Int := G[i]?.getD (0, 0, 0)
theorem g3_at {G : List (Int × Int × Int)} {i : Nat} (h : i < G.length) : G[i]? = some (g3 G i) := by unfold g3; rw [List.getElem?_eq_getElem h]; rfl
theorem g3_mem {G : List (Int × Int × Int)} {i : Nat} (h : i < G.length) : g3 G i ∈ G := by
 have := g3_at h
 exact List.mem_of_getElem? this

def waitsB (G : List (Int × Int × Int)) (out : List Nat) (l : Int) : Bool := (List.range G.length).any fun i => !out.contains i && decide ((g3 G i).1 / 2 = l / 2)
def readyB (G : List (Int × Int × Int)) (out : List Nat) (i : Nat) : Bool := !out.contains i && !waitsB G out (g3 G i).2.1 && !waitsB G out (g3 G i).2.2
def nextO (G : List (Int × Int × Int)) (out : List Nat) : Option Nat := (List.range G.length).find? (readyB G out)
def ordFrom (G : List (Int × Int × Int)) : Nat → List Nat → List Nat
  | 0, out => out
  | f + 1, out => match nextO G out with
    | none => out
    | some i => ordFrom G f (out ++ [i])
def ordO (G : List (Int × Int × Int)) : List Nat := ordFrom G G.length []

structure OrdAt (G : List (Int × Int × Int)) (out : List Nat) : Prop where
  nd : out.Nodup
  lt : ∀ i, i ∈ out → i < G.length
  eq : ordFrom G (G.length - out.length) out = ordO G

theorem find_least {n : Nat} {p : Nat → Bool} {i : Nat} (hi : i < n) (hp : p i = true) (hl : ∀ j, j < i → p j = false) : (List.range n).find? p = some i := by
 rw [List.find?_range_eq_some]
 refine ⟨hp, by simpa using hi, fun j hj => by simp [hl j hj]⟩

theorem nextO_some {G : List (Int × Int × Int)} {out : List Nat} {i : Nat} (h : nextO G out = some i) : i < G.length ∧ readyB G out i = true := by
 unfold nextO at h
 have h1 := List.mem_of_find?_eq_some h
 have h2 := List.find?_some h
 exact ⟨List.mem_range.1 h1, h2⟩

theorem readyB_not_mem {G : List (Int × Int × Int)} {out : List Nat} {i : Nat} (h : readyB G out i = true) : i ∉ out := by
 unfold readyB at h
 simp at h
 exact h.1.1

theorem nodup_le : ∀ (n : Nat) {l : List Nat}, l.Nodup → (∀ i, i ∈ l → i < n) → l.length ≤ n
 |0, l, _, h => by
  cases l with
  |nil => simp
  |cons x r => have := h x (by simp); omega
 |n + 1, l, hn, h => by
  by_cases hm : n ∈ l
  ·have h1 := nodup_le n (l := l.erase n) (hn.erase n) (fun i hi => by
    have h2 := (hn.mem_erase_iff).1 hi
    have := h i h2.2
    have := h2.1
    omega)
   rw [List.length_erase_of_mem hm] at h1
   omega
  ·have := nodup_le n hn (fun i hi => by
    have := h i hi
    have : i ≠ n := fun e => hm (e ▸ hi)
    omega)
   omega

theorem nodup_lt {l : List Nat} (hn : l.Nodup) {n i : Nat} (h : ∀ j, j ∈ l → j < n) (hi : i < n) (hm : i ∉ l) : l.length < n := by
 have h1 : (i :: l).Nodup := List.nodup_cons.2 ⟨hm, hn⟩
 have := nodup_le n h1 (fun j hj => by
  rcases List.mem_cons.1 hj with e | e
  ·omega
  ·exact h j e)
 rw [List.length_cons] at this
 omega

theorem OrdAt.start (G : List (Int × Int × Int)) : OrdAt G [] := ⟨List.nodup_nil, fun i h => by simp at h, rfl⟩

theorem OrdAt.step {G : List (Int × Int × Int)} {out : List Nat} (h : OrdAt G out) {i : Nat} (hn : nextO G out = some i) : OrdAt G (out ++ [i]) := by
 obtain ⟨hi, hr⟩ := nextO_some hn
 have hm := readyB_not_mem hr
 refine ⟨?_, ?_, ?_⟩
 ·rw [List.nodup_append]
  refine ⟨h.nd, by simp, fun a ha b hb => ?_⟩
  simp at hb
  subst hb
  intro e
  subst e
  exact hm ha
 ·intro j hj
  rcases List.mem_append.1 hj with e | e
  ·exact h.lt j e
  ·simp at e; omega
 ·have hl := nodup_lt h.nd h.lt hi hm
  have he := h.eq
  rw [show G.length - out.length = (G.length - (out.length + 1)) + 1 by omega] at he
  unfold ordFrom at he
  rw [hn] at he
  rw [List.length_append]
  exact he

theorem OrdAt.done {G : List (Int × Int × Int)} {out : List Nat} (h : OrdAt G out) (hn : nextO G out = none) : ordO G = out := by
 rw [← h.eq]
 cases G.length - out.length with
 |zero => rfl
 |succ f => unfold ordFrom; rw [hn]

theorem OrdAt.len {G : List (Int × Int × Int)} {out : List Nat} (h : OrdAt G out) : out.length ≤ G.length := nodup_le _ h.nd h.lt

theorem OrdAt.lenlt {G : List (Int × Int × Int)} {out : List Nat} (h : OrdAt G out) {i : Nat} (hn : nextO G out = some i) : out.length < G.length :=
 nodup_lt h.nd h.lt (nextO_some hn).1 (readyB_not_mem (nextO_some hn).2)

theorem ordFrom_at {G : List (Int × Int × Int)} : ∀ (f : Nat) {out : List Nat}, OrdAt G out → OrdAt G (ordFrom G f out)
 |0, _, h => h
 |f + 1, out, h => by
  unfold ordFrom
  cases hn : nextO G out with
  |none => exact h
  |some i => exact ordFrom_at f (h.step hn)

theorem ordO_at (G : List (Int × Int × Int)) : OrdAt G (ordO G) := ordFrom_at _ (OrdAt.start G)

def GoodG (G : List (Int × Int × Int)) : Prop := ∀ i j, i < G.length → j < G.length → (g3 G i).1 / 2 = (g3 G j).1 / 2 → i = j

def pins (G : List (Int × Int × Int)) (k : Nat) : List Int := [(g3 G k).2.1, (g3 G k).2.2]
def cntO (G : List (Int × Int × Int)) (out : List Nat) (k : Nat) : Nat := ((pins G k).filter (waitsB G out)).length

theorem ready_iff {G : List (Int × Int × Int)} {out : List Nat} {i : Nat} : readyB G out i = true ↔ i ∉ out ∧ cntO G out i = 0 := by
 unfold readyB cntO pins
 simp
 rw [and_assoc]

theorem waitsB_iff {G : List (Int × Int × Int)} {out : List Nat} {l : Int} : waitsB G out l = true ↔ ∃ i, i < G.length ∧ i ∉ out ∧ (g3 G i).1 / 2 = l / 2 := by
 unfold waitsB
 simp

def aboveL (G : List (Int × Int × Int)) (i : Nat) : Nat → List Nat
  | 0 => []
  | n + 1 => aboveL G i n ++ ((pins G n).filter (fun p => decide (p / 2 = (g3 G i).1 / 2))).map (fun _ => n)

theorem count_map_const {α : Type} (l : List α) (n k : Nat) : (l.map (fun _ => n)).count k = if k = n then l.length else 0 := by
 induction l with
 |nil => simp
 |cons x l ih =>
  rw [List.map_cons, List.count_cons, ih]
  by_cases h : k = n
  ·subst h; simp
  ·simp [h]; omega

theorem aboveL_count (G : List (Int × Int × Int)) (i : Nat) : ∀ n k, (aboveL G i n).count k = if k < n then ((pins G k).filter (fun p => decide (p / 2 = (g3 G i).1 / 2))).length else 0
 |0, k => by simp [aboveL]
 |n + 1, k => by
  unfold aboveL
  rw [List.count_append, aboveL_count G i n k, count_map_const]
  by_cases h : k = n
  ·subst h; simp
  ·rw [if_neg h]
   by_cases h2 : k < n
   ·rw [if_pos h2, if_pos (by omega)]; omega
   ·rw [if_neg h2, if_neg (by omega)]

theorem aboveL_lt {G : List (Int × Int × Int)} {i : Nat} : ∀ {n k : Nat}, k ∈ aboveL G i n → k < n
 |0, k, h => by simp [aboveL] at h
 |n + 1, k, h => by
  unfold aboveL at h
  rcases List.mem_append.1 h with h | h
  ·have := aboveL_lt h; omega
  ·simp at h; omega

theorem waits_step {G : List (Int × Int × Int)} (hG : GoodG G) {out : List Nat} {i : Nat} (hi : i < G.length) (hm : i ∉ out) (p : Int) :
  (if waitsB G (out ++ [i]) p = true then 1 else 0) + (if p / 2 = (g3 G i).1 / 2 then 1 else 0) = (if waitsB G out p = true then 1 else 0) := by
 by_cases hp : p / 2 = (g3 G i).1 / 2
 ·have h1 : waitsB G out p = true := waitsB_iff.2 ⟨i, hi, hm, hp.symm⟩
  have h2 : ¬ waitsB G (out ++ [i]) p = true := by
   intro h
   obtain ⟨j, hj, hjm, e⟩ := waitsB_iff.1 h
   have : j = i := hG j i hj hi (e.trans hp)
   subst this
   simp at hjm
  rw [if_neg h2, if_pos hp, if_pos h1]
 ·have h3 : waitsB G (out ++ [i]) p = true ↔ waitsB G out p = true := by
   rw [waitsB_iff, waitsB_iff]
   constructor
   ·rintro ⟨j, hj, hjm, e⟩
    exact ⟨j, hj, fun h => hjm (List.mem_append.2 (.inl h)), e⟩
   ·rintro ⟨j, hj, hjm, e⟩
    refine ⟨j, hj, fun h => ?_, e⟩
    rcases List.mem_append.1 h with h | h
    ·exact hjm h
    ·simp at h; subst h; exact hp e.symm
  rw [if_neg hp]
  simp only [h3]
  omega

theorem filter_two (p q : Int) (f : Int → Bool) : ([p, q].filter f).length = (if f p = true then 1 else 0) + (if f q = true then 1 else 0) := by
 by_cases h1 : f p = true <;> by_cases h2 : f q = true <;> simp [h1, h2]

theorem cnt_step {G : List (Int × Int × Int)} (hG : GoodG G) {out : List Nat} {i : Nat} (hi : i < G.length) (hm : i ∉ out) {k : Nat} (hk : k < G.length) :
  cntO G (out ++ [i]) k + (aboveL G i G.length).count k = cntO G out k := by
 rw [aboveL_count, if_pos hk]
 unfold cntO pins
 rw [filter_two, filter_two, filter_two]
 have h1 := waits_step hG hi hm (g3 G k).2.1
 have h2 := waits_step hG hi hm (g3 G k).2.2
 simp only [decide_eq_true_eq]
 omega

structure MidO (G : List (Int × Int × Int)) (out : List Nat) : Prop where
  at_ : OrdAt G out
  zero : ∀ k, k ∈ out → cntO G out k = 0

theorem MidO.start (G : List (Int × Int × Int)) : MidO G [] := ⟨OrdAt.start G, fun k h => by simp at h⟩

theorem cnt_le {G : List (Int × Int × Int)} (hG : GoodG G) {out : List Nat} {i : Nat} (hi : i < G.length) (hm : i ∉ out) {k : Nat} (hk : k < G.length) : cntO G (out ++ [i]) k ≤ cntO G out k := by
 have := cnt_step hG hi hm hk
 omega

theorem MidO.step {G : List (Int × Int × Int)} (hG : GoodG G) {out : List Nat} (h : MidO G out) {i : Nat} (hn : nextO G out = some i) : MidO G (out ++ [i]) := by
 obtain ⟨hi, hr⟩ := nextO_some hn
 obtain ⟨hm, hz⟩ := ready_iff.1 hr
 refine ⟨h.at_.step hn, fun k hk => ?_⟩
 rcases List.mem_append.1 hk with e | e
 ·have := cnt_le hG hi hm (h.at_.lt k e); have := h.zero k e; omega
 ·simp at e; subst e; have := cnt_le hG hi hm hi; omega

theorem next_of_least {G : List (Int × Int × Int)} {out : List Nat} {i : Nat} (hi : i < G.length) (hm : i ∉ out) (hz : cntO G out i = 0) (hl : ∀ j, j < i → j ∉ out → cntO G out j ≠ 0) : nextO G out = some i := by
 unfold nextO
 refine find_least hi (ready_iff.2 ⟨hm, hz⟩) (fun j hj => ?_)
 by_cases h : readyB G out j = true
 ·have := ready_iff.1 h
  exact absurd this.2 (hl j hj this.1)
 ·simpa using h

theorem next_none {G : List (Int × Int × Int)} {out : List Nat} (h : ∀ j, j < G.length → j ∉ out → cntO G out j ≠ 0) : nextO G out = none := by
 unfold nextO
 rw [List.find?_eq_none]
 intro j hj hr
 have := ready_iff.1 hr
 exact h j (List.mem_range.1 hj) this.1 this.2

theorem part_count {G : List (Int × Int × Int)} (hG : GoodG G) {out : List Nat} (h : MidO G out) {i : Nat} (hn : nextO G out = some i) {P R : List Nat} {k : Nat} (e : aboveL G i G.length = P ++ k :: R) :
  k < G.length ∧ P.count k + 1 ≤ cntO G out k ∧ k ∉ out ++ [i] := by
 obtain ⟨hi, hr⟩ := nextO_some hn
 obtain ⟨hm, hz⟩ := ready_iff.1 hr
 have hk : k < G.length := aboveL_lt (i := i) (by rw [e]; simp)
 have h1 := cnt_step hG hi hm hk
 rw [e, List.count_append, List.count_cons] at h1
 simp only [beq_self_eq_true, if_true] at h1
 refine ⟨hk, by omega, fun hmem => ?_⟩
 rcases List.mem_append.1 hmem with h2 | h2
 ·have := h.zero k h2; omega
 ·simp at h2; subst h2; omega

end Go.Proofs.YtnoknecfdnjomaaGreat

/-
  What is wrong with a circuit, plainly, in the program's and in the document's words. No program in sight.
-/
namespace Go.Proofs.YtnoknecfdnjomaaGreat

def ownB (m l : Int) : Bool := decide (1 < l) && (decide (l % 2 = 0) && decide (l ≤ 2 * m))
def resB (x : Int × Int × Int) : Bool := decide (x.2.2 = 0) || (decide (x.2.2 = 1) || decide (x.2.2 = x.1))
def useB (m l : Int) : Bool := decide (0 ≤ l) && decide (l ≤ 2 * m + 1)

def rangeB (C : Circ) : Bool := C.owned.all (ownB C.max) && C.lats.all resB && C.used.all (useB C.max)
def knownB (own : List Int) (l : Int) : Bool := decide (l / 2 = 0) || own.any (fun y => decide (y / 2 = l / 2))

def ckCode (C : Circ) : Int :=
  if C.max < 0 ∨ 16777216 < C.max then 5
  else if rangeB C = false then 5
  else if ¬ C.owned.Nodup then 7
  else if C.used.all (knownB C.owned) = false then 9
  else if (ordO C.gates).length < C.gates.length then 8 else 0

theorem ownB_iff {m l : Int} : ownB m l = true ↔ 1 < l ∧ l % 2 = 0 ∧ l ≤ 2 * m := by simp [ownB]
theorem useB_iff {m l : Int} : useB m l = true ↔ 0 ≤ l ∧ l ≤ 2 * m + 1 := by simp [useB]
theorem resB_iff {x : Int × Int × Int} : resB x = true ↔ x.2.2 = 0 ∨ x.2.2 = 1 ∨ x.2.2 = x.1 := by simp [resB]

structure InRange (C : Circ) : Prop where
  max0 : 0 ≤ C.max
  max1 : C.max ≤ 16777216
  own : ∀ l, l ∈ C.owned → 1 < l ∧ l % 2 = 0 ∧ l ≤ 2 * C.max
  res : ∀ x, x ∈ C.lats → x.2.2 = 0 ∨ x.2.2 = 1 ∨ x.2.2 = x.1
  use : ∀ l, l ∈ C.used → 0 ≤ l ∧ l ≤ 2 * C.max + 1

theorem InRange.of {C : Circ} (h0 : 0 ≤ C.max) (h1 : C.max ≤ 16777216) (h : rangeB C = true) : InRange C := by
 unfold rangeB at h
 simp only [Bool.and_eq_true, List.all_eq_true] at h
 exact ⟨h0, h1, fun l hl => ownB_iff.1 (h.1.1 l hl), fun x hx => resB_iff.1 (h.1.2 x hx), fun l hl => useB_iff.1 (h.2 l hl)⟩

theorem gate_own {C : Circ} {i : Nat} (h : i < C.gates.length) : (g3 C.gates i).1 ∈ C.owned := by
 unfold Circ.owned
 exact List.mem_append.2 (.inr (List.mem_map.2 ⟨_, g3_mem h, rfl⟩))
theorem gate_useA {C : Circ} {i : Nat} (h : i < C.gates.length) : (g3 C.gates i).2.1 ∈ C.used := by
 unfold Circ.used
 exact List.mem_append.2 (.inr (List.mem_flatMap.2 ⟨_, g3_mem h, by simp⟩))
theorem gate_useB {C : Circ} {i : Nat} (h : i < C.gates.length) : (g3 C.gates i).2.2 ∈ C.used := by
 unfold Circ.used
 exact List.mem_append.2 (.inr (List.mem_flatMap.2 ⟨_, g3_mem h, by simp⟩))

theorem nodup_getElem {l : List Int} (h : l.Nodup) {i j : Nat} {x : Int} (hi : l[i]? = some x) (hj : l[j]? = some x) : i = j := by
 have hi' := (List.getElem?_eq_some_iff.1 hi)
 have hj' := (List.getElem?_eq_some_iff.1 hj)
 obtain ⟨hi1, hi2⟩ := hi'
 obtain ⟨hj1, hj2⟩ := hj'
 rcases Nat.lt_trichotomy i j with h1 | h1 | h1
 ·exact absurd (hi2.trans hj2.symm) (List.pairwise_iff_getElem.1 h i j hi1 hj1 h1)
 ·exact h1
 ·exact absurd (hj2.trans hi2.symm) (List.pairwise_iff_getElem.1 h j i hj1 hi1 h1)

theorem InRange.good {C : Circ} (h : InRange C) (hn : C.owned.Nodup) : GoodG C.gates := by
 intro i j hi hj e
 have h1 := h.own _ (gate_own hi)
 have h2 := h.own _ (gate_own hj)
 have e2 : (g3 C.gates i).1 = (g3 C.gates j).1 := by omega
 have ho : C.owned = (C.ins ++ C.lats.map (fun x => x.1)) ++ C.gates.map (fun x => x.1) := rfl
 have hg : (C.gates.map (fun x => x.1)).Nodup := by
  rw [ho] at hn
  exact (List.nodup_append.1 hn).2.1
 refine nodup_getElem hg (x := (g3 C.gates i).1) ?_ ?_
 ·rw [List.getElem?_map, g3_at hi]; rfl
 ·rw [List.getElem?_map, g3_at hj, e2]; rfl

end Go.Proofs.YtnoknecfdnjomaaGreat

/-
  Slices of structs of k cells each, of the call's own. No program in sight.
-/
namespace Go.Proofs.YtnoknecfdnjomaaGreat
open Go.RowKit

theorem flat_length {k : Nat} : ∀ {rows : List (List Value)}, (∀ r ∈ rows, r.length = k) → rows.flatten.length = rows.length * k
 |[], _ => by simp
 |r :: rows, h => by
  rw [List.flatten_cons, List.length_append, h r (by simp), flat_length (fun x hx => h x (by simp [hx])), List.length_cons, Nat.succ_mul]
  omega

theorem flat_at {k : Nat} : ∀ {rows : List (List Value)}, (∀ r ∈ rows, r.length = k) → ∀ {j i : Nat} {r : List Value} {u : Value}, rows[j]? = some r → r[i]? = some u → rows.flatten[j * k + i]? = some u
 |[], _, j, i, r, u, hj, _ => by simp at hj
 |x :: rows, h, 0, i, r, u, hj, hi => by
  simp at hj
  subst hj
  have hl : i < x.length := (List.getElem?_eq_some_iff.1 hi).1
  rw [List.flatten_cons, List.getElem?_append_left (by omega), Nat.zero_mul, Nat.zero_add]
  exact hi
 |x :: rows, h, j + 1, i, r, u, hj, hi => by
  have hx := h x (by simp)
  rw [List.flatten_cons, List.getElem?_append_right (by rw [hx, Nat.succ_mul]; omega), hx, show (j + 1) * k + i - k = j * k + i by rw [Nat.succ_mul]; omega]
  exact flat_at (fun y hy => h y (by simp [hy])) (by simpa using hj) hi

structure OwnK (w : World) (base : Nat) (e : TypeId) (k : Nat) (v : Value) (rows : List (List Value)) : Prop where
  own : w.ownsRow base e k v rows.length rows.flatten
  len : ∀ r ∈ rows, r.length = k

section
variable {w w' : World} {base : Nat} {e : TypeId} {k : Nat} {v : Value} {rows : List (List Value)}

theorem OwnK.nil (w : World) (base : Nat) (e : TypeId) (k : Nat) : OwnK w base e k (.slice none 0 0) [] := ⟨World.ownsRow_nil _ _ _ _, fun r h => by cases h⟩

theorem OwnK.form (h : OwnK w base e k v rows) : ∃ a cap, v = .slice a rows.length cap ∧ rows.length ≤ cap ∧ cap ≤ maxLen ∧ (a = none → cap = 0) ∧ (∀ p, a = some p → ∃ g, p = ⟨g, 0, none⟩ ∧ base ≤ g ∧ g < w.heap.size) ∧ RowAt w a rows.flatten := by
 rcases h.own.2 with ⟨rfl, hn⟩ | ⟨g, cap, cur, rfl, hb, hg, hnc, hcm, hcs, htake⟩
 ·refine ⟨none, 0, by rw [hn], by omega, by simp [maxLen], fun _ => rfl, fun p hp => by simp at hp, ?_⟩
  have : rows = [] := List.eq_nil_of_length_eq_zero hn
  subst this
  exact RowAt.nil _ _
 ·refine ⟨_, cap, rfl, hnc, hcm, (fun h => by cases h), fun p hp => ⟨g, by simpa using hp.symm, hb, (Array.getElem?_eq_some_iff.1 hg).1⟩, ?_⟩
  have hB : Blk w g cur e := hg
  exact hB.rowAt (off := 0) (n := rows.length * k) (by simpa using htake)

theorem OwnK.kp {S : Nat → Prop} (h : OwnK w base e k v rows) (kk : Kp S w w') (hS : ∀ j, v.ownBlock = some j → ¬ S j) : OwnK w' base e k v rows := by
 refine ⟨⟨h.own.1, ?_⟩, h.len⟩
 rcases h.own.2 with hn | ⟨g, cap, cur, rfl, hb, hgg, rest⟩
 ·exact .inl hn
 ·refine .inr ⟨g, cap, cur, rfl, hb, ?_, rest⟩
  rw [kk.block g (Array.getElem?_eq_some_iff.1 hgg).1 (hS g rfl)]
  exact hgg

theorem OwnK.mono {b' : Nat} (h : OwnK w base e k v rows) (hb : b' ≤ base) : OwnK w b' e k v rows := by
 refine ⟨⟨h.own.1, ?_⟩, h.len⟩
 rcases h.own.2 with hn | ⟨g, cap, cur, rfl, hg, hgg, rest⟩
 ·exact .inl hn
 ·exact .inr ⟨g, cap, cur, rfl, by omega, hgg, rest⟩

theorem OwnK.lt (h : OwnK w base e k v rows) : ∀ j, v.ownBlock = some j → base ≤ j ∧ j < w.heap.size := World.ownsRow.lt h.own

theorem OwnK.leads (h : OwnK w base e k v rows) (hc : 0 < rows.length) : ∃ g cap, v = .slice (some ⟨g, 0, none⟩) rows.length cap ∧ base ≤ g ∧ g < w.heap.size := by
 rcases h.own.2 with ⟨rfl, hn⟩ | ⟨g, cap, cur, rfl, hb, hg, _⟩
 ·omega
 ·exact ⟨g, cap, rfl, hb, (Array.getElem?_eq_some_iff.1 hg).1⟩

theorem OwnK.alloc (h : OwnK w base e k v rows) (o : Obj) : OwnK (w.alloc o) base e k v rows := ⟨World.ownsRow.alloc h.own o, h.len⟩
theorem OwnK.drew (h : OwnK w base e k v rows) : OwnK w.drew base e k v rows := ⟨h.own, h.len⟩
theorem OwnK.drewN (h : OwnK w base e k v rows) (n : Nat) : OwnK (w.drewN n) base e k v rows := ⟨h.own, h.len⟩
end

theorem RowAt.cellAt {w : World} {a : Option Addr} {k : Nat} {rows : List (List Value)} (h : RowAt w a rows.flatten) (hl : ∀ r ∈ rows, r.length = k) {j i : Nat} {r : List Value} {u : Value} (hj : rows[j]? = some r) (hi : r[i]? = some u) : Elem w a (j * k + i) u :=
 h _ _ (flat_at hl hj hi)

theorem wpList_appendK {P : Program} {w : World} {ops : Array Oper} {rest : List Oper} {o : Oper} {a : Act} {Q : Exit → Act → World → Prop} (hgd : o.guard = none) (s x : Operand) (t e : TypeId)
  (ho : o.op = .call { callee := .builtin .append, args := #[s, x], argTypes := #[t, t] }) {z : Value} {k bytes : Nat}
  (ht : P.underlying t = some (.slice e)) (hI : (P.info? e).map (fun i => (i.zero, i.size, i.bytes)) = some (some z, k, bytes)) (hzs : z.cells.size = k) (hk : 0 < k)
  {base : Nat} {v : Value} {rows : List (List Value)} (hown : OwnK w base e k v rows) (hs : a.eval s = v) (b : Nat) (r : List Value) (hx : a.eval x = .slice (some ⟨b, 0, none⟩) 1 1) (hr : r.length = k) (hnew : ∀ j u, r[j]? = some u → w.cell? ⟨b, j, none⟩ = some u) (h1 : ∀ u ∈ r, u.oneCell' = true)
  (hbytes : (rows.length + 1) * bytes ≤ 140737488355328) (hm : rows.length + 1 ≤ maxLen) (hbase : base ≤ w.heap.size)
  (h : ∀ v' w', OwnK w' base e k v' (rows ++ [r]) → w.grownBy w' v.ownBlock → (v'.ownBlock = v.ownBlock ∨ v'.ownBlock = some w.heap.size) → wpList P ops Q rest (a.put o.dst v') w') : wpList P ops Q (o :: rest) a w := by
 obtain ⟨i0, hi, hz0, hz1, hz2⟩ := info_parts hI
 refine wpList_append_own_at _ hgd s x t ho base e i0 z k bytes ht hi hz0 hz1 hz2 hzs hk v rows.length rows.flatten hs hown.own ⟨b, 0, none⟩ 1 1 r hx (by omega) ?_ h1 hm hbytes hbase ?_
 ·intro j u hj
  rw [add_plain', Nat.zero_add]
  exact hnew j u hj
 ·intro v' w' h2 h3 _ h5
  refine h v' w' ⟨?_, ?_⟩ h3 h5
  ·rw [List.length_append, List.flatten_append]
   simpa using h2
  ·intro x hx
   rcases List.mem_append.1 hx with h | h
   ·exact hown.len x h
   ·simp at h; subst h; exact hr

end Go.Proofs.YtnoknecfdnjomaaGreat

/-
  'append(v, u)' on a row of the call's own, and where the new row lies.
-/
namespace Go.Proofs.YtnoknecfdnjomaaGreat
open Go.RowKit

theorem wpList_append1_at {P : Program} {w : World} {ops : Array Oper} {rest : List Oper} {o : Oper} {a : Act} {Q : Exit → Act → World → Prop} (hgd : o.guard = none) (s x : Operand) (t e : TypeId)
  (ho : o.op = .call { callee := .builtin .append, args := #[s, x], argTypes := #[t, t] }) {z : Value} {bytes : Nat}
  (ht : P.underlying t = some (.slice e)) (hI : (P.info? e).map (fun i => (i.zero, i.size, i.bytes)) = some (some z, 1, bytes)) (hzs : z.cells.size = 1)
  {base : Nat} {v : Value} {cs : List Value} (hown : Own w base e v cs) (hs : a.eval s = v) (ad : Addr) (u : Value) (hx : a.eval x = .slice (some ad) 1 1) (hnew : w.cell? ad = some u) (h1 : u.oneCell' = true)
  (hbytes : (cs.length + 1) * bytes ≤ 140737488355328) (hm : cs.length + 1 ≤ maxLen) (hbase : base ≤ w.heap.size)
  (h : ∀ v' w', Own w' base e v' (cs ++ [u]) → w.grownBy w' v.ownBlock → (v'.ownBlock = v.ownBlock ∨ v'.ownBlock = some w.heap.size) → wpList P ops Q rest (a.put o.dst v') w') : wpList P ops Q (o :: rest) a w := by
 obtain ⟨i0, hi, hz0, hz1, hz2⟩ := info_parts hI
 refine wpList_append_own_at _ hgd s x t ho base e i0 z 1 bytes ht hi hz0 hz1 hz2 hzs (by decide) v cs.length cs hs hown ad 1 1 [u] hx rfl ?_ ?_ hm hbytes hbase ?_
 ·intro j u' hj
  match j, hj with
  |0, hj =>
   have : ad.add 0 = ad := by unfold Addr.add; split <;> simp_all
   simp at hj
   rw [this, ← hj]; exact hnew
 ·intro u' hu; simp at hu; subst hu; exact h1
 ·intro v' w' h2 h3 _ h5
  exact h v' w' (by unfold Own; rw [List.length_append]; exact h2) h3 h5

end Go.Proofs.YtnoknecfdnjomaaGreat

/-
  Circuits in memory, and slices of structs of k cells.
-/
namespace Go.Proofs.YtnoknecfdnjomaaGreat
open Go.RowKit

theorem Kp.cellK {w w' : World} (k : Kp (fun _ => False) w w') {b o : Nat} {v : Value} (h : w.cell? ⟨b, o, none⟩ = some v) : w'.cell? ⟨b, o, none⟩ = some v :=
 (World.cell?_of_block (w := w) (w' := w') (a := ⟨b, o, none⟩) (k.block b (World.block_lt_of_cell? w _ h) (fun h => h))).trans h

theorem Own.lit {w : World} {base g : Nat} {e : TypeId} {cs : List Value} (h : Blk w g cs.toArray e) (hg : base ≤ g) (hn : cs.length ≤ maxLen) : Own w base e (.slice (some ⟨g, 0, none⟩) cs.length cs.length) cs :=
 ⟨by simp, .inr ⟨g, cs.length, cs.toArray, rfl, hg, h, Nat.le_refl _, hn, by simp, by simp⟩⟩

theorem OwnK.lit {w : World} {base g k : Nat} {e : TypeId} {rows : List (List Value)} (h : Blk w g rows.flatten.toArray e) (hg : base ≤ g) (hl : ∀ r ∈ rows, r.length = k) (hn : rows.length ≤ maxLen) : OwnK w base e k (.slice (some ⟨g, 0, none⟩) rows.length rows.length) rows :=
 ⟨⟨by rw [flat_length hl], .inr ⟨g, rows.length, rows.flatten.toArray, rfl, hg, h, Nat.le_refl _, hn, by simp only [List.size_toArray]; exact flat_length hl, by rw [← flat_length hl]; exact List.take_length⟩⟩, hl⟩

theorem two_blk (w : World) (c0 c1 : Array Value) (t0 t1 : TypeId) : Blk ((w.alloc (.cells c0 t0)).alloc (.cells c1 t1)) (w.heap.size + 1) c1 t1 := by
 have := Blk.new (w.alloc (.cells c0 t0)) c1 t1
 rwa [World.size_alloc] at this

theorem wpList_appendNewsK {P : Program} {w : World} {ops : Array Oper} {rest : List Oper} {o : Oper} {a : Act} {Q : Exit → Act → World → Prop} (hgd : o.guard = none) (s x : Operand) (t e : TypeId)
  (ho : o.op = .call { callee := .builtin .append, args := #[s, x], argTypes := #[t, t] }) {z : Value} {k bytes : Nat}
  (ht : P.underlying t = some (.slice e)) (hI : (P.info? e).map (fun i => (i.zero, i.size, i.bytes)) = some (some z, k, bytes)) (hzs : z.cells.size = k) (hk : 0 < k)
  {base : Nat} {v : Value} {rows : List (List Value)} (hown : OwnK w base e k v rows) (hs : a.eval s = v) (src : Option Addr) (m c : Nat) (news : List (List Value)) (hx : a.eval x = .slice src m c) (hm : news.length = m) (hrow : RowAt w src news.flatten) (hnil : src = none → c = 0) (hlen : ∀ r ∈ news, r.length = k) (h1 : ∀ r ∈ news, ∀ u ∈ r, u.oneCell' = true)
  (hbytes : (rows.length + m) * bytes ≤ 140737488355328) (hml : rows.length + m ≤ maxLen) (hbase : base ≤ w.heap.size)
  (h : ∀ v' w', OwnK w' base e k v' (rows ++ news) → w.grownBy w' v.ownBlock → wpList P ops Q rest (a.put o.dst v') w') : wpList P ops Q (o :: rest) a w := by
 obtain ⟨i0, hi, hz0, hz1, hz2⟩ := info_parts hI
 have hfl := flat_length hlen
 cases src with
 |none =>
  have hn : news = [] := by
   cases news with
   |nil => rfl
   |cons r0 r =>
    have h0 := hlen r0 (by simp)
    cases r0 with
    |nil => simp at h0; omega
    |cons u r1 => obtain ⟨_, _, h, _⟩ := hrow 0 u (by simp); cases h
  subst hn
  have hm0 : m = 0 := by simpa using hm.symm
  subst hm0
  rw [hnil rfl] at hx
  refine wpList_append_own_none hgd s x t ho base e i0 k ht hi v rows.length rows.flatten hs hown.own hx ?_
  exact h v w (by rw [List.append_nil]; exact hown) ⟨rfl, rfl, rfl, Nat.le_refl _, fun _ _ _ => rfl⟩
 |some ad =>
  refine wpList_append_own _ hgd s x t ho base e i0 z k bytes ht hi hz0 hz1 hz2 hzs hk v rows.length rows.flatten hs hown.own ad m c news.flatten hx (by rw [hfl, hm]) ?_ ?_ hml hbytes hbase ?_
  ·intro j u hj
   obtain ⟨b, off, hab, hc⟩ := hrow j u hj
   simp only [Option.some.injEq] at hab
   subst hab
   rw [add_plain']
   exact hc
  ·intro u hu
   obtain ⟨r, hr, hur⟩ := List.mem_flatten.1 hu
   exact h1 r hr u hur
  ·intro v' w' h2 h3 _
   refine h v' w' ⟨?_, ?_⟩ h3
   ·rw [List.length_append, List.flatten_append, hm]; exact h2
   ·intro r hr
    rcases List.mem_append.1 hr with h | h
    ·exact hown.len r h
    ·exact hlen r h

def tri (x : Int × Int × Int) : List Value := [.int .i64 x.1, .int .i64 x.2.1, .int .i64 x.2.2]
theorem tri_len (L : List (Int × Int × Int)) : ∀ r ∈ L.map tri, r.length = 3 := by
 intro r hr
 obtain ⟨x, _, rfl⟩ := List.mem_map.1 hr
 rfl
theorem tri_one (L : List (Int × Int × Int)) : ∀ r ∈ L.map tri, ∀ u ∈ r, u.oneCell' = true := by
 intro r hr u hu
 obtain ⟨x, _, rfl⟩ := List.mem_map.1 hr
 unfold tri at hu
 simp at hu
 rcases hu with rfl | rfl | rfl <;> rfl
theorem tri_at {L : List (Int × Int × Int)} {k : Nat} (h : k < L.length) : (L.map tri)[k]? = some (tri (g3 L k)) := by
 rw [List.getElem?_map, g3_at h]; rfl

theorem tri_cells {w : World} {a : Option Addr} {L : List (Int × Int × Int)} (h : RowAt w a (L.map tri).flatten) {k : Nat} (hk : k < L.length) :
  ∃ b off, a = some ⟨b, off, none⟩ ∧ w.cell? ⟨b, off + k * 3, none⟩ = some (.int .i64 (g3 L k).1) ∧ w.cell? ⟨b, off + k * 3 + 1, none⟩ = some (.int .i64 (g3 L k).2.1) ∧ w.cell? ⟨b, off + k * 3 + 2, none⟩ = some (.int .i64 (g3 L k).2.2) := by
 obtain ⟨b, off, e0, h0⟩ := h.cellAt (tri_len L) (j := k) (i := 0) (tri_at hk) rfl
 obtain ⟨b1, off1, e1, h1⟩ := h.cellAt (tri_len L) (j := k) (i := 1) (tri_at hk) rfl
 obtain ⟨b2, off2, e2, h2⟩ := h.cellAt (tri_len L) (j := k) (i := 2) (tri_at hk) rfl
 obtain ⟨rfl, rfl⟩ : b = b1 ∧ off = off1 := by rw [e0] at e1; simpa using e1
 obtain ⟨rfl, rfl⟩ : b = b2 ∧ off = off2 := by rw [e0] at e2; simpa using e2
 exact ⟨b, off, e0, h0, h1, h2⟩

structure CV where
  ai : Option Addr
  ci : Nat
  al : Option Addr
  cl : Nat
  ao : Option Addr
  co : Nat
  ab : Option Addr
  cb : Nat
  ac : Option Addr
  cc : Nat
  ag : Option Addr
  cg : Nat
  ay : Option Addr
  ny : Nat
  cy : Nat
  cm : ByteArray

structure SlOK (a : Option Addr) (n c : Nat) : Prop where
  le : n ≤ c
  most : c ≤ maxLen
  nil : a = none → c = 0

def cvals (V : CV) (C : Circ) : Array Value := #[.int .i64 C.max, .slice V.ai C.ins.length V.ci, .slice V.al C.lats.length V.cl, .slice V.ao C.outs.length V.co, .slice V.ab C.bads.length V.cb, .slice V.ac C.cons.length V.cc, .slice V.ag C.gates.length V.cg, .slice V.ay V.ny V.cy, .string V.cm]

structure CFew (C : Circ) (m : Nat) : Prop where
  i : C.ins.length ≤ m
  l : C.lats.length ≤ m
  o : C.outs.length ≤ m
  b : C.bads.length ≤ m
  c : C.cons.length ≤ m
  g : C.gates.length ≤ m

structure CAt (w : World) (V : CV) (C : Circ) : Prop where
  i : IntsAt w V.ai C.ins
  l : RowAt w V.al (C.lats.map tri).flatten
  o : IntsAt w V.ao C.outs
  b : IntsAt w V.ab C.bads
  c : IntsAt w V.ac C.cons
  g : RowAt w V.ag (C.gates.map tri).flatten
  y : ∃ rows : List (List Value), RowAt w V.ay rows.flatten ∧ rows.length = V.ny ∧ (∀ r ∈ rows, r.length = 3) ∧ ∀ r ∈ rows, ∀ u ∈ r, u.oneCell' = true
  fi : SlOK V.ai C.ins.length V.ci
  fl : SlOK V.al C.lats.length V.cl
  fo : SlOK V.ao C.outs.length V.co
  fb : SlOK V.ab C.bads.length V.cb
  fc : SlOK V.ac C.cons.length V.cc
  fg : SlOK V.ag C.gates.length V.cg
  fy : SlOK V.ay V.ny V.cy

theorem CAt.kp {w w' : World} {V : CV} {C : Circ} (h : CAt w V C) (k : Kp (fun _ => False) w w') : CAt w' V C :=
 ⟨h.i.kp k (fun _ _ h => h), h.l.kp k (fun _ _ h => h), h.o.kp k (fun _ _ h => h), h.b.kp k (fun _ _ h => h), h.c.kp k (fun _ _ h => h), h.g.kp k (fun _ _ h => h), by
  obtain ⟨rows, h1, h2⟩ := h.y
  exact ⟨rows, h1.kp k (fun _ _ h => h), h2⟩, h.fi, h.fl, h.fo, h.fb, h.fc, h.fg, h.fy⟩

theorem SlOK.le63 {a : Option Addr} {n c : Nat} (h : SlOK a n c) : n ≤ 9223372036854775807 ∧ c ≤ 9223372036854775807 := by
 have h1 := h.le
 have h2 := h.most
 unfold maxLen at h2
 omega

theorem Blk.cells9 {w : World} {b : Nat} {x0 x1 x2 x3 x4 x5 x6 x7 x8 : Value} {t : TypeId} (h : Blk w b #[x0, x1, x2, x3, x4, x5, x6, x7, x8] t) :
  w.cell? ⟨b, 0, none⟩ = some x0 ∧ w.cell? ⟨b, 1, none⟩ = some x1 ∧ w.cell? ⟨b, 2, none⟩ = some x2 ∧ w.cell? ⟨b, 3, none⟩ = some x3 ∧ w.cell? ⟨b, 4, none⟩ = some x4 ∧ w.cell? ⟨b, 5, none⟩ = some x5 ∧ w.cell? ⟨b, 6, none⟩ = some x6 ∧ w.cell? ⟨b, 7, none⟩ = some x7 ∧ w.cell? ⟨b, 8, none⟩ = some x8 :=
 ⟨h.cell rfl, h.cell rfl, h.cell rfl, h.cell rfl, h.cell rfl, h.cell rfl, h.cell rfl, h.cell rfl, h.cell rfl⟩

end Go.Proofs.YtnoknecfdnjomaaGreat

/-
  slices.Clone of ints, of latches, of gates, of symbols. (Printed by mkclone.py.)
-/
namespace Go.Proofs.YtnoknecfdnjomaaGreat
open Go.RowKit

set_option maxHeartbeats 2000000 in
theorem clone_ints (a : Option Addr) (n c : Nat) (L : List Int) (w : World) (hr : IntsAt w a L) (hn : L.length = n) (ho : SlOK a n c) (hm : n ≤ 1000000) :
  Calls Tryz.prog 77 #[.slice a n c] w fun e w' => ∃ v', e = .returned v' ∧ Own w' w.heap.size 3 v' (L.map (Value.int .i64)) ∧ Kp (fun _ => False) w w' := by
 cases a with
 |none =>
  have hL : L = [] := by
   have h1 := ho.le
   have h2 := ho.nil rfl
   exact List.eq_nil_of_length_eq_zero (by omega)
  subst hL
  have q22 := fun (w : World) (a : Option Addr) (n c n' c' : Nat) => Lib.run_eql_slice_nil (P := Tryz.prog) w 22 3 a n c n' c' Tryz.underlying22
  clear hr ho hn hm
  go_enter Tryz.func77, Tryz.ntmps77
  go_wp2
  go_ret
  exact ⟨_, rfl, Own.nil _ _ _, Kp.refl _ _⟩
 |some ad =>
  have HR := Lib.hid hr
  have HN := Lib.hid hn
  have hI : (Tryz.prog.info? 3).map (fun i => (i.zero, i.size, i.bytes)) = some (some (.int .i64 0), 1, 8) := by kernel_rfl
  have HI := Lib.hid hI
  have q22 := fun (w : World) (a : Option Addr) (n c n' c' : Nat) => Lib.run_eql_slice_nil (P := Tryz.prog) w 22 3 a n c n' c' Tryz.underlying22
  have HO := Lib.hid (show Own (w.alloc (.cells #[] 3)) w.heap.size 3 (.slice (some ⟨w.heap.size, 0, none⟩) 0 0) [] from Own.lit (cs := []) (Blk.new w #[] 3) (Nat.le_refl _) (Nat.zero_le _))
  have HM := Lib.hid hm
  clear hr hn ho hI hm
  go_enter Tryz.func77, Tryz.ntmps77
  go_wp2_with (at_builtin; refine wpList_appendAll rfl _ _ 22 3 rfl Tryz.underlying22 HI.out rfl HO.out rfl (some ad) n c (L.map (Value.int .i64)) rfl (by rw [List.length_map]; exact HN.out) (HR.out.kp ((Kp.refl (fun _ => False) w).alloc _) (fun _ _ h => h)) (fun h => by cases h) (fun u hu => by obtain ⟨x, _, rfl⟩ := List.mem_map.1 hu; rfl) (by have := HM.out; simp; omega) (by have := HM.out; unfold maxLen; simp; omega) (by simp) ?_)
  intro v' w1 hown hgrow
  go_wp2
  go_ret
  exact ⟨v', rfl, by simpa using hown, ((Kp.refl (fun _ => False) w).alloc _).grown hgrow (fun j hj hlt => by simp [Value.ownBlock] at hj; omega)⟩

set_option maxHeartbeats 2000000 in
theorem clone_lats (a : Option Addr) (n c : Nat) (rows : List (List Value)) (w : World) (hr : RowAt w a rows.flatten) (hn : rows.length = n) (hl : ∀ r ∈ rows, r.length = 3) (h1 : ∀ r ∈ rows, ∀ u ∈ r, u.oneCell' = true) (ho : SlOK a n c) (hm : n ≤ 1000000) :
  Calls Tryz.prog 78 #[.slice a n c] w fun e w' => ∃ v', e = .returned v' ∧ OwnK w' w.heap.size 64 3 v' rows ∧ Kp (fun _ => False) w w' := by
 cases a with
 |none =>
  have hL : rows = [] := by
   have h1 := ho.le
   have h2 := ho.nil rfl
   exact List.eq_nil_of_length_eq_zero (by omega)
  subst hL
  have q22 := fun (w : World) (a : Option Addr) (n c n' c' : Nat) => Lib.run_eql_slice_nil (P := Tryz.prog) w 23 64 a n c n' c' Tryz.underlying23
  clear hr ho hn hm hl h1
  go_enter Tryz.func78, Tryz.ntmps78
  go_wp2
  go_ret
  exact ⟨_, rfl, OwnK.nil _ _ _ _, Kp.refl _ _⟩
 |some ad =>
  have HR := Lib.hid hr
  have HN := Lib.hid (And.intro hn (And.intro hl h1))
  have hI : (Tryz.prog.info? 64).map (fun i => (i.zero, i.size, i.bytes)) = some (some (.agg #[.int .i64 0, .int .i64 0, .int .i64 0]), 3, 24) := by kernel_rfl
  have HI := Lib.hid hI
  have q22 := fun (w : World) (a : Option Addr) (n c n' c' : Nat) => Lib.run_eql_slice_nil (P := Tryz.prog) w 23 64 a n c n' c' Tryz.underlying23
  have HO := Lib.hid (show OwnK (w.alloc (.cells #[] 64)) w.heap.size 64 3 (.slice (some ⟨w.heap.size, 0, none⟩) 0 0) [] from OwnK.lit (rows := []) (Blk.new w #[] 64) (Nat.le_refl _) (fun r h => by cases h) (Nat.zero_le _))
  have HM := Lib.hid hm
  clear hr hn ho hI hm hl h1
  go_enter Tryz.func78, Tryz.ntmps78
  go_wp2_with (at_builtin; refine wpList_appendNewsK rfl _ _ 23 64 rfl Tryz.underlying23 HI.out rfl (by decide) HO.out rfl (some ad) n c rows rfl HN.out.1 (HR.out.kp ((Kp.refl (fun _ => False) w).alloc _) (fun _ _ h => h)) (fun h => by cases h) HN.out.2.1 HN.out.2.2 (by have := HM.out; simp; omega) (by have := HM.out; unfold maxLen; simp; omega) (by simp) ?_)
  intro v' w1 hown hgrow
  go_wp2
  go_ret
  exact ⟨v', rfl, by simpa using hown, ((Kp.refl (fun _ => False) w).alloc _).grown hgrow (fun j hj hlt => by simp [Value.ownBlock] at hj; omega)⟩

set_option maxHeartbeats 2000000 in
theorem clone_gates (a : Option Addr) (n c : Nat) (rows : List (List Value)) (w : World) (hr : RowAt w a rows.flatten) (hn : rows.length = n) (hl : ∀ r ∈ rows, r.length = 3) (h1 : ∀ r ∈ rows, ∀ u ∈ r, u.oneCell' = true) (ho : SlOK a n c) (hm : n ≤ 1000000) :
  Calls Tryz.prog 79 #[.slice a n c] w fun e w' => ∃ v', e = .returned v' ∧ OwnK w' w.heap.size 95 3 v' rows ∧ Kp (fun _ => False) w w' := by
 cases a with
 |none =>
  have hL : rows = [] := by
   have h1 := ho.le
   have h2 := ho.nil rfl
   exact List.eq_nil_of_length_eq_zero (by omega)
  subst hL
  have q22 := fun (w : World) (a : Option Addr) (n c n' c' : Nat) => Lib.run_eql_slice_nil (P := Tryz.prog) w 24 95 a n c n' c' Tryz.underlying24
  clear hr ho hn hm hl h1
  go_enter Tryz.func79, Tryz.ntmps79
  go_wp2
  go_ret
  exact ⟨_, rfl, OwnK.nil _ _ _ _, Kp.refl _ _⟩
 |some ad =>
  have HR := Lib.hid hr
  have HN := Lib.hid (And.intro hn (And.intro hl h1))
  have hI : (Tryz.prog.info? 95).map (fun i => (i.zero, i.size, i.bytes)) = some (some (.agg #[.int .i64 0, .int .i64 0, .int .i64 0]), 3, 24) := by kernel_rfl
  have HI := Lib.hid hI
  have q22 := fun (w : World) (a : Option Addr) (n c n' c' : Nat) => Lib.run_eql_slice_nil (P := Tryz.prog) w 24 95 a n c n' c' Tryz.underlying24
  have HO := Lib.hid (show OwnK (w.alloc (.cells #[] 95)) w.heap.size 95 3 (.slice (some ⟨w.heap.size, 0, none⟩) 0 0) [] from OwnK.lit (rows := []) (Blk.new w #[] 95) (Nat.le_refl _) (fun r h => by cases h) (Nat.zero_le _))
  have HM := Lib.hid hm
  clear hr hn ho hI hm hl h1
  go_enter Tryz.func79, Tryz.ntmps79
  go_wp2_with (at_builtin; refine wpList_appendNewsK rfl _ _ 24 95 rfl Tryz.underlying24 HI.out rfl (by decide) HO.out rfl (some ad) n c rows rfl HN.out.1 (HR.out.kp ((Kp.refl (fun _ => False) w).alloc _) (fun _ _ h => h)) (fun h => by cases h) HN.out.2.1 HN.out.2.2 (by have := HM.out; simp; omega) (by have := HM.out; unfold maxLen; simp; omega) (by simp) ?_)
  intro v' w1 hown hgrow
  go_wp2
  go_ret
  exact ⟨v', rfl, by simpa using hown, ((Kp.refl (fun _ => False) w).alloc _).grown hgrow (fun j hj hlt => by simp [Value.ownBlock] at hj; omega)⟩

set_option maxHeartbeats 2000000 in
theorem clone_syms (a : Option Addr) (n c : Nat) (rows : List (List Value)) (w : World) (hr : RowAt w a rows.flatten) (hn : rows.length = n) (hl : ∀ r ∈ rows, r.length = 3) (h1 : ∀ r ∈ rows, ∀ u ∈ r, u.oneCell' = true) (ho : SlOK a n c) (hm : n ≤ 1000000) :
  Calls Tryz.prog 80 #[.slice a n c] w fun e w' => ∃ v', e = .returned v' ∧ OwnK w' w.heap.size 113 3 v' rows ∧ Kp (fun _ => False) w w' := by
 cases a with
 |none =>
  have hL : rows = [] := by
   have h1 := ho.le
   have h2 := ho.nil rfl
   exact List.eq_nil_of_length_eq_zero (by omega)
  subst hL
  have q22 := fun (w : World) (a : Option Addr) (n c n' c' : Nat) => Lib.run_eql_slice_nil (P := Tryz.prog) w 25 113 a n c n' c' Tryz.underlying25
  clear hr ho hn hm hl h1
  go_enter Tryz.func80, Tryz.ntmps80
  go_wp2
  go_ret
  exact ⟨_, rfl, OwnK.nil _ _ _ _, Kp.refl _ _⟩
 |some ad =>
  have HR := Lib.hid hr
  have HN := Lib.hid (And.intro hn (And.intro hl h1))
  have hI : (Tryz.prog.info? 113).map (fun i => (i.zero, i.size, i.bytes)) = some (some (.agg #[.int .u8 0, .int .i64 0, .string ⟨#[]⟩]), 3, 32) := by kernel_rfl
  have HI := Lib.hid hI
  have q22 := fun (w : World) (a : Option Addr) (n c n' c' : Nat) => Lib.run_eql_slice_nil (P := Tryz.prog) w 25 113 a n c n' c' Tryz.underlying25
  have HO := Lib.hid (show OwnK (w.alloc (.cells #[] 113)) w.heap.size 113 3 (.slice (some ⟨w.heap.size, 0, none⟩) 0 0) [] from OwnK.lit (rows := []) (Blk.new w #[] 113) (Nat.le_refl _) (fun r h => by cases h) (Nat.zero_le _))
  have HM := Lib.hid hm
  clear hr hn ho hI hm hl h1
  go_enter Tryz.func80, Tryz.ntmps80
  go_wp2_with (at_builtin; refine wpList_appendNewsK rfl _ _ 25 113 rfl Tryz.underlying25 HI.out rfl (by decide) HO.out rfl (some ad) n c rows rfl HN.out.1 (HR.out.kp ((Kp.refl (fun _ => False) w).alloc _) (fun _ _ h => h)) (fun h => by cases h) HN.out.2.1 HN.out.2.2 (by have := HM.out; simp; omega) (by have := HM.out; unfold maxLen; simp; omega) (by simp) ?_)
  intro v' w1 hown hgrow
  go_wp2
  go_ret
  exact ⟨v', rfl, by simpa using hown, ((Kp.refl (fun _ => False) w).alloc _).grown hgrow (fun j hj hlt => by simp [Value.ownBlock] at hj; omega)⟩

end Go.Proofs.YtnoknecfdnjomaaGreat

/-
  circ.defined: the literals that are something's.
-/
namespace Go.Proofs.YtnoknecfdnjomaaGreat
open Go.RowKit

theorem take_g3 {L : List (Int × Int × Int)} {k : Nat} (h : k < L.length) : L.take (k + 1) = L.take k ++ [g3 L k] := by
 rw [List.take_succ_eq_append_getElem h]
 unfold g3
 rw [List.getElem?_eq_getElem h]
 rfl

theorem take_gi {L : List Int} {k : Nat} (h : k < L.length) : L.take (k + 1) = L.take k ++ [gi L k] := by
 rw [List.take_succ_eq_append_getElem h]
 unfold gi
 rw [List.getElem?_eq_getElem h]
 rfl

def iv (l : List Int) : List Value := l.map (Value.int .i64)
theorem iv_append (a b : List Int) : iv (a ++ b) = iv a ++ iv b := List.map_append
theorem iv_length (a : List Int) : (iv a).length = a.length := List.length_map ..

set_option maxRecDepth 100000 in
set_option maxHeartbeats 4000000 in
theorem circ_defined (V : CV) (C : Circ) (w : World) (h : CAt w V C) (hf : CFew C 1000000) :
  Calls Tryz.prog 72 #[.agg (cvals V C)] w fun e w' => ∃ v, e = .returned v ∧ Own w' w.heap.size 3 v (iv C.owned) ∧ Kp (fun _ => False) w w' := by
 obtain ⟨m, l63⟩ : ∃ m, m = C.lats.length := ⟨_, rfl⟩
 have hl := h.fl.le63
 have hg := h.fg.le63
 have HA := Lib.hid h
 have HF := Lib.hid hf
 have HI := Lib.hid (show (Tryz.prog.info? 3).map (fun i => (i.zero, i.size, i.bytes)) = some (some (.int .i64 0), 1, 8) by kernel_rfl)
 obtain ⟨wz, hwz⟩ : ∃ wz : World, wz = w.alloc (.cells (cvals V C) 27) := ⟨_, rfl⟩
 have HK0 : Hid (Kp (fun _ => False) w wz) := Lib.hid (by rw [hwz]; exact (Kp.refl _ w).alloc _)
 have HC0 : Hid (Blk wz w.heap.size (cvals V C) 27) := Lib.hid (by rw [hwz]; exact Blk.new w _ _)
 have HZ := Lib.hid hwz
 have hsz : w.heap.size < wz.heap.size := by rw [hwz]; simp
 have HSZ := Lib.hid hsz
 clear h hf hwz hsz l63 m
 have HCl := Lib.hid (fun u (hu : Kp (fun _ => False) w u) => clone_ints V.ai C.ins.length V.ci C.ins u ((HA.out.kp hu).i) rfl HA.out.fi HF.out.i)
 go_enter Tryz.func72, Tryz.ntmps72
 go_upto_region 1 with fail
 rw [← HZ.out]
 have c1 := HC0.out.cell (i := 1) (v := .slice V.ai C.ins.length V.ci) rfl
 go_wp2_with fail
 refine (HCl.out _ HK0.out).mono ?_
 rintro e w1 ⟨v1, rfl, hO1, hK1⟩
 have HO1 := Lib.hid (hO1.mono (b' := w.heap.size) (by have := HSZ.out; omega))
 have HC1 := Lib.hid (HC0.out.kp hK1 (fun h => h))
 have HK1 := Lib.hid (HK0.out.trans hK1 (fun _ _ h => h))
 have HB1 := Lib.hid (show ∀ j, v1.ownBlock = some j → w.heap.size < j from fun j hj => by have := (hO1.lt j hj).1; have := HSZ.out; omega)
 clear hO1 hK1 c1 HC0 HK0 HCl
 have c2 := HC1.out.cell (i := 2) (v := .slice V.al C.lats.length V.cl) rfl
 go_wp2_with fail
 go_loopw [3, 14] (fun v3 v14 wr => ∃ k : Nat, v14 = .int .i64 k ∧ k ≤ C.lats.length ∧ Own wr w.heap.size 3 v3 (iv (C.ins ++ (C.lats.take k).map (fun x => x.1))) ∧ (∀ j, v3.ownBlock = some j → w.heap.size < j) ∧ Blk wr w.heap.size (cvals V C) 27 ∧ Kp (fun _ => False) w wr) (fun _ v14 _ => C.lats.length - (intOf v14).toNat)
 case atStart => exact ⟨0, rfl, by omega, by simpa [iv] using HO1.out, HB1.out, HC1.out, HK1.out⟩
 case round =>
  obtain ⟨k, rfl, hk, hO, hB, hC, hK⟩ := hrel
  clear c2 HO1 HB1 HC1 HK1
  obtain ⟨wp, rfl⟩ : ∃ wp : World, wp = wr := ⟨_, rfl⟩
  have HO := Lib.hid hO
  have HB := Lib.hid hB
  have HC := Lib.hid hC
  have HK := Lib.hid hK
  have HSw := Lib.hid (show w.heap.size < wp.heap.size from hC.lt)
  clear hO hB hC hK
  by_cases hlt : k < C.lats.length
  ·obtain ⟨b, off, ea, e0, e1, e2⟩ := tri_cells (HA.out.kp HK.out).l hlt
   have i0 : (0 : Int) ≤ (k : Int) := by omega
   have i1 : decide ((k : Int) < (C.lats.length : Int)) = true := decide_eq_true (by omega)
   obtain ⟨x0, hx0⟩ : ∃ x, (g3 C.lats k).1 = x := ⟨_, rfl⟩
   obtain ⟨x1, hx1⟩ : ∃ x, (g3 C.lats k).2.1 = x := ⟨_, rfl⟩
   obtain ⟨x2, hx2⟩ : ∃ x, (g3 C.lats k).2.2 = x := ⟨_, rfl⟩
   have HT := Lib.hid (take_g3 hlt)
   rw [hx0] at e0
   rw [hx1] at e1
   rw [hx2] at e2
   have HX := Lib.hid hx0
   have HEA := Lib.hid ea
   have i2 : (k : Int) < (C.lats.length : Int) := by omega
   clear hx0 hx1 hx2 ea
   have HNew := Lib.hid (two_blk wp #[.int .i64 x0, .int .i64 x1, .int .i64 x2] #[.int .i64 x0] 64 3)
   have HOw := Lib.hid ((HO.out.alloc (.cells #[.int .i64 x0, .int .i64 x1, .int .i64 x2] 64)).alloc (.cells #[.int .i64 x0] 3))
   rw [HEA.out]
   go_wp2_with (at_builtin; refine wpList_append1_at rfl _ _ 22 3 rfl Tryz.underlying22 HI.out rfl HOw.out rfl ⟨wp.heap.size + 1, 0, none⟩ (.int .i64 x0) rfl (HNew.out.cell rfl) rfl ?c1 ?c2 ?c3 ?_)
   case c1 => rw [iv_length]; have := HF.out.i; have := HF.out.l; simp; omega
   case c2 => rw [iv_length]; have := HF.out.i; have := HF.out.l; unfold maxLen; simp; omega
   case c3 => have := HSw.out; simp; omega
   intro v' w2 hO2 hg2 hat2
   have hrel : ∃ k' : Nat, Value.int .i64 ((k : Int) + 1) = .int .i64 k' ∧ k' ≤ C.lats.length ∧ Own w2 w.heap.size 3 v' (iv (C.ins ++ (C.lats.take k').map (fun x => x.1))) ∧ (∀ j, v'.ownBlock = some j → w.heap.size < j) ∧ Blk w2 w.heap.size (cvals V C) 27 ∧ Kp (fun _ => False) w w2 := by
    refine ⟨k + 1, by go_num, by omega, ?_, ?_, ?_, ?_⟩
    ·rw [HT.out, List.map_append, ← List.append_assoc, iv_append]
     have : iv ([g3 C.lats k].map (fun x => x.1)) = [.int .i64 x0] := by simp [iv, HX.out]
     rw [this]
     simpa using hO2
    ·intro j hj
     rcases hat2 with e | e
     ·exact HB.out j (e ▸ hj)
     ·rw [e] at hj
      have := HSw.out
      simp at hj
      omega
    ·exact ((HC.out.alloc _).alloc _).kp ((Kp.refl (fun j => u3.ownBlock = some j) _).grown hg2 (fun j hj _ => hj)) (fun e => by have := HB.out _ e; omega)
    ·exact ((HK.out.alloc _).alloc _).grown hg2 (fun j hj hlt => by have := HB.out j hj; omega)
   have HR := Lib.hid hrel
   clear hrel hO2 hg2 hat2 HOw HNew HT
   go_wp2_with fail
   go_roundw
   case rel => exact HR.out
   case measure => simp [intOf]; omega
  ·have i1 : decide ((k : Int) < (C.lats.length : Int)) = false := decide_eq_false (by omega)
   have hk' : k = C.lats.length := by omega
   have HO' : Hid (Own wp w.heap.size 3 u3 (iv (C.ins ++ C.lats.map (fun x => x.1)))) := Lib.hid (by have := HO.out; rwa [hk', List.take_length] at this)
   have c6 := HC.out.cell (i := 6) (v := .slice V.ag C.gates.length V.cg) rfl
   clear HO hk hk'
   go_wp2_with fail
   go_loopw [3, 27] (fun v3 v27 wr => ∃ k : Nat, v27 = .int .i64 k ∧ k ≤ C.gates.length ∧ Own wr w.heap.size 3 v3 (iv (C.ins ++ C.lats.map (fun x => x.1) ++ (C.gates.take k).map (fun x => x.1))) ∧ (∀ j, v3.ownBlock = some j → w.heap.size < j) ∧ Kp (fun _ => False) w wr) (fun _ v27 _ => C.gates.length - (intOf v27).toNat)
   case atStart => exact ⟨0, rfl, by omega, by simpa [iv] using HO'.out, HB.out, HK.out⟩
   case round =>
    obtain ⟨k, rfl, hk, hO, hB, hK⟩ := hrel
    clear c6 HO' HB HC HK i1 hlt
    obtain ⟨wq, rfl⟩ : ∃ wp : World, wp = wr := ⟨_, rfl⟩
    have HO := Lib.hid hO
    have HB := Lib.hid hB
    have HK := Lib.hid hK
    have HSw := Lib.hid (show w.heap.size ≤ wq.heap.size from hK.size)
    clear hO hB hK
    by_cases hlt : k < C.gates.length
    ·obtain ⟨b, off, ea, e0, e1, e2⟩ := tri_cells (HA.out.kp HK.out).g hlt
     have i0 : (0 : Int) ≤ (k : Int) := by omega
     have i1 : decide ((k : Int) < (C.gates.length : Int)) = true := decide_eq_true (by omega)
     obtain ⟨x0, hx0⟩ : ∃ x, (g3 C.gates k).1 = x := ⟨_, rfl⟩
     obtain ⟨x1, hx1⟩ : ∃ x, (g3 C.gates k).2.1 = x := ⟨_, rfl⟩
     obtain ⟨x2, hx2⟩ : ∃ x, (g3 C.gates k).2.2 = x := ⟨_, rfl⟩
     have HT := Lib.hid (take_g3 hlt)
     rw [hx0] at e0
     rw [hx1] at e1
     rw [hx2] at e2
     have HX := Lib.hid hx0
     have HEA := Lib.hid ea
     have i2 : (k : Int) < (C.gates.length : Int) := by omega
     clear hx0 hx1 hx2 ea
     have HNew := Lib.hid (two_blk wq #[.int .i64 x0, .int .i64 x1, .int .i64 x2] #[.int .i64 x0] 95 3)
     have HOw := Lib.hid ((HO.out.alloc (.cells #[.int .i64 x0, .int .i64 x1, .int .i64 x2] 95)).alloc (.cells #[.int .i64 x0] 3))
     rw [HEA.out]
     go_wp2_with (at_builtin; refine wpList_append1_at rfl _ _ 22 3 rfl Tryz.underlying22 HI.out rfl HOw.out rfl ⟨wq.heap.size + 1, 0, none⟩ (.int .i64 x0) rfl (HNew.out.cell rfl) rfl ?d1 ?d2 ?d3 ?_)
     case d1 => rw [iv_length]; have := HF.out.i; have := HF.out.l; have := HF.out.g; simp; omega
     case d2 => rw [iv_length]; have := HF.out.i; have := HF.out.l; have := HF.out.g; unfold maxLen; simp; omega
     case d3 => have := HSw.out; simp; omega
     intro v' w2 hO2 hg2 hat2
     have hrel : ∃ k' : Nat, Value.int .i64 ((k : Int) + 1) = .int .i64 k' ∧ k' ≤ C.gates.length ∧ Own w2 w.heap.size 3 v' (iv (C.ins ++ C.lats.map (fun x => x.1) ++ (C.gates.take k').map (fun x => x.1))) ∧ (∀ j, v'.ownBlock = some j → w.heap.size < j) ∧ Kp (fun _ => False) w w2 := by
      refine ⟨k + 1, by go_num, by omega, ?_, ?_, ?_⟩
      ·rw [HT.out, List.map_append, ← List.append_assoc, iv_append]
       have : iv ([g3 C.gates k].map (fun x => x.1)) = [.int .i64 x0] := by simp [iv, HX.out]
       rw [this]
       simpa using hO2
      ·intro j hj
       rcases hat2 with e | e
       ·exact HB.out j (e ▸ hj)
       ·rw [e] at hj
        have := HSw.out
        simp at hj
        omega
      ·exact ((HK.out.alloc _).alloc _).grown hg2 (fun j hj hlt => by have := HB.out j hj; omega)
     have HR := Lib.hid hrel
     clear hrel hO2 hg2 hat2 HOw HNew HT
     go_wp2_with fail
     go_roundw
     case rel => exact HR.out
     case measure => simp [intOf]; omega
    ·have i1 : decide ((k : Int) < (C.gates.length : Int)) = false := decide_eq_false (by omega)
     have hk' : k = C.gates.length := by omega
     have HO' : Hid (Own wq w.heap.size 3 u3 (iv C.owned)) := Lib.hid (by have := HO.out; rwa [hk', List.take_length] at this)
     clear hk' hk HO
     go_wp2_with fail
     go_ret
     exact ⟨_, rfl, HO'.out, HK.out⟩

end Go.Proofs.YtnoknecfdnjomaaGreat

/-
  A good circuit's net, and what its variables are, plainly.
-/
namespace Go.Proofs.YtnoknecfdnjomaaGreat

abbrev NS := List (Int × Int) × List Int

def putN (s : NS) (l : Int) (x : Int × Int) : NS := (s.1 ++ [x], s.2.set (l / 2).toNat (2 * ((s.1.length : Int) + 1)))
def net0 (m : Int) : NS := ([], 0 :: List.replicate m.toNat (-1))
def inN (s : NS) (l : Int) : NS := putN s l (-1, 0)
def ofN (at_ : List Int) (l : Int) : Int := if l % 2 = 1 then gi at_ (l / 2).toNat + 1 - 2 * (gi at_ (l / 2).toNat % 2) else gi at_ (l / 2).toNat
def gateN (G : List (Int × Int × Int)) (s : NS) (i : Nat) : NS := putN s (g3 G i).1 (ofN s.2 (g3 G i).2.1, ofN s.2 (g3 G i).2.2)
def netI (C : Circ) (k : Nat) : NS := (C.ins.take k).foldl inN (net0 C.max)
def netL (C : Circ) (k : Nat) : NS := ((C.lats.take k).map (fun x => x.1)).foldl inN (netI C C.ins.length)
def netG (C : Circ) (k : Nat) : NS := ((ordO C.gates).take k).foldl (gateN C.gates) (netL C C.lats.length)
def netOf (C : Circ) : NS := netG C (ordO C.gates).length

theorem netI_succ {C : Circ} {k : Nat} (h : k < C.ins.length) : netI C (k + 1) = inN (netI C k) (gi C.ins k) := by
 unfold netI; rw [take_gi h, List.foldl_append]; rfl
theorem netL_succ {C : Circ} {k : Nat} (h : k < C.lats.length) : netL C (k + 1) = inN (netL C k) (g3 C.lats k).1 := by
 unfold netL; rw [take_g3 h, List.map_append, List.foldl_append]; rfl
theorem netL_zero (C : Circ) : netL C 0 = netI C C.ins.length := by simp [netL]
theorem netG_zero (C : Circ) : netG C 0 = netL C C.lats.length := by simp [netG]
def gno (l : List Nat) (k : Nat) : Nat := l[k]?.getD 0
theorem take_gno {l : List Nat} {q : Nat} (h : q < l.length) : l.take (q + 1) = l.take q ++ [gno l q] := by
 rw [List.take_succ_eq_append_getElem h]
 unfold gno
 rw [List.getElem?_eq_getElem h]
 rfl
theorem netG_succ {C : Circ} {k : Nat} (h : k < (ordO C.gates).length) : netG C (k + 1) = gateN C.gates (netG C k) (gno (ordO C.gates) k) := by
 unfold netG; rw [take_gno h, List.foldl_append]; rfl

structure NInv (m : Nat) (s : NS) (D : Nat → Prop) : Prop where
  size : s.2.length = m + 1
  zero : gi s.2 0 = 0
  val : ∀ v, v ≤ m → gi s.2 v = -1 ∨ (0 ≤ gi s.2 v ∧ gi s.2 v % 2 = 0 ∧ gi s.2 v ≤ 2 * (s.1.length : Int))
  put : ∀ v, v ≤ m → D v → 0 ≤ gi s.2 v
  node : ∀ (j : Nat) (x : Int × Int), s.1[j]? = some x → x.1 < 0 ∨ (0 ≤ x.1 ∧ x.1 ≤ 2 * (j : Int) + 1 ∧ 0 ≤ x.2 ∧ x.2 ≤ 2 * (j : Int) + 1)

theorem gi_set {l : List Int} {i : Nat} {x : Int} (h : i < l.length) (k : Nat) : gi (l.set i x) k = if k = i then x else gi l k := by
 unfold gi
 rw [List.getElem?_set]
 by_cases e : i = k
 ·subst e; simp [h]
 ·rw [if_neg e, if_neg (fun h => e h.symm)]

theorem NInv.start (m : Nat) : NInv m (net0 (m : Int)) (fun v => v = 0) := by
 have hr : ∀ v, v ≤ m → gi (net0 (m : Int)).2 v = if v = 0 then 0 else -1 := fun v hv => by
  show gi (0 :: List.replicate (m : Int).toNat (-1)) v = _
  cases v with
  |zero => rfl
  |succ v =>
   unfold gi
   simp
   rw [List.getElem?_replicate, if_pos (by omega)]; rfl
 refine ⟨by simp [net0], by rw [hr 0 (by omega)]; rfl, fun v hv => ?_, fun v hv hd => ?_, fun j x hx => by simp [net0] at hx⟩
 ·rw [hr v hv]
  by_cases e : v = 0
  ·right; simp [e, net0]
  ·left; simp [e]
 ·rw [hr v hv]; simp [hd]

theorem NInv.step {m : Nat} {s : NS} {D : Nat → Prop} (h : NInv m s D) {l : Int} {x : Int × Int} (l0 : 2 ≤ l) (l1 : l ≤ 2 * (m : Int) + 1) (hx : x.1 < 0 ∨ (0 ≤ x.1 ∧ x.1 ≤ 2 * (s.1.length : Int) + 1 ∧ 0 ≤ x.2 ∧ x.2 ≤ 2 * (s.1.length : Int) + 1)) :
  NInv m (putN s l x) (fun v => D v ∨ v = (l / 2).toNat) := by
 have hv : (l / 2).toNat < s.2.length := by rw [h.size]; omega
 have hg := gi_set (x := 2 * ((s.1.length : Int) + 1)) hv
 refine ⟨by unfold putN; simp [h.size], ?_, fun v hv2 => ?_, fun v hv2 hd => ?_, fun j y hy => ?_⟩
 ·show gi (s.2.set _ _) 0 = 0
  rw [hg 0, if_neg (by omega)]; exact h.zero
 ·show gi (s.2.set _ _) v = -1 ∨ _
  have hlen : ((putN s l x).1.length : Int) = (s.1.length : Int) + 1 := by unfold putN; simp
  rw [hlen]
  show gi (s.2.set _ _) v = -1 ∨ (0 ≤ gi (s.2.set _ _) v ∧ gi (s.2.set _ _) v % 2 = 0 ∧ gi (s.2.set _ _) v ≤ _)
  rw [hg v]
  by_cases e : v = (l / 2).toNat
  ·rw [if_pos e]; right; omega
  ·rw [if_neg e]
   rcases h.val v hv2 with h1 | h1
   ·exact .inl h1
   ·right; omega
 ·show 0 ≤ gi (s.2.set _ _) v
  rw [hg v]
  by_cases e : v = (l / 2).toNat
  ·rw [if_pos e]; omega
  ·rw [if_neg e]
   exact h.put v hv2 (hd.resolve_right e)
 ·have hy' : (s.1 ++ [x])[j]? = some y := hy
  by_cases hj : j < s.1.length
  ·rw [List.getElem?_append_left hj] at hy'
   exact h.node j y hy'
  ·rw [List.getElem?_append_right (by omega)] at hy'
   have hj2 : j - s.1.length = 0 := by
    have := (List.getElem?_eq_some_iff.1 hy').1
    simp at this; omega
   rw [hj2] at hy'
   simp at hy'
   subst hy'
   have : j = s.1.length := by
    have := (List.getElem?_eq_some_iff.1 hy).1
    unfold putN at this
    simp at this
    omega
   rw [this]; exact hx

theorem NInv.mono {m : Nat} {s : NS} {D D' : Nat → Prop} (h : NInv m s D) (hd : ∀ v, v ≤ m → D' v → D v) : NInv m s D' :=
 ⟨h.size, h.zero, h.val, fun v hv hd' => h.put v hv (hd v hv hd'), h.node⟩

theorem ofL_ok {m : Nat} {s : NS} {D : Nat → Prop} (h : NInv m s D) {l : Int} (l0 : 0 ≤ l) (l1 : l ≤ 2 * (m : Int) + 1) (hd : D (l / 2).toNat) :
  0 ≤ gi s.2 (l / 2).toNat ∧ gi s.2 (l / 2).toNat % 2 = 0 ∧ ofN s.2 l = gi s.2 (l / 2).toNat + l % 2 ∧ 0 ≤ ofN s.2 l ∧ ofN s.2 l ≤ 2 * (s.1.length : Int) + 1 := by
 have h1 := h.put (l / 2).toNat (by omega) hd
 rcases h.val (l / 2).toNat (by omega) with h2 | h2
 ·omega
 ·unfold ofN
  split <;> omega

structure GoodC (C : Circ) : Prop where
  rng : InRange C
  nd : C.owned.Nodup
  known : ∀ l, l ∈ C.used → knownB C.owned l = true
  ord : (ordO C.gates).length = C.gates.length

theorem GoodC.of {C : Circ} (h : ckCode C = 0) : GoodC C := by
 unfold ckCode at h
 by_cases h1 : C.max < 0 ∨ 16777216 < C.max
 ·rw [if_pos h1] at h; cases h
 ·rw [if_neg h1] at h
  by_cases h2 : rangeB C = false
  ·rw [if_pos h2] at h; cases h
  ·rw [if_neg h2] at h
   by_cases h3 : ¬ C.owned.Nodup
   ·rw [if_pos h3] at h; cases h
   ·rw [if_neg h3] at h
    by_cases h4 : C.used.all (knownB C.owned) = false
    ·rw [if_pos h4] at h; cases h
    ·rw [if_neg h4] at h
     by_cases h5 : (ordO C.gates).length < C.gates.length
     ·rw [if_pos h5] at h; cases h
     ·have h6 := (ordO_at C.gates).len
      refine ⟨InRange.of (by omega) (by omega) (by simpa using h2), by simpa using h3, ?_, by omega⟩
      have : C.used.all (knownB C.owned) = true := by simpa using h4
      exact List.all_eq_true.1 this

theorem GoodC.code {C : Circ} (h : GoodC C) : ckCode C = 0 := by
 unfold ckCode
 rw [if_neg (by have := h.rng.max0; have := h.rng.max1; omega), if_neg, if_neg (by simp; exact h.nd), if_neg, if_neg (by rw [h.ord]; omega)]
 ·have : C.used.all (knownB C.owned) = true := List.all_eq_true.2 h.known
  simp [this]
 ·have : rangeB C = true := by
   unfold rangeB
   simp only [Bool.and_eq_true, List.all_eq_true]
   exact ⟨⟨fun l hl => ownB_iff.2 (h.rng.own l hl), fun x hx => resB_iff.2 (h.rng.res x hx)⟩, fun l hl => useB_iff.2 (h.rng.use l hl)⟩
  simp [this]

def MX (C : Circ) : Nat := C.max.toNat
theorem GoodC.mx {C : Circ} (h : GoodC C) : (MX C : Int) = C.max := by unfold MX; have := h.rng.max0; omega

theorem netI_inv {C : Circ} (h : GoodC C) : ∀ k, k ≤ C.ins.length → NInv (MX C) (netI C k) (fun v => v = 0 ∨ ∃ l, l ∈ C.ins.take k ∧ v = (l / 2).toNat)
 |0, _ => by
  have := NInv.start (MX C)
  rw [h.mx] at this
  exact this.mono (fun v _ hd => by simpa using hd)
 |k + 1, hk => by
  have ih := netI_inv h k (by omega)
  rw [netI_succ (by omega)]
  have hm : gi C.ins k ∈ C.owned := by
   unfold Circ.owned
   refine List.mem_append.2 (.inl (List.mem_append.2 (.inl ?_)))
   unfold gi; rw [List.getElem?_eq_getElem (by omega)]; exact List.getElem_mem _
  have hr := h.rng.own _ hm
  have hmx := h.mx
  refine (ih.step (l := gi C.ins k) (x := (-1, 0)) (by omega) (by omega) (.inl (by decide))).mono (fun v _ hd => ?_)
  rcases hd with hd | ⟨l, hl, e⟩
  ·exact .inl (.inl hd)
  ·rw [take_gi (by omega)] at hl
   rcases List.mem_append.1 hl with hl | hl
   ·exact .inl (.inr ⟨l, hl, e⟩)
   ·simp at hl; subst hl; exact .inr e

theorem netL_inv {C : Circ} (h : GoodC C) : ∀ k, k ≤ C.lats.length → NInv (MX C) (netL C k) (fun v => v = 0 ∨ (∃ l, l ∈ C.ins ∧ v = (l / 2).toNat) ∨ ∃ l, l ∈ (C.lats.take k).map (fun x => x.1) ∧ v = (l / 2).toNat)
 |0, _ => by
  rw [netL_zero]
  refine (netI_inv h C.ins.length (Nat.le_refl _)).mono (fun v _ hd => ?_)
  rw [List.take_length]
  rcases hd with hd | hd | ⟨l, hl, _⟩
  ·exact .inl hd
  ·exact .inr hd
  ·simp at hl
 |k + 1, hk => by
  have ih := netL_inv h k (by omega)
  rw [netL_succ (by omega)]
  have hm : (g3 C.lats k).1 ∈ C.owned := by
   unfold Circ.owned
   exact List.mem_append.2 (.inl (List.mem_append.2 (.inr (List.mem_map.2 ⟨_, g3_mem (by omega), rfl⟩))))
  have hr := h.rng.own _ hm
  have hmx := h.mx
  refine (ih.step (l := (g3 C.lats k).1) (x := (-1, 0)) (by omega) (by omega) (.inl (by decide))).mono (fun v _ hd => ?_)
  rcases hd with hd | hd | ⟨l, hl, e⟩
  ·exact .inl (.inl hd)
  ·exact .inl (.inr (.inl hd))
  ·rw [take_g3 (by omega), List.map_append] at hl
   rcases List.mem_append.1 hl with hl | hl
   ·exact .inl (.inr (.inr ⟨l, hl, e⟩))
   ·simp at hl; subst hl; exact .inr e

def DG (C : Circ) (k : Nat) (v : Nat) : Prop := v = 0 ∨ (∃ l, l ∈ C.ins ∧ v = (l / 2).toNat) ∨ (∃ l, l ∈ C.lats.map (fun x => x.1) ∧ v = (l / 2).toNat) ∨ ∃ i, i ∈ (ordO C.gates).take k ∧ v = ((g3 C.gates i).1 / 2).toNat

theorem ordFrom_take {G : List (Int × Int × Int)} : ∀ (f : Nat) {out : List Nat}, OrdAt G out → ∀ k, out.length ≤ k → k ≤ (ordFrom G f out).length → OrdAt G ((ordFrom G f out).take k) ∧ (k < (ordFrom G f out).length → nextO G ((ordFrom G f out).take k) = some (gno (ordFrom G f out) k))
 |0, out, h, k, h1, h2 => by
  unfold ordFrom at h2 ⊢
  have : k = out.length := by omega
  subst this
  rw [List.take_length]
  exact ⟨h, fun h3 => by omega⟩
 |f + 1, out, h, k, h1, h2 => by
  unfold ordFrom at h2 ⊢
  cases hn : nextO G out with
  |none =>
   rw [hn] at h2
   simp only at h2 ⊢
   have : k = out.length := by omega
   subst this
   rw [List.take_length]
   exact ⟨h, fun h3 => by omega⟩
  |some i =>
   rw [hn] at h2
   simp only at h2 ⊢
   have hst := h.step hn
   have hpre : ∀ (f : Nat) (o : List Nat), ∃ t, ordFrom G f o = o ++ t := by
    intro f
    induction f with
    |zero => intro o; exact ⟨[], by simp [ordFrom]⟩
    |succ f ih =>
     intro o
     unfold ordFrom
     cases nextO G o with
     |none => exact ⟨[], by simp⟩
     |some j =>
      obtain ⟨t, ht⟩ := ih (o ++ [j])
      exact ⟨j :: t, by simp [ht]⟩
   obtain ⟨t, ht⟩ := hpre f (out ++ [i])
   by_cases hk : k = out.length
   ·subst hk
    rw [ht, List.append_assoc, List.take_left']
    ·refine ⟨h, fun _ => ?_⟩
     rw [hn]
     unfold gno
     simp
    ·rfl
   ·exact ordFrom_take f hst k (by simp; omega) h2

theorem ordO_take {G : List (Int × Int × Int)} {k : Nat} (h : k ≤ (ordO G).length) : OrdAt G ((ordO G).take k) ∧ (k < (ordO G).length → nextO G ((ordO G).take k) = some (gno (ordO G) k)) :=
 ordFrom_take G.length (OrdAt.start G) k (Nat.zero_le _) h

theorem pin_placed {C : Circ} (h : GoodC C) {k : Nat} (hk : k < (ordO C.gates).length) {l : Int} (hl : l ∈ C.used) (hw : waitsB C.gates ((ordO C.gates).take k) l = false) : DG C k (l / 2).toNat := by
 have hr := h.rng.use l hl
 have hn := h.known l hl
 unfold knownB at hn
 simp only [Bool.or_eq_true, decide_eq_true_eq, List.any_eq_true] at hn
 rcases hn with e | ⟨y, hy, e⟩
 ·left; omega
 ·unfold Circ.owned at hy
  rcases List.mem_append.1 hy with hy | hy
  ·rcases List.mem_append.1 hy with hy | hy
   ·exact .inr (.inl ⟨y, hy, by rw [e]⟩)
   ·exact .inr (.inr (.inl ⟨y, hy, by rw [e]⟩))
  ·obtain ⟨g, hg, rfl⟩ := List.mem_map.1 hy
   obtain ⟨i, hi⟩ := List.mem_iff_getElem?.1 hg
   have hil : i < C.gates.length := (List.getElem?_eq_some_iff.1 hi).1
   have hgi : g3 C.gates i = g := by unfold g3; rw [hi]; rfl
   refine .inr (.inr (.inr ⟨i, ?_, by rw [hgi, e]⟩))
   refine Classical.byContradiction fun hm => ?_
   have : waitsB C.gates ((ordO C.gates).take k) l = true := waitsB_iff.2 ⟨i, hil, hm, by rw [hgi]; exact e⟩
   rw [hw] at this; cases this

theorem turn_ok {C : Circ} (h : GoodC C) {k : Nat} (hk : k < (ordO C.gates).length) :
  gno (ordO C.gates) k < C.gates.length ∧ DG C k ((g3 C.gates (gno (ordO C.gates) k)).2.1 / 2).toNat ∧ DG C k ((g3 C.gates (gno (ordO C.gates) k)).2.2 / 2).toNat := by
 obtain ⟨_, h2⟩ := ordO_take (G := C.gates) (k := k) (by omega)
 have hn := h2 hk
 obtain ⟨hi, hr⟩ := nextO_some hn
 unfold readyB at hr
 simp only [Bool.and_eq_true, Bool.not_eq_true'] at hr
 exact ⟨hi, pin_placed h hk (gate_useA hi) hr.1.2, pin_placed h hk (gate_useB hi) hr.2⟩

theorem netG_inv {C : Circ} (h : GoodC C) : ∀ k, k ≤ (ordO C.gates).length → NInv (MX C) (netG C k) (DG C k)
 |0, _ => by
  rw [netG_zero]
  refine (netL_inv h C.lats.length (Nat.le_refl _)).mono (fun v _ hd => ?_)
  rw [List.take_length]
  rcases hd with hd | hd | hd | ⟨i, hi, _⟩
  ·exact .inl hd
  ·exact .inr (.inl hd)
  ·exact .inr (.inr hd)
  ·simp at hi
 |k + 1, hk => by
  have ih := netG_inv h k (by omega)
  obtain ⟨hi, hA, hB⟩ := turn_ok h (k := k) (by omega)
  rw [netG_succ (by omega)]
  have hr := h.rng.own _ (gate_own hi)
  have hra := h.rng.use _ (gate_useA hi)
  have hrb := h.rng.use _ (gate_useB hi)
  have hmx := h.mx
  have qa := ofL_ok ih hra.1 (by omega) hA
  have qb := ofL_ok ih hrb.1 (by omega) hB
  refine (ih.step (l := (g3 C.gates (gno (ordO C.gates) k)).1) (by omega) (by omega) (.inr ⟨qa.2.2.2.1, qa.2.2.2.2, qb.2.2.2.1, qb.2.2.2.2⟩)).mono (fun v _ hd => ?_)
  rcases hd with hd | hd | hd | ⟨i, hi2, e⟩
  ·exact .inl (.inl hd)
  ·exact .inl (.inr (.inl hd))
  ·exact .inl (.inr (.inr (.inl hd)))
  ·rw [take_gno (by omega)] at hi2
   rcases List.mem_append.1 hi2 with hi2 | hi2
   ·exact .inl (.inr (.inr (.inr ⟨i, hi2, e⟩)))
   ·simp at hi2; subst hi2; exact .inr e

theorem netI_len (C : Circ) : ∀ k, k ≤ C.ins.length → (netI C k).1.length = k
 |0, _ => rfl
 |k + 1, h => by rw [netI_succ (by omega)]; unfold inN putN; simp [netI_len C k (by omega)]
theorem netL_len (C : Circ) : ∀ k, k ≤ C.lats.length → (netL C k).1.length = C.ins.length + k
 |0, _ => by rw [netL_zero, netI_len C _ (Nat.le_refl _)]; rfl
 |k + 1, h => by rw [netL_succ (by omega)]; unfold inN putN; simp [netL_len C k (by omega)]; omega
theorem netG_len (C : Circ) : ∀ k, k ≤ (ordO C.gates).length → (netG C k).1.length = C.ins.length + C.lats.length + k
 |0, _ => by rw [netG_zero, netL_len C _ (Nat.le_refl _)]; rfl
 |k + 1, h => by rw [netG_succ (by omega)]; unfold gateN putN; simp [netG_len C k (by omega)]; omega

end Go.Proofs.YtnoknecfdnjomaaGreat

/-
  append of a whole slice of structs: as a step of a region that draws its order, and of one that does not.
-/
namespace Go.Proofs.YtnoknecfdnjomaaGreat
open Go.RowKit

theorem own_run {P : Program} {w : World} {t ty e : TypeId} {z : Value} {k bytes : Nat} (ht : P.underlying t = some (.slice e)) (hI : (P.info? e).map (fun i => (i.zero, i.size, i.bytes)) = some (some z, k, bytes)) (hzs : z.cells.size = k) (hk : 0 < k)
  {base : Nat} {v : Value} {rows : List (List Value)} (hown : OwnK w base e k v rows) {src : Option Addr} {m c : Nat} {news : List (List Value)} (hlen : ∀ r ∈ news, r.length = k) (hm : news.length = m) (hrow : RowAt w src news.flatten) (hnil : src = none → c = 0) (h1 : ∀ u ∈ news.flatten, u.oneCell' = true)
  (hbytes : (rows.length + m) * bytes ≤ 140737488355328) (hml : rows.length + m ≤ maxLen) (hbase : base ≤ w.heap.size) :
  ∃ v' w', (Builtin.append_ #[t, t] ty #[v, .slice src m c]).run P w = .ok v' w' ∧ OwnK w' base e k v' (rows ++ news) ∧ w.grownBy w' v.ownBlock ∧ (v'.ownBlock = v.ownBlock ∨ v'.ownBlock = some w.heap.size) := by
 obtain ⟨i0, hi, hz0, hz1, hz2⟩ := info_parts hI
 have hfl : news.flatten.length = m * k := by rw [flat_length hlen, hm]
 cases src with
 |none =>
  have hn : news = [] := by
   cases news with
   |nil => rfl
   |cons r rs =>
    have hr : r.length = k := hlen r (by simp)
    cases r with
    |nil => simp at hr; omega
    |cons u r => obtain ⟨_, _, h, _⟩ := hrow 0 u (by simp); cases h
  subst hn
  have hm0 : m = 0 := by simpa using hm.symm
  subst hm0
  rw [hnil rfl]
  exact ⟨v, w, run_append_owned_none (P := P) (w := w) base t ty e i0 k ht hi v rows.length rows.flatten hown.own, by rw [List.append_nil]; exact hown, ⟨rfl, rfl, rfl, Nat.le_refl _, fun _ _ _ => rfl⟩, .inl rfl⟩
 |some ad =>
  obtain ⟨v', w', hr, h2, h3, _, h5⟩ := run_append_own_at (P := P) w base t ty e i0 z k bytes ht hi hz0 hz1 hz2 hzs hk v rows.length rows.flatten hown.own ad m c news.flatten hfl (fun j u hj => by
   obtain ⟨b, off, hab, hc⟩ := hrow j u hj
   simp only [Option.some.injEq] at hab
   subst hab
   rw [add_plain']
   exact hc) h1 hml hbytes hbase
  refine ⟨v', w', hr, ⟨?_, ?_⟩, h3, h5⟩
  ·rw [List.length_append, hm, List.flatten_append]; exact h2
  ·intro x hx
   rcases List.mem_append.1 hx with h | h
   ·exact hown.len x h
   ·exact hlen x h

theorem wp_appendAllK {P : Program} {w : World} {o : Oper} {a : Act} {K : Act → World → Prop} {Q : Exit → Act → World → Prop} (s x : Operand) (t e : TypeId)
  (ho : o.op = .call { callee := .builtin .append, args := #[s, x], argTypes := #[t, t] }) {z : Value} {k bytes : Nat}
  (ht : P.underlying t = some (.slice e)) (hI : (P.info? e).map (fun i => (i.zero, i.size, i.bytes)) = some (some z, k, bytes)) (hzs : z.cells.size = k) (hk : 0 < k)
  {base : Nat} {v : Value} {rows : List (List Value)} (hown : OwnK w base e k v rows) (hs : a.eval s = v) (src : Option Addr) (m c : Nat) (news : List (List Value)) (hx : a.eval x = .slice src m c) (hlen : ∀ r ∈ news, r.length = k) (hm : news.length = m) (hrow : RowAt w src news.flatten) (hnil : src = none → c = 0) (h1 : ∀ u ∈ news.flatten, u.oneCell' = true)
  (hbytes : (rows.length + m) * bytes ≤ 140737488355328) (hml : rows.length + m ≤ maxLen) (hbase : base ≤ w.heap.size)
  (h : ∀ v' w', OwnK w' base e k v' (rows ++ news) → w.grownBy w' v.ownBlock → (v'.ownBlock = v.ownBlock ∨ v'.ownBlock = some w.heap.size) → K (a.put o.dst v') w') : Oper.wp P o a w K Q := by
 obtain ⟨v', w', hr, h2, h3, h5⟩ := own_run (P := P) (w := w) (t := t) (ty := o.type) ht hI hzs hk hown hlen hm hrow hnil h1 hbytes hml hbase
 unfold Oper.wp execOp
 simp only [ho, resolve, invoke, builtin, Sem.run_bind, Sem.run_pure, Result.andThen_ok, List.map_toArray, List.map_cons, List.map_nil, hs, hx, hr]
 exact h v' w' h2 h3 h5

theorem wpList_appendAllK {P : Program} {w : World} {ops : Array Oper} {rest : List Oper} {o : Oper} {a : Act} {Q : Exit → Act → World → Prop} (hgd : o.guard = none) (s x : Operand) (t e : TypeId)
  (ho : o.op = .call { callee := .builtin .append, args := #[s, x], argTypes := #[t, t] }) {z : Value} {k bytes : Nat}
  (ht : P.underlying t = some (.slice e)) (hI : (P.info? e).map (fun i => (i.zero, i.size, i.bytes)) = some (some z, k, bytes)) (hzs : z.cells.size = k) (hk : 0 < k)
  {base : Nat} {v : Value} {rows : List (List Value)} (hown : OwnK w base e k v rows) (hs : a.eval s = v) (src : Option Addr) (m c : Nat) (news : List (List Value)) (hx : a.eval x = .slice src m c) (hlen : ∀ r ∈ news, r.length = k) (hm : news.length = m) (hrow : RowAt w src news.flatten) (hnil : src = none → c = 0) (h1 : ∀ u ∈ news.flatten, u.oneCell' = true)
  (hbytes : (rows.length + m) * bytes ≤ 140737488355328) (hml : rows.length + m ≤ maxLen) (hbase : base ≤ w.heap.size)
  (h : ∀ v' w', OwnK w' base e k v' (rows ++ news) → w.grownBy w' v.ownBlock → (v'.ownBlock = v.ownBlock ∨ v'.ownBlock = some w.heap.size) → wpList P ops Q rest (a.put o.dst v') w') : wpList P ops Q (o :: rest) a w :=
 wpList_plain hgd fun _ hK => wp_appendAllK s x t e ho ht hI hzs hk hown hs src m c news hx hlen hm hrow hnil h1 hbytes hml hbase fun v' w' h2 h3 h4 => hK _ _ (h v' w' h2 h3 h4)

theorem step_appendAllK {P : Program} {w : World} {ops : Array Oper} {o : Oper} {a : Act} {K : Act → World → Prop} {Q : Exit → Act → World → Prop} {E : Prop} (hgd : o.guard = none) (s x : Operand) (t e : TypeId)
  (ho : o.op = .call { callee := .builtin .append, args := #[s, x], argTypes := #[t, t] }) {z : Value} {k bytes : Nat}
  (ht : P.underlying t = some (.slice e)) (hI : (P.info? e).map (fun i => (i.zero, i.size, i.bytes)) = some (some z, k, bytes)) (hzs : z.cells.size = k) (hk : 0 < k)
  {base : Nat} {v : Value} {rows : List (List Value)} (hown : OwnK w base e k v rows) (hs : a.eval s = v) (src : Option Addr) (m c : Nat) (news : List (List Value)) (hx : a.eval x = .slice src m c) (hlen : ∀ r ∈ news, r.length = k) (hm : news.length = m) (hrow : RowAt w src news.flatten) (hnil : src = none → c = 0) (h1 : ∀ u ∈ news.flatten, u.oneCell' = true)
  (hbytes : (rows.length + m) * bytes ≤ 140737488355328) (hml : rows.length + m ≤ maxLen) (hbase : base ≤ w.heap.size)
  (h : ∀ v' w', OwnK w' base e k v' (rows ++ news) → w.grownBy w' v.ownBlock → (v'.ownBlock = v.ownBlock ∨ v'.ownBlock = some w.heap.size) → K (a.put o.dst v') w') :
  if Region.wanted o (yielded ops a.tmps) = true then Oper.wp P o a w K Q else E := by
 have hw : Region.wanted o (yielded ops a.tmps) = true := by simp [Region.wanted, hgd]
 rw [if_pos hw]
 exact wp_appendAllK s x t e ho ht hI hzs hk hown hs src m c news hx hlen hm hrow hnil h1 hbytes hml hbase h

theorem flat_ones : ∀ cs : List Value, (cs.map (fun c => [c])).flatten = cs
 |[] => rfl
 |a :: r => by rw [List.map_cons, List.flatten_cons, flat_ones r]; rfl

theorem Own.rows {w : World} {base : Nat} {e : TypeId} {v : Value} {cs : List Value} (h : Own w base e v cs) : OwnK w base e 1 v (cs.map (fun c => [c])) := by
 refine ⟨?_, fun r hr => by obtain ⟨x, _, rfl⟩ := List.mem_map.1 hr; rfl⟩
 have e1 := flat_ones cs
 rw [List.length_map, e1]
 exact h

theorem OwnK.row {w : World} {base : Nat} {e : TypeId} {v : Value} {cs : List Value} (h : OwnK w base e 1 v (cs.map (fun c => [c]))) : Own w base e v cs := by
 have h1 := h.own
 have e1 := flat_ones cs
 rw [List.length_map, e1] at h1
 exact h1

end Go.Proofs.YtnoknecfdnjomaaGreat

/-
  append of one-cell elements as a step of a region that draws its order.
-/
namespace Go.Proofs.YtnoknecfdnjomaaGreat
open Go.RowKit

theorem step_append1s {P : Program} {w : World} {ops : Array Oper} {o : Oper} {a : Act} {K : Act → World → Prop} {Q : Exit → Act → World → Prop} {E : Prop} (hgd : o.guard = none) (s x : Operand) (t e : TypeId)
  (ho : o.op = .call { callee := .builtin .append, args := #[s, x], argTypes := #[t, t] }) {z : Value} {bytes : Nat}
  (ht : P.underlying t = some (.slice e)) (hI : (P.info? e).map (fun i => (i.zero, i.size, i.bytes)) = some (some z, 1, bytes)) (hzs : z.cells.size = 1)
  {base : Nat} {v : Value} {cs : List Value} (hown : Own w base e v cs) (hs : a.eval s = v) (src : Option Addr) (m c : Nat) (news : List Value) (hx : a.eval x = .slice src m c) (hm : news.length = m) (hrow : RowAt w src news) (hnil : src = none → c = 0) (h1 : ∀ u ∈ news, u.oneCell' = true)
  (hbytes : (cs.length + m) * bytes ≤ 140737488355328) (hml : cs.length + m ≤ maxLen) (hbase : base ≤ w.heap.size)
  (h : ∀ v' w', Own w' base e v' (cs ++ news) → w.grownBy w' v.ownBlock → (v'.ownBlock = v.ownBlock ∨ v'.ownBlock = some w.heap.size) → K (a.put o.dst v') w') :
  if Region.wanted o (yielded ops a.tmps) = true then Oper.wp P o a w K Q else E := by
 refine step_appendAllK hgd s x t e ho ht hI hzs (by decide) (Own.rows hown) hs src m c (news.map (fun c => [c])) hx (fun r hr => by obtain ⟨y, _, rfl⟩ := List.mem_map.1 hr; rfl) (by rw [List.length_map]; exact hm) (by rw [flat_ones]; exact hrow) hnil (by rw [flat_ones]; exact h1) (by rw [List.length_map]; exact hbytes) (by rw [List.length_map]; exact hml) hbase ?_
 intro v' w' hO hg hat
 rw [← List.map_append] at hO
 exact h v' w' hO.row hg hat

theorem wpList_append1s {P : Program} {w : World} {ops : Array Oper} {rest : List Oper} {o : Oper} {a : Act} {Q : Exit → Act → World → Prop} (hgd : o.guard = none) (s x : Operand) (t e : TypeId)
  (ho : o.op = .call { callee := .builtin .append, args := #[s, x], argTypes := #[t, t] }) {z : Value} {bytes : Nat}
  (ht : P.underlying t = some (.slice e)) (hI : (P.info? e).map (fun i => (i.zero, i.size, i.bytes)) = some (some z, 1, bytes)) (hzs : z.cells.size = 1)
  {base : Nat} {v : Value} {cs : List Value} (hown : Own w base e v cs) (hs : a.eval s = v) (src : Option Addr) (m c : Nat) (news : List Value) (hx : a.eval x = .slice src m c) (hm : news.length = m) (hrow : RowAt w src news) (hnil : src = none → c = 0) (h1 : ∀ u ∈ news, u.oneCell' = true)
  (hbytes : (cs.length + m) * bytes ≤ 140737488355328) (hml : cs.length + m ≤ maxLen) (hbase : base ≤ w.heap.size)
  (h : ∀ v' w', Own w' base e v' (cs ++ news) → w.grownBy w' v.ownBlock → (v'.ownBlock = v.ownBlock ∨ v'.ownBlock = some w.heap.size) → wpList P ops Q rest (a.put o.dst v') w') : wpList P ops Q (o :: rest) a w := by
 refine wpList_appendAllK hgd s x t e ho ht hI hzs (by decide) (Own.rows hown) hs src m c (news.map (fun c => [c])) hx (fun r hr => by obtain ⟨y, _, rfl⟩ := List.mem_map.1 hr; rfl) (by rw [List.length_map]; exact hm) (by rw [flat_ones]; exact hrow) hnil (by rw [flat_ones]; exact h1) (by rw [List.length_map]; exact hbytes) (by rw [List.length_map]; exact hml) hbase ?_
 intro v' w' hO hg hat
 rw [← List.map_append] at hO
 exact h v' w' hO.row hg hat

end Go.Proofs.YtnoknecfdnjomaaGreat

/-
  latchetref02.Has; latchetref11: Owned, Used.
-/
namespace Go.Proofs.YtnoknecfdnjomaaGreat
open Go.RowKit

theorem contains_take {L : List Int} {k : Nat} {x : Int} (h : k < L.length) : decide (x ∈ L.take (k + 1)) = (decide (x ∈ L.take k) || decide (gi L k = x)) := by
 rw [take_gi h, Bool.eq_iff_iff]
 simp only [decide_eq_true_eq, Bool.or_eq_true, List.mem_append, List.mem_singleton]
 exact ⟨fun h => h.imp id Eq.symm, fun h => h.imp id Eq.symm⟩

theorem ref02_Has (a : Option Addr) (n c : Nat) (L : List Int) (x : Int) (w : World) (hr : IntsAt w a L) (hn : L.length = n) (hm : n ≤ 9000000000) :
  Calls Tryz.prog 31 #[.slice a n c, .int .i64 x] w fun e w' => e = .returned (.bool (decide (x ∈ L))) ∧ w = w' := by
 have HR := Lib.hid hr
 have HN := Lib.hid hn
 clear hr hn
 go_enter Tryz.func31, Tryz.ntmps31
 go_wp2_with fail
 go_loop [5] (fun v5 => ∃ k : Nat, v5 = .int .i64 k ∧ k ≤ n ∧ decide (x ∈ L.take k) = false) (fun v5 => n - (intOf v5).toNat)
 case atStart => exact ⟨0, rfl, by omega, by simp⟩
 case round =>
  obtain ⟨k, rfl, hk, hd⟩ := hrel
  by_cases hlt : k < n
  ·obtain ⟨b, off, rfl, hcell⟩ := HR.out.get (j := k) (by rw [HN.out]; exact hlt)
   have hct := contains_take (x := x) (L := L) (k := k) (by rw [HN.out]; exact hlt)
   rw [hd, Bool.false_or] at hct
   have hmt := Lib.hid (fun (h : x ∈ L.take (k + 1)) => List.mem_of_mem_take h)
   obtain ⟨y, hy⟩ : ∃ y, gi L k = y := ⟨_, rfl⟩
   rw [hy] at hcell hct
   have i0 : (0 : Int) ≤ (k : Int) := by omega
   have i1 : (k : Int) < (n : Int) := by omega
   by_cases e : y = x
   ·have q : ((y : Int) == x) = true := by simp [e]
    have HE := Lib.hid (show decide (x ∈ L) = true by
     rw [decide_eq_true e] at hct
     exact decide_eq_true (hmt.out (of_decide_eq_true hct)))
    clear e hct hd hy
    go_wp2_with fail
    go_ret
    rw [HE.out]
    exact ⟨rfl, rfl⟩
   ·have q : ((y : Int) == x) = false := by simp [e]
    have HE := Lib.hid (show decide (x ∈ L.take (k + 1)) = false by rw [hct]; exact decide_eq_false e)
    clear e hct hd hy
    go_wp2_with fail
    go_round
    case rel => exact ⟨k + 1, by go_num, by omega, HE.out⟩
    case measure => simp [intOf]; omega
  ·have HE := Lib.hid (show decide (x ∈ L) = false by rwa [List.take_of_length_le (by rw [HN.out]; omega)] at hd)
   clear hd
   go_wp2_with fail
   go_ret
   rw [HE.out]
   exact ⟨rfl, rfl⟩

set_option maxRecDepth 100000 in
set_option maxHeartbeats 4000000 in
theorem ref11_Owned (V : CV) (C : Circ) (w : World) (h : CAt w V C) (hf : CFew C 1000000) :
  Calls Tryz.prog 29 #[.agg (cvals V C)] w fun e w' => ∃ v, e = .returned v ∧ Own w' w.heap.size 3 v (iv C.owned) ∧ Kp (fun _ => False) w w' := by
 have hl := h.fl.le63
 have hg := h.fg.le63
 have HI := Lib.hid (show (Tryz.prog.info? 3).map (fun i => (i.zero, i.size, i.bytes)) = some (some (.int .i64 0), 1, 8) by kernel_rfl)
 have HA := Lib.hid h
 have HF := Lib.hid hf
 obtain ⟨wz, hwz⟩ : ∃ wz : World, wz = (w.alloc (.cells (cvals V C) 27)).alloc (.cells #[] 3) := ⟨_, rfl⟩
 have HK0 : Hid (Kp (fun _ => False) w wz) := Lib.hid (by rw [hwz]; exact ((Kp.refl _ w).alloc _).alloc _)
 have HC0 := Lib.hid (Blk.new w (cvals V C) 27)
 have HCz : Hid (Blk wz w.heap.size (cvals V C) 27) := Lib.hid (by rw [hwz]; exact HC0.out.alloc _)
 have HO0 : Hid (Own wz w.heap.size 3 (.slice (some ⟨w.heap.size + 1, 0, none⟩) 0 0) []) := Lib.hid (by rw [hwz]; exact Own.lit (cs := []) (two_blk w _ _ _ _) (by omega) (Nat.zero_le _))
 have HZ := Lib.hid hwz
 have HSz := Lib.hid (show w.heap.size ≤ wz.heap.size from HK0.out.size)
 clear h hf hwz
 have c1 := HC0.out.cell (i := 1) (v := .slice V.ai C.ins.length V.ci) rfl
 have c1' := (HC0.out.alloc (.cells #[] 3)).cell (i := 1) (v := .slice V.ai C.ins.length V.ci) rfl
 go_enter Tryz.func29, Tryz.ntmps29
 go_wp2_with (at_builtin; rw [← HZ.out]; refine wpList_appendAll rfl _ _ 22 3 rfl Tryz.underlying22 HI.out rfl HO0.out rfl V.ai C.ins.length V.ci (iv C.ins) rfl (iv_length _) ((HA.out.kp HK0.out).i) HA.out.fi.nil (fun u hu => by obtain ⟨x, _, rfl⟩ := List.mem_map.1 hu; rfl) ?c1 ?c2 HSz.out ?_)
 case c1 => have := HF.out.i; simp; omega
 case c2 => have := HF.out.i; simp; unfold maxLen; omega
 intro v1 w1 hO1 hg1
 have hK01 : Kp (fun _ => False) w w1 := HK0.out.grown hg1 (fun j hj hlt => by simp [Value.ownBlock] at hj; omega)
 have hKz1 : Kp (fun j => j = w.heap.size + 1) wz w1 := (Kp.refl _ wz).grown hg1 (fun j hj _ => by simp [Value.ownBlock] at hj; exact hj.symm)
 have HS1 := Lib.hid (show Own w1 w.heap.size 3 v1 (iv (C.ins ++ (C.lats.take 0).map (fun x => x.1))) ∧ (∀ j, v1.ownBlock = some j → w.heap.size < j) ∧ Blk w1 w.heap.size (cvals V C) 27 ∧ Kp (fun _ => False) w w1 from
  ⟨by simpa [iv] using hO1, fun j hj => by
   have h1 := (hO1.lt j hj).1
   rcases Nat.lt_or_ge w.heap.size j with h | h
   ·exact h
   ·exfalso
    have e : j = w.heap.size := by omega
    subst e
    obtain ⟨-, h2⟩ := hO1
    rcases h2 with ⟨rfl, -⟩ | ⟨g, cap, cur, rfl, -, hgg, -⟩
    ·simp [Value.ownBlock] at hj
    ·simp [Value.ownBlock] at hj
     subst hj
     have hb := HCz.out.kp hKz1 (by omega)
     unfold Blk at hb
     rw [hb] at hgg
     simp at hgg, HCz.out.kp hKz1 (by omega), hK01⟩)
 clear hO1 hg1 hK01 hKz1 c1 c1' HO0 HK0 HCz HC0 HZ HSz
 go_wp2_with fail
 go_loopw [3, 4] (fun v3 v4 wr => ∃ k : Nat, v4 = .int .i64 k ∧ k ≤ C.lats.length ∧ Own wr w.heap.size 3 v3 (iv (C.ins ++ (C.lats.take k).map (fun x => x.1))) ∧ (∀ j, v3.ownBlock = some j → w.heap.size < j) ∧ Blk wr w.heap.size (cvals V C) 27 ∧ Kp (fun _ => False) w wr) (fun _ v4 _ => C.lats.length - (intOf v4).toNat)
 case atStart => exact ⟨0, rfl, by omega, HS1.out⟩
 case round =>
  obtain ⟨k, rfl, hk, hO, hB, hC, hK⟩ := hrel
  clear HS1
  obtain ⟨wp, rfl⟩ : ∃ wp : World, wp = wr := ⟨_, rfl⟩
  have HO := Lib.hid hO
  have HB := Lib.hid hB
  have HC := Lib.hid hC
  have HK := Lib.hid hK
  have HSw := Lib.hid (show w.heap.size < wp.heap.size from hC.lt)
  have c2 := hC.cell (i := 2) (v := .slice V.al C.lats.length V.cl) rfl
  clear hO hB hC hK
  by_cases hlt : k < C.lats.length
  ·obtain ⟨b, off, ea, e0, -, -⟩ := tri_cells (HA.out.kp HK.out).l hlt
   have i0 : (0 : Int) ≤ (k : Int) := by omega
   have i2 : (k : Int) < (C.lats.length : Int) := by omega
   obtain ⟨x0, hx0⟩ : ∃ x, (g3 C.lats k).1 = x := ⟨_, rfl⟩
   have HT := Lib.hid (take_g3 hlt)
   rw [hx0] at e0
   have HX := Lib.hid hx0
   rw [ea] at c2
   clear hx0 ea
   have HNew := Lib.hid (Blk.new wp #[.int .i64 x0] 3)
   have HOw := Lib.hid (HO.out.alloc (.cells #[.int .i64 x0] 3))
   go_wp2_with (at_builtin; refine wpList_append1_at rfl _ _ 22 3 rfl Tryz.underlying22 HI.out rfl HOw.out rfl ⟨wp.heap.size, 0, none⟩ (.int .i64 x0) rfl (HNew.out.cell rfl) rfl ?d1 ?d2 ?d3 ?_)
   case d1 => rw [iv_length]; have := HF.out.i; have := HF.out.l; simp; omega
   case d2 => rw [iv_length]; have := HF.out.i; have := HF.out.l; unfold maxLen; simp; omega
   case d3 => have := HSw.out; simp; omega
   intro v' w2 hO2 hg2 hat2
   have hrel : ∃ k' : Nat, Value.int .i64 ((k : Int) + 1) = .int .i64 k' ∧ k' ≤ C.lats.length ∧ Own w2 w.heap.size 3 v' (iv (C.ins ++ (C.lats.take k').map (fun x => x.1))) ∧ (∀ j, v'.ownBlock = some j → w.heap.size < j) ∧ Blk w2 w.heap.size (cvals V C) 27 ∧ Kp (fun _ => False) w w2 := by
    refine ⟨k + 1, by go_num, by omega, ?_, ?_, ?_, ?_⟩
    ·rw [HT.out, List.map_append, ← List.append_assoc, iv_append]
     have : iv ([g3 C.lats k].map (fun x => x.1)) = [.int .i64 x0] := by simp [iv, HX.out]
     rw [this]
     simpa using hO2
    ·intro j hj
     rcases hat2 with e | e
     ·exact HB.out j (e ▸ hj)
     ·rw [e] at hj
      have := HSw.out
      simp at hj
      omega
    ·exact (HC.out.alloc _).kp ((Kp.refl (fun j => u3.ownBlock = some j) _).grown hg2 (fun j hj _ => hj)) (fun e => by have := HB.out _ e; omega)
    ·exact (HK.out.alloc _).grown hg2 (fun j hj hlt => by have := HB.out j hj; omega)
   have HR := Lib.hid hrel
   clear hrel hO2 hg2 hat2 HOw HNew HT
   go_wp2_with fail
   go_roundw
   case rel => exact HR.out
   case measure => simp [intOf]; omega
  ·have hk' : k = C.lats.length := by omega
   have HO' : Hid (Own wp w.heap.size 3 u3 (iv (C.ins ++ C.lats.map (fun x => x.1) ++ (C.gates.take 0).map (fun x => x.1)))) := Lib.hid (by have := HO.out; rw [hk', List.take_length] at this; simpa using this)
   clear HO hk hk'
   go_wp2_with fail
   go_loopw [3, 5] (fun v3 v5 wr => ∃ k : Nat, v5 = .int .i64 k ∧ k ≤ C.gates.length ∧ Own wr w.heap.size 3 v3 (iv (C.ins ++ C.lats.map (fun x => x.1) ++ (C.gates.take k).map (fun x => x.1))) ∧ (∀ j, v3.ownBlock = some j → w.heap.size < j) ∧ Blk wr w.heap.size (cvals V C) 27 ∧ Kp (fun _ => False) w wr) (fun _ v5 _ => C.gates.length - (intOf v5).toNat)
   case atStart => exact ⟨0, rfl, by omega, HO'.out, HB.out, HC.out, HK.out⟩
   case round =>
    obtain ⟨k, rfl, hk, hO, hB, hC, hK⟩ := hrel
    clear HO' HB HC HK hlt c2
    obtain ⟨wq, rfl⟩ : ∃ wp : World, wp = wr := ⟨_, rfl⟩
    have HO := Lib.hid hO
    have HB := Lib.hid hB
    have HC := Lib.hid hC
    have HK := Lib.hid hK
    have HSw := Lib.hid (show w.heap.size < wq.heap.size from hC.lt)
    have c6 := hC.cell (i := 6) (v := .slice V.ag C.gates.length V.cg) rfl
    clear hO hB hC hK
    by_cases hlt : k < C.gates.length
    ·obtain ⟨b, off, ea, e0, -, -⟩ := tri_cells (HA.out.kp HK.out).g hlt
     have i0 : (0 : Int) ≤ (k : Int) := by omega
     have i2 : (k : Int) < (C.gates.length : Int) := by omega
     obtain ⟨x0, hx0⟩ : ∃ x, (g3 C.gates k).1 = x := ⟨_, rfl⟩
     have HT := Lib.hid (take_g3 hlt)
     rw [hx0] at e0
     have HX := Lib.hid hx0
     rw [ea] at c6
     clear hx0 ea
     have HNew := Lib.hid (Blk.new wq #[.int .i64 x0] 3)
     have HOw := Lib.hid (HO.out.alloc (.cells #[.int .i64 x0] 3))
     go_wp2_with (at_builtin; refine wpList_append1_at rfl _ _ 22 3 rfl Tryz.underlying22 HI.out rfl HOw.out rfl ⟨wq.heap.size, 0, none⟩ (.int .i64 x0) rfl (HNew.out.cell rfl) rfl ?f1 ?f2 ?f3 ?_)
     case f1 => rw [iv_length]; have := HF.out.i; have := HF.out.l; have := HF.out.g; simp; omega
     case f2 => rw [iv_length]; have := HF.out.i; have := HF.out.l; have := HF.out.g; unfold maxLen; simp; omega
     case f3 => have := HSw.out; simp; omega
     intro v' w2 hO2 hg2 hat2
     have hrel : ∃ k' : Nat, Value.int .i64 ((k : Int) + 1) = .int .i64 k' ∧ k' ≤ C.gates.length ∧ Own w2 w.heap.size 3 v' (iv (C.ins ++ C.lats.map (fun x => x.1) ++ (C.gates.take k').map (fun x => x.1))) ∧ (∀ j, v'.ownBlock = some j → w.heap.size < j) ∧ Blk w2 w.heap.size (cvals V C) 27 ∧ Kp (fun _ => False) w w2 := by
      refine ⟨k + 1, by go_num, by omega, ?_, ?_, ?_, ?_⟩
      ·rw [HT.out, List.map_append, ← List.append_assoc, iv_append]
       have : iv ([g3 C.gates k].map (fun x => x.1)) = [.int .i64 x0] := by simp [iv, HX.out]
       rw [this]
       simpa using hO2
      ·intro j hj
       rcases hat2 with e | e
       ·exact HB.out j (e ▸ hj)
       ·rw [e] at hj
        have := HSw.out
        simp at hj
        omega
      ·exact (HC.out.alloc _).kp ((Kp.refl (fun j => u3.ownBlock = some j) _).grown hg2 (fun j hj _ => hj)) (fun e => by have := HB.out _ e; omega)
      ·exact (HK.out.alloc _).grown hg2 (fun j hj hlt => by have := HB.out j hj; omega)
     have HR := Lib.hid hrel
     clear hrel hO2 hg2 hat2 HOw HNew HT
     go_wp2_with fail
     go_roundw
     case rel => exact HR.out
     case measure => simp [intOf]; omega
    ·have hk' : k = C.gates.length := by omega
     have HO' : Hid (Own wq w.heap.size 3 u3 (iv C.owned)) := Lib.hid (by have := HO.out; rwa [hk', List.take_length] at this)
     clear hk' hk HO
     go_wp2_with fail
     go_ret
     exact ⟨_, rfl, HO'.out, HK.out⟩

end Go.Proofs.YtnoknecfdnjomaaGreat

/-
  latchetref11.Used.
-/
namespace Go.Proofs.YtnoknecfdnjomaaGreat
open Go.RowKit

def GrowRel (V : CV) (C : Circ) (w : World) (P : List Int) (v : Value) (wr : World) : Prop :=
  Own wr w.heap.size 3 v (iv P) ∧ (∀ j, v.ownBlock = some j → w.heap.size < j) ∧ Blk wr w.heap.size (cvals V C) 27 ∧ Kp (fun _ => False) w wr

theorem GrowRel.grow {V : CV} {C : Circ} {w wr wr' w2 : World} {P N : List Int} {v v' : Value} (h : GrowRel V C w P v wr) (hK : Kp (fun _ => False) wr wr') (hO : Own w2 w.heap.size 3 v' (iv P ++ iv N)) (hg : wr'.grownBy w2 v.ownBlock) (hat : v'.ownBlock = v.ownBlock ∨ v'.ownBlock = some wr'.heap.size) : GrowRel V C w (P ++ N) v' w2 := by
 obtain ⟨h1, h2, h3, h4⟩ := h
 have hlt := h3.lt
 have hsz := hK.size
 refine ⟨by rw [iv_append]; exact hO, fun j hj => ?_, (h3.kp hK (fun h => h)).kp ((Kp.refl (fun j => v.ownBlock = some j) _).grown hg (fun j hj _ => hj)) (fun e => by have := h2 _ e; omega), (h4.trans hK (fun _ _ h => h)).grown hg (fun j hj hl => by have := h2 j hj; omega)⟩
 rcases hat with e | e
 ·exact h2 j (e ▸ hj)
 ·rw [e] at hj; simp at hj; omega

theorem GrowRel.fr {V : CV} {C : Circ} {w wr wr' : World} {P : List Int} {v : Value} (h : GrowRel V C w P v wr) (hK : Kp (fun _ => False) wr wr') : GrowRel V C w P v wr' :=
 ⟨h.1.kp hK (fun _ _ h => h), h.2.1, h.2.2.1.kp hK (fun h => h), h.2.2.2.trans hK (fun _ _ h => h)⟩

theorem iv_one (l : List Int) : ∀ u ∈ iv l, u.oneCell' = true := fun u hu => by obtain ⟨x, _, rfl⟩ := List.mem_map.1 hu; rfl

set_option maxRecDepth 100000 in
set_option maxHeartbeats 4000000 in
theorem ref11_Used (V : CV) (C : Circ) (w : World) (h : CAt w V C) (hf : CFew C 1000000) :
  Calls Tryz.prog 30 #[.agg (cvals V C)] w fun e w' => ∃ v, e = .returned v ∧ Own w' w.heap.size 3 v (iv C.used) ∧ Kp (fun _ => False) w w' := by
 have hl := h.fl.le63
 have hg := h.fg.le63
 have HI := Lib.hid (show (Tryz.prog.info? 3).map (fun i => (i.zero, i.size, i.bytes)) = some (some (.int .i64 0), 1, 8) by kernel_rfl)
 have HA := Lib.hid h
 have HF := Lib.hid hf
 obtain ⟨wz, hwz⟩ : ∃ wz : World, wz = (w.alloc (.cells (cvals V C) 27)).alloc (.cells #[] 3) := ⟨_, rfl⟩
 have HC0 := Lib.hid (Blk.new w (cvals V C) 27)
 have HG0 : Hid (GrowRel V C w [] (.slice (some ⟨w.heap.size + 1, 0, none⟩) 0 0) wz) := Lib.hid (by
  rw [hwz]
  exact ⟨Own.lit (cs := []) (two_blk w _ _ _ _) (by omega) (Nat.zero_le _), fun j hj => by simp [Value.ownBlock] at hj; omega, HC0.out.alloc _, ((Kp.refl _ w).alloc _).alloc _⟩)
 have HZ := Lib.hid hwz
 clear h hf hwz
 have c3 := HC0.out.cell (i := 3) (v := .slice V.ao C.outs.length V.co) rfl
 have c3' := (HC0.out.alloc (.cells #[] 3)).cell (i := 3) (v := .slice V.ao C.outs.length V.co) rfl
 go_enter Tryz.func30, Tryz.ntmps30
 go_wp2_with (at_builtin; rw [← HZ.out]; refine wpList_append1s rfl _ _ 22 3 rfl Tryz.underlying22 HI.out rfl HG0.out.1 rfl V.ao C.outs.length V.co (iv C.outs) rfl (iv_length _) ((HA.out.kp HG0.out.2.2.2).o) HA.out.fo.nil (iv_one _) ?c1 ?c2 HG0.out.2.2.2.size ?_)
 case c1 => have := HF.out.o; simp [iv]; omega
 case c2 => have := HF.out.o; simp [iv]; unfold maxLen; omega
 intro v1 w1 hO1 hg1 hat1
 have HG1 := Lib.hid (HG0.out.grow (Kp.refl _ _) hO1 hg1 hat1)
 clear hO1 hg1 hat1 c3 c3' HG0 HC0 HZ
 have c4 := HG1.out.2.2.1.cell (i := 4) (v := .slice V.ab C.bads.length V.cb) rfl
 go_wp2_with (at_builtin; refine wpList_append1s rfl _ _ 22 3 rfl Tryz.underlying22 HI.out rfl HG1.out.1 rfl V.ab C.bads.length V.cb (iv C.bads) rfl (iv_length _) ((HA.out.kp HG1.out.2.2.2).b) HA.out.fb.nil (iv_one _) ?d1 ?d2 HG1.out.2.2.2.size ?_)
 case d1 => have := HF.out.o; have := HF.out.b; rw [iv_length]; simp; omega
 case d2 => have := HF.out.o; have := HF.out.b; rw [iv_length]; simp; unfold maxLen; omega
 intro v2 w2 hO2 hg2 hat2
 have HG2 := Lib.hid (HG1.out.grow (Kp.refl _ _) hO2 hg2 hat2)
 clear hO2 hg2 hat2 c4 HG1
 have c5 := HG2.out.2.2.1.cell (i := 5) (v := .slice V.ac C.cons.length V.cc) rfl
 go_wp2_with (at_builtin; refine wpList_append1s rfl _ _ 22 3 rfl Tryz.underlying22 HI.out rfl HG2.out.1 rfl V.ac C.cons.length V.cc (iv C.cons) rfl (iv_length _) ((HA.out.kp HG2.out.2.2.2).c) HA.out.fc.nil (iv_one _) ?f1 ?f2 HG2.out.2.2.2.size ?_)
 case f1 => have := HF.out.o; have := HF.out.b; have := HF.out.c; rw [iv_length]; simp; omega
 case f2 => have := HF.out.o; have := HF.out.b; have := HF.out.c; rw [iv_length]; simp; unfold maxLen; omega
 intro v3 w3 hO3 hg3 hat3
 obtain ⟨P3, hP3⟩ : ∃ P, P = C.outs ++ C.bads ++ C.cons := ⟨_, rfl⟩
 have HG3 := Lib.hid (show GrowRel V C w (P3 ++ (C.lats.take 0).map (fun x => x.2.1)) v3 w3 by
  have := HG2.out.grow (Kp.refl _ _) hO3 hg3 hat3
  rw [hP3]; simpa using this)
 have HPL := Lib.hid (show P3.length ≤ 3000000 by rw [hP3]; have := HF.out.o; have := HF.out.b; have := HF.out.c; simp; omega)
 have HP3 := Lib.hid hP3
 clear hO3 hg3 hat3 c5 HG2 hP3
 go_wp2_with fail
 go_loopw [3, 4] (fun v3 v4 wr => ∃ k : Nat, v4 = .int .i64 k ∧ k ≤ C.lats.length ∧ GrowRel V C w (P3 ++ (C.lats.take k).map (fun x => x.2.1)) v3 wr) (fun _ v4 _ => C.lats.length - (intOf v4).toNat)
 case atStart => exact ⟨0, rfl, by omega, HG3.out⟩
 case round =>
  obtain ⟨k, rfl, hk, hG⟩ := hrel
  clear HG3
  obtain ⟨wp, rfl⟩ : ∃ wp : World, wp = wr := ⟨_, rfl⟩
  have HG := Lib.hid hG
  have c2 := hG.2.2.1.cell (i := 2) (v := .slice V.al C.lats.length V.cl) rfl
  clear hG
  by_cases hlt : k < C.lats.length
  ·obtain ⟨b, off, ea, -, e1, -⟩ := tri_cells (HA.out.kp HG.out.2.2.2).l hlt
   have i0 : (0 : Int) ≤ (k : Int) := by omega
   have i2 : (k : Int) < (C.lats.length : Int) := by omega
   obtain ⟨x1, hx1⟩ : ∃ x, (g3 C.lats k).2.1 = x := ⟨_, rfl⟩
   rw [hx1] at e1
   have HX := Lib.hid (show (C.lats.take (k + 1)).map (fun x => x.2.1) = (C.lats.take k).map (fun x => x.2.1) ++ [x1] by rw [take_g3 hlt, List.map_append]; simp [hx1])
   rw [ea] at c2
   clear hx1 ea
   have HNew := Lib.hid (Blk.new wp #[.int .i64 x1] 3)
   have HOw := Lib.hid (HG.out.1.alloc (.cells #[.int .i64 x1] 3))
   go_wp2_with (at_builtin; refine wpList_append1_at rfl _ _ 22 3 rfl Tryz.underlying22 HI.out rfl HOw.out rfl ⟨wp.heap.size, 0, none⟩ (.int .i64 x1) rfl (HNew.out.cell rfl) rfl ?g1 ?g2 ?g3 ?_)
   case g1 => rw [iv_length]; have := HPL.out; have := HF.out.l; simp; omega
   case g2 => rw [iv_length]; have := HPL.out; have := HF.out.l; unfold maxLen; simp; omega
   case g3 => have := HG.out.2.2.2.size; simp; omega
   intro v' w5 hO2 hg2 hat2
   have HR := Lib.hid (show ∃ k' : Nat, Value.int .i64 ((k : Int) + 1) = .int .i64 k' ∧ k' ≤ C.lats.length ∧ GrowRel V C w (P3 ++ (C.lats.take k').map (fun x => x.2.1)) v' w5 from
    ⟨k + 1, by go_num, by omega, by rw [HX.out, ← List.append_assoc]; exact HG.out.grow (N := [x1]) ((Kp.refl _ _).alloc _) (by simpa [iv] using hO2) hg2 (by simpa using hat2)⟩)
   clear hO2 hg2 hat2 HOw HNew HX
   go_wp2_with fail
   go_roundw
   case rel => exact HR.out
   case measure => simp [intOf]; omega
  ·have hk' : k = C.lats.length := by omega
   obtain ⟨P4, hP4⟩ : ∃ P, P = P3 ++ C.lats.map (fun x => x.2.1) := ⟨_, rfl⟩
   have HG4 : Hid (GrowRel V C w (P4 ++ (C.gates.take 0).flatMap (fun g => [g.2.1, g.2.2])) u3 wp) := Lib.hid (by have := HG.out; rw [hk', List.take_length, ← hP4] at this; simpa using this)
   have HPL4 := Lib.hid (show P4.length ≤ 4000000 by rw [hP4]; have := HF.out.l; have := HPL.out; simp; omega)
   have HP4 := Lib.hid hP4
   clear HG hk hk' hP4 HPL
   go_wp2_with fail
   go_loopw [3, 5] (fun v3 v5 wr => ∃ k : Nat, v5 = .int .i64 k ∧ k ≤ C.gates.length ∧ GrowRel V C w (P4 ++ (C.gates.take k).flatMap (fun g => [g.2.1, g.2.2])) v3 wr) (fun _ v5 _ => C.gates.length - (intOf v5).toNat)
   case atStart => exact ⟨0, rfl, by omega, HG4.out⟩
   case round =>
    obtain ⟨k, rfl, hk, hG⟩ := hrel
    clear HG4 hlt c2
    obtain ⟨wq, rfl⟩ : ∃ wp : World, wp = wr := ⟨_, rfl⟩
    have HG := Lib.hid hG
    have HC6 := Lib.hid (show ∀ u, Kp (fun _ => False) wq u → u.cell? ⟨w.heap.size, 6, none⟩ = some (.slice V.ag C.gates.length V.cg) from fun u hu => (HG.out.2.2.1.kp hu (fun h => h)).cell rfl)
    have c6 := HC6.out _ (Kp.refl _ _)
    clear hG
    by_cases hlt : k < C.gates.length
    ·obtain ⟨b, off, ea, -, e1, e2⟩ := tri_cells (HA.out.kp HG.out.2.2.2).g hlt
     have i0 : (0 : Int) ≤ (k : Int) := by omega
     have i2 : (k : Int) < (C.gates.length : Int) := by omega
     obtain ⟨x1, hx1⟩ : ∃ x, (g3 C.gates k).2.1 = x := ⟨_, rfl⟩
     obtain ⟨x2, hx2⟩ : ∃ x, (g3 C.gates k).2.2 = x := ⟨_, rfl⟩
     rw [hx1] at e1
     rw [hx2] at e2
     have HX := Lib.hid (show (C.gates.take (k + 1)).flatMap (fun g => [g.2.1, g.2.2]) = (C.gates.take k).flatMap (fun g => [g.2.1, g.2.2]) ++ [x1, x2] by rw [take_g3 hlt, List.flatMap_append]; simp [hx1, hx2])
     rw [ea] at c6 HC6
     have HE := Lib.hid (show ∀ P v u, GrowRel V C w P v u → u.cell? ⟨w.heap.size, 6, none⟩ = some (.slice (some ⟨b, off, none⟩) C.gates.length V.cg) ∧ u.cell? ⟨b, off + k * 3 + 1, none⟩ = some (.int .i64 x1) ∧ u.cell? ⟨b, off + k * 3 + 2, none⟩ = some (.int .i64 x2) from fun P v u hu => by
      obtain ⟨b', off', ea', -, f1, f2⟩ := tri_cells (HA.out.kp hu.2.2.2).g hlt
      rw [ea] at ea'
      simp only [Option.some.injEq, Addr.mk.injEq, and_true] at ea'
      obtain ⟨rfl, rfl⟩ := ea'
      exact ⟨hu.2.2.1.cell (by rw [← ea]; rfl), by rw [f1, hx1], by rw [f2, hx2]⟩)
     clear hx1 hx2 ea c6 e1 e2
     have c6 := (HE.out _ _ _ HG.out).1
     have HNew := Lib.hid (show IntsAt (wq.alloc (.cells #[.int .i64 x1, .int .i64 x2] 3)) (some ⟨wq.heap.size, 0, none⟩) [x1, x2] from (Blk.new wq #[.int .i64 x1, .int .i64 x2] 3).rowAt (n := 2) rfl)
     have HOw := Lib.hid (HG.out.1.alloc (.cells #[.int .i64 x1, .int .i64 x2] 3))
     have hb1 : ((iv (P4 ++ (C.gates.take k).flatMap (fun g => [g.2.1, g.2.2]))).length + 2) * 8 ≤ 140737488355328 ∧ (iv (P4 ++ (C.gates.take k).flatMap (fun g => [g.2.1, g.2.2]))).length + 2 ≤ maxLen := by
      rw [iv_length]
      have := HPL4.out
      have := HF.out.g
      have e : ((C.gates.take k).flatMap (fun g => [g.2.1, g.2.2])).length = 2 * (C.gates.take k).length := by
       generalize C.gates.take k = L
       induction L with
       |nil => rfl
       |cons a r ih => rw [List.flatMap_cons, List.length_append, ih]; simp; omega
      rw [List.length_append, e]
      unfold maxLen
      simp
      omega
     have HB1 := Lib.hid hb1
     have HSz := Lib.hid HG.out.2.2.2.size
     clear hb1
     go_wp2_with fail
     have c0 := HE.out _ _ _ HG.out
     go_region_held3 (fun u => u.cell? ⟨w.heap.size, 6, none⟩ = some (.slice (some ⟨b, off, none⟩) C.gates.length V.cg) ∧ u.cell? ⟨b, off + k * 3 + 1, none⟩ = some (.int .i64 x1) ∧ u.cell? ⟨b, off + k * 3 + 2, none⟩ = some (.int .i64 x2)) (with_reducible first | exact HE.out _ _ _ HG.out | exact HE.out _ _ _ (HG.out.fr (Kp.refl _ _).drew) | exact HE.out _ _ _ (HG.out.fr ((Kp.refl _ _).alloc _)) | exact HE.out _ _ _ (HG.out.fr ((Kp.refl _ _).alloc _).drew) | exact HE.out _ _ _ HGz.out | exact HE.out _ _ _ (HGz.out.fr (Kp.refl _ _).drew)) ((refine step_append1s (by rfl) _ _ 22 3 (by rfl) Tryz.underlying22 HI.out rfl (by first | exact HOw.out | exact HOw.out.drew) (by rfl) (some ⟨wq.heap.size, 0, none⟩) 2 2 (iv [x1, x2]) (by rfl) (by rfl) (by first | exact HNew.out | exact HNew.out.drewN 0) (fun h => by cases h) (iv_one _) HB1.out.1 HB1.out.2 (by have := HSz.out; simp; omega) ?_; intro v' w5 hO2 hg2 hat2; have HGz := Lib.hid (HG.out.grow (N := [x1, x2]) (((Kp.refl _ _).alloc _).drew) hO2 hg2 hat2); have hEz := HE.out _ _ _ HGz.out; clear hO2 hg2 hat2))
     all_goals go_wp2_with fail
     all_goals go_roundw
     case rel => exact ⟨k + 1, by go_num, by omega, by rw [HX.out, ← List.append_assoc]; first | exact HGz.out | exact HGz.out.fr (Kp.refl _ _).drew⟩
     case measure => simp [intOf]; omega
    ·have hk' : k = C.gates.length := by omega
     have HO' : Hid (GrowRel V C w C.used u3 wq) := Lib.hid (by have := HG.out; rw [hk', List.take_length, HP4.out, HP3.out] at this; exact this)
     clear hk' hk HG
     go_wp2_with fail
     go_ret
     exact ⟨_, rfl, HO'.out.1, HO'.out.2.2.2⟩

end Go.Proofs.YtnoknecfdnjomaaGreat

/-
  Scores' order, and a tree in a list in that order. No program in sight.
-/
namespace Go.Proofs.YtnoknecfdnjomaaGreat
open Ieee

def fk (x : Nat) : Int × Int :=
  match double.read x with
  | .nan .. => (-2, 0)
  | .infinity true => (-1, 0)
  | .infinity false => (1, 0)
  | .number s m i => (0, signed s m (i - double.leastPlace).toNat)

def klt (a b : Int × Int) : Prop := a.1 < b.1 ∨ a.1 = b.1 ∧ a.2 < b.2
instance (a b : Int × Int) : Decidable (klt a b) := inferInstanceAs (Decidable (_ ∨ _))

theorem read_place {x : Nat} {s : Bool} {m : Nat} {i : Int} (h : double.read x = .number s m i) : double.leastPlace ≤ i := by
 unfold Format.read at h
 simp only at h
 split at h
 ·simp only [Datum.number.injEq] at h; omega
 ·split at h
  ·simp only [Datum.number.injEq] at h; omega
  ·split at h <;> cases h

theorem signed_up (s : Bool) (m a b : Nat) : signed s m (a + b) = signed s m a * (2 ^ b : Nat) := by
 unfold signed
 have : m <<< (a + b) = (m <<< a) * 2 ^ b := by simp [Nat.shiftLeft_eq, Nat.pow_add, Nat.mul_assoc]
 rw [this]
 cases s <;> simp [Int.neg_mul]

theorem compare_up {x y : Int} {p : Nat} (hp : 0 < p) : compare (x * (p : Int)) (y * (p : Int)) = compare x y := by
 have hp' : (0 : Int) < p := by omega
 rcases Int.lt_trichotomy x y with h | h | h
 ·rw [(Int.compare_eq_lt).2 h, (Int.compare_eq_lt).2 (Int.mul_lt_mul_of_pos_right h hp')]
 ·subst h; simp
 ·rw [(Int.compare_eq_gt).2 h, (Int.compare_eq_gt).2 (Int.mul_lt_mul_of_pos_right h hp')]

theorem order_key (x y : Nat) : double.order x y = if (fk x).1 = -2 ∨ (fk y).1 = -2 then none else some (if klt (fk x) (fk y) then .lt else if klt (fk y) (fk x) then .gt else .eq) := by
 unfold Format.order fk
 have hpx := @read_place x
 have hpy := @read_place y
 generalize double.read x = dx at *
 generalize double.read y = dy at *
 cases dx with
 |nan => simp [Datum.order]
 |infinity s =>
  cases dy with
  |nan => cases s <;> simp [Datum.order]
  |infinity t => cases s <;> cases t <;> simp [Datum.order, klt] <;> rfl
  |number t n j => cases s <;> simp [Datum.order, klt]
 |number s m i =>
  cases dy with
  |nan => simp [Datum.order]
  |infinity t => cases t <;> simp [Datum.order, klt]
  |number t n j =>
   have h1 := hpx rfl
   have h2 := hpy rfl
   generalize double.leastPlace = L at *
   simp only [Datum.order, klt]
   have e1 : (i - L).toNat = (i - min i j).toNat + (min i j - L).toNat := by omega
   have e2 : (j - L).toNat = (j - min i j).toNat + (min i j - L).toNat := by omega
   rw [e1, e2, signed_up, signed_up, ← compare_up (p := 2 ^ (min i j - L).toNat) (Nat.two_pow_pos _)]
   generalize signed s m (i - min i j).toNat * ((2 ^ (min i j - L).toNat : Nat) : Int) = a
   generalize signed t n (j - min i j).toNat * ((2 ^ (min i j - L).toNat : Nat) : Int) = b
   rcases Int.lt_trichotomy a b with h | h | h
   ·rw [(Int.compare_eq_lt).2 h]; simp [h]
   ·subst h; simp
   ·rw [(Int.compare_eq_gt).2 h]; simp [h]; omega

theorem fk_ge (x : Nat) : -2 ≤ (fk x).1 ∧ ((fk x).1 = -2 → (fk x).2 = 0) := by
 unfold fk
 split <;> simp

theorem self_order (x : Nat) : (double.order x x == some .eq) = decide ((fk x).1 ≠ -2) := by
 rw [order_key]
 by_cases h : (fk x).1 = -2
 ·simp [h]
 ·simp [h, klt]

def lessB (a b : Nat) : Bool := decide (klt (fk a) (fk b))

theorem less_lt {a b : Nat} (ha : (fk a).1 ≠ -2) (hb : (fk b).1 ≠ -2) : (double.order a b == some .lt) = lessB a b := by
 rw [order_key, if_neg (by omega)]
 unfold lessB
 by_cases h : klt (fk a) (fk b)
 ·simp [h]
 ·by_cases h2 : klt (fk b) (fk a) <;> simp [h, h2]

theorem less_odd {a b : Nat} (h : (fk a).1 = -2 ∨ (fk b).1 = -2) : (decide ((fk a).1 = -2) && decide ((fk b).1 ≠ -2)) = lessB a b := by
 have ha := fk_ge a
 have hb := fk_ge b
 unfold lessB klt
 rw [← Bool.decide_and]
 apply decide_eq_decide.2
 omega

def aheadB (S : Nat → Nat) (a b : Nat) : Bool := lessB (S b) (S a) || (!lessB (S a) (S b) && decide (a < b))

structure Ord (A : Nat → Nat → Prop) : Prop where
  asym : ∀ {a b}, A a b → ¬ A b a
  neg : ∀ {a b c}, ¬ A b a → ¬ A c b → ¬ A c a
  irr : ∀ {a}, ¬ A a a
  tot : ∀ {a b}, a ≠ b → ¬ A a b → A b a

def ah (S : Nat → Nat) (a b : Nat) : Prop := aheadB S a b = true

theorem ah_iff (S : Nat → Nat) (a b : Nat) : ah S a b ↔ klt (fk (S b)) (fk (S a)) ∨ ¬ klt (fk (S a)) (fk (S b)) ∧ a < b := by
 simp [ah, aheadB, lessB]

theorem ah_ord (S : Nat → Nat) : Ord (ah S) := by
 constructor
 ·intro a b h
  rw [ah_iff] at h ⊢
  unfold klt at *
  omega
 ·intro a b c h h'
  rw [ah_iff] at h h' ⊢
  unfold klt at *
  omega
 ·intro a
  rw [ah_iff]
  unfold klt
  omega
 ·intro a b hne h
  rw [ah_iff] at h ⊢
  unfold klt at *
  omega

def sw (T : Nat → Nat) (i k : Nat) : Nat → Nat := fun j => if j = i then T k else if j = k then T i else T j

def HeapOK (A : Nat → Nat → Prop) (T : Nat → Nat) (m : Nat) : Prop := ∀ j, 0 < j → j < m → ¬ A (T j) (T ((j - 1) / 2))

structure Weak (A : Nat → Nat → Prop) (T : Nat → Nat) (m i : Nat) : Prop where
  off : ∀ j, 0 < j → j < m → j ≠ i → (j - 1) / 2 ≠ i → ¬ A (T j) (T ((j - 1) / 2))
  over : ∀ j, 0 < j → j < m → (j - 1) / 2 = i → 0 < i → ¬ A (T j) (T ((i - 1) / 2))

def UpOK (A : Nat → Nat → Prop) (T : Nat → Nat) (i : Nat) : Prop := 0 < i → ¬ A (T i) (T ((i - 1) / 2))
def DownOK (A : Nat → Nat → Prop) (T : Nat → Nat) (m i : Nat) : Prop := ∀ j, 0 < j → j < m → (j - 1) / 2 = i → ¬ A (T j) (T i)

theorem ok_of {A : Nat → Nat → Prop} {T : Nat → Nat} {m i : Nat} (h : Weak A T m i) (hu : UpOK A T i) (hd : DownOK A T m i) : HeapOK A T m := by
 intro j h0 hj
 by_cases e : j = i
 ·subst e; exact hu h0
 ·by_cases e2 : (j - 1) / 2 = i
  ·rw [e2]; exact hd j h0 hj e2
  ·exact h.off j h0 hj e e2

theorem sw_l (T : Nat → Nat) (i k : Nat) : sw T i k i = T k := by simp [sw]
theorem sw_r (T : Nat → Nat) (i k : Nat) : sw T i k k = T i := by by_cases h : k = i <;> simp [sw, h]
theorem sw_o {T : Nat → Nat} {i k j : Nat} (h1 : j ≠ i) (h2 : j ≠ k) : sw T i k j = T j := by simp [sw, h1, h2]

theorem up_step {A : Nat → Nat → Prop} (hA : Ord A) {T : Nat → Nat} {m i p : Nat} (h : Weak A T m i) (hi0 : 0 < i) (hp : p = (i - 1) / 2) (hi : i < m) (ha : A (T i) (T p)) :
  Weak A (sw T i p) m p ∧ DownOK A (sw T i p) m p := by
 have hpi : p < i := by omega
 refine ⟨⟨fun j h0 hj hjp hpp => ?_, fun j h0 hj hpp hp0 => ?_⟩, fun j h0 hj hpp => ?_⟩
 ·have hji : j ≠ i := fun e => hpp (by rw [e]; exact hp.symm)
  rw [sw_o hji hjp]
  by_cases e : (j - 1) / 2 = i
  ·rw [e, sw_l, hp]; exact h.over j h0 hj e hi0
  ·rw [sw_o e hpp]; exact h.off j h0 hj hji e
 ·rw [sw_o (j := (p - 1) / 2) (by omega) (by omega)]
  have h1 : ¬ A (T p) (T ((p - 1) / 2)) := h.off p hp0 (by omega) (by omega) (by omega)
  by_cases e : j = i
  ·subst e; rw [sw_l]; exact h1
  ·rw [sw_o e (by omega)]
   have h2 := h.off j h0 hj e (by omega)
   rw [hpp] at h2
   exact hA.neg h1 h2
 ·rw [sw_r]
  by_cases e : j = i
  ·subst e; rw [sw_l]; exact hA.asym ha
  ·rw [sw_o e (by omega)]
   have h2 := h.off j h0 hj e (by omega)
   rw [hpp] at h2
   exact hA.neg (hA.asym ha) h2

theorem down_step {A : Nat → Nat → Prop} (hA : Ord A) {T : Nat → Nat} {m i f : Nat} (h : Weak A T m i) (hf0 : 0 < f) (hf : f < m) (hp : (f - 1) / 2 = i) (ha : A (T f) (T i)) (hfirst : ∀ j, 0 < j → j < m → (j - 1) / 2 = i → ¬ A (T j) (T f)) :
  Weak A (sw T i f) m f ∧ UpOK A (sw T i f) f := by
 have hfi : i < f := by omega
 refine ⟨⟨fun j h0 hj hjf hpf => ?_, fun j h0 hj hpf _ => ?_⟩, fun _ => ?_⟩
 ·by_cases e : j = i
  ·subst e
   rw [sw_l, sw_o (by omega) (by omega)]
   exact h.over f hf0 hf hp h0
  ·rw [sw_o e hjf]
   by_cases e2 : (j - 1) / 2 = i
   ·rw [e2, sw_l]; exact hfirst j h0 hj e2
   ·rw [sw_o e2 hpf]; exact h.off j h0 hj e e2
 ·rw [hp, sw_l, sw_o (by omega) (by omega)]
  have := h.off j h0 hj (by omega) (by omega)
  rw [hpf] at this
  exact this
 ·rw [hp, sw_l, sw_r]; exact hA.asym ha

theorem root_first {A : Nat → Nat → Prop} (hA : Ord A) {T : Nat → Nat} {m : Nat} (h : HeapOK A T m) : ∀ j, j < m → ¬ A (T j) (T 0) := by
 intro j
 induction j using Nat.strongRecOn with
 |_ j ih =>
  intro hj
  by_cases e : j = 0
  ·subst e; exact hA.irr
  ·exact hA.neg (ih ((j - 1) / 2) (by omega) (by omega)) (h j (by omega) hj)

theorem pop_weak {A : Nat → Nat → Prop} {T : Nat → Nat} {m : Nat} (h : HeapOK A T (m + 1)) : Weak A (sw T 0 m) m 0 ∧ UpOK A (sw T 0 m) 0 := by
 refine ⟨⟨fun j h0 hj h1 h2 => ?_, fun j _ _ _ h => by omega⟩, fun h => by omega⟩
 rw [sw_o (by omega) (by omega), sw_o h2 (by omega)]
 exact h j h0 (by omega)

structure Inv (n m : Nat) (T : Nat → Nat) (Q : Nat → Int) : Prop where
  here : ∀ i, i < m → T i < n ∧ Q (T i) = i
  there : ∀ x, x < n → Q x = -1 ∨ ∃ i, i < m ∧ Q x = i ∧ T i = x

def up1 {α : Type} (f : Nat → α) (i : Nat) (x : α) : Nat → α := fun j => if j = i then x else f j

theorem up1_at {α : Type} (f : Nat → α) (i : Nat) (x : α) : up1 f i x i = x := by simp [up1]
theorem up1_off {α : Type} (f : Nat → α) {i j : Nat} (x : α) (h : j ≠ i) : up1 f i x j = f j := by simp [up1, h]

theorem Inv.inj {n m : Nat} {T : Nat → Nat} {Q : Nat → Int} (h : Inv n m T Q) {i k : Nat} (hi : i < m) (hk : k < m) (e : T i = T k) : i = k := by
 have h1 := (h.here i hi).2
 have h2 := (h.here k hk).2
 rw [e] at h1
 omega

def swQ (T : Nat → Nat) (Q : Nat → Int) (i k : Nat) : Nat → Int := up1 (up1 Q (sw T i k i) (i : Int)) (sw T i k k) (k : Int)

theorem Inv.swap {n m : Nat} {T : Nat → Nat} {Q : Nat → Int} (h : Inv n m T Q) {i k : Nat} (hi : i < m) (hk : k < m) : Inv n m (sw T i k) (swQ T Q i k) := by
 unfold swQ
 rw [sw_l, sw_r]
 refine ⟨fun j hj => ?_, fun x hx => ?_⟩
 ·by_cases e1 : j = k
  ·subst e1; rw [sw_r, up1_at]; exact ⟨(h.here i hi).1, rfl⟩
  ·by_cases e2 : j = i
   ·subst e2
    rw [sw_l, up1_off _ _ (fun e => e1 (h.inj hj hk e.symm)), up1_at]
    exact ⟨(h.here k hk).1, rfl⟩
   ·rw [sw_o e2 e1, up1_off _ _ (fun e => e2 (h.inj hj hi e)), up1_off _ _ (fun e => e1 (h.inj hj hk e))]
    exact h.here j hj
 ·by_cases e1 : x = T i
  ·subst e1; rw [up1_at]; exact .inr ⟨k, hk, rfl, sw_r ..⟩
  ·rw [up1_off _ _ e1]
   by_cases e2 : x = T k
   ·subst e2; rw [up1_at]; exact .inr ⟨i, hi, rfl, sw_l ..⟩
   ·rw [up1_off _ _ e2]
    rcases h.there x hx with h1 | ⟨j, hj, h1, h2⟩
    ·exact .inl h1
    ·refine .inr ⟨j, hj, h1, ?_⟩
     rw [sw_o (fun e => e1 (by rw [← h2, e])) (fun e => e2 (by rw [← h2, e]))]
     exact h2

theorem Inv.push {n m : Nat} {T : Nat → Nat} {Q : Nat → Int} (h : Inv n m T Q) {x : Nat} (hx : x < n) (hq : Q x < 0) : Inv n (m + 1) (up1 T m x) (up1 Q x (m : Int)) := by
 have hno : ∀ i, i < m → T i ≠ x := fun i hi e => by have := (h.here i hi).2; rw [e] at this; omega
 refine ⟨fun i hi => ?_, fun y hy => ?_⟩
 ·by_cases e : i = m
  ·subst e; rw [up1_at, up1_at]; exact ⟨hx, rfl⟩
  ·rw [up1_off _ _ e, up1_off _ _ (hno i (by omega))]; exact h.here i (by omega)
 ·by_cases e : y = x
  ·subst e; rw [up1_at]; exact .inr ⟨m, by omega, rfl, up1_at ..⟩
  ·rw [up1_off _ _ e]
   rcases h.there y hy with h1 | ⟨j, hj, h1, h2⟩
   ·exact .inl h1
   ·exact .inr ⟨j, by omega, h1, by rw [up1_off _ _ (by omega)]; exact h2⟩

theorem Inv.drop {n m : Nat} {T : Nat → Nat} {Q : Nat → Int} (h : Inv n (m + 1) T Q) : Inv n m T (up1 Q (T m) (-1)) := by
 refine ⟨fun i hi => ?_, fun y hy => ?_⟩
 ·have hne : T i ≠ T m := fun e => by have := h.inj (show i < m + 1 by omega) (show m < m + 1 by omega) e; omega
  rw [up1_off _ _ hne]
  exact h.here i (by omega)
 ·by_cases e : y = T m
  ·subst e; rw [up1_at]; exact .inl rfl
  ·rw [up1_off _ _ e]
   rcases h.there y hy with h1 | ⟨j, hj, h1, h2⟩
   ·exact .inl h1
   ·refine .inr ⟨j, ?_, h1, h2⟩
    have : j ≠ m := fun e2 => e (by rw [← h2, e2])
    omega

def Sub (T' : Nat → Nat) (m' : Nat) (T : Nat → Nat) (m : Nat) : Prop := ∀ j, j < m' → ∃ k, k < m ∧ T' j = T k

theorem Sub.refl (T : Nat → Nat) (m : Nat) : Sub T m T m := fun j h => ⟨j, h, rfl⟩
theorem Sub.trans {T1 T2 T3 : Nat → Nat} {a b c : Nat} (h : Sub T1 a T2 b) (h' : Sub T2 b T3 c) : Sub T1 a T3 c := fun j hj => by
 obtain ⟨k, hk, e⟩ := h j hj
 obtain ⟨l, hl, e'⟩ := h' k hk
 exact ⟨l, hl, e.trans e'⟩
theorem Sub.sw {T : Nat → Nat} {m i k : Nat} (hi : i < m) (hk : k < m) : Sub (sw T i k) m T m := fun j hj => by
 by_cases e1 : j = i
 ·subst e1; exact ⟨k, hk, sw_l ..⟩
 ·by_cases e2 : j = k
  ·subst e2; exact ⟨i, hi, sw_r ..⟩
  ·exact ⟨j, hj, sw_o e1 e2⟩

theorem push_weak {A : Nat → Nat → Prop} {T : Nat → Nat} {m x : Nat} (h : HeapOK A T m) : Weak A (up1 T m x) (m + 1) m ∧ DownOK A (up1 T m x) (m + 1) m := by
 refine ⟨⟨fun j h0 hj h1 h2 => ?_, fun j _ hj h1 h2 => by omega⟩, fun j _ hj h1 => by omega⟩
 rw [up1_off _ _ h1, up1_off _ _ h2]
 exact h j h0 (by omega)

end Go.Proofs.YtnoknecfdnjomaaGreat

/-
  A heap in memory; score.Less, ahead, swap.
-/
namespace Go.Proofs.YtnoknecfdnjomaaGreat
open Go.RowKit

def rowF (f : Nat → Value) (n : Nat) : List Value := (List.range n).map f

theorem rowF_length (f : Nat → Value) (n : Nat) : (rowF f n).length = n := by simp [rowF]
theorem rowF_at {f : Nat → Value} {n i : Nat} (h : i < n) : (rowF f n)[i]? = some (f i) := by simp [rowF, h]
theorem rowF_congr {f g : Nat → Value} {n : Nat} (h : ∀ j, j < n → f j = g j) : rowF f n = rowF g n := by
 unfold rowF; apply List.map_congr_left; intro j hj; exact h j (List.mem_range.1 hj)
theorem rowF_set (f : Nat → Value) (n i : Nat) (v : Value) : (rowF f n).set i v = rowF (up1 f i v) n := by
 apply List.ext_getElem?
 intro j
 by_cases hj : j < n
 ·rw [rowF_at hj, List.getElem?_set]
  by_cases e : i = j
  ·subst e; simp [rowF_length, hj, up1]
  ·rw [if_neg e, rowF_at hj, up1_off _ _ (fun h => e h.symm)]
 ·rw [List.getElem?_eq_none (by rw [List.length_set, rowF_length]; omega), List.getElem?_eq_none (by rw [rowF_length]; omega)]
theorem rowF_snoc (f : Nat → Value) (n : Nat) (v : Value) : rowF f n ++ [v] = rowF (up1 f n v) (n + 1) := by
 unfold rowF
 rw [List.range_succ, List.map_append]
 congr 1
 ·apply List.map_congr_left; intro j hj; rw [up1_off _ _ (by have := List.mem_range.1 hj; omega)]
 ·simp [up1]
theorem rowF_take (f : Nat → Value) {n m : Nat} (h : m ≤ n) : (rowF f n).take m = rowF f m := by
 unfold rowF
 rw [← List.map_take, List.take_range, Nat.min_eq_left h]

def nts (T : Nat → Nat) (m : Nat) : List Value := rowF (fun i => .int .i64 (T i : Int)) m
def zts (Q : Nat → Int) (n : Nat) : List Value := rowF (fun i => .int .i64 (Q i)) n
def fls (S : Nat → Nat) (n : Nat) : List Value := rowF (fun i => .float .f64 (S i)) n

theorem nts_length (T : Nat → Nat) (m : Nat) : (nts T m).length = m := rowF_length ..
theorem zts_length (T : Nat → Int) (m : Nat) : (zts T m).length = m := rowF_length ..
theorem fls_length (T : Nat → Nat) (m : Nat) : (fls T m).length = m := rowF_length ..
theorem nts_at {T : Nat → Nat} {m i : Nat} (h : i < m) : (nts T m)[i]? = some (.int .i64 (T i : Int)) := rowF_at h
theorem zts_at {T : Nat → Int} {m i : Nat} (h : i < m) : (zts T m)[i]? = some (.int .i64 (T i)) := rowF_at h
theorem fls_at {T : Nat → Nat} {m i : Nat} (h : i < m) : (fls T m)[i]? = some (.float .f64 (T i)) := rowF_at h
theorem nts_set (T : Nat → Nat) (m i x : Nat) : (nts T m).set i (.int .i64 (x : Int)) = nts (up1 T i x) m := by
 unfold nts; rw [rowF_set]; apply rowF_congr; intro j _; unfold up1; split <;> rfl
theorem zts_set (T : Nat → Int) (m i : Nat) (x : Int) : (zts T m).set i (.int .i64 x) = zts (up1 T i x) m := by
 unfold zts; rw [rowF_set]; apply rowF_congr; intro j _; unfold up1; split <;> rfl
theorem nts_snoc (T : Nat → Nat) (m x : Nat) : nts T m ++ [.int .i64 (x : Int)] = nts (up1 T m x) (m + 1) := by
 unfold nts; rw [rowF_snoc]; apply rowF_congr; intro j _; unfold up1; split <;> rfl
theorem sw_up1 (T : Nat → Nat) (i k : Nat) : up1 (up1 T i (T k)) k (T i) = sw T i k := by
 funext j
 unfold up1 sw
 by_cases h1 : j = k
 ·subst h1
  by_cases h2 : j = i
  ·subst h2; simp
  ·simp [h2]
 ·by_cases h2 : j = i
  ·subst h2; simp [h1]
  ·simp [h1, h2]

structure Hp (w : World) (base h : Nat) (vs vt va : Value) (n m : Nat) (S T : Nat → Nat) (Q : Nat → Int) : Prop where
  blk : Blk w h #[vs, vt, va] 145
  low : base ≤ h
  s : Own w base 162 vs (fls S n)
  t : Own w base 3 vt (nts T m)
  a : Own w base 3 va (zts Q n)
  hs : ∀ j, vs.ownBlock = some j → j ≠ h ∧ vt.ownBlock ≠ some j ∧ va.ownBlock ≠ some j
  ht : ∀ j, vt.ownBlock = some j → j ≠ h ∧ va.ownBlock ≠ some j
  ha : ∀ j, va.ownBlock = some j → j ≠ h

section
variable {w w' : World} {base h n m : Nat} {vs vt va : Value} {S T : Nat → Nat} {Q : Nat → Int}

theorem Hp.drewN (H : Hp w base h vs vt va n m S T Q) (k : Nat) : Hp (w.drewN k) base h vs vt va n m S T Q := ⟨H.blk, H.low, H.s, H.t, H.a, H.hs, H.ht, H.ha⟩
theorem Hp.drew (H : Hp w base h vs vt va n m S T Q) : Hp w.drew base h vs vt va n m S T Q := ⟨H.blk, H.low, H.s, H.t, H.a, H.hs, H.ht, H.ha⟩

theorem Hp.kp {X : Nat → Prop} (H : Hp w base h vs vt va n m S T Q) (k : Kp X w w') (hX : ∀ j, base ≤ j → j < w.heap.size → ¬ X j) : Hp w' base h vs vt va n m S T Q :=
 ⟨H.blk.kp k (hX h H.low H.blk.lt), H.low, H.s.kp k (fun j hj => hX j (H.s.lt j hj).1 (H.s.lt j hj).2), H.t.kp k (fun j hj => hX j (H.t.lt j hj).1 (H.t.lt j hj).2), H.a.kp k (fun j hj => hX j (H.a.lt j hj).1 (H.a.lt j hj).2), H.hs, H.ht, H.ha⟩

theorem Hp.setT {g c : Nat} (H : Hp w base h vs (.slice (some ⟨g, 0, none⟩) m c) va n m S T Q) (i x : Nat) : Hp (w.setCell ⟨g, i, none⟩ (.int .i64 (x : Int))) base h vs (.slice (some ⟨g, 0, none⟩) m c) va n m S (up1 T i x) Q := by
 refine ⟨H.blk.set_other (p := ⟨g, i, none⟩) (fun e => (H.ht g rfl).1 e.symm) _, H.low, H.s.set_other (p := ⟨g, i, none⟩) (fun j hj e => (H.hs j hj).2.1 (by rw [e]; rfl)) _, ?_, H.a.set_other (p := ⟨g, i, none⟩) (fun j hj e => (H.ht g rfl).2 (by rw [hj, e])) _, H.hs, H.ht, H.ha⟩
 rw [← nts_set]; exact H.t.set i _

theorem Hp.setA {g c k : Nat} (H : Hp w base h vs vt (.slice (some ⟨g, 0, none⟩) k c) n m S T Q) (i : Nat) (x : Int) : Hp (w.setCell ⟨g, i, none⟩ (.int .i64 x)) base h vs vt (.slice (some ⟨g, 0, none⟩) k c) n m S T (up1 Q i x) := by
 refine ⟨H.blk.set_other (p := ⟨g, i, none⟩) (fun e => H.ha g rfl e.symm) _, H.low, H.s.set_other (p := ⟨g, i, none⟩) (fun j hj e => (H.hs j hj).2.2 (by rw [e]; rfl)) _, H.t.set_other (p := ⟨g, i, none⟩) (fun j hj e => (H.ht j hj).2 (by rw [e]; rfl)) _, ?_, H.hs, H.ht, H.ha⟩
 rw [← zts_set]; exact H.a.set i _

end

set_option maxHeartbeats 400000 in
theorem score_Less (a b : Nat) (w : World) :
  Calls Tryz.prog 126 #[.float .f64 a, .float .f64 b] w fun e w' => e = .returned (.bool (lessB a b)) ∧ w = w' := by
 have ha := self_order a
 have hb := self_order b
 have fa : FloatKind.f64.format = Ieee.double := rfl
 by_cases h1 : (fk a).1 = -2
 ·have HO := Lib.hid (less_odd (.inl h1 : (fk a).1 = -2 ∨ (fk b).1 = -2))
  rw [h1] at ha
  have q1 : (FloatKind.f64.format.order a a != some .eq) = true := by rw [fa]; unfold bne; rw [ha]; simp
  obtain ⟨B, hB⟩ : ∃ B, (FloatKind.f64.format.order b b == some .eq) = B := ⟨_, rfl⟩
  rw [fa] at hB
  have HB := Lib.hid (show B = decide ((fk b).1 ≠ -2) by rw [← hB]; exact hb)
  have hB' : (FloatKind.f64.format.order b b == some .eq) = B := hB
  have H1 := Lib.hid h1
  clear ha hb h1 hB fa
  go_enter Tryz.func126, Tryz.ntmps126
  go_wp2
  go_ret
  rw [← HO.out, HB.out, H1.out]
  exact ⟨by simp, rfl⟩
 ·by_cases h2 : (fk b).1 = -2
  ·have HO := Lib.hid (less_odd (.inr h2 : (fk a).1 = -2 ∨ (fk b).1 = -2))
   have q1 : (FloatKind.f64.format.order a a != some .eq) = false := by rw [fa]; unfold bne; rw [ha]; simp [h1]
   have q2 : (FloatKind.f64.format.order b b != some .eq) = true := by rw [fa]; unfold bne; rw [hb]; simp [h2]
   have H1 := Lib.hid h1
   clear ha hb h1 fa h2
   go_enter Tryz.func126, Tryz.ntmps126
   go_wp2
   go_ret
   rw [← HO.out]
   exact ⟨by simp [H1.out], rfl⟩
  ·have HO := Lib.hid (less_lt h1 h2)
   have q1 : (FloatKind.f64.format.order a a != some .eq) = false := by rw [fa]; unfold bne; rw [ha]; simp [h1]
   have q2 : (FloatKind.f64.format.order b b != some .eq) = false := by rw [fa]; unfold bne; rw [hb]; simp [h2]
   clear ha hb h1 fa h2
   go_enter Tryz.func126, Tryz.ntmps126
   go_wp2
   go_ret
   rw [← HO.out]
   exact ⟨rfl, rfl⟩

set_option maxHeartbeats 400000 in
theorem heap_ahead {w : World} {base h n m : Nat} {vs vt va : Value} {S T : Nat → Nat} {Q : Nat → Int} (H : Hp w base h vs vt va n m S T Q) (hn : n ≤ 1048576) {a b : Nat} (ha : a < n) (hb : b < n) :
  Calls Tryz.prog 123 #[.pointer (some ⟨h, 0, none⟩), .int .i64 a, .int .i64 b] w fun e w' => e = .returned (.bool (aheadB S a b)) ∧ ∃ q, w' = w.drewN q := by
 obtain ⟨g, c, rfl, _, _⟩ := H.s.leads (by rw [fls_length]; omega)
 have hS := H.s
 rw [fls_length] at hS
 have c0 : w.cell? ⟨h, 0, none⟩ = some (.slice (some ⟨g, 0, none⟩) n c) := by have := H.blk.cell (i := 0) rfl; rw [fls_length] at this; exact this
 have ca := hS.cell (fls_at ha)
 have cb := hS.cell (fls_at hb)
 have a1 : (a : Int) < (n : Int) := by omega
 have b1 : (b : Int) < (n : Int) := by omega
 have a0 : (0 : Int) ≤ (a : Int) := by omega
 have b0 : (0 : Int) ≤ (b : Int) := by omega
 have HE := Lib.hid (show aheadB S a b = (lessB (S b) (S a) || (!lessB (S a) (S b) && decide (a < b))) from rfl)
 obtain ⟨x, hx⟩ : ∃ x, S a = x := ⟨_, rfl⟩
 obtain ⟨y, hy⟩ : ∃ y, S b = y := ⟨_, rfl⟩
 rw [hx] at ca HE
 rw [hy] at cb HE
 clear hx hy hS H
 by_cases l1 : lessB y x = true
 ·rw [l1] at HE
  go_enter Tryz.func123, Tryz.ntmps123
  go_wp2
  go_quiet (fail)
  go_wp2_with fail
  refine (score_Less _ _ _).mono ?_
  rintro e w' ⟨rfl, rfl⟩
  rw [l1]
  go_wp2_with fail
  go_ret
  rw [HE.out]
  exact ⟨rfl, _, rfl⟩
 ·have l1' : lessB y x = false := by simpa using l1
  rw [l1'] at HE
  by_cases l2 : lessB x y = true
  ·rw [l2] at HE
   go_enter Tryz.func123, Tryz.ntmps123
   go_wp2
   go_quiet (fail)
   go_wp2_with fail
   refine (score_Less _ _ _).mono ?_
   rintro e w' ⟨rfl, rfl⟩
   rw [l1']
   go_wp2_with fail
   refine (score_Less _ _ _).mono ?_
   rintro e w' ⟨rfl, rfl⟩
   rw [l2]
   go_wp2_with fail
   go_ret
   rw [HE.out]
   exact ⟨rfl, _, rfl⟩
  ·have l2' : lessB x y = false := by simpa using l2
   rw [l2'] at HE
   go_enter Tryz.func123, Tryz.ntmps123
   go_wp2
   go_quiet (fail)
   go_wp2_with fail
   refine (score_Less _ _ _).mono ?_
   rintro e w' ⟨rfl, rfl⟩
   rw [l1']
   go_wp2_with fail
   refine (score_Less _ _ _).mono ?_
   rintro e w' ⟨rfl, rfl⟩
   rw [l2']
   go_wp2_with fail
   go_ret
   rw [HE.out]
   exact ⟨by simp, _, rfl⟩

end Go.Proofs.YtnoknecfdnjomaaGreat

/-
  heap.swap, with the heap's own blocks as the frame. (Printed by mkhf.py out of HeapSwap.)
-/
namespace Go.Proofs.YtnoknecfdnjomaaGreat
open Go.RowKit

def HB (h : Nat) (vs vt va : Value) (j : Nat) : Prop := j = h ∨ vs.ownBlock = some j ∨ vt.ownBlock = some j ∨ va.ownBlock = some j
theorem HB.h {h : Nat} {vs vt va : Value} : HB h vs vt va h := .inl rfl
theorem HB.t {h g n c : Nat} {vs va : Value} : HB h vs (.slice (some ⟨g, 0, none⟩) n c) va g := .inr (.inr (.inl rfl))
theorem HB.a {h g n c : Nat} {vs vt : Value} : HB h vs vt (.slice (some ⟨g, 0, none⟩) n c) g := .inr (.inr (.inr rfl))

def Sub2 (T' T : Nat → Nat) (m : Nat) : Prop := Sub T' m T m ∧ Sub T m T' m
theorem Sub2.refl (T : Nat → Nat) (m : Nat) : Sub2 T T m := ⟨Sub.refl _ _, Sub.refl _ _⟩
theorem Sub2.trans {T1 T2 T3 : Nat → Nat} {m : Nat} (h : Sub2 T1 T2 m) (k : Sub2 T2 T3 m) : Sub2 T1 T3 m := ⟨h.1.trans k.1, k.2.trans h.2⟩
theorem sw_sw (T : Nat → Nat) (i k : Nat) : Go.Proofs.YtnoknecfdnjomaaGreat.sw (Go.Proofs.YtnoknecfdnjomaaGreat.sw T i k) i k = T := by
 funext j
 by_cases h1 : j = i
 ·subst h1; rw [sw_l, sw_r]
 ·by_cases h2 : j = k
  ·subst h2; rw [sw_r, sw_l]
  ·rw [sw_o h1 h2, sw_o h1 h2]
theorem Sub2.sw {T : Nat → Nat} {m i k : Nat} (hi : i < m) (hk : k < m) : Sub2 (Go.Proofs.YtnoknecfdnjomaaGreat.sw T i k) T m := ⟨Sub.sw hi hk, by
 have := Sub.sw (T := Go.Proofs.YtnoknecfdnjomaaGreat.sw T i k) hi hk
 rw [sw_sw] at this
 exact this⟩
theorem Sub2.iff {T' T : Nat → Nat} {m : Nat} (h : Sub2 T' T m) (x : Nat) : (∃ j, j < m ∧ T' j = x) ↔ ∃ j, j < m ∧ T j = x := by
 constructor
 ·rintro ⟨j, hj, rfl⟩
  obtain ⟨k, hk, e⟩ := h.1 j hj
  exact ⟨k, hk, e.symm⟩
 ·rintro ⟨j, hj, rfl⟩
  obtain ⟨k, hk, e⟩ := h.2 j hj
  exact ⟨k, hk, e.symm⟩

set_option maxRecDepth 100000 in
set_option maxHeartbeats 2000000 in
theorem hf_swap {w : World} {base h n m : Nat} {vs vt va : Value} {S T : Nat → Nat} {Q : Nat → Int} (H : Hp w base h vs vt va n m S T Q) (hI : Inv n m T Q) (hn : n ≤ 1048576) (hm : m ≤ 1048576) {i k : Nat} (hi : i < m) (hk : k < m) :
  Calls Tryz.prog 112 #[.pointer (some ⟨h, 0, none⟩), .int .i64 i, .int .i64 k] w fun e w' =>
   e = .returned (.tuple #[]) ∧ Hp w' base h vs vt va n m S (sw T i k) (swQ T Q i k) ∧ Kp (HB h vs vt va) w w' := by
 obtain ⟨gt, ct, rfl, hgt, _⟩ := H.t.leads (by rw [nts_length]; omega)
 have hTi := (hI.here i hi).1
 have hTk := (hI.here k hk).1
 obtain ⟨ga, ca, rfl, hga, _⟩ := H.a.leads (by rw [zts_length]; omega)
 rw [nts_length, zts_length] at *
 have c1 : w.cell? ⟨h, 1, none⟩ = some (.slice (some ⟨gt, 0, none⟩) m ct) := H.blk.cell (i := 1) rfl
 have hci := H.t.cell (nts_at hi)
 have hck := H.t.cell (nts_at hk)
 have hfi := H.t.free i
 have hfk := H.t.free k
 have i1 : (i : Int) < (m : Int) := by omega
 have k1 : (k : Int) < (m : Int) := by omega
 have i0 : (0 : Int) ≤ (i : Int) := by omega
 have k0 : (0 : Int) ≤ (k : Int) := by omega
 obtain ⟨v', hv'⟩ := cell_after_set (p := ⟨gt, i, none⟩) (.int .i64 (T k : Int)) hck
 have H1 : Hp ((w.setCell ⟨gt, i, none⟩ (.int .i64 (T k : Int))).setCell ⟨gt, k, none⟩ (.int .i64 (T i : Int))).drew base h vs (.slice (some ⟨gt, 0, none⟩) m ct) (.slice (some ⟨ga, 0, none⟩) n ca) n m S (sw T i k) Q := by
  rw [← sw_up1]; exact ((H.setT i (T k)).setT k (T i)).drew
 have hK1 : Kp (HB h vs (.slice (some ⟨gt, 0, none⟩) m ct) (.slice (some ⟨ga, 0, none⟩) n ca)) w ((w.setCell ⟨gt, i, none⟩ (.int .i64 (T k : Int))).setCell ⟨gt, k, none⟩ (.int .i64 (T i : Int))).drew :=
  (((Kp.refl (HB h vs (.slice (some ⟨gt, 0, none⟩) m ct) (.slice (some ⟨ga, 0, none⟩) n ca)) w).setCell (p := ⟨gt, i, none⟩) (fun _ => HB.t) _).setCell (p := ⟨gt, k, none⟩) (fun _ => HB.t) _).drew
 clear H
 have HI := Lib.hid hI; clear hI
 go_enter Tryz.func112, Tryz.ntmps112
 go_wp2
 go_region
 all_goals generalize ((w.setCell ⟨gt, i, none⟩ (.int .i64 (T k : Int))).setCell ⟨gt, k, none⟩ (.int .i64 (T i : Int))).drew = w1 at *
 have d1 : Hp (w1.setCell ⟨ga, T k, none⟩ (.int .i64 (i : Int))) base h vs (.slice (some ⟨gt, 0, none⟩) m ct) (.slice (some ⟨ga, 0, none⟩) n ca) n m S (sw T i k) (up1 Q (sw T i k i) (i : Int)) := by
  rw [sw_l]; exact H1.setA (T k) i
 have H2 : Hp ((w1.setCell ⟨ga, T k, none⟩ (.int .i64 (i : Int))).setCell ⟨ga, T i, none⟩ (.int .i64 (k : Int))).drew base h vs (.slice (some ⟨gt, 0, none⟩) m ct) (.slice (some ⟨ga, 0, none⟩) n ca) n m S (sw T i k) (swQ T Q i k) := by
  unfold swQ
  rw [sw_r]
  exact (d1.setA (T i) k).drew
 have hK2 : Kp (HB h vs (.slice (some ⟨gt, 0, none⟩) m ct) (.slice (some ⟨ga, 0, none⟩) n ca)) w ((w1.setCell ⟨ga, T k, none⟩ (.int .i64 (i : Int))).setCell ⟨ga, T i, none⟩ (.int .i64 (k : Int))).drew :=
  ((hK1.setCell (p := ⟨ga, T k, none⟩) (fun _ => HB.a) _).setCell (p := ⟨ga, T i, none⟩) (fun _ => HB.a) _).drew
 clear hck hci hfi hfk c1 hv'
 have c1 : w1.cell? ⟨h, 1, none⟩ = some (.slice (some ⟨gt, 0, none⟩) m ct) := H1.blk.cell (i := 1) rfl
 have c2 : w1.cell? ⟨h, 2, none⟩ = some (.slice (some ⟨ga, 0, none⟩) n ca) := H1.blk.cell (i := 2) rfl
 have hci := H1.t.cell (nts_at hi)
 have hck := H1.t.cell (nts_at hk)
 have hai := H1.a.cell (zts_at hTi)
 have hak := H1.a.cell (zts_at hTk)
 have hfi := H1.a.free (T i)
 have hfk := H1.a.free (T k)
 have e1 : (w1.setCell ⟨ga, T k, none⟩ (.int .i64 (i : Int))).drew.cell? ⟨h, 1, none⟩ = some (.slice (some ⟨gt, 0, none⟩) m ct) := d1.blk.cell (i := 1) rfl
 have e2 : (w1.setCell ⟨ga, T k, none⟩ (.int .i64 (i : Int))).drew.cell? ⟨h, 2, none⟩ = some (.slice (some ⟨ga, 0, none⟩) n ca) := d1.blk.cell (i := 2) rfl
 have e3 : (w1.setCell ⟨ga, T k, none⟩ (.int .i64 (i : Int))).drew.cell? ⟨gt, k, none⟩ = some (.int .i64 (T i : Int)) := by have := d1.t.cell (nts_at hk); rw [sw_r] at this; exact this
 have e5 : (w1.setCell ⟨ga, T k, none⟩ (.int .i64 (i : Int))).drew.cell? ⟨gt, i, none⟩ = some (.int .i64 (T k : Int)) := by have := d1.t.cell (nts_at hi); rw [sw_l] at this; exact this
 have f1 : ((w1.setCell ⟨ga, T k, none⟩ (.int .i64 (i : Int))).setCell ⟨ga, T i, none⟩ (.int .i64 (k : Int))).drew.cell? ⟨h, 1, none⟩ = some (.slice (some ⟨gt, 0, none⟩) m ct) := H2.blk.cell (i := 1) rfl
 have f2 : ((w1.setCell ⟨ga, T k, none⟩ (.int .i64 (i : Int))).setCell ⟨ga, T i, none⟩ (.int .i64 (k : Int))).drew.cell? ⟨h, 2, none⟩ = some (.slice (some ⟨ga, 0, none⟩) n ca) := H2.blk.cell (i := 2) rfl
 have f3 : ((w1.setCell ⟨ga, T k, none⟩ (.int .i64 (i : Int))).setCell ⟨ga, T i, none⟩ (.int .i64 (k : Int))).drew.cell? ⟨gt, k, none⟩ = some (.int .i64 (T i : Int)) := by have := H2.t.cell (nts_at hk); rw [sw_r] at this; exact this
 have f5 : ((w1.setCell ⟨ga, T k, none⟩ (.int .i64 (i : Int))).setCell ⟨ga, T i, none⟩ (.int .i64 (k : Int))).drew.cell? ⟨gt, i, none⟩ = some (.int .i64 (T k : Int)) := by have := H2.t.cell (nts_at hi); rw [sw_l] at this; exact this
 obtain ⟨u, e4⟩ := cell_after_set (p := ⟨ga, T k, none⟩) (.int .i64 (i : Int)) hai
 rw [sw_l] at hci
 rw [sw_r] at hck
 clear H1 hK1 d1 v'
 obtain ⟨x, hx⟩ : ∃ x, T i = x := ⟨_, rfl⟩
 obtain ⟨y, hy⟩ : ∃ y, T k = y := ⟨_, rfl⟩
 rw [hx] at hTi hck e3 e4 f1 f2 f3 f5 hfi hai H2 hK2
 rw [hy] at hTk hci e1 e2 e3 e4 e5 f1 f2 f3 f5 hfk hak H2 hK2
 have x1 : (x : Int) < (n : Int) := by omega
 have y1 : (y : Int) < (n : Int) := by omega
 have x0 : (0 : Int) ≤ (x : Int) := by omega
 have y0 : (0 : Int) ≤ (y : Int) := by omega
 rw [hx, hy]
 clear hx hy
 have HE := Lib.hid (And.intro e1 (And.intro e2 (And.intro e5 e3)))
 have HF := Lib.hid (And.intro f1 (And.intro f2 (And.intro f5 f3)))
 have HC := Lib.hid (And.intro c1 (And.intro c2 (And.intro hci hck)))
 have HEnd := Lib.hid (And.intro H2 hK2)
 clear e1 e2 e3 e5 f1 f2 f3 f5 H2 hK2 HI
 go_wp2
 go_region_held3 (fun u => u.cell? ⟨h, 1, none⟩ = some (.slice (some ⟨gt, 0, none⟩) m ct) ∧ u.cell? ⟨h, 2, none⟩ = some (.slice (some ⟨ga, 0, none⟩) n ca) ∧ u.cell? ⟨gt, i, none⟩ = some (.int .i64 (y : Int)) ∧ u.cell? ⟨gt, k, none⟩ = some (.int .i64 (x : Int))) (first | exact HC.out | exact HE.out | exact HF.out) (fail)
 all_goals go_wp2
 all_goals go_end0
 all_goals exact ⟨rfl, HEnd.out⟩

end Go.Proofs.YtnoknecfdnjomaaGreat
