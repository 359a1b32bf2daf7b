/-
  What wit.Read's cells hold between two rounds, and behind the last one.
-/
import Derived.Test.YtcnegeggecmncaaGreatDoorM8
import Derived.OwnWalkIn
import Derived.RangeFuncNested
import Derived.RangeFuncCalls
import Derived.OrdersHeld
import Derived.Deep.RegionHeld3
import Derived.Sort.CutIn
import Derived.Outline
import Derived.Deep.DeepCutAuto
import Derived.Test.YtcnegeggecmncaaGreatDoorM1
import Derived.Test.YtcnegeggecmncaaGreatDoorM2
import Derived.Test.YtcnegeggecmncaaGreatDoorM6
set_option linter.unusedVariables false
set_option linter.unusedSimpArgs false
namespace Go.Proofs.YtcnegeggecmncaaGreatDoor
open Go.RowKit Go.Shelf

/-- a witness as a value -/
def WitSl (W : World) (v : Value) (d : WitD) : Prop := ∃ v2 v3, v = .agg #[.int .i64 d.kind, .int .i64 d.prop, v2, v3] ∧ BoolsSl W v2 d.start ∧ GridSl W v3 d.ins

def WReadP (w : World) (s : ByteArray) (o : WitO) (e : Ending) (w' : World) : Prop :=
  (∃ v, e = .returned (.tuple #[v, .int .i64 (o.at_ s), .int .i64 o.e]) ∧ WitSl w' v o.w) ∧ Kp (fun _ => False) w w'

theorem own_cells {w : World} {base : Nat} {e : TypeId} {v : Value} {cs : List Value} (h : Own w base e v cs) {j : Nat} (hj : v.ownBlock = some j) : ∃ o, w.heap[j]? = some o ∧ o.isCells = true := by
  rcases h.2 with ⟨rfl, hn⟩ | ⟨g, cap, cur, rfl, hb, hgg, rest⟩
  · cases hj
  · cases hj
    exact ⟨_, hgg, rfl⟩

theorem blk_cells {w : World} {b : Nat} {c : Array Value} {t : TypeId} (h : Blk w b c t) : ∃ o, w.heap[b]? = some o ∧ o.isCells = true := ⟨_, h, rfl⟩

/-- S holds blocks of the call's own that are no cells -/
def NoCells (n : Nat) (W : World) (S : Nat → Prop) : Prop := ∀ j, S j → n ≤ j ∧ ∀ o, W.heap[j]? = some o → o.isCells = false

theorem NoCells.none (n : Nat) (W : World) : NoCells n W (fun _ => False) := fun _ h => h.elim

theorem NoCells.blk {n : Nat} {W : World} {S : Nat → Prop} (h : NoCells n W S) {b : Nat} {c : Array Value} {t : TypeId} (hb : Blk W b c t) : ¬ S b := fun hs => by
  have := (h b hs).2 _ hb
  cases this

theorem NoCells.own {n : Nat} {W : World} {S : Nat → Prop} (h : NoCells n W S) {base : Nat} {e : TypeId} {v : Value} {cs : List Value} (ho : Own W base e v cs) : ∀ j, v.ownBlock = some j → ¬ S j := fun j hj hs => by
  obtain ⟨o, h1, h2⟩ := own_cells ho hj
  rw [(h j hs).2 _ h1] at h2
  cases h2

/-- rows of signs, each in a block of its own -/
structure OwnRows (W : World) (n : Nat) (v : Value) (rows : List Value) (ins : List (List Bool)) : Prop where
  own : Own W n 28 v rows
  len : rows.length = ins.length
  row : ∀ (j : Nat) (r : Value) (x : List Bool), rows[j]? = some r → ins[j]? = some x → Own W n 4 r (x.map Value.bool)

theorem OwnRows.kp {W W' : World} {n m : Nat} {v : Value} {rows : List Value} {ins : List (List Bool)} (h : OwnRows W n v rows ins) {S : Nat → Prop} (k : Kp S W W') (hS : NoCells m W S) : OwnRows W' n v rows ins :=
  ⟨h.own.kp k (hS.own h.own), h.len, fun j r x h1 h2 => (h.row j r x h1 h2).kp k (hS.own (h.row j r x h1 h2))⟩

/-- the cells that no round turns but the last -/
structure St0 (w : World) (s : ByteArray) (la inp : Int) (W : World) (k : Nat) : Prop where
  b0 : Blk W w.heap.size #[.string s] 9
  b1 : Blk W (w.heap.size + 1) #[.int .i64 la] 3
  b2 : Blk W (w.heap.size + 2) #[.int .i64 inp] 3
  b3 : Blk W (w.heap.size + 3) #[.int .i64 0, .int .i64 0, .slice none 0 0, .slice none 0 0] 33
  b4 : Blk W (w.heap.size + 4) #[.int .i64 0] 3
  b5 : Blk W (w.heap.size + 5) #[.int .i64 0] 42
  b6 : Blk W (w.heap.size + 6) #[.int .i64 0, .int .i64 0, .slice none 0 0, .slice none 0 0] 33
  b8 : Blk W (w.heap.size + 8) #[.int .i64 k] 3
  b9 : Blk W (w.heap.size + 9) #[.string s] 9
  kp : Kp (fun j => w.heap.size ≤ j) w W

theorem St0.far {w : World} {s : ByteArray} {la inp : Int} {W W' : World} {k : Nat} (h : St0 w s la inp W k) {S : Nat → Prop} (q : Kp S W W') (hS : ∀ j, S j → j = w.heap.size + 7 ∨ w.heap.size + 10 ≤ j) : St0 w s la inp W' k := by
  have hn : ∀ i, i < 10 → i ≠ 7 → ¬ S (w.heap.size + i) := fun i h1 h2 hs => by have := hS _ hs; omega
  exact ⟨h.b0.kp q (hn 0 (by omega) (by omega)), h.b1.kp q (hn 1 (by omega) (by omega)), h.b2.kp q (hn 2 (by omega) (by omega)), h.b3.kp q (hn 3 (by omega) (by omega)), h.b4.kp q (hn 4 (by omega) (by omega)), h.b5.kp q (hn 5 (by omega) (by omega)), h.b6.kp q (hn 6 (by omega) (by omega)),
    h.b8.kp q (hn 8 (by omega) (by omega)), h.b9.kp q (hn 9 (by omega) (by omega)), h.kp.trans q (fun i _ hs => by have := hS i hs; omega)⟩

theorem St0.kp0 {w : World} {s : ByteArray} {la inp : Int} {W W' : World} {k : Nat} (h : St0 w s la inp W k) (q : Kp (fun _ => False) W W') : St0 w s la inp W' k := h.far q (fun _ h => h.elim)

theorem St0.set7 {w : World} {s : ByteArray} {la inp : Int} {W : World} {k : Nat} (h : St0 w s la inp W k) (i : Nat) (v : Value) : St0 w s la inp (W.setCell ⟨w.heap.size + 7, i, none⟩ v) k :=
  h.far (Kp.set W ⟨w.heap.size + 7, i, none⟩ v) (fun _ e => .inl e)

theorem St0.next {w : World} {s : ByteArray} {la inp : Int} {W : World} {k : Nat} (h : St0 w s la inp W k) : St0 w s la inp (W.setCell ⟨w.heap.size + 8, 0, none⟩ (.int .i64 ((k : Int) + 1))) (k + 1) := by
  have q := Kp.set W ⟨w.heap.size + 8, 0, none⟩ (.int .i64 ((k : Int) + 1))
  have hn : ∀ i, i ≠ 8 → ¬ (w.heap.size + i = w.heap.size + 8) := fun i h => by omega
  exact ⟨h.b0.kp q (hn 0 (by omega)), h.b1.kp q (hn 1 (by omega)), h.b2.kp q (hn 2 (by omega)), h.b3.kp q (hn 3 (by omega)), h.b4.kp q (hn 4 (by omega)), h.b5.kp q (hn 5 (by omega)), h.b6.kp q (hn 6 (by omega)),
    h.b8.set_same 0 _, h.b9.kp q (hn 9 (by omega)), h.kp.trans q (fun i _ hs => by simp only at hs; omega)⟩

theorem St0.keep {w : World} {s : ByteArray} {la inp : Int} {W W' : World} {k : Nat} (h : St0 w s la inp W k) {S : Nat → Prop} (q : Kp S W W') (hS : NoCells w.heap.size W S) : St0 w s la inp W' k :=
  ⟨h.b0.kp q (hS.blk h.b0), h.b1.kp q (hS.blk h.b1), h.b2.kp q (hS.blk h.b2), h.b3.kp q (hS.blk h.b3), h.b4.kp q (hS.blk h.b4), h.b5.kp q (hS.blk h.b5), h.b6.kp q (hS.blk h.b6),
    h.b8.kp q (hS.blk h.b8), h.b9.kp q (hS.blk h.b9), h.kp.trans q (fun i _ hs => (hS i hs).1)⟩

structure St (w : World) (s : ByteArray) (la inp : Int) (W : World) (d : WitD) (k : Nat) (v2 v3 : Value) (rows : List Value) : Prop where
  st : St0 w s la inp W k
  b7 : Blk W (w.heap.size + 7) #[.int .i64 d.kind, .int .i64 d.prop, v2, v3] 33
  o2 : Own W (w.heap.size + 10) 4 v2 (d.start.map Value.bool)
  o3 : OwnRows W (w.heap.size + 10) v3 rows d.ins

theorem St.keep {w : World} {s : ByteArray} {la inp : Int} {W W' : World} {d : WitD} {k : Nat} {v2 v3 : Value} {rows : List Value} (h : St w s la inp W d k v2 v3 rows) {S : Nat → Prop} (q : Kp S W W') (hS : NoCells w.heap.size W S) : St w s la inp W' d k v2 v3 rows :=
  ⟨h.st.keep q hS, h.b7.kp q (hS.blk h.b7), h.o2.kp q (hS.own h.o2), h.o3.kp q hS⟩

/-- what a round may do, from its start on -/
structure Rd (n : Nat) (W W' : World) : Prop where
  kf : KeepsFrom (n + 10) W W'
  kb : KeepB (n + 9) W W'

theorem Rd.refl (n : Nat) (W : World) : Rd n W W := ⟨KeepsFrom.refl _ _, KeepB.refl _ _⟩

theorem Rd.kp {n : Nat} {W A B : World} (h : Rd n W A) (k : Kp (fun _ => False) A B) : Rd n W B :=
  ⟨h.kf.trans ⟨k.size, fun j _o _ hj _ => (k.block j (Array.getElem?_eq_some_iff.1 hj).1 (fun h => h)).trans hj⟩, h.kb.trans ⟨k.size, fun hl => k.block _ hl (fun h => h)⟩⟩

theorem Rd.set {n : Nat} {W A : World} (h : Rd n W A) {b : Nat} (i : Nat) (hb : b < n + 9) (v : Value) : Rd n W (A.setCell ⟨b, i, none⟩ v) := by
  have q := Kp.set A ⟨b, i, none⟩ v
  exact ⟨h.kf.trans ((KeepsOthers.setCell A _ v).from _), h.kb.trans ⟨q.size, fun hl => q.block _ hl (by simp only; omega)⟩⟩

theorem Rd.alloc {n : Nat} {W A : World} (h : Rd n W A) (o : Obj) : Rd n W (A.alloc o) := h.kp ((Kp.refl (fun _ => False) A).alloc o)

theorem Rd.drew {n : Nat} {W A : World} (h : Rd n W A) : Rd n W A.drew := h.kp (Kp.refl (fun _ => False) A).drew

theorem Rd.grown {n : Nat} {W A B : World} (h : Rd n W A) {v : Value} {e : TypeId} {cs : List Value} (ho : Own A (n + 10) e v cs) (hg : A.grownBy B v.ownBlock) : Rd n W B := by
  have q := (Kp.refl (fun j => v.ownBlock = some j) A).grown hg (fun _ e _ => e)
  refine ⟨h.kf.trans ((KeepsOthers.of_grownBy hg (fun j o e ho' => ?_)).from _), h.kb.trans ⟨q.size, fun hl => q.block _ hl (fun e => ?_)⟩⟩
  · obtain ⟨o', h1, h2⟩ := own_cells ho e
    rw [h1] at ho'
    rw [← Option.some.inj ho']; exact h2
  · have := (ho.lt _ e).1; omega

/-- what is handed back lies in the cells -/
structure Res (w : World) (s : ByteArray) (W : World) (o : WitO) (v2 v3 : Value) (rows : List Value) : Prop where
  b3 : Blk W (w.heap.size + 3) #[.int .i64 o.w.kind, .int .i64 o.w.prop, v2, v3] 33
  b4 : Blk W (w.heap.size + 4) #[.int .i64 (o.at_ s)] 3
  b5 : Blk W (w.heap.size + 5) #[.int .i64 o.e] 42
  o2 : Own W (w.heap.size + 10) 4 v2 (o.w.start.map Value.bool)
  o3 : OwnRows W (w.heap.size + 10) v3 rows o.w.ins
  kp : Kp (fun j => w.heap.size ≤ j) w W

theorem Res.keep {w : World} {s : ByteArray} {W W' : World} {o : WitO} {v2 v3 : Value} {rows : List Value} (h : Res w s W o v2 v3 rows) {S : Nat → Prop} (q : Kp S W W') (hS : NoCells w.heap.size W S) : Res w s W' o v2 v3 rows :=
  ⟨h.b3.kp q (hS.blk h.b3), h.b4.kp q (hS.blk h.b4), h.b5.kp q (hS.blk h.b5), h.o2.kp q (hS.own h.o2), h.o3.kp q hS, h.kp.trans q (fun i _ hs => (hS i hs).1)⟩

/-- a turn of a block that is no cells -/
theorem grown_nocells {n : Nat} {W W' : World} {row : Option Nat} (hg : W.grownBy W' row) (hr : ∀ r, row = some r → n ≤ r ∧ ∃ o : Obj, W.heap[r]? = some o ∧ o.isCells = false) : Kp (fun j => row = some j) W W' ∧ NoCells n W (fun j => row = some j) :=
  ⟨(Kp.refl (fun j => row = some j) W).grown hg (fun _ e _ => e), fun j e => ⟨(hr j e).1, fun o ho => by
    obtain ⟨_, o', h1, h2⟩ := hr j e
    rw [h1] at ho
    rw [← Option.some.inj ho]; exact h2⟩⟩

theorem wit_start (w : World) (s : ByteArray) (la inp : Int) :
    St w s la inp ((((((((((w.alloc (.cells #[.string s] 9)).alloc (.cells #[.int .i64 la] 3)).alloc (.cells #[.int .i64 inp] 3)).alloc (.cells #[.int .i64 0, .int .i64 0, .slice none 0 0, .slice none 0 0] 33)).alloc (.cells #[.int .i64 0] 3)).alloc (.cells #[.int .i64 0] 42)).alloc (.cells #[.int .i64 0, .int .i64 0, .slice none 0 0, .slice none 0 0] 33)).alloc (.cells #[.int .i64 0, .int .i64 0, .slice none 0 0, .slice none 0 0] 33)).alloc (.cells #[.int .i64 0] 3)).alloc (.cells #[.string s] 9)) wit0 0 (.slice none 0 0) (.slice none 0 0) [] := by
  have new : ∀ (u : World) (c : Array Value) (t : TypeId) (b : Nat), u.heap.size = b → Blk (u.alloc (.cells c t)) b c t := fun u c t b h => by subst h; exact Blk.new u c t
  refine ⟨⟨?_, ?_, ?_, ?_, ?_, ?_, ?_, ?_, ?_, ?_⟩, ?_, Own.nil _ _ _, ⟨Own.nil _ _ _, rfl, fun j r x h => by cases h⟩⟩
  · exact ((((((((((new _ _ _ _ rfl).alloc _).alloc _).alloc _).alloc _).alloc _).alloc _).alloc _).alloc _).alloc _)
  · exact (((((((((new _ _ _ _ (by simp)).alloc _).alloc _).alloc _).alloc _).alloc _).alloc _).alloc _).alloc _)
  · exact ((((((((new _ _ _ _ (by simp)).alloc _).alloc _).alloc _).alloc _).alloc _).alloc _).alloc _)
  · exact (((((((new _ _ _ _ (by simp)).alloc _).alloc _).alloc _).alloc _).alloc _).alloc _)
  · exact ((((((new _ _ _ _ (by simp)).alloc _).alloc _).alloc _).alloc _).alloc _)
  · exact (((((new _ _ _ _ (by simp)).alloc _).alloc _).alloc _).alloc _)
  · exact ((((new _ _ _ _ (by simp)).alloc _).alloc _).alloc _)
  · exact ((new _ _ _ _ (by simp)).alloc _)
  · exact (new _ _ _ _ (by simp))
  · exact ((((((((((Kp.refl _ w).alloc _).alloc _).alloc _).alloc _).alloc _).alloc _).alloc _).alloc _).alloc _).alloc _
  · exact (((new _ _ _ _ (by simp)).alloc _).alloc _)

end Go.Proofs.YtcnegeggecmncaaGreatDoor

/-
  wit.Read: how a round ends the loop; what stands between the two switches.
-/
namespace Go.Proofs.YtcnegeggecmncaaGreatDoor
open Go.RowKit Go.Shelf

theorem ML.own {w W : World} (h : ML w) (q : Kp (fun j => w.heap.size ≤ j) w W) : ML W := by
  obtain ⟨m, hm⟩ := h
  have hlt := World.block_lt_of_cell? w _ hm
  exact ⟨m, (World.cell?_of_block (w := w) (w' := W) (a := ⟨0, 0, none⟩) (q.block _ hlt (fun hs => absurd hlt (Nat.not_lt.2 hs)))).trans hm⟩

theorem exit_world {w : World} {s : ByteArray} {la inp : Int} {W : World} {k : Nat} (h : St0 w s la inp W k) (x0 x1 u2 u3 p e : Value) {W' : World}
    (hW : W' = ((((((W.setCell ⟨w.heap.size + 3, 0, none⟩ x0).setCell ⟨w.heap.size + 3, 1, none⟩ x1).setCell ⟨w.heap.size + 3, 2, none⟩ u2).setCell ⟨w.heap.size + 3, 3, none⟩ u3).setCell ⟨w.heap.size + 4, 0, none⟩ p).setCell ⟨w.heap.size + 5, 0, none⟩ e).drew) :
    Rd w.heap.size W W' ∧ Blk W' (w.heap.size + 3) #[x0, x1, u2, u3] 33 ∧ Blk W' (w.heap.size + 4) #[p] 3 ∧ Blk W' (w.heap.size + 5) #[e] 42 ∧ Kp (fun j => w.heap.size ≤ j) w W' ∧
      Kp (fun j => j = w.heap.size + 3 ∨ j = w.heap.size + 4 ∨ j = w.heap.size + 5) W W' := by
  have q : ∀ A : World, Kp (fun j => j = w.heap.size + 3 ∨ j = w.heap.size + 4 ∨ j = w.heap.size + 5) W A → ∀ b i v, (b = w.heap.size + 3 ∨ b = w.heap.size + 4 ∨ b = w.heap.size + 5) → Kp (fun j => j = w.heap.size + 3 ∨ j = w.heap.size + 4 ∨ j = w.heap.size + 5) W (A.setCell ⟨b, i, none⟩ v) :=
    fun A hA b i v hb => hA.setCell (p := ⟨b, i, none⟩) (fun _ => hb) v
  have r : ∀ A : World, Rd w.heap.size W A → ∀ b i v, (b = w.heap.size + 3 ∨ b = w.heap.size + 4 ∨ b = w.heap.size + 5) → Rd w.heap.size W (A.setCell ⟨b, i, none⟩ v) :=
    fun A hA b i v hb => hA.set i (by omega) v
  have q3 := q _ (q _ (q _ (q _ (q _ (q _ (Kp.refl _ W) (w.heap.size + 3) 0 x0 (.inl rfl)) (w.heap.size + 3) 1 x1 (.inl rfl)) (w.heap.size + 3) 2 u2 (.inl rfl)) (w.heap.size + 3) 3 u3 (.inl rfl)) (w.heap.size + 4) 0 p (.inr (.inl rfl))) (w.heap.size + 5) 0 e (.inr (.inr rfl))
  have r3 := r _ (r _ (r _ (r _ (r _ (r _ (Rd.refl _ W) (w.heap.size + 3) 0 x0 (.inl rfl)) (w.heap.size + 3) 1 x1 (.inl rfl)) (w.heap.size + 3) 2 u2 (.inl rfl)) (w.heap.size + 3) 3 u3 (.inl rfl)) (w.heap.size + 4) 0 p (.inr (.inl rfl))) (w.heap.size + 5) 0 e (.inr (.inr rfl))
  subst hW
  refine ⟨r3.drew, ?_, ?_, ?_, h.kp.trans q3.drew (fun i _ hs => by omega), q3.drew⟩
  · have b := ((((h.b3.set_same 0 x0).set_same 1 x1).set_same 2 u2).set_same 3 u3)
    exact ((b.set_other (p := ⟨w.heap.size + 4, 0, none⟩) (by simp) p).set_other (p := ⟨w.heap.size + 5, 0, none⟩) (by simp) e).drew
  · have b := ((((h.b4.set_other (p := ⟨w.heap.size + 3, 0, none⟩) (by simp) x0).set_other (p := ⟨w.heap.size + 3, 1, none⟩) (by simp) x1).set_other (p := ⟨w.heap.size + 3, 2, none⟩) (by simp) u2).set_other (p := ⟨w.heap.size + 3, 3, none⟩) (by simp) u3)
    exact ((b.set_same 0 p).set_other (p := ⟨w.heap.size + 5, 0, none⟩) (by simp) e).drew
  · have b := ((((h.b5.set_other (p := ⟨w.heap.size + 3, 0, none⟩) (by simp) x0).set_other (p := ⟨w.heap.size + 3, 1, none⟩) (by simp) x1).set_other (p := ⟨w.heap.size + 3, 2, none⟩) (by simp) u2).set_other (p := ⟨w.heap.size + 3, 3, none⟩) (by simp) u3)
    exact ((b.set_other (p := ⟨w.heap.size + 4, 0, none⟩) (by simp) p).set_same 0 e).drew

theorem exit_bad {w : World} {s : ByteArray} {la inp : Int} {W : World} {k : Nat} (h : St0 w s la inp W k) (p e : Nat) {W' : World}
    (hW : W' = ((((((W.setCell ⟨w.heap.size + 3, 0, none⟩ (.int .i64 0)).setCell ⟨w.heap.size + 3, 1, none⟩ (.int .i64 0)).setCell ⟨w.heap.size + 3, 2, none⟩ (.slice none 0 0)).setCell ⟨w.heap.size + 3, 3, none⟩ (.slice none 0 0)).setCell ⟨w.heap.size + 4, 0, none⟩ (.int .i64 p)).setCell ⟨w.heap.size + 5, 0, none⟩ (.int .i64 e)).drew) :
    Rd w.heap.size W W' ∧ Res w s W' (.bad p e) (.slice none 0 0) (.slice none 0 0) [] := by
  obtain ⟨r, b3, b4, b5, kp, _⟩ := exit_world h _ _ _ _ _ _ hW
  exact ⟨r, b3, b4, b5, Own.nil _ _ _, ⟨Own.nil _ _ _, rfl, fun j r x h => by cases h⟩, kp⟩

theorem exit_ok {w : World} {s : ByteArray} {la inp : Int} {W : World} {d : WitD} {k : Nat} {v2 v3 : Value} {rows : List Value} (h : St w s la inp W d k v2 v3 rows) {W' : World}
    (hW : W' = ((((((W.setCell ⟨w.heap.size + 3, 0, none⟩ (.int .i64 d.kind)).setCell ⟨w.heap.size + 3, 1, none⟩ (.int .i64 d.prop)).setCell ⟨w.heap.size + 3, 2, none⟩ v2).setCell ⟨w.heap.size + 3, 3, none⟩ v3).setCell ⟨w.heap.size + 4, 0, none⟩ (.int .i64 s.size)).setCell ⟨w.heap.size + 5, 0, none⟩ (.int .i64 0)).drew) :
    Rd w.heap.size W W' ∧ Res w s W' (.ok d) v2 v3 rows := by
  obtain ⟨r, b3, b4, b5, kp, q⟩ := exit_world h.st _ _ _ _ _ _ hW
  refine ⟨r, b3, b4, b5, h.o2.kp q (fun j hj e => ?_), ⟨h.o3.own.kp q (fun j hj e => ?_), h.o3.len, fun j r x h1 h2 => (h.o3.row j r x h1 h2).kp q (fun i hi e => ?_)⟩, kp⟩
  · have := (h.o2.lt j hj).1; omega
  · have := (h.o3.own.lt j hj).1; omega
  · have := ((h.o3.row j r x h1 h2).lt i hi).1; omega

theorem St.next {w : World} {s : ByteArray} {la inp : Int} {W : World} {d : WitD} {k : Nat} {v2 v3 : Value} {rows : List Value} (h : St w s la inp W d k v2 v3 rows) :
    St w s la inp (W.setCell ⟨w.heap.size + 8, 0, none⟩ (.int .i64 ((k : Int) + 1))) d (k + 1) v2 v3 rows := by
  have q := Kp.set W ⟨w.heap.size + 8, 0, none⟩ (.int .i64 ((k : Int) + 1))
  refine ⟨h.st.next, h.b7.kp q (fun e => by simp at e), h.o2.kp q (fun j hj e => ?_), ⟨h.o3.own.kp q (fun j hj e => ?_), h.o3.len, fun j r x h1 h2 => (h.o3.row j r x h1 h2).kp q (fun i hi e => ?_)⟩⟩
  · have := (h.o2.lt j hj).1; simp only at e; omega
  · have := (h.o3.own.lt j hj).1; simp only at e; omega
  · have := ((h.o3.row j r x h1 h2).lt i hi).1; simp only at e; omega

/-- what the first switch says of a line: is it good, is it the last -/
def MidX (la inp : Int) (k : Nat) (d : WitD) (t : ByteArray) (b o : Bool) (d' : WitD) : Prop :=
  (b = false → lastR t k d = false ∧ stepR t k la inp d = none) ∧ (b = true → o = false → lastR t k d = false ∧ stepR t k la inp d = some d') ∧ (b = true → o = true → lastR t k d = true ∧ d' = d)

structure Mid (w : World) (s : ByteArray) (la inp : Int) (W wx : World) (k BX : Nat) (t : ByteArray) (p q : Nat) (b : Bool) (d' : WitD) (v2 v3 : Value) (rows : List Value) : Prop where
  st : St0 w s la inp wx k
  bx : Blk wx BX #[.string t, .int .i64 p, .int .i64 q, .int .i64 0] 66
  rd : Rd w.heap.size W wx
  good : b = true → St w s la inp wx d' k v2 v3 rows

theorem St.kind {w : World} {s : ByteArray} {la inp : Int} {W : World} {d : WitD} {k : Nat} {v2 v3 : Value} {rows : List Value} (h : St w s la inp W d k v2 v3 rows) (m : Nat) :
    St w s la inp (W.setCell ⟨w.heap.size + 7, 0, none⟩ (.int .i64 m)) { d with kind := m } k v2 v3 rows := by
  have q := Kp.set W ⟨w.heap.size + 7, 0, none⟩ (.int .i64 m)
  refine ⟨h.st.set7 0 _, h.b7.set_same 0 _, h.o2.kp q (fun j hj e => ?_), ⟨h.o3.own.kp q (fun j hj e => ?_), h.o3.len, fun j r x h1 h2 => (h.o3.row j r x h1 h2).kp q (fun i hi e => ?_)⟩⟩
  · have := (h.o2.lt j hj).1; simp only at e; omega
  · have := (h.o3.own.lt j hj).1; simp only at e; omega
  · have := ((h.o3.row j r x h1 h2).lt i hi).1; simp only at e; omega

theorem St.propn {w : World} {s : ByteArray} {la inp : Int} {W : World} {d : WitD} {k : Nat} {v2 v3 : Value} {rows : List Value} (h : St w s la inp W d k v2 v3 rows) (m : Nat) :
    St w s la inp (W.setCell ⟨w.heap.size + 7, 1, none⟩ (.int .i64 m)) { d with prop := m } k v2 v3 rows := by
  have q := Kp.set W ⟨w.heap.size + 7, 1, none⟩ (.int .i64 m)
  refine ⟨h.st.set7 1 _, h.b7.set_same 1 _, h.o2.kp q (fun j hj e => ?_), ⟨h.o3.own.kp q (fun j hj e => ?_), h.o3.len, fun j r x h1 h2 => (h.o3.row j r x h1 h2).kp q (fun i hi e => ?_)⟩⟩
  · have := (h.o2.lt j hj).1; simp only at e; omega
  · have := (h.o3.own.lt j hj).1; simp only at e; omega
  · have := ((h.o3.row j r x h1 h2).lt i hi).1; simp only at e; omega

theorem St.startn {w : World} {s : ByteArray} {la inp : Int} {W : World} {d : WitD} {k : Nat} {v2 v3 : Value} {rows : List Value} (h : St w s la inp W d k v2 v3 rows) {v : Value} {l : List Bool} (ho : Own W (w.heap.size + 10) 4 v (l.map Value.bool)) :
    St w s la inp (W.setCell ⟨w.heap.size + 7, 2, none⟩ v) { d with start := l } k v v3 rows := by
  have q := Kp.set W ⟨w.heap.size + 7, 2, none⟩ v
  refine ⟨h.st.set7 2 _, h.b7.set_same 2 _, ho.kp q (fun j hj e => ?_), ⟨h.o3.own.kp q (fun j hj e => ?_), h.o3.len, fun j r x h1 h2 => (h.o3.row j r x h1 h2).kp q (fun i hi e => ?_)⟩⟩
  · have := (ho.lt j hj).1; simp only at e; omega
  · have := (h.o3.own.lt j hj).1; simp only at e; omega
  · have := ((h.o3.row j r x h1 h2).lt i hi).1; simp only at e; omega

/-- behind an append to the rows, ahead of its store -/
structure Grew (w : World) (W : World) (d : WitD) (l : List Bool) (v2 v3' : Value) (rows' : List Value) : Prop where
  o2 : Own W (w.heap.size + 10) 4 v2 (d.start.map Value.bool)
  o3 : OwnRows W (w.heap.size + 10) v3' rows' (d.ins ++ [l])

theorem St.insn {w : World} {s : ByteArray} {la inp : Int} {W : World} {d : WitD} {k : Nat} {v2 v3 v3' : Value} {rows' : List Value} {l : List Bool} (h0 : St0 w s la inp W k) (h7 : Blk W (w.heap.size + 7) #[.int .i64 d.kind, .int .i64 d.prop, v2, v3] 33) (g : Grew w W d l v2 v3' rows') :
    St w s la inp (W.setCell ⟨w.heap.size + 7, 3, none⟩ v3') { d with ins := d.ins ++ [l] } k v2 v3' rows' := by
  have q := Kp.set W ⟨w.heap.size + 7, 3, none⟩ v3'
  refine ⟨h0.set7 3 _, h7.set_same 3 _, g.o2.kp q (fun j hj e => ?_), ⟨g.o3.own.kp q (fun j hj e => ?_), g.o3.len, fun j r x h1 h2 => (g.o3.row j r x h1 h2).kp q (fun i hi e => ?_)⟩⟩
  · have := (g.o2.lt j hj).1; simp only at e; omega
  · have := (g.o3.own.lt j hj).1; simp only at e; omega
  · have := ((g.o3.row j r x h1 h2).lt i hi).1; simp only at e; omega

theorem mid7 {w : World} {s : ByteArray} {la inp : Int} {W0 W : World} {k BX : Nat} {t : ByteArray} {p q : Nat} (h : St0 w s la inp W k) (hR : Rd w.heap.size W0 W)
    (hX : Blk W BX #[.string t, .int .i64 p, .int .i64 q, .int .i64 0] 66) (hB : w.heap.size + 10 ≤ BX) (i : Nat) (v : Value) {b : Bool} {d' : WitD} {v2' v3' : Value} {rows' : List Value}
    (hg : b = true → St w s la inp (W.setCell ⟨w.heap.size + 7, i, none⟩ v) d' k v2' v3' rows') :
    Mid w s la inp W0 (W.setCell ⟨w.heap.size + 7, i, none⟩ v) k BX t p q b d' v2' v3' rows' :=
  ⟨h.set7 i v, hX.set_other (by simp only; omega) v, hR.set i (by omega) v, hg⟩

/-- what a round comes to -/
theorem midX_one {B : Nat} {la inp : Int} {k : Nat} {d d' : WitD} {x : LX B} {b o : Bool} (he : x.e = 0) (h : MidX la inp k d x.text b o d') :
    oneX la inp k d x = if b = false then .inr (.bad x.at_ 2) else if o = false then .inl d' else if x.next < B then .inr (.bad x.next 2) else .inr (.ok d') := by
  unfold oneX
  rw [if_neg (by simp [he])]
  cases b with
  | false =>
    obtain ⟨h1, h2⟩ := h.1 rfl
    rw [h1, h2]; rfl
  | true =>
    cases o with
    | false => obtain ⟨h1, h2⟩ := h.2.1 rfl rfl; rw [h1, h2]; rfl
    | true => obtain ⟨h1, rfl⟩ := h.2.2 rfl rfl; rw [h1]; rfl

theorem own_nil_cap {w : World} {base : Nat} {e : TypeId} {a : Option Addr} {n c : Nat} {cs : List Value} (h : Own w base e (.slice a n c) cs) : a = none → c = 0 := by
  rintro rfl
  rcases h.2 with ⟨h1, hn⟩ | ⟨g, cap, cur, h1, hb, hgg, rest⟩
  · cases h1; rfl
  · cases h1

theorem own_boolsSl {w : World} {base : Nat} {v : Value} {l : List Bool} (h : Own w base 4 v (l.map Value.bool)) : BoolsSl w v l := by
  obtain ⟨a, cap, rfl, h1, h2, h3, h4⟩ := h.form
  have := own_nil_cap h
  rw [List.length_map] at *
  exact ⟨a, cap, rfl, h1, h2, this, h4⟩

theorem Kp.below0 {w w' : World} (h : Kp (fun j => w.heap.size ≤ j) w w') : Kp (fun _ => False) w w' :=
  h.mono (fun i hi hs => absurd hi (Nat.not_lt.2 hs))

theorem Res.close {w : World} {s : ByteArray} {W : World} {o : WitO} {v2 v3 : Value} {rows : List Value} (h : Res w s W o v2 v3 rows) {n D : Nat} {x : Option (List Deferred)} (hD : W.heap[D]? = some (.deferred x)) (hn : n ≤ D) (hn2 : n = w.heap.size + 10) (y : Option (List Deferred)) :
    Res w s (W.putObj D (.deferred y)) o v2 v3 rows := by
  have q : Kp (fun j => j = D) W (W.putObj D (.deferred y)) := ⟨rfl, rfl, rfl, by simp, fun k _ hk => World.putObj_heap_other hk⟩
  exact h.keep q (fun j e => by
    subst e
    refine ⟨by omega, fun o ho => ?_⟩
    rw [hD] at ho
    rw [← Option.some.inj ho]; rfl)

/-- what wit.Read hands back, with its rows in blocks of the call's own -/
def WReadQ (w : World) (s : ByteArray) (o : WitO) (e : Ending) (w' : World) : Prop :=
  (∃ v2 v3 rows, e = .returned (.tuple #[.agg #[.int .i64 o.w.kind, .int .i64 o.w.prop, v2, v3], .int .i64 (o.at_ s), .int .i64 o.e]) ∧ Own w' w.heap.size 4 v2 (o.w.start.map Value.bool) ∧ OwnRows w' w.heap.size v3 rows o.w.ins) ∧ Kp (fun _ => False) w w'

theorem OwnRows.mono {W : World} {n m : Nat} {v : Value} {rows : List Value} {ins : List (List Bool)} (h : OwnRows W n v rows ins) (hm : m ≤ n) : OwnRows W m v rows ins :=
  ⟨h.own.mono hm, h.len, fun j r x h1 h2 => (h.row j r x h1 h2).mono hm⟩

theorem own_gridSl {W : World} {n : Nat} {v : Value} {rows : List Value} {ins : List (List Bool)} (h : OwnRows W n v rows ins) : GridSl W v ins := by
  obtain ⟨a, cap, rfl, h1, h2, h3, h4⟩ := h.own.form
  exact ⟨a, cap, by rw [h.len], by rw [← h.len]; exact h1, h2, own_nil_cap h.own, rows, h4, h.len, fun j r x hr hx => own_boolsSl (h.row j r x hr hx)⟩

/-- .. and when blocks below are turned -/
theorem OwnRows.kpS {W W' : World} {n : Nat} {v : Value} {rows : List Value} {ins : List (List Bool)} (h : OwnRows W n v rows ins) {S : Nat → Prop} (k : Kp S W W') (hS : ∀ j, S j → j < n) : OwnRows W' n v rows ins :=
  ⟨h.own.kp k (fun j hj hs => by have := (h.own.lt j hj).1; have := hS j hs; omega), h.len, fun j r x h1 h2 => (h.row j r x h1 h2).kp k (fun i hi hs => by have := ((h.row j r x h1 h2).lt i hi).1; have := hS i hs; omega)⟩

theorem Own.kpS {W W' : World} {n : Nat} {e : TypeId} {v : Value} {cs : List Value} (h : Own W n e v cs) {S : Nat → Prop} (k : Kp S W W') (hS : ∀ j, S j → j < n) : Own W' n e v cs :=
  h.kp k (fun j hj hs => by have := (h.lt j hj).1; have := hS j hs; omega)

theorem WReadQ.P {w : World} {s : ByteArray} {o : WitO} {e : Ending} {w' : World} (h : WReadQ w s o e w') : WReadP w s o e w' := by
  obtain ⟨⟨v2, v3, rows, rfl, h2, h3⟩, hK⟩ := h
  exact ⟨⟨_, rfl, v2, v3, rfl, own_boolsSl h2, own_gridSl h3⟩, hK⟩

theorem Res.post {w : World} {s : ByteArray} {W : World} {o : WitO} {v2 v3 : Value} {rows : List Value} (h : Res w s W o v2 v3 rows) :
    WReadQ w s o (.returned (.tuple #[.agg #[.int .i64 o.w.kind, .int .i64 o.w.prop, v2, v3], .int .i64 (o.at_ s), .int .i64 o.e])) W :=
  ⟨⟨v2, v3, rows, rfl, h.o2.mono (by omega), h.o3.mono (by omega)⟩, h.kp.below0⟩

theorem stepR_late {t : ByteArray} {k : Nat} {la inp : Int} {d d' : WitD} (hk : 2 ≤ k) (h : stepR t k la inp d = some d') : d.kind = 1 ∧ d'.kind = 1 := by
  unfold stepR at h
  rw [if_neg (by omega), if_neg (by omega)] at h
  by_cases h1 : d.kind = 1
  · rw [if_neg (fun h => h h1)] at h
    split at h
    · cases hr : rowR t la with
      | none => rw [hr] at h; cases h
      | some l => rw [hr] at h; cases h; exact ⟨h1, h1⟩
    · cases hr : rowR t inp with
      | none => rw [hr] at h; cases h
      | some l => rw [hr] at h; cases h; exact ⟨h1, h1⟩
  · rw [if_pos h1] at h; cases h

theorem stepR_ins {t : ByteArray} {k : Nat} {la inp : Int} {d d' : WitD} (h : stepR t k la inp d = some d') : d'.ins.length ≤ d.ins.length + 1 := by
  unfold stepR at h
  split at h
  · split at h
    · cases h; simp
    · cases h
  · split at h
    · cases hr : propR t with
      | none => rw [hr] at h; cases h
      | some l => rw [hr] at h; cases h; simp
    · split at h
      · cases h
      · split at h
        · cases hr : rowR t la with
          | none => rw [hr] at h; cases h
          | some l => rw [hr] at h; cases h; simp
        · cases hr : rowR t inp with
          | none => rw [hr] at h; cases h
          | some l => rw [hr] at h; cases h; simp

theorem oneX_step {B : Nat} {la inp : Int} {k : Nat} {d d' : WitD} {x : LX B} (h : oneX la inp k d x = .inl d') : stepR x.text k la inp d = some d' := by
  unfold oneX at h
  split at h
  · cases h
  · split at h
    · split at h <;> cases h
    · cases hs : stepR x.text k la inp d with
      | none => rw [hs] at h; cases h
      | some y => rw [hs] at h; cases h; rfl

theorem runX_late {B : Nat} {la inp : Int} : ∀ (l : List (LX B)) (k : Nat) (d d' : WitD), runX la inp k d l = .inl d' → (l ≠ [] → 3 ≤ k + l.length → d'.kind = 1) ∧ d'.ins.length ≤ d.ins.length + l.length
  | [], k, d, d', h => by cases h; exact ⟨fun h => absurd rfl h, by simp⟩
  | x :: r, k, d, d', h => by
    simp only [runX] at h
    cases ho : oneX la inp k d x with
    | inr o => rw [ho] at h; cases h
    | inl d1 =>
      rw [ho] at h
      have hs := oneX_step ho
      have hi := stepR_ins hs
      obtain ⟨h1, h2⟩ := runX_late r (k + 1) d1 d' h
      refine ⟨fun _ h3 => ?_, by simp only [List.length_cons] at *; omega⟩
      by_cases hr : r = []
      · subst hr
        simp only [runX] at h
        cases h
        exact (stepR_late (by simp only [List.length_cons, List.length_nil] at h3; omega) hs).2
      · exact h1 hr (by simp only [List.length_cons] at h3; omega)

theorem witR_ins (s : ByteArray) (la inp : Int) : ∀ (f p k : Nat) (d : WitD), d.ins.length ≤ k → (witR s la inp f p k d).w.ins.length ≤ k + f
  | 0, p, k, d, h => by simp [witR, WitO.w, wit0]
  | f + 1, p, k, d, h => by
    simp only [witR]
    split
    · simp [WitO.w, wit0]
    split
    · split
      · simp [WitO.w, wit0]
      · simp only [WitO.w]; omega
    · cases hs : stepR (lineT s (p : Nat)).1 k la inp d with
      | none => simp [WitO.w, wit0]
      | some d' =>
        simp only
        have := witR_ins s la inp f (lineT s (p : Nat)).2.1 (k + 1) d' (by have := stepR_ins hs; omega)
        omega

/-- 'append(v, u)' within a fence -/
theorem wpListIn_append1 {F : Fence} {n : Nat} {P : Program} {w : World} {ops : Array Oper} {rest : List Oper} {o : Oper} {a : Act} {Q : Exit → Act → World → Prop} (hgd : o.guard = none) (s x : Operand) (t e : TypeId)
    (ho : o.op = .call { callee := .builtin .append, args := #[s, x], argTypes := #[t, t] }) {z : Value} {bytes : Nat}
    (ht : P.underlying t = some (.slice e)) (hI : (P.info? e).map (fun i => (i.zero, i.size, i.bytes)) = some (some z, 1, bytes)) (hzs : z.cells.size = 1)
    {base : Nat} {v : Value} {cs : List Value} (hown : Own w base e v cs) (hs : a.eval s = v) (ad : Addr) (u : Value) (hx : a.eval x = .slice (some ad) 1 1) (hnew : w.cell? ad = some u) (h1 : u.oneCell' = true)
    (hbytes : (cs.length + 1) * bytes ≤ 140737488355328) (hm : cs.length + 1 ≤ maxLen) (hbase : base ≤ w.heap.size)
    (h : ∀ v' w', Own w' base e v' (cs ++ [u]) → w.grownBy w' v.ownBlock → wpListIn F n P ops Q rest (a.put o.dst v') w') : wpListIn F n P ops Q (o :: rest) a w := by
  obtain ⟨i0, hi, hz0, hz1, hz2⟩ := info_parts hI
  refine wpListIn_append_own _ hgd s x t ho base e i0 z 1 bytes ht hi hz0 hz1 hz2 hzs (by decide) v cs.length cs hs hown ad 1 1 [u] hx rfl ?_ ?_ hm hbytes hbase ?_
  · intro j u' hj
    match j, hj with
    | 0, hj =>
      have : ad.add 0 = ad := by unfold Addr.add; split <;> simp_all
      simp at hj
      rw [this, ← hj]; exact hnew
  · intro u' hu; simp at hu; subst hu; exact h1
  · intro v' w' h2 h3 _
    exact h v' w' (by unfold Own; rw [List.length_append]; exact h2) h3

theorem dot_eq (t : ByteArray) : (t.toList == [46]) = decide (t = ⟨#[46]⟩) := by
  have h : t.toList = t.data.toList := Lib.toList_data t
  rw [h, Bool.eq_iff_iff, beq_iff_eq, decide_eq_true_iff]
  constructor
  · intro e
    apply ByteArray.ext
    apply Array.toList_inj.1
    rw [e]
  · intro e; rw [e]

theorem rowR_bits {t : ByteArray} {m : Int} {l : List Bool} (h : rowR t m = some l) : l = bitsR t := by
  unfold rowR at h
  split at h
  · cases h; rfl
  · cases h

theorem own_type {w : World} {base : Nat} {e : TypeId} {v : Value} {cs : List Value} (h : Own w base e v cs) {j : Nat} (hj : v.ownBlock = some j) : ∃ c, w.heap[j]? = some (.cells c e (0, 0)) := by
  rcases h.2 with ⟨rfl, hn⟩ | ⟨g, cap, cur, rfl, hb, hgg, rest⟩
  · cases hj
  · cases hj; exact ⟨_, hgg⟩

theorem own_ne_own {w : World} {b1 b2 : Nat} {e1 e2 : TypeId} {v1 v2 : Value} {c1 c2 : List Value} (h1 : Own w b1 e1 v1 c1) (h2 : Own w b2 e2 v2 c2) (he : e1 ≠ e2) : ∀ j, v1.ownBlock = some j → ¬ v2.ownBlock = some j := by
  intro j x y
  obtain ⟨_, p⟩ := own_type h1 x
  obtain ⟨_, q⟩ := own_type h2 y
  rw [p] at q
  cases q
  exact he rfl

theorem blk_ne_own {w : World} {b b2 : Nat} {c : Array Value} {t e2 : TypeId} {v2 : Value} {c2 : List Value} (h1 : Blk w b c t) (h2 : Own w b2 e2 v2 c2) (he : t ≠ e2) : ¬ v2.ownBlock = some b := by
  intro y
  obtain ⟨_, q⟩ := own_type h2 y
  rw [show w.heap[b]? = _ from h1] at q
  cases q
  exact he rfl

theorem St.append {w : World} {s : ByteArray} {la inp : Int} {W W2 : World} {d : WitD} {k : Nat} {v2 v3 r v' : Value} {rows : List Value} {l : List Bool} (h : St w s la inp W d k v2 v3 rows) (ho : Own W (w.heap.size + 10) 4 r (l.map Value.bool))
    (hg : W.grownBy W2 v3.ownBlock) (ho3 : Own W2 (w.heap.size + 10) 28 v' (rows ++ [r])) :
    St0 w s la inp W2 k ∧ Blk W2 (w.heap.size + 7) #[.int .i64 d.kind, .int .i64 d.prop, v2, v3] 33 ∧ Grew w W2 d l v2 v' (rows ++ [r]) := by
  have q := (Kp.refl (fun j => v3.ownBlock = some j) W).grown hg (fun _ e _ => e)
  refine ⟨h.st.far q (fun j e => .inr (h.o3.own.lt j e).1), h.b7.kp q (fun e => by have := (h.o3.own.lt _ e).1; omega), h.o2.kp q (own_ne_own h.o2 h.o3.own (by decide)), ho3, by simp [h.o3.len], ?_⟩
  intro j r' x h1 h2
  by_cases hj : j < rows.length
  · rw [List.getElem?_append_left hj] at h1
    rw [List.getElem?_append_left (by rw [← h.o3.len]; exact hj)] at h2
    have := h.o3.row j r' x h1 h2
    exact this.kp q (own_ne_own this h.o3.own (by decide))
  · have hj2 : j = rows.length := by
      have := (List.getElem?_eq_some_iff.1 h1).1
      simp at this; omega
    subst hj2
    rw [List.getElem?_append_right (Nat.le_refl _)] at h1
    rw [h.o3.len, List.getElem?_append_right (Nat.le_refl _)] at h2
    simp at h1 h2
    subst h1 h2
    exact ho.kp q (own_ne_own ho h.o3.own (by decide))

theorem boolsInfo : (Tryz.prog.info? 28).map (fun i => (i.zero, i.size, i.bytes)) = some (some (.slice none 0 0), 1, 24) := by kernel_rfl

end Go.Proofs.YtcnegeggecmncaaGreatDoor

/-
  A region inside a round of a range over a function goes as it goes elsewhere: the laws of a plain region's walk serve in a round's frame. No program in sight.
-/
namespace Go.Proofs.YtcnegeggecmncaaGreatDoor
open Go

/-- the post of a region: it ends normally -/
def Onward (K : Act → World → Prop) : Exit → Act → World → Prop
  | .normal, a, w => K a w
  | _, _, _ => False

theorem Onward.only {K : Act → World → Prop} : ∀ {e : Exit} {a : Act} {w : World}, Onward K e a w → e = .normal ∧ K a w := fun {e} {_} {_} h => by
  cases e <;> first | exact ⟨rfl, h⟩ | exact h.elim

theorem opsIn_of_ops {l n : Nat} {P : Program} {ops : Array Oper} (hd : ∀ (i : Nat) (o : Oper), ops[i]? = some o → ∀ c, o.op ≠ .defer c) {K : Act → World → Prop} {Q : Exit → Act → World → Prop} (hK : ∀ a w, K a w → Q .normal a w) :
    ∀ (L : List Nat) (a : Act) (w : World), wpOps P ops (Onward K) L a w → wpOpsIn (Fence.wide.inRound l) n P ops Q L a w
  | [], a, w, h => hK _ _ h
  | i :: rest, a, w, h => by
    have ih := fun a w => opsIn_of_ops (l := l) (n := n) (P := P) hd hK rest a w
    simp only [wpOps, wpOpsIn] at h ⊢
    cases ho : ops[i]? with
    | none => rw [ho] at h; exact ih _ _ h
    | some o =>
      rw [ho] at h
      simp only at h ⊢
      by_cases hw : Region.wanted o (yielded ops a.tmps) = true
      · rw [if_pos hw] at h ⊢
        rcases h with h | ⟨_, _, _, hq⟩
        · refine ⟨fun _ _ => trivial, ?_⟩
          rw [Oper.semAt_plain _ _ _ (hd i o ho)]
          unfold Oper.wp at h
          generalize (execOp a.eval o).run P w = r at h ⊢
          cases r with
          | ok x w1 =>
            cases x <;> simp only [Oper.upon, Oper.uponIn] at h ⊢ <;> first | exact ih _ _ h | exact h.elim | skip
            · refine ⟨(fun h => nomatch h), ?_⟩
              refine CallsIn.mono (callsIn_wide.2 h) ?_
              intro e w2 he
              cases e with
              | returned v => exact ih _ _ he
              | panicked c => exact (Onward.only he).1 |> fun h => by cases h
              | outgrown => obtain ⟨_, _, hq⟩ := he; exact (Onward.only hq).1 |> fun h => by cases h
            · refine ⟨(fun h => nomatch h), ?_⟩
              intro c cs _
              obtain ⟨v, w2, hr, hs⟩ := h c cs
              exact ⟨v, w2, ih _ _ hr, stepsIn_wide.2 hs⟩
          | halt c w1 =>
            cases c <;> simp only [Oper.upon] at h <;> first | exact h.elim | exact ((Onward.only h).1 |> fun h => by cases h)
        · exact (Onward.only hq).1 |> fun h => by cases h
      · rw [if_neg hw] at h ⊢
        exact ⟨fun _ _ => trivial, ih _ _ h⟩

def noDefer (ops : Array Oper) : Bool := ops.all fun o => match o.op with | .defer _ => false | _ => true

theorem noDefer_spec {ops : Array Oper} (h : noDefer ops = true) : ∀ (i : Nat) (o : Oper), ops[i]? = some o → ∀ c, o.op ≠ .defer c := by
  intro i o ho c e
  obtain ⟨hi, he⟩ := Array.getElem?_eq_some_iff.1 ho
  have := (Array.all_eq_true.1 h) i hi
  rw [he, e] at this
  cases this

/-- a region that draws, in a round's frame -/
theorem wpIn_region_held {l n id : Nat} {P : Program} {ops : Array Oper} {S : World → Prop} {Q : Exit → Act → World → Prop} {a : Act} {w : World} (hm : P.follows .mixedOrders = true) (hd : noDefer ops = true)
    (hS : S w.drew) (h : ∀ K : Act → World → Prop, (∀ a w, Q .normal a w → K a w) → S w.drew → wpAnyH P .any ops (Onward K) S ops.size (Array.replicate ops.size false) a w.drew) :
    (Code.region id ops true).wpIn (Fence.wide.inRound l) n P Q a w :=
  wpIn_region_draw fun t => by
    simp only [Region.schedule, hm, Bool.true_or, if_true]
    exact opsIn_of_ops (noDefer_spec hd) (fun _ _ h => h) _ _ _ (wpAny_sound ops.size t _ a _ (wpAny_of_held _ _ _ _ (h _ (fun _ _ h => h) hS)))

end Go.Proofs.YtcnegeggecmncaaGreatDoor

/-
  wit.Read: a range over a function.
-/
namespace Go.Proofs.YtcnegeggecmncaaGreatDoor
open Go.RowKit Go.Shelf

attribute [local go_sem] Oper.semAt_some

/-- the frame at the start of a round -/
def frameX (w : World) (s : ByteArray) (la inp : Int) (BX : Nat) (x : LX s.size) : Act :=
  { tmps := #[.string s, .int .i64 la, .int .i64 inp, .pointer (some ⟨w.heap.size, 0, none⟩), .pointer (some ⟨w.heap.size + 1, 0, none⟩), .pointer (some ⟨w.heap.size + 2, 0, none⟩), .pointer (some ⟨w.heap.size + 3, 0, none⟩), .pointer (some ⟨w.heap.size + 4, 0, none⟩), .pointer (some ⟨w.heap.size + 5, 0, none⟩), .pointer (some ⟨w.heap.size + 6, 0, none⟩), .pointer (some ⟨w.heap.size + 7, 0, none⟩), .pointer (some ⟨w.heap.size + 8, 0, none⟩), .pointer (some ⟨BX, 0, none⟩), undef, undef, undef, .agg #[.int .i64 0, .int .i64 0, .slice none 0 0, .slice none 0 0], .agg #[.int .i64 0, .int .i64 0, .slice none 0 0, .slice none 0 0], .int .i64 la, .bool false, .bool false, .int .i64 inp, .bool false, .bool false, undef, .string s, .func (.func 43) #[] #[.pointer (some ⟨w.heap.size + 9, 0, none⟩)], .agg #[.string x.text, .int .i64 x.at_, .int .i64 x.next, .int .i64 x.e], undef, undef, undef, undef, undef, undef, undef, undef, undef, undef, undef, undef, undef, undef, undef, undef, undef, undef, undef, undef, undef, undef, undef, undef, undef, undef, undef, undef, undef, undef, undef, undef, undef, undef, undef, undef, undef, undef, undef, undef, undef, undef, undef, undef, undef, undef, undef, undef, undef, undef, undef, undef, undef, undef, undef, undef, undef, undef, undef, undef, undef, undef, undef, undef, undef, undef, undef, undef, undef, undef, undef, undef, undef, undef, undef, undef, undef, undef, undef, undef, undef, undef, undef, undef, undef, undef, undef, undef, undef, undef, undef, undef, undef, undef, undef, undef, undef, undef, undef, undef, undef, undef, undef], defers := [] }

set_option maxRecDepth 100000 in
set_option maxHeartbeats 4000000 in
theorem wit_Read_own (s : ByteArray) (la inp : Int) (w : World) (hs : s.size ≤ 100000) (hm : ML w) (h1 : 0 ≤ la) (h2 : 0 ≤ inp) :
    Calls Tryz.prog 12 #[.string s, .int .i64 la, .int .i64 inp] w (WReadQ w s (witT s la inp)) := by
  have g1 : decide (la < 0) = false := by simpa using h1
  have g2 : decide (inp < 0) = false := by simpa using h2
  refine (callsIn_wide (n := 5)).1 ?_
  refine callsIn_of_wp_marks Tryz.func12 rfl trivial ?_ rfl
  simp only [Tryz.ntmps12, List.size_toArray, List.length_cons, List.length_nil, Nat.reduceAdd, Nat.reduceSub, Array.replicate_succ, Array.replicate_zero, List.push_toArray, List.append_toArray, List.nil_append, List.cons_append]
  have HLn := Lib.hid (fun u => (callsIn_wide (n := 4)).2 (wit_lines s u))
  gi_wp2_with (refine ⟨trivial, ?_⟩; gi_at_call 25; refine (HLn.out _).mono ?_; rintro e w' ⟨rfl, hw⟩; subst hw)
  obtain ⟨W0, hW0⟩ : ∃ W0, ((((((((((w.alloc (.cells #[.string s] 9)).alloc (.cells #[.int .i64 la] 3)).alloc (.cells #[.int .i64 inp] 3)).alloc (.cells #[.int .i64 0, .int .i64 0, .slice none 0 0, .slice none 0 0] 33)).alloc (.cells #[.int .i64 0] 3)).alloc (.cells #[.int .i64 0] 42)).alloc (.cells #[.int .i64 0, .int .i64 0, .slice none 0 0, .slice none 0 0] 33)).alloc (.cells #[.int .i64 0, .int .i64 0, .slice none 0 0, .slice none 0 0] 33)).alloc (.cells #[.int .i64 0] 3)).alloc (.cells #[.string s] 9)) = W0 := ⟨_, rfl⟩
  rw [hW0]
  have hsz : W0.heap.size = w.heap.size + 10 := by rw [← hW0]; simp
  have hSt : St w s la inp W0 wit0 0 (.slice none 0 0) (.slice none 0 0) [] := by
    rw [← hW0]
    exact wit_start w s la inp
  clear hW0
  refine wpIn_rangeFunc_ownH rfl (by decide) (gf := 43) (lb := #[.pointer (some ⟨w.heap.size + 9, 0, none⟩)]) rfl trivial (enters_of Tryz.func43 (by kernel_rfl) rfl)
    (lines_stops (5 - 1) (by decide) (w.heap.size + 9) s hs W0 (hSt.st.b9.cell (i := 0) rfl)) (fun h k => h.trans k)
    (fun W l o o' hl ho h3 h4 => ⟨by simp, fun _ => World.putObj_heap_other (by omega)⟩)
    (Below.refl _ _) (fun _ => rfl)
    (fun pre W => ∃ d v2 v3 rows, runX la inp 0 wit0 pre = .inl d ∧ St w s la inp W d pre.length v2 v3 rows)
    (fun c pre W => c = .ret ∧ ∃ o v2 v3 rows, runX la inp 0 wit0 pre = .inr o ∧ Res w s W o v2 v3 rows)
    ?hI ?hIx ⟨wit0, _, _, _, rfl, hSt⟩
    (fun x a' W => ∃ BX, w.heap.size + 10 ≤ BX ∧ Blk W BX #[.string x.text, .int .i64 x.at_, .int .i64 x.next, .int .i64 x.e] 66 ∧ a' = frameX w s la inp BX x)
    ?hAx ?assign ?body ?done ?stop
  case hI =>
    rintro pre W W' row ⟨d, v2, v3, rows, e1, e2⟩ hg hr
    obtain ⟨q, hn⟩ := grown_nocells (n := w.heap.size) hg (fun r e => ⟨by have := (hr r e).1; omega, (hr r e).2⟩)
    exact ⟨d, v2, v3, rows, e1, e2.keep q hn⟩
  case hIx =>
    rintro c pre W W' row ⟨rfl, o, v2, v3, rows, e1, e2⟩ hg hr
    obtain ⟨q, hn⟩ := grown_nocells (n := w.heap.size) hg (fun r e => ⟨by have := (hr r e).1; omega, (hr r e).2⟩)
    exact ⟨rfl, o, v2, v3, rows, e1, e2.keep q hn⟩
  case hAx =>
    rintro x a' _ W W' row ⟨BX, e1, e2, e3⟩ hg hr
    obtain ⟨q, hn⟩ := grown_nocells (n := w.heap.size) hg (fun r e => ⟨by have := (hr r e).1; omega, (hr r e).2⟩)
    exact ⟨BX, e1, e2.kp q (hn.blk e2), e3⟩
  case assign =>
    rintro l pre x W K ⟨d, v2, v3, rows, e1, e2⟩ hK
    have hK' := Lib.hid hK
    clear hK
    have HRd := Lib.hid ((Rd.refl w.heap.size W).alloc (.cells #[.string x.text, .int .i64 x.at_, .int .i64 x.next, .int .i64 x.e] 66))
    have HSt := Lib.hid (e2.keep ((Kp.refl (fun _ => False) W).alloc (.cells #[.string x.text, .int .i64 x.at_, .int .i64 x.next, .int .i64 x.e] 66)) (NoCells.none _ _))
    have hWs : w.heap.size + 10 ≤ W.heap.size := by have := e2.st.b9.lt; omega
    unfold LX.enc
    gi_wp2
    exact hK'.out _ _ (by rw [hsz]; exact HRd.out.kf) HRd.out.kb ⟨d, v2, v3, rows, e1, HSt.out⟩ ⟨W.heap.size, hWs, Blk.new _ _ _, rfl⟩
  case body =>
    rintro l pre x a' W hl ⟨r, hr⟩ ⟨d, v2, v3, rows, e1, e2⟩ ⟨BX, hBX, bX, rfl⟩ hlt
    rw [hsz]
    have ht0 := bX.cell (i := 0) rfl
    have ht1 := bX.cell (i := 1) rfl
    have ht2 := bX.cell (i := 2) rfl
    have ht3 := bX.cell (i := 3) rfl
    have c0 := e2.st.b0.cell (i := 0) rfl
    have c1 := e2.st.b1.cell (i := 0) rfl
    have c2 := e2.st.b2.cell (i := 0) rfl
    have c60 := e2.st.b6.cell (i := 0) rfl
    have c61 := e2.st.b6.cell (i := 1) rfl
    have c62 := e2.st.b6.cell (i := 2) rfl
    have c63 := e2.st.b6.cell (i := 3) rfl
    have c70 := e2.b7.cell (i := 0) rfl
    have c71 := e2.b7.cell (i := 1) rfl
    have c72 := e2.b7.cell (i := 2) rfl
    have c73 := e2.b7.cell (i := 3) rfl
    have c8 := e2.st.b8.cell (i := 0) rfl
    have hSt2 := Lib.hid e2
    have hXX := Lib.hid bX
    clear e2 bX hSt
    obtain ⟨k, hk⟩ : ∃ k, pre.length = k := ⟨_, rfl⟩
    rw [hk] at c8 hSt2 hlt
    have hRun := Lib.hid (runX_snoc x pre 0 wit0 d e1)
    rw [Nat.zero_add, hk] at hRun
    have HLate := Lib.hid (show 3 ≤ k → d.kind = 1 from fun h3 => (runX_late pre 0 wit0 d e1).1 (by intro e; rw [e] at hk; simp at hk; omega) (by rw [hk]; omega))
    have HIns := Lib.hid (show d.ins.length ≤ k by have h := (runX_late pre 0 wit0 d e1).2; rw [hk] at h; simpa [wit0] using h)
    have HLen : Hid ((pre ++ [x]).length = k + 1) := by show _ = _; rw [List.length_append, hk]; rfl
    clear e1 hk
    obtain ⟨text, at_, next, er, q1, q2, q3, q4⟩ := x
    simp only at ht0 ht1 ht2 ht3 hXX
    unfold frameX
    dsimp only
    by_cases he : er = 0
    · subst he
      have hb2 : Mid w s la inp W W k BX text at_ next false d v2 v3 rows := ⟨hSt2.out.st, hXX.out, Rd.refl _ _, fun h => by cases h⟩
      clear hb2
      gi_upto_region 8 with fail
      iterate 11 (first | go_values | gi_guarded | gi_step | gi_upon)
      gi_cut [13, 14] from 28 (fun s13 s14 wx => ∃ (b o : Bool) (d' : WitD) (v2' v3' : Value) (rows' : List Value), s13 = .bool b ∧ s14 = .bool o ∧ Mid w s la inp W wx k BX text at_ next b d' v2' v3' rows' ∧ MidX la inp k d text b o d')
      case first =>
        clear c60 c61 c62 c63
        have f70 := hSt2.out.b7.free 0
        have f71 := hSt2.out.b7.free 1
        have hk1 : k ≤ 200000 := by omega
        by_cases k0 : k = 0
        · -- the kind
          have HSx := Lib.hid (show stepR text k la inp d = if text.size = 1 ∧ 48 ≤ bt text 0 ∧ bt text 0 ≤ 50 then some { d with kind := bt text 0 - 48 } else none by unfold stepR; rw [if_pos k0])
          have HLx := Lib.hid (show lastR text k d = false by unfold lastR; rw [decide_eq_false_iff_not]; omega)
          have b0 : ((k : Int) == 0) = true := by simp [k0]
          have HI := Lib.hid (fun (u : World) (hu : ML u) => (callsIn_wide (n := 5 - 1 - 1 - 1)).2 (wit_index text u hu))
          have HML := Lib.hid (hm.own hSt2.out.st.kp)
          clear k0 hm
          gi_wp2_with fail
          refine ⟨trivial, ?_⟩
          refine (HI.out _ HML.out).mono ?_
          rintro e w' ⟨⟨i, rfl, hi⟩, hw⟩
          have hw' := hw.symm; clear hw; subst hw'
          have z0 : (0 : Int) ≤ (text.size : Int) := by omega
          by_cases z1 : text.size = 1
          · have g3 : ((text.size : Int) == 1) = true := by simp [z1]
            by_cases z2 : 48 ≤ bt text 0 ∧ bt text 0 ≤ 50
            · obtain ⟨m, hm⟩ : ∃ m : Nat, bt text 0 - 48 = m := ⟨_, rfl⟩
              obtain rfl : i = (m : Int) := by have := (hi z1).1 z2; omega
              have HSy := Lib.hid (HSx.out.trans (if_pos ⟨z1, z2⟩))
              rw [hm] at HSy
              have g4 : decide ((0 : Int) ≤ (m : Int)) = true := by simp
              clear z1 z2 hi hm HSx
              gi_wp2
              gi_meet
              case rel => exact ⟨true, false, _, _, _, _, rfl, rfl, mid7 hSt2.out.st (Rd.refl _ _) hXX.out hBX 0 (.int .i64 m) (fun _ => hSt2.out.kind m), ⟨fun h => (by cases h), fun _ _ => ⟨HLx.out, HSy.out⟩, fun _ h => (by cases h)⟩⟩
            · have g4 : decide ((0 : Int) ≤ i) = false := by have := (hi z1).2 z2; simpa using this
              have HSy := Lib.hid (HSx.out.trans (if_neg (fun h => z2 ⟨h.2.1, h.2.2⟩)))
              clear z1 z2 hi HSx
              gi_wp2
              gi_meet
              case rel => exact ⟨false, false, d, v2, v3, rows, rfl, rfl, mid7 hSt2.out.st (Rd.refl _ _) hXX.out hBX 0 (.int .i64 i) (fun h => (by cases h)), ⟨fun _ => ⟨HLx.out, HSy.out⟩, fun h => (by cases h), fun h => (by cases h)⟩⟩
          · have g3 : ((text.size : Int) == 1) = false := by simp; omega
            have HSy := Lib.hid (HSx.out.trans (if_neg (fun h => z1 h.1)))
            clear z1 hi HSx
            gi_wp2
            gi_meet
            case rel => exact ⟨false, false, d, v2, v3, rows, rfl, rfl, mid7 hSt2.out.st (Rd.refl _ _) hXX.out hBX 0 (.int .i64 i) (fun h => (by cases h)), ⟨fun _ => ⟨HLx.out, HSy.out⟩, fun h => (by cases h), fun h => (by cases h)⟩⟩
        have b0 : ((k : Int) == 0) = false := by simp; omega
        have hts : text.size ≤ 100000 := by omega
        by_cases k1 : k = 1
        · -- the number behind a b
          have HSx := Lib.hid (show stepR text k la inp d = (propR text).map (fun n => { d with prop := n }) by unfold stepR; rw [if_neg k0, if_pos k1])
          have HLx := Lib.hid (show lastR text k d = false by unfold lastR; rw [decide_eq_false_iff_not]; omega)
          have b1 : ((k : Int) == 1) = true := by simp [k1]
          have HP := Lib.hid (fun (u : World) => (callsIn_wide (n := 5 - 1 - 1 - 1)).2 (wit_prop text u (by omega)))
          clear k0 k1 hm
          cases hp : propR text with
          | none =>
            rw [hp] at HP HSx
            gi_wp2_with fail
            refine ⟨trivial, ?_⟩
            refine (HP.out _).mono ?_
            rintro e w1 ⟨⟨m, rfl, _⟩, hK⟩
            have hS1 := Lib.hid (hSt2.out.keep hK (NoCells.none _ _))
            have hX1 := Lib.hid (hXX.out.kp hK (fun h => h))
            have hR1 := Lib.hid ((Rd.refl w.heap.size W).kp hK)
            have c71' := hS1.out.b7.cell (i := 1) rfl
            have f71' := hS1.out.b7.free 1
            clear hK
            simp only [Option.isSome_none]
            gi_wp2
            gi_meet
            case rel => exact ⟨false, false, d, v2, v3, rows, rfl, rfl, mid7 hS1.out.st hR1.out hX1.out hBX 1 (.int .i64 m) (fun h => (by cases h)), ⟨fun _ => ⟨HLx.out, HSx.out⟩, fun h => (by cases h), fun h => (by cases h)⟩⟩
          | some m0 =>
            rw [hp] at HP HSx
            gi_wp2_with fail
            refine ⟨trivial, ?_⟩
            refine (HP.out _).mono ?_
            rintro e w1 ⟨⟨m, rfl, hm⟩, hK⟩
            obtain rfl := hm m0 rfl
            have hS1 := Lib.hid (hSt2.out.keep hK (NoCells.none _ _))
            have hX1 := Lib.hid (hXX.out.kp hK (fun h => h))
            have hR1 := Lib.hid ((Rd.refl w.heap.size W).kp hK)
            have c71' := hS1.out.b7.cell (i := 1) rfl
            have f71' := hS1.out.b7.free 1
            clear hK hm
            simp only [Option.isSome_some]
            gi_wp2
            gi_meet
            case rel => exact ⟨true, false, _, _, _, _, rfl, rfl, mid7 hS1.out.st hR1.out hX1.out hBX 1 (.int .i64 m) (fun _ => hS1.out.propn m), ⟨fun h => (by cases h), fun _ _ => ⟨HLx.out, HSx.out⟩, fun _ h => (by cases h)⟩⟩
        have b1 : ((k : Int) == 1) = false := by simp; omega
        by_cases kd : d.kind = 1
        · have b3 : ((d.kind : Int) != 1) = false := by simp [kd]
          by_cases k2 : k = 2
          · -- the start
            have HSx := Lib.hid (show stepR text k la inp d = (rowR text la).map (fun l => { d with start := l }) by unfold stepR; rw [if_neg k0, if_neg k1, if_neg (fun h => h kd), if_pos k2])
            have HLx := Lib.hid (show lastR text k d = false by unfold lastR; rw [decide_eq_false_iff_not]; omega)
            have b4 : decide ((3 : Int) < (k : Int)) = false := by simp; omega
            have b5 : ((k : Int) == 2) = true := by simp [k2]
            have HP := Lib.hid (fun (u : World) => (callsIn_wide (n := 5 - 1 - 1 - 1)).2 (wit_row text la u hts))
            have hWs : w.heap.size + 10 ≤ W.heap.size := by have := hSt2.out.st.b9.lt; omega
            have f72 := hSt2.out.b7.free 2
            clear k0 k1 hm kd k2
            cases hp : rowR text la with
            | none =>
              rw [hp] at HP HSx
              gi_wp2_with fail
              refine ⟨trivial, ?_⟩
              refine (HP.out _).mono ?_
              rintro e w1 ⟨⟨v, rfl, ho⟩, hK⟩
              obtain ⟨a9, c9, rfl, -⟩ := ho.form
              have hS1 := Lib.hid (hSt2.out.keep hK (NoCells.none _ _))
              have hX1 := Lib.hid (hXX.out.kp hK (fun h => h))
              have hR1 := Lib.hid ((Rd.refl w.heap.size W).kp hK)
              have c72' := hS1.out.b7.cell (i := 2) rfl
              have f72' := hS1.out.b7.free 2
              clear hK ho
              simp only [Option.isSome_none]
              gi_wp2
              gi_meet
              case rel => exact ⟨false, false, d, v2, v3, rows, rfl, rfl, mid7 hS1.out.st hR1.out hX1.out hBX 2 _ (fun h => (by cases h)), ⟨fun _ => ⟨HLx.out, HSx.out⟩, fun h => (by cases h), fun h => (by cases h)⟩⟩
            | some l9 =>
              have HL9 := Lib.hid (rowR_bits hp)
              rw [hp] at HP HSx
              gi_wp2_with fail
              refine ⟨trivial, ?_⟩
              refine (HP.out _).mono ?_
              rintro e w1 ⟨⟨v, rfl, ho⟩, hK⟩
              rw [← HL9.out] at ho
              have HO := Lib.hid (ho.mono hWs)
              obtain ⟨a9, c9, E9, -⟩ := ho.form
              obtain ⟨z9, hz9⟩ : ∃ z, (l9.map Value.bool).length = z := ⟨_, rfl⟩
              rw [hz9] at E9
              subst E9
              have hS1 := Lib.hid (hSt2.out.keep hK (NoCells.none _ _))
              have hX1 := Lib.hid (hXX.out.kp hK (fun h => h))
              have hR1 := Lib.hid ((Rd.refl w.heap.size W).kp hK)
              have c72' := hS1.out.b7.cell (i := 2) rfl
              have f72' := hS1.out.b7.free 2
              clear hK ho hz9
              simp only [Option.isSome_some]
              gi_wp2
              gi_meet
              case rel => exact ⟨true, false, _, _, _, _, rfl, rfl, mid7 hS1.out.st hR1.out hX1.out hBX 2 _ (fun _ => hS1.out.startn HO.out), ⟨fun h => (by cases h), fun _ _ => ⟨HLx.out, HSx.out⟩, fun _ h => (by cases h)⟩⟩
          · have hk3 : 3 ≤ k := by omega
            have b5 : ((k : Int) == 2) = false := by simp; omega
            have hWs : w.heap.size + 10 ≤ W.heap.size := by have := hSt2.out.st.b9.lt; omega
            have HSx := Lib.hid (show stepR text k la inp d = (rowR text inp).map (fun l => { d with ins := d.ins ++ [l] }) by unfold stepR; rw [if_neg k0, if_neg k1, if_neg (fun h => h kd), if_neg k2])
            have hd := dot_eq text
            by_cases hpt : 3 < k ∧ text = ⟨#[46]⟩
            · -- the point behind the first input
              have HLx := Lib.hid (show lastR text k d = true by unfold lastR; rw [decide_eq_true_iff]; exact ⟨hpt.2, .inr hpt.1⟩)
              have b4 : decide ((3 : Int) < (k : Int)) = true := by simp; omega
              have g5 : (text.toList == [46]) = true := by rw [hd]; simpa using hpt.2
              clear hd hpt k0 k1 k2 kd hm
              gi_wp2
              gi_meet
              case rel => exact ⟨true, true, d, v2, v3, rows, rfl, rfl, ⟨hSt2.out.st, hXX.out, Rd.refl _ _, fun _ => hSt2.out⟩, ⟨fun h => (by cases h), fun _ h => (by cases h), fun _ _ => ⟨HLx.out, rfl⟩⟩⟩
            · have HLx := Lib.hid (show lastR text k d = false by unfold lastR; rw [decide_eq_false_iff_not]; rintro ⟨h1, h2 | h2⟩ <;> first | exact hpt ⟨h2, h1⟩ | omega)
              have hw : decide ((3 : Int) < (k : Int)) = false ∨ (decide ((3 : Int) < (k : Int)) = true ∧ (text.toList == [46]) = false) := by
                by_cases h3 : 3 < k
                · exact .inr ⟨by simp; omega, by rw [hd]; simpa using fun h => hpt ⟨h3, h⟩⟩
                · exact .inl (by simp; omega)
              have HP := Lib.hid (fun (u : World) => (callsIn_wide (n := 5 - 1 - 1 - 1)).2 (wit_row text inp u hts))
              have f73 := hSt2.out.b7.free 3
              have hil : rows.length ≤ k := by rw [hSt2.out.o3.len]; exact HIns.out
              clear hd hpt k0 k1 k2 kd hm
              obtain ⟨ob, hob⟩ : ∃ ob, (rowR text inp).isSome = ob := ⟨_, rfl⟩
              have HOB := Lib.hid hob
              rw [hob] at HP
              clear hob
              rcases hw with b4 | ⟨b4, g5⟩
              all_goals
                gi_wp2_with fail
                refine ⟨trivial, ?_⟩
                refine (HP.out _).mono ?_
                rintro e w1 ⟨⟨v, rfl, ho⟩, hK⟩
                have HO := Lib.hid (ho.mono hWs)
                obtain ⟨a9, c9, E9, -⟩ := ho.form
                obtain ⟨z9, hz9⟩ : ∃ z, ((bitsR text).map Value.bool).length = z := ⟨_, rfl⟩
                rw [hz9] at E9
                subst E9
                have hS1 := Lib.hid (hSt2.out.keep hK (NoCells.none _ _))
                have hX1 := Lib.hid (hXX.out.kp hK (fun h => h))
                have hR1 := Lib.hid ((Rd.refl w.heap.size W).kp hK)
                have c70' := hS1.out.b7.cell (i := 0) rfl
                have c73' := hS1.out.b7.cell (i := 3) rfl
                have hW1 : w.heap.size + 10 ≤ w1.heap.size := by have := hS1.out.st.b9.lt; omega
                clear hK ho hz9
                gi_wp2_with (gi_at_builtin; refine wpListIn_append1 rfl _ _ 29 28 rfl Tryz.underlying29 boolsInfo rfl (hS1.out.o3.own.alloc _) rfl ⟨w1.heap.size, 0, none⟩ (.slice a9 z9 c9) rfl ?c1 rfl ?c2 ?c3 ?c4 ?_)
                case c1 => exact (Blk.new w1 #[.slice a9 z9 c9] 28).cell (i := 0) rfl
                case c2 => omega
                case c3 => unfold maxLen; omega
                case c4 => simp; omega
                intro v' w2 hO3 hg
                have hS2 := hS1.out.keep ((Kp.refl (fun _ => False) w1).alloc (.cells #[.slice a9 z9 c9] 28)) (NoCells.none _ _)
                obtain ⟨hA, hB, hG⟩ := hS2.append (HO.out.alloc _) hg hO3
                have hX2 : Blk w2 BX _ _ := (hX1.out.alloc _).kp ((Kp.refl (fun j => v3.ownBlock = some j) _).grown hg (fun _ e _ => e)) (blk_ne_own (hX1.out.alloc _) hS2.o3.own (by decide))
                have HMid := Lib.hid (mid7 (b := ob) hA ((hR1.out.alloc _).grown hS2.o3.own hg) hX2 hBX 3 v' (fun _ => St.insn hA hB hG))
                obtain ⟨a8, c8', E8, -⟩ := hO3.form
                obtain ⟨z8, hz8⟩ : ∃ z, (rows ++ [Value.slice a9 z9 c9]).length = z := ⟨_, rfl⟩
                rw [hz8] at E8
                subst E8
                have c73'' := hB.cell (i := 3) rfl
                have f73'' := hB.free 3
                have HX : Hid (MidX la inp k d text ob false { d with ins := d.ins ++ [bitsR text] }) := by
                  refine ⟨fun h => ⟨HLx.out, ?_⟩, fun h _ => ⟨HLx.out, ?_⟩, fun _ h => (by cases h)⟩
                  · have h1 := HOB.out
                    rw [HSx.out, h] at *
                    cases hr : rowR text inp with
                    | none => rfl
                    | some l => rw [hr] at h1; cases h1
                  · have h1 := HOB.out
                    rw [HSx.out, h] at *
                    cases hr : rowR text inp with
                    | none => rw [hr] at h1; cases h1
                    | some l => rw [rowR_bits hr]; rfl
                clear hA hB hG hX2 hS2 hO3 hg hz8 hil
                gi_wp2
                gi_meet
                case rel => exact ⟨ob, false, _, _, _, _, rfl, rfl, HMid.out, HX.out⟩
        · -- no run: the point's line
          have k2 : k = 2 := by
            by_cases h3 : 3 ≤ k
            · exact absurd (HLate.out h3) kd
            · omega
          have HSx := Lib.hid (show stepR text k la inp d = none by unfold stepR; rw [if_neg k0, if_neg k1, if_pos kd])
          have b3 : ((d.kind : Int) != 1) = true := by simp; omega
          have HLx := Lib.hid (show lastR text k d = decide (text = ⟨#[46]⟩) by unfold lastR; simp [k2, kd])
          clear k0 k1 hm kd k2
          have hd := dot_eq text
          by_cases ht : text = ⟨#[46]⟩
          · have g5 : (text.toList == [46]) = true := by rw [hd]; simpa using ht
            have HLy := Lib.hid (HLx.out.trans (by simpa using ht : decide (text = ⟨#[46]⟩) = true))
            clear hd ht
            gi_wp2
            gi_meet
            case rel => exact ⟨true, true, d, v2, v3, rows, rfl, rfl, ⟨hSt2.out.st, hXX.out, Rd.refl _ _, fun _ => hSt2.out⟩, ⟨fun h => (by cases h), fun _ h => (by cases h), fun _ _ => ⟨HLy.out, rfl⟩⟩⟩
          · have g5 : (text.toList == [46]) = false := by rw [hd]; simpa using ht
            have HLy := Lib.hid (HLx.out.trans (by simpa using ht : decide (text = ⟨#[46]⟩) = false))
            clear hd ht
            gi_wp2
            gi_meet
            case rel => exact ⟨false, true, d, v2, v3, rows, rfl, rfl, ⟨hSt2.out.st, hXX.out, Rd.refl _ _, fun _ => hSt2.out⟩, ⟨fun _ => ⟨HLy.out, HSx.out⟩, fun h => (by cases h), fun h => (by cases h)⟩⟩
      case rest =>
        obtain ⟨b, o, d', v2', v3', rows', rfl, rfl, hmid, hmx⟩ := hcut
        have hOne := Lib.hid (midX_one (x := (⟨text, at_, next, 0, q1, q2, q3, q4⟩ : LX s.size)) rfl hmx)
        have HM := Lib.hid hmid
        clear hmid hmx ht0 ht1 ht2 ht3 c0 c1 c2 c60 c61 c62 c63 c70 c71 c72 c73 c8 hSt2 hXX
        have c0 := HM.out.st.b0.cell (i := 0) rfl
        have e1 := HM.out.bx.cell (i := 1) rfl
        have e2 := HM.out.bx.cell (i := 2) rfl
        have c60 := HM.out.st.b6.cell (i := 0) rfl
        have c61 := HM.out.st.b6.cell (i := 1) rfl
        have c62 := HM.out.st.b6.cell (i := 2) rfl
        have c63 := HM.out.st.b6.cell (i := 3) rfl
        have c8 := HM.out.st.b8.cell (i := 0) rfl
        have f8 := HM.out.st.b8.free 0
        have d3 := HM.out.st.b3.cell (i := 0) rfl
        have d31 := HM.out.st.b3.cell (i := 1) rfl
        have d32 := HM.out.st.b3.cell (i := 2) rfl
        have d33 := HM.out.st.b3.cell (i := 3) rfl
        have d4 := HM.out.st.b4.cell (i := 0) rfl
        have d5 := HM.out.st.b5.cell (i := 0) rfl
        have f3 := fun i => HM.out.st.b3.free i
        have f4 := HM.out.st.b4.free 0
        have f5 := HM.out.st.b5.free 0
        have n3 : BX ≠ w.heap.size + 3 := by omega
        have n4 : BX ≠ w.heap.size + 4 := by omega
        have n5 : BX ≠ w.heap.size + 5 := by omega
        have m3 : w.heap.size + 3 ≠ BX := by omega
        have m4 : w.heap.size + 4 ≠ BX := by omega
        have m5 : w.heap.size + 5 ≠ BX := by omega
        cases b with
        | false =>
          gi_wp2
          clear hr hl hm h1 h2 g1 g2 HLn
          refine wpIn_region_held (S := fun W => W.cell? ⟨w.heap.size + 6, 0, none⟩ = some (.int .i64 0) ∧ W.cell? ⟨w.heap.size + 6, 1, none⟩ = some (.int .i64 0) ∧ W.cell? ⟨w.heap.size + 6, 2, none⟩ = some (.slice none 0 0) ∧ W.cell? ⟨w.heap.size + 6, 3, none⟩ = some (.slice none 0 0) ∧ W.cell? ⟨BX, 1, none⟩ = some (.int .i64 at_)) (by kernel_rfl) (by kernel_rfl) ⟨c60, c61, c62, c63, e1⟩ (fun K hK hHeld => ?_)
          refine wpAnyH_take (i := 0) (oi := _) (v := ?_) rfl (by kernel_rfl) (by kernel_rfl) (by kernel_rfl) (fun _ _ _ h => h) (Or.inl ⟨by rfl, ?_⟩) (by assumption) ?_
          rotate_left
          · intro w hSw; (try dsimp only at hSw); go_simp; (try with_reducible rfl)
          try simp only [Act.put, List.setIfInBounds_toArray, List.set_cons_zero, List.set_cons_succ]
          refine wpAnyH_take (i := 1) (oi := _) (v := ?_) rfl (by kernel_rfl) (by kernel_rfl) (by kernel_rfl) (fun _ _ _ h => h) (Or.inl ⟨by rfl, ?_⟩) (by assumption) ?_
          rotate_left
          · intro w hSw; (try dsimp only at hSw); go_simp; (try with_reducible rfl)
          try simp only [Act.put, List.setIfInBounds_toArray, List.set_cons_zero, List.set_cons_succ]
          refine wpAnyH_take (i := 2) (oi := _) (v := ?_) rfl (by kernel_rfl) (by kernel_rfl) (by kernel_rfl) (fun _ _ _ h => h) (Or.inl ⟨by rfl, ?_⟩) (by assumption) ?_
          rotate_left
          · intro w hSw; (try dsimp only at hSw); go_simp; (try with_reducible rfl)
          try simp only [Act.put, List.setIfInBounds_toArray, List.set_cons_zero, List.set_cons_succ]
          refine wpAnyH_ready (rs := [3]) (by kernel_rfl) (by simp) ?_
          refine AllReadyH.cons (o := _) rfl (fun K1 hK1 => ?_) AllReadyH.nil
          go_simp
          refine hK1.out _ _ ?_ (fun hHeld => ?_)
          · simp [*, World.cell?_setCell_far]
          clear hK1 K1
          try simp only [Act.put, List.setIfInBounds_toArray, List.set_cons_zero, List.set_cons_succ]
          refine wpAnyH_ready (rs := [4]) (by kernel_rfl) (by simp) ?_
          refine AllReadyH.cons (o := _) rfl (fun K1 hK1 => ?_) AllReadyH.nil
          go_simp
          refine hK1.out _ _ ?_ (fun hHeld => ?_)
          · simp [*, World.cell?_setCell_far]
          clear hK1 K1
          try simp only [Act.put, List.setIfInBounds_toArray, List.set_cons_zero, List.set_cons_succ]
          refine wpAnyH_ready (rs := [5]) (by kernel_rfl) (by simp) ?_
          refine AllReadyH.cons (o := _) rfl (fun K1 hK1 => ?_) AllReadyH.nil
          go_simp
          refine hK1.out _ _ ?_ (fun hHeld => ?_)
          · simp [*, World.cell?_setCell_far]
          clear hK1 K1
          try simp only [Act.put, List.setIfInBounds_toArray, List.set_cons_zero, List.set_cons_succ]
          refine wpAnyH_done (by kernel_rfl) ?_ _
          refine hK _ _ ?_
          clear hK K hHeld
          gi_wp2
          obtain ⟨r1, r2⟩ := exit_bad HM.out.st at_ 2 rfl
          exact ⟨(HM.out.rd.kf).trans r1.kf, rfl, _, _, _, _, hRun.out.trans (hOne.out.trans rfl), r2⟩
        | true =>
          obtain ⟨x2, y2, E2, -⟩ := (HM.out.good rfl).o2.form
          obtain ⟨x3, y3, E3, -⟩ := (HM.out.good rfl).o3.own.form
          obtain ⟨z2, hz2⟩ : ∃ z, (d'.start.map Value.bool).length = z := ⟨_, rfl⟩
          obtain ⟨z3, hz3⟩ : ∃ z, rows'.length = z := ⟨_, rfl⟩
          rw [hz2] at E2
          rw [hz3] at E3
          clear hz2 hz3
          subst E2
          subst E3
          have c70 := (HM.out.good rfl).b7.cell (i := 0) rfl
          have c71 := (HM.out.good rfl).b7.cell (i := 1) rfl
          have c72 := (HM.out.good rfl).b7.cell (i := 2) rfl
          have c73 := (HM.out.good rfl).b7.cell (i := 3) rfl
          have hsz2 : (s.size : Int) ≤ 100000 := by omega
          cases o with
          | false =>
            have hk1 : k ≤ 200000 := by omega
            gi_wp2
            refine ⟨(HM.out.rd.set 0 (by omega) _).kf, (HM.out.rd.set 0 (by omega) _).kb, d', hRun.out.trans hOne.out, _, _, rows', by rw [HLen.out]; exact (HM.out.good rfl).next⟩
          | true =>
            by_cases hz : next < s.size
            · have g3 : decide ((next : Int) < (s.size : Int)) = true := by simpa using hz
              have HZ := Lib.hid hz; clear hz
              gi_wp2
              clear hr hl hm h1 h2 g1 g2 HLn
              refine wpIn_region_held (S := fun W => W.cell? ⟨w.heap.size + 6, 0, none⟩ = some (.int .i64 0) ∧ W.cell? ⟨w.heap.size + 6, 1, none⟩ = some (.int .i64 0) ∧ W.cell? ⟨w.heap.size + 6, 2, none⟩ = some (.slice none 0 0) ∧ W.cell? ⟨w.heap.size + 6, 3, none⟩ = some (.slice none 0 0) ∧ W.cell? ⟨BX, 2, none⟩ = some (.int .i64 next)) (by kernel_rfl) (by kernel_rfl) ⟨c60, c61, c62, c63, e2⟩ (fun K hK hHeld => ?_)
              refine wpAnyH_take (i := 0) (oi := _) (v := ?_) rfl (by kernel_rfl) (by kernel_rfl) (by kernel_rfl) (fun _ _ _ h => h) (Or.inl ⟨by rfl, ?_⟩) (by assumption) ?_
              rotate_left
              · intro w hSw; (try dsimp only at hSw); go_simp; (try with_reducible rfl)
              try simp only [Act.put, List.setIfInBounds_toArray, List.set_cons_zero, List.set_cons_succ]
              refine wpAnyH_take (i := 1) (oi := _) (v := ?_) rfl (by kernel_rfl) (by kernel_rfl) (by kernel_rfl) (fun _ _ _ h => h) (Or.inl ⟨by rfl, ?_⟩) (by assumption) ?_
              rotate_left
              · intro w hSw; (try dsimp only at hSw); go_simp; (try with_reducible rfl)
              try simp only [Act.put, List.setIfInBounds_toArray, List.set_cons_zero, List.set_cons_succ]
              refine wpAnyH_take (i := 2) (oi := _) (v := ?_) rfl (by kernel_rfl) (by kernel_rfl) (by kernel_rfl) (fun _ _ _ h => h) (Or.inl ⟨by rfl, ?_⟩) (by assumption) ?_
              rotate_left
              · intro w hSw; (try dsimp only at hSw); go_simp; (try with_reducible rfl)
              try simp only [Act.put, List.setIfInBounds_toArray, List.set_cons_zero, List.set_cons_succ]
              refine wpAnyH_ready (rs := [3]) (by kernel_rfl) (by simp) ?_
              refine AllReadyH.cons (o := _) rfl (fun K1 hK1 => ?_) AllReadyH.nil
              go_simp
              refine hK1.out _ _ ?_ (fun hHeld => ?_)
              · simp [*, World.cell?_setCell_far]
              clear hK1 K1
              try simp only [Act.put, List.setIfInBounds_toArray, List.set_cons_zero, List.set_cons_succ]
              refine wpAnyH_ready (rs := [4]) (by kernel_rfl) (by simp) ?_
              refine AllReadyH.cons (o := _) rfl (fun K1 hK1 => ?_) AllReadyH.nil
              go_simp
              refine hK1.out _ _ ?_ (fun hHeld => ?_)
              · simp [*, World.cell?_setCell_far]
              clear hK1 K1
              try simp only [Act.put, List.setIfInBounds_toArray, List.set_cons_zero, List.set_cons_succ]
              refine wpAnyH_ready (rs := [5]) (by kernel_rfl) (by simp) ?_
              refine AllReadyH.cons (o := _) rfl (fun K1 hK1 => ?_) AllReadyH.nil
              go_simp
              refine hK1.out _ _ ?_ (fun hHeld => ?_)
              · simp [*, World.cell?_setCell_far]
              clear hK1 K1
              try simp only [Act.put, List.setIfInBounds_toArray, List.set_cons_zero, List.set_cons_succ]
              refine wpAnyH_done (by kernel_rfl) ?_ _
              refine hK _ _ ?_
              clear hK K hHeld
              gi_wp2
              obtain ⟨r1, r2⟩ := exit_bad HM.out.st next 2 rfl
              exact ⟨(HM.out.rd.kf).trans r1.kf, rfl, _, _, _, _, hRun.out.trans (hOne.out.trans (if_pos HZ.out)), r2⟩
            · have g3 : decide ((next : Int) < (s.size : Int)) = false := by simpa using hz
              have HZ := Lib.hid hz; clear hz
              gi_wp2
              clear hr hl hm h1 h2 g1 g2 HLn
              have a3 : w.heap.size ≠ w.heap.size + 3 := by omega
              have a4 : w.heap.size ≠ w.heap.size + 4 := by omega
              have a5 : w.heap.size ≠ w.heap.size + 5 := by omega
              refine wpIn_region_held (S := fun W => W.cell? ⟨w.heap.size + 7, 0, none⟩ = some (.int .i64 d'.kind) ∧ W.cell? ⟨w.heap.size + 7, 1, none⟩ = some (.int .i64 d'.prop) ∧ W.cell? ⟨w.heap.size + 7, 2, none⟩ = some (.slice x2 z2 y2) ∧ W.cell? ⟨w.heap.size + 7, 3, none⟩ = some (.slice x3 z3 y3) ∧ W.cell? ⟨w.heap.size, 0, none⟩ = some (.string s)) (by kernel_rfl) (by kernel_rfl) ⟨c70, c71, c72, c73, c0⟩ (fun K hK hHeld => ?_)
              refine wpAnyH_take (i := 0) (oi := _) (v := ?_) rfl (by kernel_rfl) (by kernel_rfl) (by kernel_rfl) (fun _ _ _ h => h) (Or.inl ⟨by rfl, ?_⟩) (by assumption) ?_
              rotate_left
              · intro w hSw; (try dsimp only at hSw); go_simp; (try with_reducible rfl)
              try simp only [Act.put, List.setIfInBounds_toArray, List.set_cons_zero, List.set_cons_succ]
              refine wpAnyH_take (i := 1) (oi := _) (v := ?_) rfl (by kernel_rfl) (by kernel_rfl) (by kernel_rfl) (fun _ _ _ h => h) (Or.inl ⟨by rfl, ?_⟩) (by assumption) ?_
              rotate_left
              · intro w hSw; (try dsimp only at hSw); go_simp; (try with_reducible rfl)
              try simp only [Act.put, List.setIfInBounds_toArray, List.set_cons_zero, List.set_cons_succ]
              refine wpAnyH_take (i := 2) (oi := _) (v := ?_) rfl (by kernel_rfl) (by kernel_rfl) (by kernel_rfl) (fun _ _ _ h => h) (Or.inl ⟨by rfl, ?_⟩) (by assumption) ?_
              rotate_left
              · intro w hSw; (try dsimp only at hSw); go_simp; (try with_reducible rfl)
              try simp only [Act.put, List.setIfInBounds_toArray, List.set_cons_zero, List.set_cons_succ]
              refine wpAnyH_ready (rs := [3]) (by kernel_rfl) (by simp) ?_
              refine AllReadyH.cons (o := _) rfl (fun K1 hK1 => ?_) AllReadyH.nil
              go_simp
              refine hK1.out _ _ ?_ (fun hHeld => ?_)
              · simp [*, World.cell?_setCell_far]
              clear hK1 K1
              try simp only [Act.put, List.setIfInBounds_toArray, List.set_cons_zero, List.set_cons_succ]
              refine wpAnyH_ready (rs := [4]) (by kernel_rfl) (by simp) ?_
              refine AllReadyH.cons (o := _) rfl (fun K1 hK1 => ?_) AllReadyH.nil
              go_simp
              refine hK1.out _ _ ?_ (fun hHeld => ?_)
              · simp [*, World.cell?_setCell_far]
              clear hK1 K1
              try simp only [Act.put, List.setIfInBounds_toArray, List.set_cons_zero, List.set_cons_succ]
              refine wpAnyH_ready (rs := [5]) (by kernel_rfl) (by simp) ?_
              refine AllReadyH.cons (o := _) rfl (fun K1 hK1 => ?_) AllReadyH.nil
              go_simp
              refine hK1.out _ _ ?_ (fun hHeld => ?_)
              · simp [*, World.cell?_setCell_far]
              clear hK1 K1
              try simp only [Act.put, List.setIfInBounds_toArray, List.set_cons_zero, List.set_cons_succ]
              refine wpAnyH_done (by kernel_rfl) ?_ _
              refine hK _ _ ?_
              clear hK K hHeld
              gi_wp2
              obtain ⟨r1, r2⟩ := exit_ok (HM.out.good rfl) rfl
              exact ⟨(HM.out.rd.kf).trans r1.kf, rfl, _, _, _, _, hRun.out.trans (hOne.out.trans (if_neg HZ.out)), r2⟩
    · have g : (((er : Nat) : Int) != 0) = true := by simp [he]
      have d3 := hSt2.out.st.b3.cell (i := 0) rfl
      have d31 := hSt2.out.st.b3.cell (i := 1) rfl
      have d32 := hSt2.out.st.b3.cell (i := 2) rfl
      have d33 := hSt2.out.st.b3.cell (i := 3) rfl
      have d4 := hSt2.out.st.b4.cell (i := 0) rfl
      have d5 := hSt2.out.st.b5.cell (i := 0) rfl
      have f3 := fun i => hSt2.out.st.b3.free i
      have f4 := hSt2.out.st.b4.free 0
      have f5 := hSt2.out.st.b5.free 0
      have n3 : BX ≠ w.heap.size + 3 := by omega
      have n4 : BX ≠ w.heap.size + 4 := by omega
      have n5 : BX ≠ w.heap.size + 5 := by omega
      have m3 : w.heap.size + 3 ≠ BX := by omega
      have m4 : w.heap.size + 4 ≠ BX := by omega
      have m5 : w.heap.size + 5 ≠ BX := by omega
      gi_wp2
      clear c0 c1 c2 c70 c71 c72 c73 c8 ht0 ht2 hlt g hr hl hm hs h1 h2 g1 g2 HLn hBX
      have HE := Lib.hid he; clear he
      refine wpIn_region_held (S := fun W => W.cell? ⟨w.heap.size + 6, 0, none⟩ = some (.int .i64 0) ∧ W.cell? ⟨w.heap.size + 6, 1, none⟩ = some (.int .i64 0) ∧ W.cell? ⟨w.heap.size + 6, 2, none⟩ = some (.slice none 0 0) ∧ W.cell? ⟨w.heap.size + 6, 3, none⟩ = some (.slice none 0 0) ∧ W.cell? ⟨BX, 1, none⟩ = some (.int .i64 at_) ∧ W.cell? ⟨BX, 3, none⟩ = some (.int .i64 er)) (by kernel_rfl) (by kernel_rfl) ⟨c60, c61, c62, c63, ht1, ht3⟩ (fun K hK hHeld => ?_)
      refine wpAnyH_take (i := 0) (oi := _) (v := ?_) rfl (by kernel_rfl) (by kernel_rfl) (by kernel_rfl) (fun _ _ _ h => h) (Or.inl ⟨by rfl, ?_⟩) (by assumption) ?_
      rotate_left
      · intro w hSw; (try dsimp only at hSw); go_simp; (try with_reducible rfl)
      try simp only [Act.put, List.setIfInBounds_toArray, List.set_cons_zero, List.set_cons_succ]
      refine wpAnyH_take (i := 1) (oi := _) (v := ?_) rfl (by kernel_rfl) (by kernel_rfl) (by kernel_rfl) (fun _ _ _ h => h) (Or.inl ⟨by rfl, ?_⟩) (by assumption) ?_
      rotate_left
      · intro w hSw; (try dsimp only at hSw); go_simp; (try with_reducible rfl)
      try simp only [Act.put, List.setIfInBounds_toArray, List.set_cons_zero, List.set_cons_succ]
      refine wpAnyH_take (i := 2) (oi := _) (v := ?_) rfl (by kernel_rfl) (by kernel_rfl) (by kernel_rfl) (fun _ _ _ h => h) (Or.inl ⟨by rfl, ?_⟩) (by assumption) ?_
      rotate_left
      · intro w hSw; (try dsimp only at hSw); go_simp; (try with_reducible rfl)
      try simp only [Act.put, List.setIfInBounds_toArray, List.set_cons_zero, List.set_cons_succ]
      refine wpAnyH_take (i := 3) (oi := _) (v := ?_) rfl (by kernel_rfl) (by kernel_rfl) (by kernel_rfl) (fun _ _ _ h => h) (Or.inl ⟨by rfl, ?_⟩) (by assumption) ?_
      rotate_left
      · intro w hSw; (try dsimp only at hSw); go_simp; (try with_reducible rfl)
      try simp only [Act.put, List.setIfInBounds_toArray, List.set_cons_zero, List.set_cons_succ]
      refine wpAnyH_take (i := 4) (oi := _) (v := ?_) rfl (by kernel_rfl) (by kernel_rfl) (by kernel_rfl) (fun _ _ _ h => h) (Or.inl ⟨by rfl, ?_⟩) (by assumption) ?_
      rotate_left
      · intro w hSw; (try dsimp only at hSw); go_simp; (try with_reducible rfl)
      try simp only [Act.put, List.setIfInBounds_toArray, List.set_cons_zero, List.set_cons_succ]
      refine wpAnyH_ready (rs := [5]) (by kernel_rfl) (by simp) ?_
      refine AllReadyH.cons (o := _) rfl (fun K1 hK1 => ?_) AllReadyH.nil
      go_simp
      refine hK1.out _ _ ?_ (fun hHeld => ?_)
      · simp [*, World.cell?_setCell_far]
      clear hK1 K1
      try simp only [Act.put, List.setIfInBounds_toArray, List.set_cons_zero, List.set_cons_succ]
      refine wpAnyH_ready (rs := [6]) (by kernel_rfl) (by simp) ?_
      refine AllReadyH.cons (o := _) rfl (fun K1 hK1 => ?_) AllReadyH.nil
      go_simp
      refine hK1.out _ _ ?_ (fun hHeld => ?_)
      · simp [*, World.cell?_setCell_far]
      clear hK1 K1
      try simp only [Act.put, List.setIfInBounds_toArray, List.set_cons_zero, List.set_cons_succ]
      refine wpAnyH_ready (rs := [7]) (by kernel_rfl) (by simp) ?_
      refine AllReadyH.cons (o := _) rfl (fun K1 hK1 => ?_) AllReadyH.nil
      go_simp
      refine hK1.out _ _ ?_ (fun hHeld => ?_)
      · simp [*, World.cell?_setCell_far]
      clear hK1 K1
      try simp only [Act.put, List.setIfInBounds_toArray, List.set_cons_zero, List.set_cons_succ]
      refine wpAnyH_done (by kernel_rfl) ?_ _
      refine hK _ _ ?_
      clear hK K hHeld
      gi_wp2
      obtain ⟨r1, r2⟩ := exit_bad hSt2.out.st at_ er rfl
      exact ⟨r1.kf, rfl, _, _, _, _, hRun.out.trans (if_pos HE.out), r2⟩
  case done =>
    rintro D ys W _ rfl ⟨d, v2, v3, rows, e1, e2⟩ hK
    exfalso
    rw [runX_lines s la inp (s.size + 2) 0 0 wit0 (Nat.zero_le _) (by omega)] at e1
    cases e1
  case stop =>
    rintro D c pre W hD ⟨r, hpre⟩ ⟨rfl, o, v2, v3, rows, e1, e2⟩ hK
    have ho : o = witT s la inp := by
      have h := runX_prefix pre r 0 wit0 e1
      rw [hpre, runX_lines s la inp (s.size + 2) 0 0 wit0 (Nat.zero_le _) (by omega)] at h
      cases h
      unfold witT
      rw [if_neg (by omega)]
    subst ho
    gi_wp2
    refine ⟨by simp, .inl ⟨_, _, rfl, run_takeDeferred hK, ?_⟩⟩
    have e3 := e2.close hK hD hsz none
    obtain ⟨W', hW'⟩ : ∃ W', W.putObj D (.deferred none) = W' := ⟨_, rfl⟩
    rw [hW'] at e3 ⊢
    have c30 := e3.b3.cell (i := 0) rfl
    have c31 := e3.b3.cell (i := 1) rfl
    have c32 := e3.b3.cell (i := 2) rfl
    have c33 := e3.b3.cell (i := 3) rfl
    have c4 := e3.b4.cell (i := 0) rfl
    have c5 := e3.b5.cell (i := 0) rfl
    exact ⟨.tuple #[.agg #[.int .i64 (witT s la inp).w.kind, .int .i64 (witT s la inp).w.prop, v2, v3], .int .i64 ((witT s la inp).at_ s), .int .i64 (witT s la inp).e], by simp [results, Tryz.results12, go_sem, c30, c31, c32, c33, c4, c5], e3.post⟩

theorem wit_Read_in (s : ByteArray) (la inp : Int) (w : World) (hs : s.size ≤ 100000) (hm : ML w) (h1 : 0 ≤ la) (h2 : 0 ≤ inp) :
    Calls Tryz.prog 12 #[.string s, .int .i64 la, .int .i64 inp] w (WReadP w s (witT s la inp)) :=
  (wit_Read_own s la inp w hs hm h1 h2).mono fun _ _ h => h.P

end Go.Proofs.YtcnegeggecmncaaGreatDoor

/-
  latchetref18.row, latchetref18.Read.
-/
namespace Go.Proofs.YtcnegeggecmncaaGreatDoor
open Go.RowKit

theorem bits_len {t : ByteArray} (h : bitsC t = 0) : (bitsR t).length = t.size := by
  by_cases hg : allGood t
  · rw [(isGood hg).1, bitsL_length]
  · simp [bitsC, hg] at h

/-- what the reference's cells hold between two rounds -/
structure RS (w W : World) (d : WitD) (v2 v3 : Value) (rows : List Value) : Prop where
  b0 : Blk W w.heap.size #[.int .i64 0, .int .i64 0, .slice none 0 0, .slice none 0 0] 33
  b1 : Blk W (w.heap.size + 1) #[.int .i64 0, .int .i64 0, .slice none 0 0, .slice none 0 0] 33
  b2 : Blk W (w.heap.size + 1 + 1) #[.int .i64 d.kind, .int .i64 d.prop, v2, v3] 33
  o2 : Own W (w.heap.size + 3) 4 v2 (d.start.map Value.bool)
  o3 : OwnRows W (w.heap.size + 3) v3 rows d.ins
  kp : Kp (fun j => w.heap.size ≤ j) w W

theorem RS.keep {w W W' : World} {d : WitD} {v2 v3 : Value} {rows : List Value} (h : RS w W d v2 v3 rows) (q : Kp (fun _ => False) W W') : RS w W' d v2 v3 rows :=
  ⟨h.b0.kp q (fun h => h), h.b1.kp q (fun h => h), h.b2.kp q (fun h => h), h.o2.kp q (fun _ _ h => h), ⟨h.o3.own.kp q (fun _ _ h => h), h.o3.len, fun j r x h1 h2 => (h.o3.row j r x h1 h2).kp q (fun _ _ h => h)⟩, h.kp.trans q (fun _ _ h => h.elim)⟩

theorem RS.start (w : World) : RS w (((w.alloc (.cells #[.int .i64 0, .int .i64 0, .slice none 0 0, .slice none 0 0] 33)).alloc (.cells #[.int .i64 0, .int .i64 0, .slice none 0 0, .slice none 0 0] 33)).alloc (.cells #[.int .i64 0, .int .i64 0, .slice none 0 0, .slice none 0 0] 33)) wit0 (.slice none 0 0) (.slice none 0 0) [] := by
  have new : ∀ (u : World) (c : Array Value) (t : TypeId) (b : Nat), u.heap.size = b → Blk (u.alloc (.cells c t)) b c t := fun u c t b h => by subst h; exact Blk.new u c t
  refine ⟨?_, ?_, ?_, Own.nil _ _ _, ⟨Own.nil _ _ _, rfl, fun j r x h => by cases h⟩, ?_⟩
  · exact ((new _ _ _ _ rfl).alloc _).alloc _
  · exact (new _ _ _ _ (by simp)).alloc _
  · exact new _ _ _ _ (by simp)
  · exact (((Kp.refl _ w).alloc _).alloc _).alloc _

/-- a store into the witness that grows -/
theorem RS.set {w W : World} {d : WitD} {v2 v3 : Value} {rows : List Value} (h : RS w W d v2 v3 rows) (i : Nat) (v : Value) {d' : WitD} {v2' v3' : Value} {rows' : List Value}
    (hb : (#[.int .i64 d.kind, .int .i64 d.prop, v2, v3] : Array Value).setIfInBounds i v = #[.int .i64 d'.kind, .int .i64 d'.prop, v2', v3'])
    (ho2 : Own W (w.heap.size + 3) 4 v2' (d'.start.map Value.bool)) (ho3 : OwnRows W (w.heap.size + 3) v3' rows' d'.ins) : RS w (W.setCell ⟨w.heap.size + 1 + 1, i, none⟩ v) d' v2' v3' rows' := by
  have q := Kp.set W ⟨w.heap.size + 1 + 1, i, none⟩ v
  refine ⟨h.b0.kp q (fun e => by simp only at e; omega), h.b1.kp q (fun e => by simp only at e; omega), hb ▸ h.b2.set_same i v, ho2.kp q (fun j hj e => ?_), ⟨ho3.own.kp q (fun j hj e => ?_), ho3.len, fun j r x h1 h2 => (ho3.row j r x h1 h2).kp q (fun k hk e => ?_)⟩, h.kp.trans q (fun k _ e => by simp only at e; omega)⟩
  · have := (ho2.lt j hj).1; simp only at e; omega
  · have := (ho3.own.lt j hj).1; simp only at e; omega
  · have := ((ho3.row j r x h1 h2).lt k hk).1; simp only at e; omega

theorem RS.append {w W W2 : World} {d : WitD} {v2 v3 r v' : Value} {rows : List Value} {l : List Bool} (h : RS w W d v2 v3 rows) (ho : Own W (w.heap.size + 3) 4 r (l.map Value.bool))
    (hg : W.grownBy W2 v3.ownBlock) (ho3 : Own W2 (w.heap.size + 3) 28 v' (rows ++ [r])) :
    RS w (W2.setCell ⟨w.heap.size + 1 + 1, 3, none⟩ v') { d with ins := d.ins ++ [l] } v2 v' (rows ++ [r]) := by
  have q := (Kp.refl (fun j => v3.ownBlock = some j) W).grown hg (fun _ e _ => e)
  have hlo := fun j (e : v3.ownBlock = some j) => (h.o3.own.lt j e).1
  have h2 : Own W2 (w.heap.size + 3) 4 v2 (d.start.map Value.bool) := h.o2.kp q (own_ne_own h.o2 h.o3.own (by decide))
  have h3 : OwnRows W2 (w.heap.size + 3) v' (rows ++ [r]) (d.ins ++ [l]) := by
    refine ⟨ho3, by simp [h.o3.len], ?_⟩
    intro j r' x h1 h2
    by_cases hj : j < rows.length
    · rw [List.getElem?_append_left hj] at h1
      rw [List.getElem?_append_left (by rw [← h.o3.len]; exact hj)] at h2
      have := h.o3.row j r' x h1 h2
      exact this.kp q (own_ne_own this h.o3.own (by decide))
    · have hj2 : j = rows.length := by
        have := (List.getElem?_eq_some_iff.1 h1).1
        simp at this; omega
      subst hj2
      rw [List.getElem?_append_right (Nat.le_refl _)] at h1
      rw [h.o3.len, List.getElem?_append_right (Nat.le_refl _)] at h2
      simp at h1 h2
      subst h1 h2
      exact ho.kp q (own_ne_own ho h.o3.own (by decide))
  have b2 : Blk W2 (w.heap.size + 1 + 1) _ _ := h.b2.kp q (fun e => by have := hlo _ e; omega)
  have p := Kp.set W2 ⟨w.heap.size + 1 + 1, 3, none⟩ v'
  refine ⟨(h.b0.kp q (fun e => by have := hlo _ e; omega)).kp p (fun e => by simp only at e; omega), (h.b1.kp q (fun e => by have := hlo _ e; omega)).kp p (fun e => by simp only at e; omega), b2.set_same 3 v', h2.kp p (fun j hj e => ?_), ⟨ho3.kp p (fun j hj e => ?_), h3.len, fun j r x h1 h2 => (h3.row j r x h1 h2).kp p (fun k hk e => ?_)⟩, (h.kp.trans q (fun k _ e => by have := hlo _ e; omega)).trans p (fun k _ e => by simp only at e; omega)⟩
  · have := (h2.lt j hj).1; simp only at e; omega
  · have := (ho3.lt j hj).1; simp only at e; omega
  · have := ((h3.row j r x h1 h2).lt k hk).1; simp only at e; omega

theorem RS.exit {w W W' : World} {d : WitD} {v2 v3 : Value} {rows : List Value} (h : RS w W d v2 v3 rows) (x0 x1 u2 u3 : Value)
    (hW : W' = (((W.setCell ⟨w.heap.size, 0, none⟩ x0).setCell ⟨w.heap.size, 1, none⟩ x1).setCell ⟨w.heap.size, 2, none⟩ u2).setCell ⟨w.heap.size, 3, none⟩ u3) :
    Kp (fun j => w.heap.size ≤ j) w W' ∧ Own W' (w.heap.size + 3) 4 v2 (d.start.map Value.bool) ∧ OwnRows W' (w.heap.size + 3) v3 rows d.ins := by
  have q : Kp (fun j => j = w.heap.size) W W' := by
    subst hW
    exact ((((Kp.refl (fun j => j = w.heap.size) W).setCell (p := ⟨w.heap.size, 0, none⟩) (fun _ => rfl) x0).setCell (p := ⟨w.heap.size, 1, none⟩) (fun _ => rfl) x1).setCell (p := ⟨w.heap.size, 2, none⟩) (fun _ => rfl) u2).setCell (p := ⟨w.heap.size, 3, none⟩) (fun _ => rfl) u3
  refine ⟨h.kp.trans q (fun k _ e => by omega), h.o2.kp q (fun j hj e => ?_), ⟨h.o3.own.kp q (fun j hj e => ?_), h.o3.len, fun j r x h1 h2 => (h.o3.row j r x h1 h2).kp q (fun i hi e => ?_)⟩⟩
  · have := (h.o2.lt j hj).1; omega
  · have := (h.o3.own.lt j hj).1; omega
  · have := ((h.o3.row j r x h1 h2).lt i hi).1; omega

theorem RS.bad_post {w W W' : World} {s : ByteArray} {d : WitD} {v2 v3 : Value} {rows : List Value} (h : RS w W d v2 v3 rows) (p e : Nat)
    (hW : W' = (((W.setCell ⟨w.heap.size, 0, none⟩ (.int .i64 0)).setCell ⟨w.heap.size, 1, none⟩ (.int .i64 0)).setCell ⟨w.heap.size, 2, none⟩ (.slice none 0 0)).setCell ⟨w.heap.size, 3, none⟩ (.slice none 0 0)) {o : WitO} (ho : o = .bad p e) :
    WReadP w s o (.returned (.tuple #[.agg #[.int .i64 0, .int .i64 0, .slice none 0 0, .slice none 0 0], .int .i64 p, .int .i64 e])) W' := by
  subst ho
  obtain ⟨k, _, _⟩ := h.exit _ _ _ _ hW
  exact ⟨⟨_, rfl, _, _, rfl, own_boolsSl (l := []) (Own.nil _ 0 _), none, 0, rfl, Nat.le_refl _, by simp [maxLen], fun _ => rfl, [], RowAt.nil _ _, rfl, fun j r x h => by cases h⟩, k.below0⟩

theorem RS.ok_post {w W W' : World} {s : ByteArray} {d : WitD} {v2 v3 : Value} {rows : List Value} (h : RS w W d v2 v3 rows)
    (hW : W' = (((W.setCell ⟨w.heap.size, 0, none⟩ (.int .i64 d.kind)).setCell ⟨w.heap.size, 1, none⟩ (.int .i64 d.prop)).setCell ⟨w.heap.size, 2, none⟩ v2).setCell ⟨w.heap.size, 3, none⟩ v3) {o : WitO} (ho : o = .ok d) :
    WReadP w s o (.returned (.tuple #[.agg #[.int .i64 d.kind, .int .i64 d.prop, v2, v3], .int .i64 s.size, .int .i64 0])) W' := by
  subst ho
  obtain ⟨k, o2, o3⟩ := h.exit _ _ _ _ hW
  refine ⟨⟨_, rfl, v2, v3, rfl, own_boolsSl o2, ?_⟩, k.below0⟩
  obtain ⟨a, cap, rfl, h1, h2, h3, h4⟩ := o3.own.form
  exact ⟨a, cap, by show Value.slice a _ cap = Value.slice a d.ins.length cap; rw [o3.len], by show d.ins.length ≤ cap; rw [← o3.len]; exact h1, h2, own_nil_cap o3.own, rows, h4, o3.len, fun j r x hr hx => own_boolsSl (o3.row j r x hr hx)⟩

/-- the number behind a b, as the reference reads it -/
theorem propR_ref (t : ByteArray) : propR t = if 1 < t.size ∧ bt t 0 = 98 ∧ (natN t 1).2.2 = 0 ∧ (natN t 1).2.1 = t.size then some (natN t 1).1 else none := by
  unfold propR
  by_cases h0 : 1 < t.size
  · have hr := natN_rest (s := t) (p := 1) (by omega)
    have hz : (t.extract 1 t.size).size = t.size - 1 := by rw [ByteArray.size_extract]; omega
    rw [hr]
    simp only
    by_cases h1 : (natN (t.extract 1 t.size) 0).2.2 = 0
    · rw [if_pos h1]
      simp only [h1, true_and]
      by_cases h2 : bt t 0 = 98 ∧ (natN (t.extract 1 t.size) 0).2.1 = (t.extract 1 t.size).size
      · rw [if_pos ⟨by omega, h2⟩, if_pos ⟨h0, h2.1, by rw [h2.2, hz]; omega⟩]
      · rw [if_neg (fun h => h2 h.2), if_neg (fun h => h2 ⟨h.2.1, by rw [hz]; omega⟩)]
    · rw [if_neg (fun h => h1 h.2.2.1), if_neg (fun h => h1 h.2.2.1)]
  · rw [if_neg (c := 1 < t.size ∧ _) (fun h => h0 h.1)]
    refine if_neg ?_
    rintro ⟨h1, _, h3, _⟩
    have hz : (t.extract 1 t.size).size = 0 := by rw [ByteArray.size_extract]; omega
    unfold natN at h3
    rw [if_pos hz.symm] at h3
    cases h3

end Go.Proofs.YtcnegeggecmncaaGreatDoor

/-
  wit.Read and its reference at lengths below 0; latchetref18.Same of equal witnesses.
-/
namespace Go.Proofs.YtcnegeggecmncaaGreatDoor
open Go.RowKit Go.Shelf

theorem zero_post (w W : World) (s : ByteArray) (la inp : Int) (h : la < 0 ∨ inp < 0) (hk : Kp (fun _ => False) w W) :
    WReadP w s (witT s la inp) (.returned (.tuple #[.agg #[.int .i64 0, .int .i64 0, .slice none 0 0, .slice none 0 0], .int .i64 0, .int .i64 1])) W := by
  have hT : witT s la inp = .bad 0 1 := by unfold witT; rw [if_pos h]
  rw [hT]
  exact ⟨⟨_, rfl, _, _, rfl, own_boolsSl (l := []) (Own.nil _ 0 _), none, 0, rfl, Nat.le_refl _, by simp [maxLen], fun _ => rfl, [], RowAt.nil _ _, rfl, fun j r x h => by cases h⟩, hk⟩

set_option maxRecDepth 100000 in
set_option maxHeartbeats 4000000 in
theorem wit_Read_bad (s : ByteArray) (la inp : Int) (w : World) (h : la < 0 ∨ inp < 0) :
    Calls Tryz.prog 12 #[.string s, .int .i64 la, .int .i64 inp] w (WReadP w s (witT s la inp)) := by
  have HZ := Lib.hid (fun W hk => zero_post w W s la inp h hk)
  have h3 : decide (la < 0) = true ∨ (decide (la < 0) = false ∧ decide (inp < 0) = true) := by
    by_cases h1 : la < 0
    · exact .inl (by simpa using h1)
    · exact .inr ⟨by simpa using h1, by rcases h with h | h; exact absurd h h1; simpa using h⟩
  clear h
  rcases h3 with g1 | ⟨g1, g2⟩
  all_goals
    go_enter Tryz.func12, Tryz.ntmps12
    go_wp2_with fail
    exact bodyPost_ret (v := .tuple #[.agg #[.int .i64 0, .int .i64 0, .slice none 0 0, .slice none 0 0], .int .i64 0, .int .i64 1]) (by simp [results, Tryz.results12, go_sem]) rfl (HZ.out _ (by repeat (first | exact Kp.refl _ w | apply Kp.alloc)))

/-- both Reads, of any lengths -/
theorem wit_Read_any (s : ByteArray) (la inp : Int) (w : World) (hs : s.size ≤ 100000) (hm : ML w) :
    Calls Tryz.prog 12 #[.string s, .int .i64 la, .int .i64 inp] w (WReadP w s (witT s la inp)) := by
  by_cases h : la < 0 ∨ inp < 0
  · exact wit_Read_bad s la inp w h
  · exact wit_Read_in s la inp w hs hm (by omega) (by omega)

set_option maxRecDepth 100000 in
set_option maxHeartbeats 4000000 in
theorem ref18_SameI (kind prop : Int) (u2 u3 x2 x3 : Value) (start : List Bool) (ins : List (List Bool)) (w : World) (h2 : BoolsSl w u2 start) (h3 : GridSl w u3 ins) (h2' : BoolsSl w x2 start) (h3' : GridSl w x3 ins) (hn : ins.length ≤ 1000000) :
    Calls Tryz.prog 13 #[.agg #[.int .i64 kind, .int .i64 prop, u2, u3], .agg #[.int .i64 kind, .int .i64 prop, x2, x3]] w fun e w' => e = .returned (.bool true) ∧ Kp (fun _ => False) w w' := by
  obtain ⟨a2, c2, rfl, p1, p2, p3, p4⟩ := h2
  obtain ⟨a2', c2', rfl, p1', p2', p3', p4'⟩ := h2'
  obtain ⟨a3, c3, rfl, r1, r2, r3, r4⟩ := h3
  obtain ⟨a3', c3', rfl, r1', r2', r3', r4'⟩ := h3'
  have q := ((Kp.refl (fun _ => False) w).alloc (.cells #[.int .i64 kind, .int .i64 prop, .slice a2 start.length c2, .slice a3 ins.length c3] 33)).alloc (.cells #[.int .i64 kind, .int .i64 prop, .slice a2' start.length c2', .slice a3' ins.length c3'] 33)
  have hB1 := (Blk.new w #[.int .i64 kind, .int .i64 prop, .slice a2 start.length c2, .slice a3 ins.length c3] 33).alloc (.cells #[.int .i64 kind, .int .i64 prop, .slice a2' start.length c2', .slice a3' ins.length c3'] 33)
  have hB2 := Blk.new (w.alloc (.cells #[.int .i64 kind, .int .i64 prop, .slice a2 start.length c2, .slice a3 ins.length c3] 33)) #[.int .i64 kind, .int .i64 prop, .slice a2' start.length c2', .slice a3' ins.length c3'] 33
  have hst := ref_Same a2 a2' start.length start.length c2 c2' start start _ (p4.kp q (fun _ _ h => h)) (p4'.kp q (fun _ _ h => h)) rfl rfl (by unfold maxLen at p2; omega)
  rw [show (start == start) = true by simp] at hst
  have hg := r4.kp q
  have hg' := r4'.kp q
  rw [World.size_alloc] at hB2
  obtain ⟨W1, hW1⟩ : ∃ W1, (w.alloc (.cells #[.int .i64 kind, .int .i64 prop, .slice a2 start.length c2, .slice a3 ins.length c3] 33)).alloc (.cells #[.int .i64 kind, .int .i64 prop, .slice a2' start.length c2', .slice a3' ins.length c3'] 33) = W1 := ⟨_, rfl⟩
  rw [hW1] at hst hB1 hB2 q hg hg'
  have HSt := Lib.hid hst
  have HG := Lib.hid hg
  have HG' := Lib.hid hg'
  have HQ := Lib.hid q
  have k0 := hB1.cell (i := 0) rfl
  have k1 := hB1.cell (i := 1) rfl
  have k2 := hB1.cell (i := 2) rfl
  have k3 := hB1.cell (i := 3) rfl
  have m0 := hB2.cell (i := 0) rfl
  have m1 := hB2.cell (i := 1) rfl
  have m2 := hB2.cell (i := 2) rfl
  have m3 := hB2.cell (i := 3) rfl
  have HB1 := Lib.hid hB1
  have HB2 := Lib.hid hB2
  clear hg hg'
  have e1 : (kind != kind) = false := by simp
  have e2 : (prop != prop) = false := by simp
  have e3 : ((ins.length : Int) != (ins.length : Int)) = false := by simp
  clear hst hB1 hB2 q p1 p2 p3 p4 p1' p2' p3' p4' r1 r2 r3 r4 r1' r2' r3' r4'
  go_enter Tryz.func13, Tryz.ntmps13
  go_wp2_with fail
  refine HSt.out.mono ?_
  rintro e w' ⟨rfl, q, hq⟩
  have hb1 := HB1.out.drewN q
  have hb2 := HB2.out.drewN q
  rw [← hq] at hb1 hb2
  have k1' := hb1.cell (i := 1) rfl
  have k3' := hb1.cell (i := 3) rfl
  have m1' := hb2.cell (i := 1) rfl
  have m3' := hb2.cell (i := 3) rfl
  have HQ2 := Lib.hid hq
  clear hq hb1 hb2 k0 k1 k2 k3 m0 m1 m2 m3 hW1
  go_wp2_with fail
  go_loopw [5] (fun v5 wr => ∃ k q : Nat, k ≤ ins.length ∧ v5 = .int .i64 k ∧ wr = W1.drewN q) (fun v5 _ => ins.length - (intOf v5).toNat)
  case atStart => exact ⟨0, q, Nat.zero_le _, rfl, HQ2.out⟩
  case round =>
    obtain ⟨k, q, hk, rfl, hw⟩ := hrel
    have hb1 := HB1.out.drewN q
    have hb2 := HB2.out.drewN q
    have hg := HG.out.kp ((Kp.refl (fun _ => False) W1).drewN q)
    have hg' := HG'.out.kp ((Kp.refl (fun _ => False) W1).drewN q)
    rw [← hw] at hb1 hb2 hg hg'
    have k3 := hb1.cell (i := 3) rfl
    have m3 := hb2.cell (i := 3) rfl
    clear hb1 hb2 k1' k3' m1' m3' HQ2
    have HW := Lib.hid hw
    clear hw
    by_cases hlt : k < ins.length
    · obtain ⟨b, off, v, rfl, c0, hv⟩ := hg.row hlt
      obtain ⟨b', off', v', rfl, c0', hv'⟩ := hg'.row hlt
      obtain ⟨av, cv, rfl, _, _, _, hv4⟩ := hv
      obtain ⟨av', cv', rfl, _, hcm2, _, hv4'⟩ := hv'
      have HI := Lib.hid (fun (j : Nat) => ref_Same av av' (gb ins k).length (gb ins k).length cv cv' (gb ins k) (gb ins k) (wr.drewN j) (hv4.drewN j) (hv4'.drewN j) rfl rfl (by unfold maxLen at hcm2; omega))
      rw [show (gb ins k == gb ins k) = true by simp] at HI
      obtain ⟨m, hm⟩ : ∃ m, (gb ins k).length = m := ⟨_, rfl⟩
      rw [hm] at HI c0 c0'
      clear hv4 hv4' hcm2 hm hg hg'
      have i0 : (0 : Int) ≤ (k : Int) := by omega
      have i1 : (k : Int) < (ins.length : Int) := by omega
      have dd : decide ((k : Int) < (ins.length : Int)) = true := by simp; omega
      go_wp2_with fail
      go_quiet ((go_at_call 29; exact Calls.quiet_of (HI.out _)))
      go_wp2_with fail
      go_roundw
      case rel => exact ⟨k + 1, _, by omega, by go_num, by rw [HW.out, World.drewN_drewN]⟩
      case measure => simp [intOf]; omega
    · have dd : decide ((k : Int) < (ins.length : Int)) = false := by simp; omega
      go_wp2_with fail
      go_ret
      exact ⟨rfl, by rw [HW.out]; exact HQ.out.drewN q⟩

theorem ref18_Same (v v' : Value) (d : WitD) (w : World) (hv : WitSl w v d) (hv' : WitSl w v' d) (hn : d.ins.length ≤ 1000000) :
    Calls Tryz.prog 13 #[v, v'] w fun e w' => e = .returned (.bool true) ∧ Kp (fun _ => False) w w' := by
  obtain ⟨u2, u3, rfl, h2, h3⟩ := hv
  obtain ⟨x2, x3, rfl, h2', h3'⟩ := hv'
  exact ref18_SameI d.kind d.prop u2 u3 x2 x3 d.start d.ins w h2 h3 h2' h3' hn

end Go.Proofs.YtcnegeggecmncaaGreatDoor

/-
  latchetlaw18.lives.
-/
namespace Go.Proofs.YtcnegeggecmncaaGreatDoor
open Go.RowKit Go.Shelf

def wlText : ByteArray := ⟨#[49, 10, 98, 48, 10, 48, 10, 49, 10, 46, 10]⟩
def wlD : WitD := ⟨1, 0, [false], [[true]]⟩
theorem wl_read : witT wlText 1 1 = .ok wlD := by kernel_rfl

/-- the literal that lives compares with -/
theorem wl_lit (w : World) : WitSl (((w.alloc (.cells #[.bool false] 4)).alloc (.cells #[.bool true] 4)).alloc (.cells #[.slice (some ⟨w.heap.size + 1, 0, none⟩) 1 1] 28))
    (.agg #[.int .i64 1, .int .i64 0, .slice (some ⟨w.heap.size, 0, none⟩) 1 1, .slice (some ⟨w.heap.size + 1 + 1, 0, none⟩) 1 1]) wlD := by
  have new : ∀ (u : World) (c : Array Value) (t : TypeId) (b : Nat), u.heap.size = b → Blk (u.alloc (.cells c t)) b c t := fun u c t b h => by subst h; exact Blk.new u c t
  have h0 : Blk (((w.alloc (.cells #[.bool false] 4)).alloc (.cells #[.bool true] 4)).alloc (.cells #[.slice (some ⟨w.heap.size + 1, 0, none⟩) 1 1] 28)) w.heap.size #[.bool false] 4 := ((new _ _ _ _ rfl).alloc _).alloc _
  have h1 : Blk (((w.alloc (.cells #[.bool false] 4)).alloc (.cells #[.bool true] 4)).alloc (.cells #[.slice (some ⟨w.heap.size + 1, 0, none⟩) 1 1] 28)) (w.heap.size + 1) #[.bool true] 4 := (new _ _ _ _ (by simp)).alloc _
  have h2 : Blk (((w.alloc (.cells #[.bool false] 4)).alloc (.cells #[.bool true] 4)).alloc (.cells #[.slice (some ⟨w.heap.size + 1, 0, none⟩) 1 1] 28)) (w.heap.size + 1 + 1) #[.slice (some ⟨w.heap.size + 1, 0, none⟩) 1 1] 28 := new _ _ _ _ (by simp)
  refine ⟨_, _, rfl, ⟨_, 1, rfl, Nat.le_refl _, by simp [maxLen], fun h => (by cases h), h0.rowAt (n := 1) rfl⟩, ⟨_, 1, rfl, Nat.le_refl _, by simp [maxLen], fun h => (by cases h), [.slice (some ⟨w.heap.size + 1, 0, none⟩) 1 1], h2.rowAt (n := 1) rfl, rfl, ?_⟩⟩
  intro k r x hr hx
  match k, hr, hx with
  | 0, hr, hx =>
    simp [wlD] at hr hx
    subst hr hx
    exact ⟨_, 1, rfl, Nat.le_refl _, by simp [maxLen], fun h => (by cases h), h1.rowAt (n := 1) rfl⟩
  | n + 1, hr, hx => simp at hr

theorem WitSl.kp {w w' : World} {v : Value} {d : WitD} (h : WitSl w v d) (k : Kp (fun _ => False) w w') : WitSl w' v d := by
  obtain ⟨v2, v3, rfl, h2, h3⟩ := h
  exact ⟨v2, v3, rfl, h2.kp k, h3.kp k⟩

set_option maxRecDepth 100000 in
set_option maxHeartbeats 4000000 in
theorem wit_lives (w : World) (hm : ML w) : Calls Tryz.prog 6 #[] w fun e w' => e = .returned (.bool true) ∧ Kp (fun _ => False) w w' := by
  have HRd := Lib.hid (wit_Read_any wlText 1 1 w (by decide) hm)
  rw [wl_read] at HRd
  unfold wlText at HRd
  clear hm
  go_enter Tryz.func6, Tryz.ntmps6
  go_wp2_with fail
  refine HRd.out.mono ?_
  rintro e w2 ⟨⟨v, rfl, hv⟩, hK⟩
  have HV := Lib.hid hv
  obtain ⟨v2, v3, rfl, ⟨a2, c2, rfl, _⟩, ⟨a3, c3, rfl, _⟩⟩ := hv
  have HK := Lib.hid hK
  clear hK
  have q := (Kp.refl (fun _ => False) w2).alloc (.cells #[.int .i64 1, .int .i64 0, .slice a2 1 c2, .slice a3 1 c3] 33)
  have hB := Blk.new w2 #[.int .i64 1, .int .i64 0, .slice a2 1 c2, .slice a3 1 c3] 33
  simp only [WitO.w, WitO.at_, WitO.e, wlD, List.length_cons, List.length_nil] at HV ⊢
  have hL := wl_lit (w2.alloc (.cells #[.int .i64 1, .int .i64 0, .slice a2 1 c2, .slice a3 1 c3] 33))
  rw [World.size_alloc] at hL
  have q4 := ((q.alloc (.cells #[.bool false] 4)).alloc (.cells #[.bool true] 4)).alloc (.cells #[.slice (some ⟨w2.heap.size + 1 + 1, 0, none⟩) 1 1] 28)
  have HSm := Lib.hid (ref18_Same (.agg #[.int .i64 1, .int .i64 0, .slice a2 1 c2, .slice a3 1 c3]) _ wlD _ (HV.out.kp q4) hL (by decide))
  have HK4 := Lib.hid (HK.out.trans q4 (fun _ _ h => h))
  clear hL q4 q
  go_wp2_with fail
  refine HSm.out.mono ?_
  rintro e w3 ⟨rfl, hK3⟩
  have HK5 := Lib.hid (HK4.out.trans hK3 (fun _ _ h => h))
  clear hK3
  go_wp2_with fail
  go_ret
  exact ⟨rfl, HK5.out⟩

end Go.Proofs.YtcnegeggecmncaaGreatDoor

/-
  latchetlaw17.Short. (Out of XWitShort.)
-/
namespace Go.Proofs.YtcnegeggecmncaaGreatDoor
open Go.RowKit

/-- few steps, of few values -/
def shortP (start : List Bool) (ins : List (List Bool)) (most : Nat) : Prop := start.length ≤ 60 ∧ ins.length ≤ most ∧ ∀ k, k < ins.length → (gb ins k).length ≤ 60
instance (start : List Bool) (ins : List (List Bool)) (most : Nat) : Decidable (shortP start ins most) := by unfold shortP; infer_instance

theorem short_mem {start : List Bool} {ins : List (List Bool)} {most : Nat} (h : shortP start ins most) : ∀ x ∈ ins, x.length ≤ 60 := by
  intro x hx
  obtain ⟨k, hk, rfl⟩ := List.mem_iff_getElem.1 hx
  have := h.2.2 k hk
  unfold gb at this
  rwa [List.getElem?_eq_getElem hk] at this

set_option maxRecDepth 100000 in
set_option maxHeartbeats 2000000 in
theorem law17_Short (v2 v3 : Value) (start : List Bool) (ins : List (List Bool)) (most : Nat) (w : World) (hs : BoolsSl w v2 start) (hi : GridSl w v3 ins) :
    Calls Tryz.prog 5 #[.agg #[v2, v3], .int .i64 most] w fun e w' => e = .returned (.bool (decide (shortP start ins most))) ∧ Kp (fun _ => False) w w' := by
  obtain ⟨a2, c2, rfl, _, _, _, _⟩ := hs
  obtain ⟨a3, c3, rfl, i1, i2, _, i4⟩ := hi
  have hB := Blk.new w #[.slice a2 start.length c2, .slice a3 ins.length c3] 31
  have q := (Kp.refl (fun _ => False) w).alloc (.cells #[.slice a2 start.length c2, .slice a3 ins.length c3] 31)
  have hG := i4.kp q
  obtain ⟨W1, hW1⟩ : ∃ W1, w.alloc (.cells #[.slice a2 start.length c2, .slice a3 ins.length c3] 31) = W1 := ⟨_, rfl⟩
  rw [hW1] at hB q hG
  have HQ := Lib.hid q
  have HG := Lib.hid hG
  have k0 := hB.cell (i := 0) rfl
  have k1 := hB.cell (i := 1) rfl
  have hin : ins.length ≤ 9223372036854775807 := by unfold maxLen at i2; omega
  clear hB q hG i1 i2 i4
  have HD := Lib.hid (show (decide (shortP start ins most) = true ↔ shortP start ins most) from decide_eq_true_iff)
  by_cases c1 : start.length ≤ 60
  · have g1 : decide ((60 : Int) < (start.length : Int)) = false := by simp; omega
    by_cases c2' : ins.length ≤ most
    · have g2 : decide ((most : Int) < (ins.length : Int)) = false := by simp; omega
      go_enter Tryz.func5, Tryz.ntmps5
      go_wp2_with fail
      go_loop [5] (fun v5 => ∃ k : Nat, k ≤ ins.length ∧ v5 = .int .i64 k ∧ ∀ j, j < k → (gb ins j).length ≤ 60) (fun v5 => ins.length - (intOf v5).toNat)
      case atStart => exact ⟨0, Nat.zero_le _, rfl, fun j hj => by omega⟩
      case round =>
        obtain ⟨k, hk, rfl, hall⟩ := hrel
        have HAll := Lib.hid hall
        clear hall
        by_cases hlt : k < ins.length
        · obtain ⟨b, off, v, rfl, c0, hv⟩ := HG.out.row hlt
          obtain ⟨av, cv, rfl, _, _, _, _⟩ := hv
          have dd : decide ((k : Int) < (ins.length : Int)) = true := by simp; omega
          by_cases c3' : (gb ins k).length ≤ 60
          · have g3 : decide ((60 : Int) < ((gb ins k).length : Int)) = false := by simp; omega
            have HC := Lib.hid c3'
            obtain ⟨m, hm⟩ : ∃ m, (gb ins k).length = m := ⟨_, rfl⟩
            rw [hm] at g3 c0
            clear c3' hm
            go_wp2_with fail
            refine ⟨⟨k + 1, by omega, by go_num, fun j hj => ?_⟩, by simp [intOf]; omega⟩
            by_cases e : j = k
            · subst e; exact HC.out
            · exact HAll.out j (by omega)
          · have g3 : decide ((60 : Int) < ((gb ins k).length : Int)) = true := by simp; omega
            have HC : Hid (decide (shortP start ins most) = false) := by
              show _ = _
              rw [decide_eq_false_iff_not]
              exact fun h => c3' (h.2.2 k hlt)
            obtain ⟨m, hm⟩ : ∃ m, (gb ins k).length = m := ⟨_, rfl⟩
            rw [hm] at g3 c0
            clear c3' hm
            go_wp2_with fail
            go_ret
            rw [HC.out]
            exact ⟨rfl, HQ.out⟩
        · have dd : decide ((k : Int) < (ins.length : Int)) = false := by simp; omega
          have HC := Lib.hid (HD.out.2 ⟨c1, c2', fun j hj => HAll.out j (by omega)⟩)
          go_wp2_with fail
          go_ret
          rw [HC.out]
          exact ⟨rfl, HQ.out⟩
    · have g2 : decide ((most : Int) < (ins.length : Int)) = true := by simp; omega
      have HC : Hid (decide (shortP start ins most) = false) := by
        show _ = _
        rw [decide_eq_false_iff_not]
        exact fun h => c2' h.2.1
      go_enter Tryz.func5, Tryz.ntmps5
      go_wp2_with fail
      go_ret
      rw [HC.out]
      exact ⟨rfl, HQ.out⟩
  · have g1 : decide ((60 : Int) < (start.length : Int)) = true := by simp; omega
    have HC : Hid (decide (shortP start ins most) = false) := by
      show _ = _
      rw [decide_eq_false_iff_not]
      exact fun h => c1 h.1
    go_enter Tryz.func5, Tryz.ntmps5
    go_wp2_with fail
    go_ret
    rw [HC.out]
    exact ⟨rfl, HQ.out⟩

end Go.Proofs.YtcnegeggecmncaaGreatDoor

/-
  latchetlaw11.Few. (Printed by mkfew.py.)
-/
namespace Go.Proofs.YtcnegeggecmncaaGreatDoor
open Go Go.RowKit

structure FewP (V : CV) (C : Circ) (m : Nat) : Prop where
  i : C.ins.length ≤ m
  l : C.lats.length ≤ m
  g : C.gates.length ≤ m
  o : C.outs.length ≤ m
  b : C.bads.length ≤ m
  c : C.cons.length ≤ m
  y : V.ny ≤ m
  t : V.cm.size ≤ 300

theorem FewP.few {V : CV} {C : Circ} {m k : Nat} (h : FewP V C m) (hk : m ≤ k) : CFew C k := ⟨Nat.le_trans h.i hk, Nat.le_trans h.l hk, Nat.le_trans h.o hk, Nat.le_trans h.b hk, Nat.le_trans h.c hk, Nat.le_trans h.g hk⟩

set_option maxRecDepth 100000 in
set_option maxHeartbeats 4000000 in
theorem law11_Few (V : CV) (C : Circ) (m : Nat) (w : World) :
    Calls Tryz.prog 4 #[.agg (cvals V C), .int .i64 m] w fun e w' => ∃ r : Bool, e = .returned (.bool r) ∧ (r = true ↔ FewP V C m) ∧ Kp (fun _ => False) w w' := by
  obtain ⟨wz, hwz⟩ : ∃ wz : World, wz = w.alloc (.cells (cvals V C) 27) := ⟨_, rfl⟩
  have HK0 := Lib.hid (show Kp (fun _ => False) w wz by rw [hwz]; exact (Kp.refl _ w).alloc _)
  obtain ⟨ni, hni⟩ : ∃ n, C.ins.length = n := ⟨_, rfl⟩
  obtain ⟨nl, hnl⟩ : ∃ n, C.lats.length = n := ⟨_, rfl⟩
  obtain ⟨no, hno⟩ : ∃ n, C.outs.length = n := ⟨_, rfl⟩
  obtain ⟨nb, hnb⟩ : ∃ n, C.bads.length = n := ⟨_, rfl⟩
  obtain ⟨nc, hnc⟩ : ∃ n, C.cons.length = n := ⟨_, rfl⟩
  obtain ⟨ng, hng⟩ : ∃ n, C.gates.length = n := ⟨_, rfl⟩
  obtain ⟨ny, hny⟩ : ∃ n, V.ny = n := ⟨_, rfl⟩
  obtain ⟨cm, hcm⟩ : ∃ s, V.cm = s := ⟨_, rfl⟩
  have HF := Lib.hid (show FewP V C m ↔ ni ≤ m ∧ nl ≤ m ∧ ng ≤ m ∧ no ≤ m ∧ nb ≤ m ∧ nc ≤ m ∧ ny ≤ m ∧ cm.size ≤ 300 from ⟨fun ⟨h1, h2, h3, h4, h5, h6, h7, h8⟩ => ⟨hni ▸ h1, hnl ▸ h2, hng ▸ h3, hno ▸ h4, hnb ▸ h5, hnc ▸ h6, hny ▸ h7, hcm ▸ h8⟩, fun ⟨h1, h2, h3, h4, h5, h6, h7, h8⟩ => ⟨hni ▸ h1, hnl ▸ h2, hng ▸ h3, hno ▸ h4, hnb ▸ h5, hnc ▸ h6, hny ▸ h7, hcm ▸ h8⟩⟩)
  have HC0 : Hid (Blk wz w.heap.size #[.int .i64 C.max, .slice V.ai ni V.ci, .slice V.al nl V.cl, .slice V.ao no V.co, .slice V.ab nb V.cb, .slice V.ac nc V.cc, .slice V.ag ng V.cg, .slice V.ay ny V.cy, .string cm] 27) := Lib.hid (by
    have h := Blk.new w (cvals V C) 27
    rw [← hwz] at h
    unfold cvals at h
    rw [hni, hnl, hno, hnb, hnc, hng, hny, hcm] at h
    exact h)
  obtain ⟨d0, d1, d2, d3, d4, d5, d6, d7, d8⟩ := Blk.cells9 HC0.out
  have HZ := Lib.hid hwz
  clear hni hnl hno hnb hnc hng hny hcm hwz
  by_cases h0 : ni ≤ m
  case neg =>
    have HNo := Lib.hid (show ¬ (ni ≤ m ∧ nl ≤ m ∧ ng ≤ m ∧ no ≤ m ∧ nb ≤ m ∧ nc ≤ m ∧ ny ≤ m ∧ cm.size ≤ 300) from fun h => h0 h.1)
    go_enter Tryz.func4, Tryz.ntmps4
    go_upto_region 1 with fail
    rw [← HZ.out]
    clear HZ
    go_wp2_with fail
    go_ret
    exact ⟨false, rfl, ⟨fun h => (by cases h), fun h => absurd (HF.out.1 h) HNo.out⟩, HK0.out⟩
  by_cases h1 : nl ≤ m
  case neg =>
    have HNo := Lib.hid (show ¬ (ni ≤ m ∧ nl ≤ m ∧ ng ≤ m ∧ no ≤ m ∧ nb ≤ m ∧ nc ≤ m ∧ ny ≤ m ∧ cm.size ≤ 300) from fun h => h1 h.2.1)
    go_enter Tryz.func4, Tryz.ntmps4
    go_upto_region 1 with fail
    rw [← HZ.out]
    clear HZ
    go_wp2_with fail
    go_ret
    exact ⟨false, rfl, ⟨fun h => (by cases h), fun h => absurd (HF.out.1 h) HNo.out⟩, HK0.out⟩
  by_cases h2 : ng ≤ m
  case neg =>
    have HNo := Lib.hid (show ¬ (ni ≤ m ∧ nl ≤ m ∧ ng ≤ m ∧ no ≤ m ∧ nb ≤ m ∧ nc ≤ m ∧ ny ≤ m ∧ cm.size ≤ 300) from fun h => h2 h.2.2.1)
    go_enter Tryz.func4, Tryz.ntmps4
    go_upto_region 1 with fail
    rw [← HZ.out]
    clear HZ
    go_wp2_with fail
    go_ret
    exact ⟨false, rfl, ⟨fun h => (by cases h), fun h => absurd (HF.out.1 h) HNo.out⟩, HK0.out⟩
  by_cases h3 : no ≤ m
  case neg =>
    have HNo := Lib.hid (show ¬ (ni ≤ m ∧ nl ≤ m ∧ ng ≤ m ∧ no ≤ m ∧ nb ≤ m ∧ nc ≤ m ∧ ny ≤ m ∧ cm.size ≤ 300) from fun h => h3 h.2.2.2.1)
    go_enter Tryz.func4, Tryz.ntmps4
    go_upto_region 1 with fail
    rw [← HZ.out]
    clear HZ
    go_wp2_with fail
    go_ret
    exact ⟨false, rfl, ⟨fun h => (by cases h), fun h => absurd (HF.out.1 h) HNo.out⟩, HK0.out⟩
  by_cases h4 : nb ≤ m
  case neg =>
    have HNo := Lib.hid (show ¬ (ni ≤ m ∧ nl ≤ m ∧ ng ≤ m ∧ no ≤ m ∧ nb ≤ m ∧ nc ≤ m ∧ ny ≤ m ∧ cm.size ≤ 300) from fun h => h4 h.2.2.2.2.1)
    go_enter Tryz.func4, Tryz.ntmps4
    go_upto_region 1 with fail
    rw [← HZ.out]
    clear HZ
    go_wp2_with fail
    go_ret
    exact ⟨false, rfl, ⟨fun h => (by cases h), fun h => absurd (HF.out.1 h) HNo.out⟩, HK0.out⟩
  by_cases h5 : nc ≤ m
  case neg =>
    have HNo := Lib.hid (show ¬ (ni ≤ m ∧ nl ≤ m ∧ ng ≤ m ∧ no ≤ m ∧ nb ≤ m ∧ nc ≤ m ∧ ny ≤ m ∧ cm.size ≤ 300) from fun h => h5 h.2.2.2.2.2.1)
    go_enter Tryz.func4, Tryz.ntmps4
    go_upto_region 1 with fail
    rw [← HZ.out]
    clear HZ
    go_wp2_with fail
    go_ret
    exact ⟨false, rfl, ⟨fun h => (by cases h), fun h => absurd (HF.out.1 h) HNo.out⟩, HK0.out⟩
  by_cases h6 : ny ≤ m
  case neg =>
    have HNo := Lib.hid (show ¬ (ni ≤ m ∧ nl ≤ m ∧ ng ≤ m ∧ no ≤ m ∧ nb ≤ m ∧ nc ≤ m ∧ ny ≤ m ∧ cm.size ≤ 300) from fun h => h6 h.2.2.2.2.2.2.1)
    go_enter Tryz.func4, Tryz.ntmps4
    go_upto_region 1 with fail
    rw [← HZ.out]
    clear HZ
    go_wp2_with fail
    go_ret
    exact ⟨false, rfl, ⟨fun h => (by cases h), fun h => absurd (HF.out.1 h) HNo.out⟩, HK0.out⟩
  by_cases h7 : cm.size ≤ 300
  case neg =>
    have HNo := Lib.hid (show ¬ (ni ≤ m ∧ nl ≤ m ∧ ng ≤ m ∧ no ≤ m ∧ nb ≤ m ∧ nc ≤ m ∧ ny ≤ m ∧ cm.size ≤ 300) from fun h => h7 h.2.2.2.2.2.2.2)
    have hd : decide ((cm.size : Int) ≤ 300) = false := decide_eq_false (by omega)
    go_enter Tryz.func4, Tryz.ntmps4
    go_upto_region 1 with fail
    rw [← HZ.out]
    clear HZ
    go_wp2_with fail
    go_ret
    exact ⟨false, rfl, ⟨fun h => (by cases h), fun h => absurd (HF.out.1 h) HNo.out⟩, HK0.out⟩
  have HY := Lib.hid (show ni ≤ m ∧ nl ≤ m ∧ ng ≤ m ∧ no ≤ m ∧ nb ≤ m ∧ nc ≤ m ∧ ny ≤ m ∧ cm.size ≤ 300 from ⟨h0, h1, h2, h3, h4, h5, h6, h7⟩)
  have hd : decide ((cm.size : Int) ≤ 300) = true := decide_eq_true (by omega)
  go_enter Tryz.func4, Tryz.ntmps4
  go_upto_region 1 with fail
  rw [← HZ.out]
  clear HZ
  go_wp2_with fail
  go_ret
  exact ⟨true, rfl, ⟨fun _ => HF.out.2 HY.out, fun _ => rfl⟩, HK0.out⟩

end Go.Proofs.YtcnegeggecmncaaGreatDoor

/-
  latchetref11.Check: what is wrong with any circuit. (Printed by mkrefcheck.py.)
-/
namespace Go.Proofs.YtcnegeggecmncaaGreatDoor
open Go.RowKit

theorem ref02_HasQ (a : Option Addr) (n c q : Nat) (L : List Int) (x : Int) (w : World) (hr : IntsAt w a L) (hn : L.length = n) (hm : n ≤ 9000000000) :
    Calls Tryz.prog 16 #[.slice a n c, .int .i64 x] (w.drewN q) fun e w' => e = .returned (.bool (decide (x ∈ L))) ∧ w' = w.drewN q :=
  (ref02_Has a n c L x (w.drewN q) hr hn hm).mono fun _ _ ⟨h1, h2⟩ => ⟨h1, h2.symm⟩

theorem range_bad1 {C : Circ} {k : Nat} (hk : k < C.owned.length) (h : ownB C.max (gi C.owned k) = false) : rangeB C = false := by
  unfold rangeB
  have : C.owned.all (ownB C.max) = false := by
    rw [List.all_eq_false]
    refine ⟨gi C.owned k, ?_, by simp [h]⟩
    unfold gi; rw [List.getElem?_eq_getElem hk]; exact List.getElem_mem hk
  rw [this]; rfl
theorem range_bad2 {C : Circ} {k : Nat} (hk : k < C.used.length) (h : useB C.max (gi C.used k) = false) : rangeB C = false := by
  unfold rangeB
  have : C.used.all (useB C.max) = false := by
    rw [List.all_eq_false]
    refine ⟨gi C.used k, ?_, by simp [h]⟩
    unfold gi; rw [List.getElem?_eq_getElem hk]; exact List.getElem_mem hk
  rw [this, Bool.and_false]
theorem range_bad3 {C : Circ} {k : Nat} (hk : k < C.lats.length) (h : resB (g3 C.lats k) = false) : rangeB C = false := by
  unfold rangeB
  have : C.lats.all resB = false := by
    rw [List.all_eq_false]
    exact ⟨_, g3_mem hk, by simp [h]⟩
  rw [this, Bool.and_false, Bool.false_and]
theorem range_all {C : Circ} (h1 : C.owned.all (ownB C.max) = true) (h2 : C.used.all (useB C.max) = true) (h3 : C.lats.all resB = true) : rangeB C = true := by
  unfold rangeB; rw [h1, h2, h3]; rfl

theorem knownB_iff {C : Circ} (hR : InRange C) {x : Int} (hx : x ∈ C.used) : knownB C.owned x = (!(decide (1 < x)) || decide (x - x % 2 ∈ C.owned)) := by
  have h0 := hR.use x hx
  unfold knownB
  rw [Bool.eq_iff_iff]
  simp only [Bool.or_eq_true, decide_eq_true_eq, List.any_eq_true, Bool.not_eq_true', decide_eq_false_iff_not]
  constructor
  · rintro (h | ⟨y, hy, e⟩)
    · left; omega
    · right
      have h1 := hR.own y hy
      have : y = x - x % 2 := by omega
      rw [← this]; exact hy
  · rintro (h | h)
    · left; omega
    · by_cases h1 : x / 2 = 0
      · exact .inl h1
      · exact .inr ⟨_, h, by omega⟩

set_option maxRecDepth 100000 in
set_option maxHeartbeats 8000000 in
theorem ref11_Chk (V : CV) (C : Circ) (w : World) (h : CAt w V C) (hf : CFew C 1000000) :
    Calls Tryz.prog 7 #[.agg (cvals V C)] w fun e w' => e = .returned (.int .i64 (ckCode C)) ∧ Kp (fun _ => False) w w' := by
  obtain ⟨code, hcode⟩ : ∃ code, ckCode C = code := ⟨_, rfl⟩
  rw [hcode]
  have HCode := Lib.hid hcode
  clear hcode
  have HC0 := Lib.hid (Blk.new w (cvals V C) 27)
  have HK0 := Lib.hid ((Kp.refl (fun _ => False) w).alloc (.cells (cvals V C) 27))
  by_cases m0 : 0 ≤ C.max
  case neg =>
    have d1 : decide (C.max < 0) = true := decide_eq_true (by omega)
    obtain rfl : code = 5 := by rw [← HCode.out]; exact ck5 (.inl (by omega))
    have c0 := HC0.out.cell (i := 0) (v := .int .i64 C.max) rfl
    clear m0 h hf
    go_enter Tryz.func7, Tryz.ntmps7
    go_wp2_with fail
    go_ret
    exact ⟨rfl, HK0.out⟩
  have e1 : decide (C.max < 0) = false := decide_eq_false (by omega)
  by_cases m1 : C.max ≤ 16777216
  case neg =>
    have d1 : decide ((16777216 : Int) < C.max) = true := decide_eq_true (by omega)
    obtain rfl : code = 5 := by rw [← HCode.out]; exact ck5 (.inr (.inl (by omega)))
    have c0 := HC0.out.cell (i := 0) (v := .int .i64 C.max) rfl
    clear m1 h hf
    go_enter Tryz.func7, Tryz.ntmps7
    go_wp2_with fail
    go_ret
    exact ⟨rfl, HK0.out⟩
  have e2 : decide ((16777216 : Int) < C.max) = false := decide_eq_false (by omega)
  have HM := Lib.hid (And.intro m0 m1)
  have hl := (h.fl.le63).1
  have HA := Lib.hid h
  have HF := Lib.hid hf
  obtain ⟨n3, hn3⟩ : ∃ n, C.owned.length = n := ⟨_, rfl⟩
  obtain ⟨n4, hn4⟩ : ∃ n, C.used.length = n := ⟨_, rfl⟩
  obtain ⟨gn_, hgn⟩ : ∃ g, C.gates.length = g := ⟨_, rfl⟩
  have h3 : n3 ≤ 3000000 := by rw [← hn3]; have := hf.i; have := hf.l; have := hf.g; unfold Circ.owned; simp; omega
  have h4 : n4 ≤ 6000000 := by
    rw [← hn4]
    have := hf.o; have := hf.b; have := hf.c; have := hf.l; have := hf.g
    have e : (C.gates.flatMap (fun g => [g.2.1, g.2.2])).length = 2 * C.gates.length := by
      generalize C.gates = L
      induction L with
      | nil => rfl
      | cons a r ih => rw [List.flatMap_cons, List.length_append, ih]; simp; omega
    unfold Circ.used
    rw [List.length_append, e]
    simp
    omega
  have HN3 := Lib.hid hn3
  have HN4 := Lib.hid hn4
  have HGN := Lib.hid hgn
  have HU : Hid (cvals V C = #[.int .i64 C.max, .slice V.ai C.ins.length V.ci, .slice V.al C.lats.length V.cl, .slice V.ao C.outs.length V.co, .slice V.ab C.bads.length V.cb, .slice V.ac C.cons.length V.cc, .slice V.ag gn_ V.cg, .slice V.ay V.ny V.cy, .string V.cm]) := Lib.hid (by unfold cvals; rw [hgn])
  have HOw := Lib.hid (show ∀ u, Kp (fun _ => False) w u → Calls Tryz.prog 14 #[.agg #[.int .i64 C.max, .slice V.ai C.ins.length V.ci, .slice V.al C.lats.length V.cl, .slice V.ao C.outs.length V.co, .slice V.ab C.bads.length V.cb, .slice V.ac C.cons.length V.cc, .slice V.ag gn_ V.cg, .slice V.ay V.ny V.cy, .string V.cm]] u fun e u' => (∃ a c, e = .returned (.slice a n3 c) ∧ (n3 ≤ c ∧ c ≤ 9223372036854775807) ∧ IntsAt u' a C.owned) ∧ Kp (fun _ => False) u u' from fun u hu => by
    have := (ref11_Owned V C u (h.kp hu) hf).mono (R' := fun e u' => (∃ a c, e = .returned (.slice a n3 c) ∧ (n3 ≤ c ∧ c ≤ 9223372036854775807) ∧ IntsAt u' a C.owned) ∧ Kp (fun _ => False) u u') (by
      rintro e u' ⟨v, rfl, hO, hK⟩
      obtain ⟨a, c, e, hc1, hc2, -, hr⟩ := hO.form
      rw [iv_length, hn3] at e hc1
      unfold maxLen at hc2
      exact ⟨⟨a, c, by rw [e], ⟨hc1, hc2⟩, hr⟩, hK⟩)
    rw [HU.out] at this
    exact this)
  have HUs := Lib.hid (show ∀ u, Kp (fun _ => False) w u → Calls Tryz.prog 15 #[.agg #[.int .i64 C.max, .slice V.ai C.ins.length V.ci, .slice V.al C.lats.length V.cl, .slice V.ao C.outs.length V.co, .slice V.ab C.bads.length V.cb, .slice V.ac C.cons.length V.cc, .slice V.ag gn_ V.cg, .slice V.ay V.ny V.cy, .string V.cm]] u fun e u' => (∃ a c, e = .returned (.slice a n4 c) ∧ IntsAt u' a C.used) ∧ Kp (fun _ => False) u u' from fun u hu => by
    have := (ref11_Used V C u (h.kp hu) hf).mono (R' := fun e u' => (∃ a c, e = .returned (.slice a n4 c) ∧ IntsAt u' a C.used) ∧ Kp (fun _ => False) u u') (by
      rintro e u' ⟨v, rfl, hO, hK⟩
      obtain ⟨a, c, e, -, -, -, hr⟩ := hO.form
      rw [iv_length, hn4] at e
      exact ⟨⟨a, c, by rw [e], hr⟩, hK⟩)
    rw [HU.out] at this
    exact this)
  have HC1 : Hid (Blk (w.alloc (.cells (cvals V C) 27)) w.heap.size #[.int .i64 C.max, .slice V.ai C.ins.length V.ci, .slice V.al C.lats.length V.cl, .slice V.ao C.outs.length V.co, .slice V.ab C.bads.length V.cb, .slice V.ac C.cons.length V.cc, .slice V.ag gn_ V.cg, .slice V.ay V.ny V.cy, .string V.cm] 27) := Lib.hid (by have := HC0.out; rw [← HU.out]; exact this)
  clear h hf hn3 hn4 hgn
  have c0 := HC0.out.cell (i := 0) (v := .int .i64 C.max) rfl
  go_enter Tryz.func7, Tryz.ntmps7
  go_upto_region 3 with fail
  obtain ⟨wz, hwz⟩ : ∃ wz : World, wz = w.alloc (.cells (cvals V C) 27) := ⟨_, rfl⟩
  rw [← hwz] at HC1 HK0 c0 ⊢
  clear hwz HC0 e1 e2 c0
  go_cut [3, 4] from 19 to 22 (fun s3 s4 wx => ∃ a3 c3 a4 c4, s3 = .slice a3 n3 c3 ∧ s4 = .slice a4 n4 c4 ∧ (n3 ≤ c3 ∧ c3 ≤ 9223372036854775807) ∧ IntsAt wx a3 C.owned ∧ IntsAt wx a4 C.used ∧ Blk wx w.heap.size #[.int .i64 C.max, .slice V.ai C.ins.length V.ci, .slice V.al C.lats.length V.cl, .slice V.ao C.outs.length V.co, .slice V.ab C.bads.length V.cb, .slice V.ac C.cons.length V.cc, .slice V.ag gn_ V.cg, .slice V.ay V.ny V.cy, .string V.cm] 27 ∧ Kp (fun _ => False) w wx)
  case first =>
    go_region_held3 (fun u => u.cell? ⟨w.heap.size, 0, none⟩ = some (.int .i64 C.max) ∧ u.cell? ⟨w.heap.size, 1, none⟩ = some (.slice V.ai C.ins.length V.ci) ∧ u.cell? ⟨w.heap.size, 2, none⟩ = some (.slice V.al C.lats.length V.cl) ∧ u.cell? ⟨w.heap.size, 3, none⟩ = some (.slice V.ao C.outs.length V.co) ∧ u.cell? ⟨w.heap.size, 4, none⟩ = some (.slice V.ab C.bads.length V.cb) ∧ u.cell? ⟨w.heap.size, 5, none⟩ = some (.slice V.ac C.cons.length V.cc) ∧ u.cell? ⟨w.heap.size, 6, none⟩ = some (.slice V.ag gn_ V.cg) ∧ u.cell? ⟨w.heap.size, 7, none⟩ = some (.slice V.ay V.ny V.cy) ∧ u.cell? ⟨w.heap.size, 8, none⟩ = some (.string V.cm)) (with_reducible first | exact HC1.out.cells9 | exact HC1.out.drew.cells9 | exact HXa.out.cells9 | exact HXa.out.drew.cells9 | exact HXb.out.cells9 | exact HXb.out.drew.cells9) ((first
      | ((with_reducible refine Calls.mono (HOw.out _ (by first | exact HK0.out | exact HK0.out.drew | exact HKb.out | exact HKb.out.drew)) ?_); rintro o u1 ⟨⟨a1, c1, rfl, hcp, hi1⟩, hK1⟩; have HCP := Lib.hid hcp; clear hcp; have HI1 := Lib.hid hi1; have HKK1 := Lib.hid hK1; have HXa := Lib.hid (by with_reducible first | exact HC1.out.kp hK1 (fun h => h) | exact HC1.out.drew.kp hK1 (fun h => h) | exact HXb.out.kp hK1 (fun h => h) | exact HXb.out.drew.kp hK1 (fun h => h)); have HKa := Lib.hid (by with_reducible first | exact HK0.out.trans hK1 (fun _ _ h => h) | exact HK0.out.drew.trans hK1 (fun _ _ h => h) | exact HKb.out.trans hK1 (fun _ _ h => h) | exact HKb.out.drew.trans hK1 (fun _ _ h => h)); clear hK1 hi1)
      | ((with_reducible refine Calls.mono (HUs.out _ (by first | exact HK0.out | exact HK0.out.drew | exact HKa.out | exact HKa.out.drew)) ?_); rintro o u2 ⟨⟨a2, c2, rfl, hi2⟩, hK2⟩; have HI2 := Lib.hid hi2; have HKK2 := Lib.hid hK2; have HXb := Lib.hid (by with_reducible first | exact HC1.out.kp hK2 (fun h => h) | exact HC1.out.drew.kp hK2 (fun h => h) | exact HXa.out.kp hK2 (fun h => h) | exact HXa.out.drew.kp hK2 (fun h => h)); have HKb := Lib.hid (by with_reducible first | exact HK0.out.trans hK2 (fun _ _ h => h) | exact HK0.out.drew.trans hK2 (fun _ _ h => h) | exact HKa.out.trans hK2 (fun _ _ h => h) | exact HKa.out.drew.trans hK2 (fun _ _ h => h)); clear hK2 hi2)))
    all_goals go_wp2_with fail
    all_goals go_meet
    all_goals first
      | exact ⟨a1, c1, a2, c2, rfl, rfl, HCP.out, RowAt.kp HI1.out HKK2.out (fun _ _ h => h), HI2.out, HXb.out, HKb.out⟩
      | exact ⟨a1, c1, a2, c2, rfl, rfl, HCP.out, HI1.out, RowAt.kp HI2.out HKK1.out (fun _ _ h => h), HXa.out, HKa.out⟩
      | exact ⟨a1, c1, a2, c2, rfl, rfl, HCP.out, RowAt.kp HI1.out HKK2.out (fun _ _ h => h), HI2.out, HXb.out.drew, HKb.out.drew⟩
      | exact ⟨a1, c1, a2, c2, rfl, rfl, HCP.out, HI1.out, RowAt.kp HI2.out HKK1.out (fun _ _ h => h), HXa.out.drew, HKa.out.drew⟩
  case rest =>
  obtain ⟨a3, cp3, a4, cp4, rfl, rfl, ⟨hcp1, hcp2⟩, hi3, hi4, hC, hK⟩ := hcut
  obtain ⟨wa, rfl⟩ : ∃ wa : World, wa = wc := ⟨_, rfl⟩
  have HI3 := Lib.hid hi3
  have HI4 := Lib.hid hi4
  have HC := Lib.hid hC
  have HKa := Lib.hid hK
  clear HC1 HK0 HOw HUs hi3 hi4 hC hK
  have mm1 : IntKind.i64.wrap (2 * C.max) = 2 * C.max := IntWalk.i64_in _ (by omega)
  have mm2 : IntKind.i64.wrap (2 * C.max + 1) = 2 * C.max + 1 := IntWalk.i64_in _ (by omega)
  have HMM := Lib.hid (And.intro mm1 mm2)
  clear mm1 mm2
  go_wp2_with fail
  go_loopw [5] (fun v5 wr => ∃ k : Nat, v5 = .int .i64 k ∧ k ≤ n3 ∧ (C.owned.take k).all (ownB C.max) = true ∧ Kp (fun _ => False) wa wr) (fun v5 _ => n3 - (intOf v5).toNat)
  case atStart => exact ⟨0, rfl, by omega, by simp, Kp.refl _ _⟩
  case round =>
    obtain ⟨k, rfl, hk, hall, hK⟩ := hrel
    obtain ⟨wp, rfl⟩ : ∃ wp : World, wp = wr := ⟨_, rfl⟩
    have HK := Lib.hid hK
    by_cases hlt : k < n3
    · have hkl : k < C.owned.length := by rw [HN3.out]; exact hlt
      obtain ⟨b, off, rfl, hcell⟩ := IntsAt.get (RowAt.kp HI3.out hK (fun _ _ h => h)) hkl
      have hat := all_take (take_gi hkl) (ownB C.max)
      rw [hall, Bool.true_and] at hat
      have HBad := Lib.hid (fun h => (range_bad1 (C := C) hkl h))
      obtain ⟨x, hx⟩ : ∃ x, gi C.owned k = x := ⟨_, rfl⟩
      rw [hx] at hcell hat HBad
      have HAt := Lib.hid hat
      have c0 := (HC.out.kp hK (fun h => h)).cell (i := 0) (v := .int .i64 C.max) rfl
      have i0 : (0 : Int) ≤ (k : Int) := by omega
      have i1 : (k : Int) < (n3 : Int) := by omega
      clear hall hat hx hK hkl
      by_cases g1 : x < 2
      · obtain rfl : code = 5 := by rw [← HCode.out]; exact ck5 (.inr (.inr (HBad.out (by unfold ownB; rw [decide_eq_false (by omega)]; rfl))))
        have d1 : decide (x < 2) = true := decide_eq_true g1
        clear g1
        go_wp2_with fail
        go_quiet (fail)
        go_wp2_with fail
        go_ret
        exact ⟨rfl, HKa.out.trans (HK.out.drewN _) (fun _ _ h => h)⟩
      · have d1 : decide (x < 2) = false := decide_eq_false g1
        have htm : x.tmod 2 = x % 2 := Int.tmod_eq_emod_of_nonneg (by omega)
        obtain ⟨r, hr⟩ : ∃ r, x % 2 = r := ⟨_, rfl⟩
        rw [hr] at htm
        by_cases g2 : r = 1
        · obtain rfl : code = 5 := by rw [← HCode.out]; exact ck5 (.inr (.inr (HBad.out (by unfold ownB; rw [decide_eq_false (p := x % 2 = 0) (by omega)]; simp))))
          have d2 : ((r : Int) == 1) = true := by simp [g2]
          clear g1 g2 hr
          go_wp2_with fail
          go_quiet (fail)
          go_wp2_with fail
          go_ret
          exact ⟨rfl, HKa.out.trans (HK.out.drewN _) (fun _ _ h => h)⟩
        · have d2 : ((r : Int) == 1) = false := by simp [g2]
          have mm1 := HMM.out.1
          by_cases g3 : 2 * C.max < x
          · obtain rfl : code = 5 := by rw [← HCode.out]; exact ck5 (.inr (.inr (HBad.out (by unfold ownB; rw [decide_eq_false (p := x ≤ 2 * C.max) (by omega)]; simp))))
            have d3 : decide (2 * C.max < x) = true := decide_eq_true g3
            clear g1 g2 g3 hr
            go_wp2_with fail
            go_quiet (fail)
            go_wp2_with fail
            go_ret
            exact ⟨rfl, HKa.out.trans (HK.out.drewN _) (fun _ _ h => h)⟩
          · have d3 : decide (2 * C.max < x) = false := decide_eq_false g3
            have HNx := Lib.hid (show (C.owned.take (k + 1)).all (ownB C.max) = true by rw [HAt.out]; unfold ownB; rw [decide_eq_true (by omega), decide_eq_true (p := x % 2 = 0) (by omega), decide_eq_true (by omega)]; rfl)
            clear g1 g2 g3 hr
            go_wp2_with fail
            go_quiet (fail)
            clear mm1
            go_wp2_with fail
            go_roundw
            case rel => exact ⟨k + 1, by go_num, by omega, HNx.out, HK.out.drewN _⟩
            case measure => simp [intOf]; omega
    · have HAll1 := Lib.hid (show C.owned.all (ownB C.max) = true by rwa [List.take_of_length_le (by rw [HN3.out]; omega)] at hall)
      clear hall hK
      go_wp2_with fail
      go_loopw [6] (fun v6 wr => ∃ k : Nat, v6 = .int .i64 k ∧ k ≤ n4 ∧ (C.used.take k).all (useB C.max) = true ∧ Kp (fun _ => False) wa wr) (fun v6 _ => n4 - (intOf v6).toNat)
      case atStart => exact ⟨0, rfl, by omega, by simp, HK.out⟩
      case round =>
        obtain ⟨k, rfl, hk, hall, hK⟩ := hrel
        clear HK hlt
        obtain ⟨wp, rfl⟩ : ∃ wp : World, wp = wr := ⟨_, rfl⟩
        have HK := Lib.hid hK
        by_cases hlt : k < n4
        · have hkl : k < C.used.length := by rw [HN4.out]; exact hlt
          obtain ⟨b, off, rfl, hcell⟩ := IntsAt.get (RowAt.kp HI4.out hK (fun _ _ h => h)) hkl
          have hat := all_take (take_gi hkl) (useB C.max)
          rw [hall, Bool.true_and] at hat
          have HBad := Lib.hid (fun h => (range_bad2 (C := C) hkl h))
          obtain ⟨x, hx⟩ : ∃ x, gi C.used k = x := ⟨_, rfl⟩
          rw [hx] at hcell hat HBad
          have HAt := Lib.hid hat
          have c0 := (HC.out.kp hK (fun h => h)).cell (i := 0) (v := .int .i64 C.max) rfl
          have i0 : (0 : Int) ≤ (k : Int) := by omega
          have i1 : (k : Int) < (n4 : Int) := by omega
          clear hall hat hx hK hkl
          by_cases g1 : x < 0
          · obtain rfl : code = 5 := by rw [← HCode.out]; exact ck5 (.inr (.inr (HBad.out (by unfold useB; rw [decide_eq_false (by omega)]; rfl))))
            have d1 : decide (x < 0) = true := decide_eq_true g1
            clear g1
            go_wp2_with fail
            go_quiet (fail)
            go_wp2_with fail
            go_ret
            exact ⟨rfl, HKa.out.trans (HK.out.drewN _) (fun _ _ h => h)⟩
          · have d1 : decide (x < 0) = false := decide_eq_false g1
            have mm1 := HMM.out.1
            have mm2 := HMM.out.2
            by_cases g3 : 2 * C.max + 1 < x
            · obtain rfl : code = 5 := by rw [← HCode.out]; exact ck5 (.inr (.inr (HBad.out (by unfold useB; rw [decide_eq_false (p := x ≤ 2 * C.max + 1) (by omega)]; simp))))
              have d3 : decide (2 * C.max + 1 < x) = true := decide_eq_true g3
              clear g1 g3
              go_wp2_with fail
              go_quiet (fail)
              go_wp2_with fail
              go_ret
              exact ⟨rfl, HKa.out.trans (HK.out.drewN _) (fun _ _ h => h)⟩
            · have d3 : decide (2 * C.max + 1 < x) = false := decide_eq_false g3
              have HNx := Lib.hid (show (C.used.take (k + 1)).all (useB C.max) = true by rw [HAt.out]; unfold useB; rw [decide_eq_true (by omega), decide_eq_true (by omega)]; rfl)
              clear g1 g3
              go_wp2_with fail
              go_quiet (fail)
              clear mm1 mm2
              go_wp2_with fail
              go_roundw
              case rel => exact ⟨k + 1, by go_num, by omega, HNx.out, HK.out.drewN _⟩
              case measure => simp [intOf]; omega
        · have HAll2 := Lib.hid (show C.used.all (useB C.max) = true by rwa [List.take_of_length_le (by rw [HN4.out]; omega)] at hall)
          clear hall hK
          go_wp2_with fail
          go_loopw [7] (fun v7 wr => ∃ k : Nat, v7 = .int .i64 k ∧ k ≤ C.lats.length ∧ (C.lats.take k).all resB = true ∧ Kp (fun _ => False) wa wr) (fun v7 _ => C.lats.length - (intOf v7).toNat)
          case atStart => exact ⟨0, rfl, by omega, by simp, HK.out⟩
          case round =>
            obtain ⟨k, rfl, hk, hall, hK⟩ := hrel
            clear HK hlt
            obtain ⟨wp, rfl⟩ : ∃ wp : World, wp = wr := ⟨_, rfl⟩
            have HK := Lib.hid hK
            have c2 := (HC.out.kp hK (fun h => h)).cell (i := 2) (v := .slice V.al C.lats.length V.cl) rfl
            by_cases hlt : k < C.lats.length
            · obtain ⟨b, off, ea, l0, l1, l2⟩ := tri_cells (HA.out.kp (HKa.out.trans hK (fun _ _ h => h))).l hlt
              have hat := all_take (take_g3 hlt) resB
              rw [hall, Bool.true_and] at hat
              have HBad := Lib.hid (fun h => (range_bad3 (C := C) hlt h))
              obtain ⟨x0, hx0⟩ : ∃ x, (g3 C.lats k).1 = x := ⟨_, rfl⟩
              obtain ⟨x2, hx2⟩ : ∃ x, (g3 C.lats k).2.2 = x := ⟨_, rfl⟩
              have hres : resB (g3 C.lats k) = (decide (x2 = 0) || (decide (x2 = 1) || decide (x2 = x0))) := by unfold resB; rw [hx0, hx2]
              rw [hres] at hat HBad
              rw [hx0] at l0
              rw [hx2] at l2
              rw [ea] at c2
              have HAt := Lib.hid hat
              have i0 : (0 : Int) ≤ (k : Int) := by omega
              have i1 : (k : Int) < (C.lats.length : Int) := by omega
              clear hall hat hx0 hx2 hres hK l1 ea
              by_cases g1 : x2 = 0
              · have d1 : ((x2 : Int) != 0) = false := by simp [g1]
                have HNx := Lib.hid (show (C.lats.take (k + 1)).all resB = true by rw [HAt.out]; simp [g1])
                clear g1
                go_wp2_with fail
                go_roundw
                case rel => exact ⟨k + 1, by go_num, by omega, HNx.out, HK.out⟩
                case measure => simp [intOf]; omega
              · have d1 : ((x2 : Int) != 0) = true := by simp [g1]
                by_cases g2 : x2 = 1
                · have d2 : ((x2 : Int) != 1) = false := by simp [g2]
                  have HNx := Lib.hid (show (C.lats.take (k + 1)).all resB = true by rw [HAt.out]; simp [g2])
                  clear g1 g2
                  go_wp2_with fail
                  go_roundw
                  case rel => exact ⟨k + 1, by go_num, by omega, HNx.out, HK.out⟩
                  case measure => simp [intOf]; omega
                · have d2 : ((x2 : Int) != 1) = true := by simp [g2]
                  by_cases g3 : x2 = x0
                  · have d3 : ((x2 : Int) != x0) = false := by simp [g3]
                    have HNx := Lib.hid (show (C.lats.take (k + 1)).all resB = true by rw [HAt.out]; simp [g3])
                    clear g1 g2 g3
                    go_wp2_with fail
                    go_roundw
                    case rel => exact ⟨k + 1, by go_num, by omega, HNx.out, HK.out⟩
                    case measure => simp [intOf]; omega
                  · have d3 : ((x2 : Int) != x0) = true := by simp [g3]
                    obtain rfl : code = 5 := by rw [← HCode.out]; exact ck5 (.inr (.inr (HBad.out (by simp [g1, g2, g3]))))
                    clear g1 g2 g3
                    go_wp2_with fail
                    go_ret
                    exact ⟨rfl, HKa.out.trans HK.out (fun _ _ h => h)⟩
            · have HAll3 := Lib.hid (show C.lats.all resB = true by rwa [List.take_of_length_le (by omega)] at hall)
              have hrg := range_all HAll1.out HAll2.out HAll3.out
              have HIR := Lib.hid (InRange.of HM.out.1 HM.out.2 hrg)
              have HCk := Lib.hid (ckR HM.out.1 HM.out.2 hrg)
              rw [HCode.out] at HCk
              clear hall hK hrg HAll1 HAll2 HAll3 HCode
              go_wp2_with fail
              go_loopw [9] (fun v9 wr => ∃ k : Nat, v9 = .int .i64 k ∧ k ≤ n3 ∧ (C.owned.take k).Nodup ∧ Kp (fun _ => False) wa wr) (fun v9 _ => n3 - (intOf v9).toNat)
              case atStart => exact ⟨0, rfl, by omega, by simp, HK.out⟩
              case round =>
                obtain ⟨k, rfl, hk, hnd, hK⟩ := hrel
                clear HK hlt c2
                obtain ⟨wp, rfl⟩ : ∃ wp : World, wp = wr := ⟨_, rfl⟩
                have HK := Lib.hid hK
                by_cases hlt : k < n3
                · have hkl : k < C.owned.length := by rw [HN3.out]; exact hlt
                  have hi := RowAt.kp HI3.out hK (fun _ _ h => h)
                  have hit : IntsAt wp a3 (C.owned.take k) := by
                    have := RowAt.take hi k
                    unfold IntsAt
                    rw [List.map_take]
                    exact this
                  obtain ⟨b, off, rfl, hcell⟩ := IntsAt.get hi hkl
                  have HND := Lib.hid (fun h => nodup_take hkl hnd h)
                  have HNN := Lib.hid (fun h => not_nodup (l := C.owned) hkl h)
                  obtain ⟨x, hx⟩ : ∃ x, gi C.owned k = x := ⟨_, rfl⟩
                  rw [hx] at hcell HND HNN
                  have HHas := Lib.hid (fun q => ref02_HasQ (some ⟨b, off, none⟩) k cp3 q (C.owned.take k) x wp hit (by simp; omega) (by omega))
                  have i0 : (0 : Int) ≤ (k : Int) := by omega
                  have i1 : (k : Int) < (n3 : Int) := by omega
                  have i2 : (k : Int) ≤ (cp3 : Int) := by omega
                  clear hx hi hit hnd hK hkl
                  by_cases hin : x ∈ C.owned.take k
                  · obtain rfl : code = 7 := by have := HCk.out; rw [if_pos (HNN.out hin)] at this; exact this
                    rw [decide_eq_true hin] at HHas
                    clear hin
                    go_wp2_with fail
                    go_quiet ((go_at_call 16; exact Calls.quiet_of_same (HHas.out _)))
                    go_wp2_with fail
                    go_ret
                    exact ⟨rfl, HKa.out.trans (HK.out.drewN _) (fun _ _ h => h)⟩
                  · have HNx := Lib.hid (HND.out hin)
                    rw [decide_eq_false hin] at HHas
                    clear hin
                    go_wp2_with fail
                    go_quiet ((go_at_call 16; exact Calls.quiet_of_same (HHas.out _)))
                    go_wp2_with fail
                    go_roundw
                    case rel => exact ⟨k + 1, by go_num, by omega, HNx.out, HK.out.drewN _⟩
                    case measure => simp [intOf]; omega
                · have HNod := Lib.hid (show C.owned.Nodup by rwa [List.take_of_length_le (by rw [HN3.out]; omega)] at hnd)
                  have HCk2 := Lib.hid (show code = if C.used.all (knownB C.owned) = false then 9 else if (ordO C.gates).length < C.gates.length then 8 else 0 by have := HCk.out; rw [if_neg (by simp; exact HNod.out)] at this; exact this)
                  clear hnd hK HCk
                  go_wp2_with fail
                  go_loopw [10] (fun v10 wr => ∃ k : Nat, v10 = .int .i64 k ∧ k ≤ n4 ∧ (C.used.take k).all (knownB C.owned) = true ∧ Kp (fun _ => False) wa wr) (fun v10 _ => n4 - (intOf v10).toNat)
                  case atStart => exact ⟨0, rfl, by omega, by simp, HK.out⟩
                  case round =>
                    obtain ⟨k, rfl, hk, hall, hK⟩ := hrel
                    clear HK hlt
                    obtain ⟨wp, rfl⟩ : ∃ wp : World, wp = wr := ⟨_, rfl⟩
                    have HK := Lib.hid hK
                    by_cases hlt : k < n4
                    · have hkl : k < C.used.length := by rw [HN4.out]; exact hlt
                      have hi := RowAt.kp HI3.out hK (fun _ _ h => h)
                      obtain ⟨b, off, rfl, hcell⟩ := IntsAt.get (RowAt.kp HI4.out hK (fun _ _ h => h)) hkl
                      have hat := all_take (take_gi hkl) (knownB C.owned)
                      rw [hall, Bool.true_and] at hat
                      have hxu : gi C.used k ∈ C.used := by unfold gi; rw [List.getElem?_eq_getElem hkl]; exact List.getElem_mem hkl
                      have hxr := HIR.out.use _ hxu
                      have hkn := knownB_iff HIR.out hxu
                      have HBad := Lib.hid (fun (h : knownB C.owned (gi C.used k) = false) => show C.used.all (knownB C.owned) = false by rw [List.all_eq_false]; exact ⟨_, hxu, by simp [h]⟩)
                      obtain ⟨x, hx⟩ : ∃ x, gi C.used k = x := ⟨_, rfl⟩
                      rw [hx] at hcell hat hkn hxr HBad
                      rw [hkn] at hat HBad
                      have HAt := Lib.hid hat
                      have x0 : 0 ≤ x := hxr.1
                      have x1 : x ≤ 100000000 := by have := hxr.2; have := HM.out; omega
                      have i0 : (0 : Int) ≤ (k : Int) := by omega
                      have i1 : (k : Int) < (n4 : Int) := by omega
                      clear hall hat hx hK hkl hkn hxr hxu
                      by_cases g1 : 1 < x
                      · have htm : x.tmod 2 = x % 2 := Int.tmod_eq_emod_of_nonneg x0
                        obtain ⟨r, hr⟩ : ∃ r, x % 2 = r := ⟨_, rfl⟩
                        have hr2 : 0 ≤ r ∧ r ≤ 1 := by omega
                        rw [hr] at htm HAt HBad
                        have hw : IntKind.i64.wrap (x - r) = x - r := IntWalk.i64_in _ (by omega)
                        have HHas := Lib.hid (fun q => ref02_HasQ a3 n3 cp3 q C.owned (x - r) wp hi HN3.out (by omega))
                        have d1 : decide (1 < x) = true := decide_eq_true g1
                        rw [d1] at HAt HBad
                        clear hi hr hr2
                        by_cases hin : x - r ∈ C.owned
                        · rw [decide_eq_true hin] at HHas HAt
                          clear hin g1
                          go_wp2_with fail
                          go_quiet ((go_at_call 16; exact Calls.quiet_of_same (HHas.out _)))
                          clear hw htm
                          go_wp2_with fail
                          go_roundw
                          case rel => exact ⟨k + 1, by go_num, by omega, HAt.out, HK.out.drewN _⟩
                          case measure => simp [intOf]; omega
                        · rw [decide_eq_false hin] at HHas HBad
                          obtain rfl : code = 9 := by have := HCk2.out; rw [if_pos (HBad.out rfl)] at this; exact this
                          clear hin g1
                          go_wp2_with fail
                          go_quiet ((go_at_call 16; exact Calls.quiet_of_same (HHas.out _)))
                          go_wp2_with fail
                          go_ret
                          exact ⟨rfl, HKa.out.trans (HK.out.drewN _) (fun _ _ h => h)⟩
                      · have d1 : decide (1 < x) = false := decide_eq_false g1
                        rw [d1] at HAt
                        clear hi g1
                        go_wp2_with fail
                        go_quiet (fail)
                        go_wp2_with fail
                        go_roundw
                        case rel => exact ⟨k + 1, by go_num, by omega, HAt.out, HK.out.drewN _⟩
                        case measure => simp [intOf]; omega
                    · have HAll := Lib.hid (show C.used.all (knownB C.owned) = true by rwa [List.take_of_length_le (by rw [HN4.out]; omega)] at hall)
                      have HCk3 := Lib.hid (show code = if (ordO C.gates).length < C.gates.length then 8 else 0 by have := HCk2.out; rw [if_neg (by rw [HAll.out]; simp)] at this; exact this)
                      obtain ⟨on_, hon⟩ : ∃ g, (ordO C.gates).length = g := ⟨_, rfl⟩
                      have hle : on_ ≤ gn_ := by rw [← HGN.out, ← hon]; exact (ordO_at C.gates).len
                      rw [HGN.out, hon] at HCk3
                      have hgm : gn_ ≤ 1000000 := by rw [← HGN.out]; exact HF.out.g
                      have HO := Lib.hid (show ∀ u, Kp (fun _ => False) w u → Calls Tryz.prog 17 #[.agg #[.int .i64 C.max, .slice V.ai C.ins.length V.ci, .slice V.al C.lats.length V.cl, .slice V.ao C.outs.length V.co, .slice V.ab C.bads.length V.cb, .slice V.ac C.cons.length V.cc, .slice V.ag gn_ V.cg, .slice V.ay V.ny V.cy, .string V.cm]] u fun e u' => (∃ a c, e = .returned (.slice a on_ c)) ∧ Kp (fun _ => False) u u' from fun u hu => by
                        have hor := (ref11_Order V C u (HA.out.kp hu) HF.out.g (fun i hi => by
                          have h1 := HIR.out.own _ (gate_own hi)
                          have h2 := HIR.out.use _ (gate_useA hi)
                          have h3 := HIR.out.use _ (gate_useB hi)
                          have := HM.out
                          omega)).mono (R' := fun e u' => (∃ a c, e = .returned (.slice a on_ c)) ∧ Kp (fun _ => False) u u') (by
                            rintro e u' ⟨v, rfl, hO, hK⟩
                            obtain ⟨a, c, e, -⟩ := hO.form
                            rw [nv_length, hon] at e
                            exact ⟨⟨a, c, by rw [e]⟩, hK⟩)
                        rw [HU.out] at hor
                        exact hor)
                      have HXu := Lib.hid (HC.out.kp hK (fun h => h))
                      have HK5 := Lib.hid (HKa.out.trans hK (fun _ _ h => h))
                      clear hon hall hK HCk2 HK
                      go_upto_region 30 with fail
                      obtain ⟨wy, rfl⟩ : ∃ wy : World, wy = wp := ⟨_, rfl⟩
                      go_region_held3 (fun u => u.cell? ⟨w.heap.size, 0, none⟩ = some (.int .i64 C.max) ∧ u.cell? ⟨w.heap.size, 1, none⟩ = some (.slice V.ai C.ins.length V.ci) ∧ u.cell? ⟨w.heap.size, 2, none⟩ = some (.slice V.al C.lats.length V.cl) ∧ u.cell? ⟨w.heap.size, 3, none⟩ = some (.slice V.ao C.outs.length V.co) ∧ u.cell? ⟨w.heap.size, 4, none⟩ = some (.slice V.ab C.bads.length V.cb) ∧ u.cell? ⟨w.heap.size, 5, none⟩ = some (.slice V.ac C.cons.length V.cc) ∧ u.cell? ⟨w.heap.size, 6, none⟩ = some (.slice V.ag gn_ V.cg) ∧ u.cell? ⟨w.heap.size, 7, none⟩ = some (.slice V.ay V.ny V.cy) ∧ u.cell? ⟨w.heap.size, 8, none⟩ = some (.string V.cm)) (with_reducible first | exact HXu.out.cells9 | exact HXu.out.drew.cells9 | exact HXb.out.cells9 | exact HXb.out.drew.cells9) (((with_reducible refine Calls.mono (HO.out _ (by first | exact HK5.out | exact HK5.out.drew)) ?_); rintro o u2 ⟨⟨a2, c2, rfl⟩, hK6⟩; have HXb := Lib.hid (by first | exact HXu.out.kp hK6 (fun h => h) | exact HXu.out.drew.kp hK6 (fun h => h)); have HKb := Lib.hid (by first | exact HK5.out.trans hK6 (fun _ _ h => h) | exact HK5.out.drew.trans hK6 (fun _ _ h => h)); clear hK6))
                      all_goals
                        by_cases hlt2 : on_ < gn_
                        · obtain rfl : code = 8 := by have := HCk3.out; rw [if_pos hlt2] at this; exact this
                          have dd : decide ((on_ : Int) < (gn_ : Int)) = true := decide_eq_true (by omega)
                          go_wp2_with fail
                          go_ret
                          exact ⟨rfl, by first | exact HKb.out | exact HKb.out.drew⟩
                        · obtain rfl : code = 0 := by have := HCk3.out; rw [if_neg hlt2] at this; exact this
                          have dd : decide ((on_ : Int) < (gn_ : Int)) = false := decide_eq_false (by omega)
                          go_wp2_with fail
                          go_ret
                          exact ⟨rfl, by first | exact HKb.out | exact HKb.out.drew⟩

end Go.Proofs.YtcnegeggecmncaaGreatDoor
