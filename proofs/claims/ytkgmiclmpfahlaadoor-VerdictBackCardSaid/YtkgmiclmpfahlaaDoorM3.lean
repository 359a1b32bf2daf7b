/-
  wit.Read: how a round ends the loop; what stands between the two switches.
-/
import Derived.Test.YtkgmiclmpfahlaaDoorM2
import Derived.OwnWalkIn
import Derived.Deep.DeepCutAuto
import Derived.Test.YtkgmiclmpfahlaaDoorM1
import Derived.RangeFuncNested
import Derived.RangeFuncCalls
import Derived.OrdersHeld
import Derived.Deep.RegionHeld3
import Derived.Sort.CutIn
import Derived.Outline
import Derived.Deep.CutBlock
namespace Go.Proofs.YtkgmiclmpfahlaaDoor
open Go.RowKit Go.Shelf

theorem ML.own {w W : World} (h : ML w) (q : Kp (fun j => w.heap.size ≤ j) w W) : ML W := by
  obtain ⟨m, hm⟩ := h
  have hlt := World.block_lt_of_cell? w _ hm
  exact ⟨m, (World.cell?_of_block (w := w) (w' := W) (a := ⟨1, 0, none⟩) (q.block _ hlt (fun hs => absurd hlt (Nat.not_lt.2 hs)))).trans hm⟩

theorem exit_world {w : World} {s : ByteArray} {la inp : Int} {W : World} {k : Nat} (h : St0 w s la inp W k) (x0 x1 u2 u3 p e : Value) {W' : World}
    (hW : W' = ((((((W.setCell ⟨w.heap.size + 3, 0, none⟩ x0).setCell ⟨w.heap.size + 3, 1, none⟩ x1).setCell ⟨w.heap.size + 3, 2, none⟩ u2).setCell ⟨w.heap.size + 3, 3, none⟩ u3).setCell ⟨w.heap.size + 4, 0, none⟩ p).setCell ⟨w.heap.size + 5, 0, none⟩ e).drew) :
    Rd w.heap.size W W' ∧ Blk W' (w.heap.size + 3) #[x0, x1, u2, u3] 34 ∧ Blk W' (w.heap.size + 4) #[p] 3 ∧ Blk W' (w.heap.size + 5) #[e] 22 ∧ Kp (fun j => w.heap.size ≤ j) w W' ∧
      Kp (fun j => j = w.heap.size + 3 ∨ j = w.heap.size + 4 ∨ j = w.heap.size + 5) W W' := by
  have q : ∀ A : World, Kp (fun j => j = w.heap.size + 3 ∨ j = w.heap.size + 4 ∨ j = w.heap.size + 5) W A → ∀ b i v, (b = w.heap.size + 3 ∨ b = w.heap.size + 4 ∨ b = w.heap.size + 5) → Kp (fun j => j = w.heap.size + 3 ∨ j = w.heap.size + 4 ∨ j = w.heap.size + 5) W (A.setCell ⟨b, i, none⟩ v) :=
    fun A hA b i v hb => hA.setCell (p := ⟨b, i, none⟩) (fun _ => hb) v
  have r : ∀ A : World, Rd w.heap.size W A → ∀ b i v, (b = w.heap.size + 3 ∨ b = w.heap.size + 4 ∨ b = w.heap.size + 5) → Rd w.heap.size W (A.setCell ⟨b, i, none⟩ v) :=
    fun A hA b i v hb => hA.set i (by omega) v
  have q3 := q _ (q _ (q _ (q _ (q _ (q _ (Kp.refl _ W) (w.heap.size + 3) 0 x0 (.inl rfl)) (w.heap.size + 3) 1 x1 (.inl rfl)) (w.heap.size + 3) 2 u2 (.inl rfl)) (w.heap.size + 3) 3 u3 (.inl rfl)) (w.heap.size + 4) 0 p (.inr (.inl rfl))) (w.heap.size + 5) 0 e (.inr (.inr rfl))
  have r3 := r _ (r _ (r _ (r _ (r _ (r _ (Rd.refl _ W) (w.heap.size + 3) 0 x0 (.inl rfl)) (w.heap.size + 3) 1 x1 (.inl rfl)) (w.heap.size + 3) 2 u2 (.inl rfl)) (w.heap.size + 3) 3 u3 (.inl rfl)) (w.heap.size + 4) 0 p (.inr (.inl rfl))) (w.heap.size + 5) 0 e (.inr (.inr rfl))
  subst hW
  refine ⟨r3.drew, ?_, ?_, ?_, h.kp.trans q3.drew (fun i _ hs => by omega), q3.drew⟩
  · have b := ((((h.b3.set_same 0 x0).set_same 1 x1).set_same 2 u2).set_same 3 u3)
    exact ((b.set_other (p := ⟨w.heap.size + 4, 0, none⟩) (by simp) p).set_other (p := ⟨w.heap.size + 5, 0, none⟩) (by simp) e).drew
  · have b := ((((h.b4.set_other (p := ⟨w.heap.size + 3, 0, none⟩) (by simp) x0).set_other (p := ⟨w.heap.size + 3, 1, none⟩) (by simp) x1).set_other (p := ⟨w.heap.size + 3, 2, none⟩) (by simp) u2).set_other (p := ⟨w.heap.size + 3, 3, none⟩) (by simp) u3)
    exact ((b.set_same 0 p).set_other (p := ⟨w.heap.size + 5, 0, none⟩) (by simp) e).drew
  · have b := ((((h.b5.set_other (p := ⟨w.heap.size + 3, 0, none⟩) (by simp) x0).set_other (p := ⟨w.heap.size + 3, 1, none⟩) (by simp) x1).set_other (p := ⟨w.heap.size + 3, 2, none⟩) (by simp) u2).set_other (p := ⟨w.heap.size + 3, 3, none⟩) (by simp) u3)
    exact ((b.set_other (p := ⟨w.heap.size + 4, 0, none⟩) (by simp) p).set_same 0 e).drew

theorem exit_bad {w : World} {s : ByteArray} {la inp : Int} {W : World} {k : Nat} (h : St0 w s la inp W k) (p e : Nat) {W' : World}
    (hW : W' = ((((((W.setCell ⟨w.heap.size + 3, 0, none⟩ (.int .i64 0)).setCell ⟨w.heap.size + 3, 1, none⟩ (.int .i64 0)).setCell ⟨w.heap.size + 3, 2, none⟩ (.slice none 0 0)).setCell ⟨w.heap.size + 3, 3, none⟩ (.slice none 0 0)).setCell ⟨w.heap.size + 4, 0, none⟩ (.int .i64 p)).setCell ⟨w.heap.size + 5, 0, none⟩ (.int .i64 e)).drew) :
    Rd w.heap.size W W' ∧ Res w s W' (.bad p e) (.slice none 0 0) (.slice none 0 0) [] := by
  obtain ⟨r, b3, b4, b5, kp, _⟩ := exit_world h _ _ _ _ _ _ hW
  exact ⟨r, b3, b4, b5, Own.nil _ _ _, ⟨Own.nil _ _ _, rfl, fun j r x h => by cases h⟩, kp⟩

theorem exit_ok {w : World} {s : ByteArray} {la inp : Int} {W : World} {d : WitD} {k : Nat} {v2 v3 : Value} {rows : List Value} (h : St w s la inp W d k v2 v3 rows) {W' : World}
    (hW : W' = ((((((W.setCell ⟨w.heap.size + 3, 0, none⟩ (.int .i64 d.kind)).setCell ⟨w.heap.size + 3, 1, none⟩ (.int .i64 d.prop)).setCell ⟨w.heap.size + 3, 2, none⟩ v2).setCell ⟨w.heap.size + 3, 3, none⟩ v3).setCell ⟨w.heap.size + 4, 0, none⟩ (.int .i64 s.size)).setCell ⟨w.heap.size + 5, 0, none⟩ (.int .i64 0)).drew) :
    Rd w.heap.size W W' ∧ Res w s W' (.ok d) v2 v3 rows := by
  obtain ⟨r, b3, b4, b5, kp, q⟩ := exit_world h.st _ _ _ _ _ _ hW
  refine ⟨r, b3, b4, b5, h.o2.kp q (fun j hj e => ?_), ⟨h.o3.own.kp q (fun j hj e => ?_), h.o3.len, fun j r x h1 h2 => (h.o3.row j r x h1 h2).kp q (fun i hi e => ?_)⟩, kp⟩
  · have := (h.o2.lt j hj).1; omega
  · have := (h.o3.own.lt j hj).1; omega
  · have := ((h.o3.row j r x h1 h2).lt i hi).1; omega

theorem St.next {w : World} {s : ByteArray} {la inp : Int} {W : World} {d : WitD} {k : Nat} {v2 v3 : Value} {rows : List Value} (h : St w s la inp W d k v2 v3 rows) :
    St w s la inp (W.setCell ⟨w.heap.size + 8, 0, none⟩ (.int .i64 ((k : Int) + 1))) d (k + 1) v2 v3 rows := by
  have q := Kp.set W ⟨w.heap.size + 8, 0, none⟩ (.int .i64 ((k : Int) + 1))
  refine ⟨h.st.next, h.b7.kp q (fun e => by simp at e), h.o2.kp q (fun j hj e => ?_), ⟨h.o3.own.kp q (fun j hj e => ?_), h.o3.len, fun j r x h1 h2 => (h.o3.row j r x h1 h2).kp q (fun i hi e => ?_)⟩⟩
  · have := (h.o2.lt j hj).1; simp only at e; omega
  · have := (h.o3.own.lt j hj).1; simp only at e; omega
  · have := ((h.o3.row j r x h1 h2).lt i hi).1; simp only at e; omega

/-- what the first switch says of a line: is it good, is it the last -/
def MidX (la inp : Int) (k : Nat) (d : WitD) (t : ByteArray) (b o : Bool) (d' : WitD) : Prop :=
  (b = false → lastR t k d = false ∧ stepR t k la inp d = none) ∧ (b = true → o = false → lastR t k d = false ∧ stepR t k la inp d = some d') ∧ (b = true → o = true → lastR t k d = true ∧ d' = d)

structure Mid (w : World) (s : ByteArray) (la inp : Int) (W wx : World) (k BX : Nat) (t : ByteArray) (p q : Nat) (b : Bool) (d' : WitD) (v2 v3 : Value) (rows : List Value) : Prop where
  st : St0 w s la inp wx k
  bx : Blk wx BX #[.string t, .int .i64 p, .int .i64 q, .int .i64 0] 76
  rd : Rd w.heap.size W wx
  good : b = true → St w s la inp wx d' k v2 v3 rows

theorem St.kind {w : World} {s : ByteArray} {la inp : Int} {W : World} {d : WitD} {k : Nat} {v2 v3 : Value} {rows : List Value} (h : St w s la inp W d k v2 v3 rows) (m : Nat) :
    St w s la inp (W.setCell ⟨w.heap.size + 7, 0, none⟩ (.int .i64 m)) { d with kind := m } k v2 v3 rows := by
  have q := Kp.set W ⟨w.heap.size + 7, 0, none⟩ (.int .i64 m)
  refine ⟨h.st.set7 0 _, h.b7.set_same 0 _, h.o2.kp q (fun j hj e => ?_), ⟨h.o3.own.kp q (fun j hj e => ?_), h.o3.len, fun j r x h1 h2 => (h.o3.row j r x h1 h2).kp q (fun i hi e => ?_)⟩⟩
  · have := (h.o2.lt j hj).1; simp only at e; omega
  · have := (h.o3.own.lt j hj).1; simp only at e; omega
  · have := ((h.o3.row j r x h1 h2).lt i hi).1; simp only at e; omega

theorem St.propn {w : World} {s : ByteArray} {la inp : Int} {W : World} {d : WitD} {k : Nat} {v2 v3 : Value} {rows : List Value} (h : St w s la inp W d k v2 v3 rows) (m : Nat) :
    St w s la inp (W.setCell ⟨w.heap.size + 7, 1, none⟩ (.int .i64 m)) { d with prop := m } k v2 v3 rows := by
  have q := Kp.set W ⟨w.heap.size + 7, 1, none⟩ (.int .i64 m)
  refine ⟨h.st.set7 1 _, h.b7.set_same 1 _, h.o2.kp q (fun j hj e => ?_), ⟨h.o3.own.kp q (fun j hj e => ?_), h.o3.len, fun j r x h1 h2 => (h.o3.row j r x h1 h2).kp q (fun i hi e => ?_)⟩⟩
  · have := (h.o2.lt j hj).1; simp only at e; omega
  · have := (h.o3.own.lt j hj).1; simp only at e; omega
  · have := ((h.o3.row j r x h1 h2).lt i hi).1; simp only at e; omega

theorem St.startn {w : World} {s : ByteArray} {la inp : Int} {W : World} {d : WitD} {k : Nat} {v2 v3 : Value} {rows : List Value} (h : St w s la inp W d k v2 v3 rows) {v : Value} {l : List Bool} (ho : Own W (w.heap.size + 10) 4 v (l.map Value.bool)) :
    St w s la inp (W.setCell ⟨w.heap.size + 7, 2, none⟩ v) { d with start := l } k v v3 rows := by
  have q := Kp.set W ⟨w.heap.size + 7, 2, none⟩ v
  refine ⟨h.st.set7 2 _, h.b7.set_same 2 _, ho.kp q (fun j hj e => ?_), ⟨h.o3.own.kp q (fun j hj e => ?_), h.o3.len, fun j r x h1 h2 => (h.o3.row j r x h1 h2).kp q (fun i hi e => ?_)⟩⟩
  · have := (ho.lt j hj).1; simp only at e; omega
  · have := (h.o3.own.lt j hj).1; simp only at e; omega
  · have := ((h.o3.row j r x h1 h2).lt i hi).1; simp only at e; omega

/-- behind an append to the rows, ahead of its store -/
structure Grew (w : World) (W : World) (d : WitD) (l : List Bool) (v2 v3' : Value) (rows' : List Value) : Prop where
  o2 : Own W (w.heap.size + 10) 4 v2 (d.start.map Value.bool)
  o3 : OwnRows W (w.heap.size + 10) v3' rows' (d.ins ++ [l])

theorem St.insn {w : World} {s : ByteArray} {la inp : Int} {W : World} {d : WitD} {k : Nat} {v2 v3 v3' : Value} {rows' : List Value} {l : List Bool} (h0 : St0 w s la inp W k) (h7 : Blk W (w.heap.size + 7) #[.int .i64 d.kind, .int .i64 d.prop, v2, v3] 34) (g : Grew w W d l v2 v3' rows') :
    St w s la inp (W.setCell ⟨w.heap.size + 7, 3, none⟩ v3') { d with ins := d.ins ++ [l] } k v2 v3' rows' := by
  have q := Kp.set W ⟨w.heap.size + 7, 3, none⟩ v3'
  refine ⟨h0.set7 3 _, h7.set_same 3 _, g.o2.kp q (fun j hj e => ?_), ⟨g.o3.own.kp q (fun j hj e => ?_), g.o3.len, fun j r x h1 h2 => (g.o3.row j r x h1 h2).kp q (fun i hi e => ?_)⟩⟩
  · have := (g.o2.lt j hj).1; simp only at e; omega
  · have := (g.o3.own.lt j hj).1; simp only at e; omega
  · have := ((g.o3.row j r x h1 h2).lt i hi).1; simp only at e; omega

theorem mid7 {w : World} {s : ByteArray} {la inp : Int} {W0 W : World} {k BX : Nat} {t : ByteArray} {p q : Nat} (h : St0 w s la inp W k) (hR : Rd w.heap.size W0 W)
    (hX : Blk W BX #[.string t, .int .i64 p, .int .i64 q, .int .i64 0] 76) (hB : w.heap.size + 10 ≤ BX) (i : Nat) (v : Value) {b : Bool} {d' : WitD} {v2' v3' : Value} {rows' : List Value}
    (hg : b = true → St w s la inp (W.setCell ⟨w.heap.size + 7, i, none⟩ v) d' k v2' v3' rows') :
    Mid w s la inp W0 (W.setCell ⟨w.heap.size + 7, i, none⟩ v) k BX t p q b d' v2' v3' rows' :=
  ⟨h.set7 i v, hX.set_other (by simp only; omega) v, hR.set i (by omega) v, hg⟩

/-- what a round comes to -/
theorem midX_one {B : Nat} {la inp : Int} {k : Nat} {d d' : WitD} {x : LX B} {b o : Bool} (he : x.e = 0) (h : MidX la inp k d x.text b o d') :
    oneX la inp k d x = if b = false then .inr (.bad x.at_ 2) else if o = false then .inl d' else if x.next < B then .inr (.bad x.next 2) else .inr (.ok d') := by
  unfold oneX
  rw [if_neg (by simp [he])]
  cases b with
  | false =>
    obtain ⟨h1, h2⟩ := h.1 rfl
    rw [h1, h2]; rfl
  | true =>
    cases o with
    | false => obtain ⟨h1, h2⟩ := h.2.1 rfl rfl; rw [h1, h2]; rfl
    | true => obtain ⟨h1, rfl⟩ := h.2.2 rfl rfl; rw [h1]; rfl

theorem own_nil_cap {w : World} {base : Nat} {e : TypeId} {a : Option Addr} {n c : Nat} {cs : List Value} (h : Own w base e (.slice a n c) cs) : a = none → c = 0 := by
  rintro rfl
  rcases h.2 with ⟨h1, hn⟩ | ⟨g, cap, cur, h1, hb, hgg, rest⟩
  · cases h1; rfl
  · cases h1

theorem own_boolsSl {w : World} {base : Nat} {v : Value} {l : List Bool} (h : Own w base 4 v (l.map Value.bool)) : BoolsSl w v l := by
  obtain ⟨a, cap, rfl, h1, h2, h3, h4⟩ := h.form
  have := own_nil_cap h
  rw [List.length_map] at *
  exact ⟨a, cap, rfl, h1, h2, this, h4⟩

theorem Kp.below0 {w w' : World} (h : Kp (fun j => w.heap.size ≤ j) w w') : Kp (fun _ => False) w w' :=
  h.mono (fun i hi hs => absurd hi (Nat.not_lt.2 hs))

theorem Res.close {w : World} {s : ByteArray} {W : World} {o : WitO} {v2 v3 : Value} {rows : List Value} (h : Res w s W o v2 v3 rows) {n D : Nat} {x : Option (List Deferred)} (hD : W.heap[D]? = some (.deferred x)) (hn : n ≤ D) (hn2 : n = w.heap.size + 10) (y : Option (List Deferred)) :
    Res w s (W.putObj D (.deferred y)) o v2 v3 rows := by
  have q : Kp (fun j => j = D) W (W.putObj D (.deferred y)) := ⟨rfl, rfl, rfl, by simp, fun k _ hk => World.putObj_heap_other hk⟩
  exact h.keep q (fun j e => by
    subst e
    refine ⟨by omega, fun o ho => ?_⟩
    rw [hD] at ho
    rw [← Option.some.inj ho]; rfl)

/-- what wit.Read hands back, with its rows in blocks of the call's own -/
def WReadQ (w : World) (s : ByteArray) (o : WitO) (e : Ending) (w' : World) : Prop :=
  (∃ v2 v3 rows, e = .returned (.tuple #[.agg #[.int .i64 o.w.kind, .int .i64 o.w.prop, v2, v3], .int .i64 (o.at_ s), .int .i64 o.e]) ∧ Own w' w.heap.size 4 v2 (o.w.start.map Value.bool) ∧ OwnRows w' w.heap.size v3 rows o.w.ins) ∧ Kp (fun _ => False) w w'

theorem OwnRows.mono {W : World} {n m : Nat} {v : Value} {rows : List Value} {ins : List (List Bool)} (h : OwnRows W n v rows ins) (hm : m ≤ n) : OwnRows W m v rows ins :=
  ⟨h.own.mono hm, h.len, fun j r x h1 h2 => (h.row j r x h1 h2).mono hm⟩

theorem own_gridSl {W : World} {n : Nat} {v : Value} {rows : List Value} {ins : List (List Bool)} (h : OwnRows W n v rows ins) : GridSl W v ins := by
  obtain ⟨a, cap, rfl, h1, h2, h3, h4⟩ := h.own.form
  exact ⟨a, cap, by rw [h.len], by rw [← h.len]; exact h1, h2, own_nil_cap h.own, rows, h4, h.len, fun j r x hr hx => own_boolsSl (h.row j r x hr hx)⟩

/-- .. and when blocks below are turned -/
theorem OwnRows.kpS {W W' : World} {n : Nat} {v : Value} {rows : List Value} {ins : List (List Bool)} (h : OwnRows W n v rows ins) {S : Nat → Prop} (k : Kp S W W') (hS : ∀ j, S j → j < n) : OwnRows W' n v rows ins :=
  ⟨h.own.kp k (fun j hj hs => by have := (h.own.lt j hj).1; have := hS j hs; omega), h.len, fun j r x h1 h2 => (h.row j r x h1 h2).kp k (fun i hi hs => by have := ((h.row j r x h1 h2).lt i hi).1; have := hS i hs; omega)⟩

theorem Own.kpS {W W' : World} {n : Nat} {e : TypeId} {v : Value} {cs : List Value} (h : Own W n e v cs) {S : Nat → Prop} (k : Kp S W W') (hS : ∀ j, S j → j < n) : Own W' n e v cs :=
  h.kp k (fun j hj hs => by have := (h.lt j hj).1; have := hS j hs; omega)

theorem WReadQ.P {w : World} {s : ByteArray} {o : WitO} {e : Ending} {w' : World} (h : WReadQ w s o e w') : WReadP w s o e w' := by
  obtain ⟨⟨v2, v3, rows, rfl, h2, h3⟩, hK⟩ := h
  exact ⟨⟨_, rfl, v2, v3, rfl, own_boolsSl h2, own_gridSl h3⟩, hK⟩

theorem Res.post {w : World} {s : ByteArray} {W : World} {o : WitO} {v2 v3 : Value} {rows : List Value} (h : Res w s W o v2 v3 rows) :
    WReadQ w s o (.returned (.tuple #[.agg #[.int .i64 o.w.kind, .int .i64 o.w.prop, v2, v3], .int .i64 (o.at_ s), .int .i64 o.e])) W :=
  ⟨⟨v2, v3, rows, rfl, h.o2.mono (by omega), h.o3.mono (by omega)⟩, h.kp.below0⟩

theorem stepR_late {t : ByteArray} {k : Nat} {la inp : Int} {d d' : WitD} (hk : 2 ≤ k) (h : stepR t k la inp d = some d') : d.kind = 1 ∧ d'.kind = 1 := by
  unfold stepR at h
  rw [if_neg (by omega), if_neg (by omega)] at h
  by_cases h1 : d.kind = 1
  · rw [if_neg (fun h => h h1)] at h
    split at h
    · cases hr : rowR t la with
      | none => rw [hr] at h; cases h
      | some l => rw [hr] at h; cases h; exact ⟨h1, h1⟩
    · cases hr : rowR t inp with
      | none => rw [hr] at h; cases h
      | some l => rw [hr] at h; cases h; exact ⟨h1, h1⟩
  · rw [if_pos h1] at h; cases h

theorem stepR_ins {t : ByteArray} {k : Nat} {la inp : Int} {d d' : WitD} (h : stepR t k la inp d = some d') : d'.ins.length ≤ d.ins.length + 1 := by
  unfold stepR at h
  split at h
  · split at h
    · cases h; simp
    · cases h
  · split at h
    · cases hr : propR t with
      | none => rw [hr] at h; cases h
      | some l => rw [hr] at h; cases h; simp
    · split at h
      · cases h
      · split at h
        · cases hr : rowR t la with
          | none => rw [hr] at h; cases h
          | some l => rw [hr] at h; cases h; simp
        · cases hr : rowR t inp with
          | none => rw [hr] at h; cases h
          | some l => rw [hr] at h; cases h; simp

theorem oneX_step {B : Nat} {la inp : Int} {k : Nat} {d d' : WitD} {x : LX B} (h : oneX la inp k d x = .inl d') : stepR x.text k la inp d = some d' := by
  unfold oneX at h
  split at h
  · cases h
  · split at h
    · split at h <;> cases h
    · cases hs : stepR x.text k la inp d with
      | none => rw [hs] at h; cases h
      | some y => rw [hs] at h; cases h; rfl

theorem runX_late {B : Nat} {la inp : Int} : ∀ (l : List (LX B)) (k : Nat) (d d' : WitD), runX la inp k d l = .inl d' → (l ≠ [] → 3 ≤ k + l.length → d'.kind = 1) ∧ d'.ins.length ≤ d.ins.length + l.length
  | [], k, d, d', h => by cases h; exact ⟨fun h => absurd rfl h, by simp⟩
  | x :: r, k, d, d', h => by
    simp only [runX] at h
    cases ho : oneX la inp k d x with
    | inr o => rw [ho] at h; cases h
    | inl d1 =>
      rw [ho] at h
      have hs := oneX_step ho
      have hi := stepR_ins hs
      obtain ⟨h1, h2⟩ := runX_late r (k + 1) d1 d' h
      refine ⟨fun _ h3 => ?_, by simp only [List.length_cons] at *; omega⟩
      by_cases hr : r = []
      · subst hr
        simp only [runX] at h
        cases h
        exact (stepR_late (by simp only [List.length_cons, List.length_nil] at h3; omega) hs).2
      · exact h1 hr (by simp only [List.length_cons] at h3; omega)

theorem witR_ins (s : ByteArray) (la inp : Int) : ∀ (f p k : Nat) (d : WitD), d.ins.length ≤ k → (witR s la inp f p k d).w.ins.length ≤ k + f
  | 0, p, k, d, h => by simp [witR, WitO.w, wit0]
  | f + 1, p, k, d, h => by
    simp only [witR]
    split
    · simp [WitO.w, wit0]
    split
    · split
      · simp [WitO.w, wit0]
      · simp only [WitO.w]; omega
    · cases hs : stepR (lineT s (p : Nat)).1 k la inp d with
      | none => simp [WitO.w, wit0]
      | some d' =>
        simp only
        have := witR_ins s la inp f (lineT s (p : Nat)).2.1 (k + 1) d' (by have := stepR_ins hs; omega)
        omega

/-- 'append(v, u)' within a fence -/
theorem wpListIn_append1 {F : Fence} {n : Nat} {P : Program} {w : World} {ops : Array Oper} {rest : List Oper} {o : Oper} {a : Act} {Q : Exit → Act → World → Prop} (hgd : o.guard = none) (s x : Operand) (t e : TypeId)
    (ho : o.op = .call { callee := .builtin .append, args := #[s, x], argTypes := #[t, t] }) {z : Value} {bytes : Nat}
    (ht : P.underlying t = some (.slice e)) (hI : (P.info? e).map (fun i => (i.zero, i.size, i.bytes)) = some (some z, 1, bytes)) (hzs : z.cells.size = 1)
    {base : Nat} {v : Value} {cs : List Value} (hown : Own w base e v cs) (hs : a.eval s = v) (ad : Addr) (u : Value) (hx : a.eval x = .slice (some ad) 1 1) (hnew : w.cell? ad = some u) (h1 : u.oneCell' = true)
    (hbytes : (cs.length + 1) * bytes ≤ 140737488355328) (hm : cs.length + 1 ≤ maxLen) (hbase : base ≤ w.heap.size)
    (h : ∀ v' w', Own w' base e v' (cs ++ [u]) → w.grownBy w' v.ownBlock → wpListIn F n P ops Q rest (a.put o.dst v') w') : wpListIn F n P ops Q (o :: rest) a w := by
  obtain ⟨i0, hi, hz0, hz1, hz2⟩ := info_parts hI
  refine wpListIn_append_own _ hgd s x t ho base e i0 z 1 bytes ht hi hz0 hz1 hz2 hzs (by decide) v cs.length cs hs hown ad 1 1 [u] hx rfl ?_ ?_ hm hbytes hbase ?_
  · intro j u' hj
    match j, hj with
    | 0, hj =>
      have : ad.add 0 = ad := by unfold Addr.add; split <;> simp_all
      simp at hj
      rw [this, ← hj]; exact hnew
  · intro u' hu; simp at hu; subst hu; exact h1
  · intro v' w' h2 h3 _
    exact h v' w' (by unfold Own; rw [List.length_append]; exact h2) h3

theorem dot_eq (t : ByteArray) : (t.toList == [46]) = decide (t = ⟨#[46]⟩) := by
  have h : t.toList = t.data.toList := Lib.toList_data t
  rw [h, Bool.eq_iff_iff, beq_iff_eq, decide_eq_true_iff]
  constructor
  · intro e
    apply ByteArray.ext
    apply Array.toList_inj.1
    rw [e]
  · intro e; rw [e]

theorem rowR_bits {t : ByteArray} {m : Int} {l : List Bool} (h : rowR t m = some l) : l = bitsR t := by
  unfold rowR at h
  split at h
  · cases h; rfl
  · cases h

theorem own_type {w : World} {base : Nat} {e : TypeId} {v : Value} {cs : List Value} (h : Own w base e v cs) {j : Nat} (hj : v.ownBlock = some j) : ∃ c, w.heap[j]? = some (.cells c e (0, 0)) := by
  rcases h.2 with ⟨rfl, hn⟩ | ⟨g, cap, cur, rfl, hb, hgg, rest⟩
  · cases hj
  · cases hj; exact ⟨_, hgg⟩

theorem own_ne_own {w : World} {b1 b2 : Nat} {e1 e2 : TypeId} {v1 v2 : Value} {c1 c2 : List Value} (h1 : Own w b1 e1 v1 c1) (h2 : Own w b2 e2 v2 c2) (he : e1 ≠ e2) : ∀ j, v1.ownBlock = some j → ¬ v2.ownBlock = some j := by
  intro j x y
  obtain ⟨_, p⟩ := own_type h1 x
  obtain ⟨_, q⟩ := own_type h2 y
  rw [p] at q
  cases q
  exact he rfl

theorem blk_ne_own {w : World} {b b2 : Nat} {c : Array Value} {t e2 : TypeId} {v2 : Value} {c2 : List Value} (h1 : Blk w b c t) (h2 : Own w b2 e2 v2 c2) (he : t ≠ e2) : ¬ v2.ownBlock = some b := by
  intro y
  obtain ⟨_, q⟩ := own_type h2 y
  rw [show w.heap[b]? = _ from h1] at q
  cases q
  exact he rfl

theorem St.append {w : World} {s : ByteArray} {la inp : Int} {W W2 : World} {d : WitD} {k : Nat} {v2 v3 r v' : Value} {rows : List Value} {l : List Bool} (h : St w s la inp W d k v2 v3 rows) (ho : Own W (w.heap.size + 10) 4 r (l.map Value.bool))
    (hg : W.grownBy W2 v3.ownBlock) (ho3 : Own W2 (w.heap.size + 10) 23 v' (rows ++ [r])) :
    St0 w s la inp W2 k ∧ Blk W2 (w.heap.size + 7) #[.int .i64 d.kind, .int .i64 d.prop, v2, v3] 34 ∧ Grew w W2 d l v2 v' (rows ++ [r]) := by
  have q := (Kp.refl (fun j => v3.ownBlock = some j) W).grown hg (fun _ e _ => e)
  refine ⟨h.st.far q (fun j e => .inr (h.o3.own.lt j e).1), h.b7.kp q (fun e => by have := (h.o3.own.lt _ e).1; omega), h.o2.kp q (own_ne_own h.o2 h.o3.own (by decide)), ho3, by simp [h.o3.len], ?_⟩
  intro j r' x h1 h2
  by_cases hj : j < rows.length
  · rw [List.getElem?_append_left hj] at h1
    rw [List.getElem?_append_left (by rw [← h.o3.len]; exact hj)] at h2
    have := h.o3.row j r' x h1 h2
    exact this.kp q (own_ne_own this h.o3.own (by decide))
  · have hj2 : j = rows.length := by
      have := (List.getElem?_eq_some_iff.1 h1).1
      simp at this; omega
    subst hj2
    rw [List.getElem?_append_right (Nat.le_refl _)] at h1
    rw [h.o3.len, List.getElem?_append_right (Nat.le_refl _)] at h2
    simp at h1 h2
    subst h1 h2
    exact ho.kp q (own_ne_own ho h.o3.own (by decide))

theorem boolsInfo : (Tryd.prog.info? 23).map (fun i => (i.zero, i.size, i.bytes)) = some (some (.slice none 0 0), 1, 24) := by kernel_rfl

end Go.Proofs.YtkgmiclmpfahlaaDoor

/-
  latchetref18.row, latchetref18.Read.
-/
namespace Go.Proofs.YtkgmiclmpfahlaaDoor
open Go.RowKit

theorem bits_len {t : ByteArray} (h : bitsC t = 0) : (bitsR t).length = t.size := by
  by_cases hg : allGood t
  · rw [(isGood hg).1, bitsL_length]
  · simp [bitsC, hg] at h

/-- what the reference's cells hold between two rounds -/
structure RS (w W : World) (d : WitD) (v2 v3 : Value) (rows : List Value) : Prop where
  b0 : Blk W w.heap.size #[.int .i64 0, .int .i64 0, .slice none 0 0, .slice none 0 0] 34
  b1 : Blk W (w.heap.size + 1) #[.int .i64 0, .int .i64 0, .slice none 0 0, .slice none 0 0] 34
  b2 : Blk W (w.heap.size + 1 + 1) #[.int .i64 d.kind, .int .i64 d.prop, v2, v3] 34
  o2 : Own W (w.heap.size + 3) 4 v2 (d.start.map Value.bool)
  o3 : OwnRows W (w.heap.size + 3) v3 rows d.ins
  kp : Kp (fun j => w.heap.size ≤ j) w W

theorem RS.keep {w W W' : World} {d : WitD} {v2 v3 : Value} {rows : List Value} (h : RS w W d v2 v3 rows) (q : Kp (fun _ => False) W W') : RS w W' d v2 v3 rows :=
  ⟨h.b0.kp q (fun h => h), h.b1.kp q (fun h => h), h.b2.kp q (fun h => h), h.o2.kp q (fun _ _ h => h), ⟨h.o3.own.kp q (fun _ _ h => h), h.o3.len, fun j r x h1 h2 => (h.o3.row j r x h1 h2).kp q (fun _ _ h => h)⟩, h.kp.trans q (fun _ _ h => h.elim)⟩

theorem RS.start (w : World) : RS w (((w.alloc (.cells #[.int .i64 0, .int .i64 0, .slice none 0 0, .slice none 0 0] 34)).alloc (.cells #[.int .i64 0, .int .i64 0, .slice none 0 0, .slice none 0 0] 34)).alloc (.cells #[.int .i64 0, .int .i64 0, .slice none 0 0, .slice none 0 0] 34)) wit0 (.slice none 0 0) (.slice none 0 0) [] := by
  have new : ∀ (u : World) (c : Array Value) (t : TypeId) (b : Nat), u.heap.size = b → Blk (u.alloc (.cells c t)) b c t := fun u c t b h => by subst h; exact Blk.new u c t
  refine ⟨?_, ?_, ?_, Own.nil _ _ _, ⟨Own.nil _ _ _, rfl, fun j r x h => by cases h⟩, ?_⟩
  · exact ((new _ _ _ _ rfl).alloc _).alloc _
  · exact (new _ _ _ _ (by simp)).alloc _
  · exact new _ _ _ _ (by simp)
  · exact (((Kp.refl _ w).alloc _).alloc _).alloc _

/-- a store into the witness that grows -/
theorem RS.set {w W : World} {d : WitD} {v2 v3 : Value} {rows : List Value} (h : RS w W d v2 v3 rows) (i : Nat) (v : Value) {d' : WitD} {v2' v3' : Value} {rows' : List Value}
    (hb : (#[.int .i64 d.kind, .int .i64 d.prop, v2, v3] : Array Value).setIfInBounds i v = #[.int .i64 d'.kind, .int .i64 d'.prop, v2', v3'])
    (ho2 : Own W (w.heap.size + 3) 4 v2' (d'.start.map Value.bool)) (ho3 : OwnRows W (w.heap.size + 3) v3' rows' d'.ins) : RS w (W.setCell ⟨w.heap.size + 1 + 1, i, none⟩ v) d' v2' v3' rows' := by
  have q := Kp.set W ⟨w.heap.size + 1 + 1, i, none⟩ v
  refine ⟨h.b0.kp q (fun e => by simp only at e; omega), h.b1.kp q (fun e => by simp only at e; omega), hb ▸ h.b2.set_same i v, ho2.kp q (fun j hj e => ?_), ⟨ho3.own.kp q (fun j hj e => ?_), ho3.len, fun j r x h1 h2 => (ho3.row j r x h1 h2).kp q (fun k hk e => ?_)⟩, h.kp.trans q (fun k _ e => by simp only at e; omega)⟩
  · have := (ho2.lt j hj).1; simp only at e; omega
  · have := (ho3.own.lt j hj).1; simp only at e; omega
  · have := ((ho3.row j r x h1 h2).lt k hk).1; simp only at e; omega

theorem RS.append {w W W2 : World} {d : WitD} {v2 v3 r v' : Value} {rows : List Value} {l : List Bool} (h : RS w W d v2 v3 rows) (ho : Own W (w.heap.size + 3) 4 r (l.map Value.bool))
    (hg : W.grownBy W2 v3.ownBlock) (ho3 : Own W2 (w.heap.size + 3) 23 v' (rows ++ [r])) :
    RS w (W2.setCell ⟨w.heap.size + 1 + 1, 3, none⟩ v') { d with ins := d.ins ++ [l] } v2 v' (rows ++ [r]) := by
  have q := (Kp.refl (fun j => v3.ownBlock = some j) W).grown hg (fun _ e _ => e)
  have hlo := fun j (e : v3.ownBlock = some j) => (h.o3.own.lt j e).1
  have h2 : Own W2 (w.heap.size + 3) 4 v2 (d.start.map Value.bool) := h.o2.kp q (own_ne_own h.o2 h.o3.own (by decide))
  have h3 : OwnRows W2 (w.heap.size + 3) v' (rows ++ [r]) (d.ins ++ [l]) := by
    refine ⟨ho3, by simp [h.o3.len], ?_⟩
    intro j r' x h1 h2
    by_cases hj : j < rows.length
    · rw [List.getElem?_append_left hj] at h1
      rw [List.getElem?_append_left (by rw [← h.o3.len]; exact hj)] at h2
      have := h.o3.row j r' x h1 h2
      exact this.kp q (own_ne_own this h.o3.own (by decide))
    · have hj2 : j = rows.length := by
        have := (List.getElem?_eq_some_iff.1 h1).1
        simp at this; omega
      subst hj2
      rw [List.getElem?_append_right (Nat.le_refl _)] at h1
      rw [h.o3.len, List.getElem?_append_right (Nat.le_refl _)] at h2
      simp at h1 h2
      subst h1 h2
      exact ho.kp q (own_ne_own ho h.o3.own (by decide))
  have b2 : Blk W2 (w.heap.size + 1 + 1) _ _ := h.b2.kp q (fun e => by have := hlo _ e; omega)
  have p := Kp.set W2 ⟨w.heap.size + 1 + 1, 3, none⟩ v'
  refine ⟨(h.b0.kp q (fun e => by have := hlo _ e; omega)).kp p (fun e => by simp only at e; omega), (h.b1.kp q (fun e => by have := hlo _ e; omega)).kp p (fun e => by simp only at e; omega), b2.set_same 3 v', h2.kp p (fun j hj e => ?_), ⟨ho3.kp p (fun j hj e => ?_), h3.len, fun j r x h1 h2 => (h3.row j r x h1 h2).kp p (fun k hk e => ?_)⟩, (h.kp.trans q (fun k _ e => by have := hlo _ e; omega)).trans p (fun k _ e => by simp only at e; omega)⟩
  · have := (h2.lt j hj).1; simp only at e; omega
  · have := (ho3.lt j hj).1; simp only at e; omega
  · have := ((h3.row j r x h1 h2).lt k hk).1; simp only at e; omega

theorem RS.exit {w W W' : World} {d : WitD} {v2 v3 : Value} {rows : List Value} (h : RS w W d v2 v3 rows) (x0 x1 u2 u3 : Value)
    (hW : W' = (((W.setCell ⟨w.heap.size, 0, none⟩ x0).setCell ⟨w.heap.size, 1, none⟩ x1).setCell ⟨w.heap.size, 2, none⟩ u2).setCell ⟨w.heap.size, 3, none⟩ u3) :
    Kp (fun j => w.heap.size ≤ j) w W' ∧ Own W' (w.heap.size + 3) 4 v2 (d.start.map Value.bool) ∧ OwnRows W' (w.heap.size + 3) v3 rows d.ins := by
  have q : Kp (fun j => j = w.heap.size) W W' := by
    subst hW
    exact ((((Kp.refl (fun j => j = w.heap.size) W).setCell (p := ⟨w.heap.size, 0, none⟩) (fun _ => rfl) x0).setCell (p := ⟨w.heap.size, 1, none⟩) (fun _ => rfl) x1).setCell (p := ⟨w.heap.size, 2, none⟩) (fun _ => rfl) u2).setCell (p := ⟨w.heap.size, 3, none⟩) (fun _ => rfl) u3
  refine ⟨h.kp.trans q (fun k _ e => by omega), h.o2.kp q (fun j hj e => ?_), ⟨h.o3.own.kp q (fun j hj e => ?_), h.o3.len, fun j r x h1 h2 => (h.o3.row j r x h1 h2).kp q (fun i hi e => ?_)⟩⟩
  · have := (h.o2.lt j hj).1; omega
  · have := (h.o3.own.lt j hj).1; omega
  · have := ((h.o3.row j r x h1 h2).lt i hi).1; omega

theorem RS.bad_post {w W W' : World} {s : ByteArray} {d : WitD} {v2 v3 : Value} {rows : List Value} (h : RS w W d v2 v3 rows) (p e : Nat)
    (hW : W' = (((W.setCell ⟨w.heap.size, 0, none⟩ (.int .i64 0)).setCell ⟨w.heap.size, 1, none⟩ (.int .i64 0)).setCell ⟨w.heap.size, 2, none⟩ (.slice none 0 0)).setCell ⟨w.heap.size, 3, none⟩ (.slice none 0 0)) {o : WitO} (ho : o = .bad p e) :
    WReadP w s o (.returned (.tuple #[.agg #[.int .i64 0, .int .i64 0, .slice none 0 0, .slice none 0 0], .int .i64 p, .int .i64 e])) W' := by
  subst ho
  obtain ⟨k, _, _⟩ := h.exit _ _ _ _ hW
  exact ⟨⟨_, rfl, _, _, rfl, own_boolsSl (l := []) (Own.nil _ 0 _), none, 0, rfl, Nat.le_refl _, by simp [maxLen], fun _ => rfl, [], RowAt.nil _ _, rfl, fun j r x h => by cases h⟩, k.below0⟩

theorem RS.ok_post {w W W' : World} {s : ByteArray} {d : WitD} {v2 v3 : Value} {rows : List Value} (h : RS w W d v2 v3 rows)
    (hW : W' = (((W.setCell ⟨w.heap.size, 0, none⟩ (.int .i64 d.kind)).setCell ⟨w.heap.size, 1, none⟩ (.int .i64 d.prop)).setCell ⟨w.heap.size, 2, none⟩ v2).setCell ⟨w.heap.size, 3, none⟩ v3) {o : WitO} (ho : o = .ok d) :
    WReadP w s o (.returned (.tuple #[.agg #[.int .i64 d.kind, .int .i64 d.prop, v2, v3], .int .i64 s.size, .int .i64 0])) W' := by
  subst ho
  obtain ⟨k, o2, o3⟩ := h.exit _ _ _ _ hW
  refine ⟨⟨_, rfl, v2, v3, rfl, own_boolsSl o2, ?_⟩, k.below0⟩
  obtain ⟨a, cap, rfl, h1, h2, h3, h4⟩ := o3.own.form
  exact ⟨a, cap, by show Value.slice a _ cap = Value.slice a d.ins.length cap; rw [o3.len], by show d.ins.length ≤ cap; rw [← o3.len]; exact h1, h2, own_nil_cap o3.own, rows, h4, o3.len, fun j r x hr hx => own_boolsSl (o3.row j r x hr hx)⟩

/-- the number behind a b, as the reference reads it -/
theorem propR_ref (t : ByteArray) : propR t = if 1 < t.size ∧ bt t 0 = 98 ∧ (natN t 1).2.2 = 0 ∧ (natN t 1).2.1 = t.size then some (natN t 1).1 else none := by
  unfold propR
  by_cases h0 : 1 < t.size
  · have hr := natN_rest (s := t) (p := 1) (by omega)
    have hz : (t.extract 1 t.size).size = t.size - 1 := by rw [ByteArray.size_extract]; omega
    rw [hr]
    simp only
    by_cases h1 : (natN (t.extract 1 t.size) 0).2.2 = 0
    · rw [if_pos h1]
      simp only [h1, true_and]
      by_cases h2 : bt t 0 = 98 ∧ (natN (t.extract 1 t.size) 0).2.1 = (t.extract 1 t.size).size
      · rw [if_pos ⟨by omega, h2⟩, if_pos ⟨h0, h2.1, by rw [h2.2, hz]; omega⟩]
      · rw [if_neg (fun h => h2 h.2), if_neg (fun h => h2 ⟨h.2.1, by rw [hz]; omega⟩)]
    · rw [if_neg (fun h => h1 h.2.2.1), if_neg (fun h => h1 h.2.2.1)]
  · rw [if_neg (c := 1 < t.size ∧ _) (fun h => h0 h.1)]
    refine if_neg ?_
    rintro ⟨h1, _, h3, _⟩
    have hz : (t.extract 1 t.size).size = 0 := by rw [ByteArray.size_extract]; omega
    unfold natN at h3
    rw [if_pos hz.symm] at h3
    cases h3

end Go.Proofs.YtkgmiclmpfahlaaDoor

/-
  A witness's text is read as the witness. No program in sight.
-/
namespace Go.Proofs.YtkgmiclmpfahlaaDoor
open Go.RowKit

theorem sign_cases (b : Bool) : sign b = 48 ∨ sign b = 49 := by cases b <;> simp [sign]
theorem signs_no10 (l : List Bool) : ∀ b ∈ signs l, b ≠ 10 := by
  intro b hb
  obtain ⟨x, _, rfl⟩ := List.mem_map.1 hb
  cases x <;> decide

theorem bt_signs {l : List Bool} {j : Nat} (hj : j < l.length) : bt ⟨(signs l).toArray⟩ j = (sign (tb l j)).toNat := by
  have hz : (⟨(signs l).toArray⟩ : ByteArray).size = l.length := by simp [ByteArray.size, signs_length]
  obtain ⟨b, h1, h2⟩ := byte_at (s := ⟨(signs l).toArray⟩) (i := j) (by rw [hz]; exact hj)
  rw [← h2]
  have h3 : (signs l)[j]? = some b := h1
  unfold signs at h3
  rw [List.getElem?_map, List.getElem?_eq_getElem hj] at h3
  simp only [Option.map_some, Option.some.injEq] at h3
  rw [← h3]
  unfold tb
  rw [List.getElem?_eq_getElem hj]
  rfl

theorem signs_good (l : List Bool) : allGood ⟨(signs l).toArray⟩ := by
  intro i hi
  have hz : (⟨(signs l).toArray⟩ : ByteArray).size = l.length := by simp [ByteArray.size, signs_length]
  unfold goodAt
  rw [bt_signs (by omega)]
  rcases sign_cases (tb l i) with h | h <;> rw [h]
  · exact .inl rfl
  · exact .inr rfl

theorem signs_back (l : List Bool) (m : Int) (h : (l.length : Int) = m) : rowR ⟨(signs l).toArray⟩ m = some l := by
  have hz : (⟨(signs l).toArray⟩ : ByteArray).size = l.length := by simp [ByteArray.size, signs_length]
  obtain ⟨h1, h2⟩ := isGood (signs_good l)
  have h3 : bitsR ⟨(signs l).toArray⟩ = l := by
    rw [h1, hz]
    apply List.ext_getElem?
    intro j
    by_cases hj : j < l.length
    · unfold bitsL
      rw [List.getElem?_map, List.getElem?_range hj]
      simp only [Option.map_some]
      unfold bitAt
      rw [bt_signs hj, List.getElem?_eq_getElem hj]
      unfold tb
      rw [List.getElem?_eq_getElem hj]
      cases l[j] <;> rfl
    · rw [List.getElem?_eq_none (by rw [bitsL_length]; omega), List.getElem?_eq_none (by omega)]
  unfold rowR
  rw [h3, if_pos ⟨h2, h⟩]

/-- a line that is none of the last -/
theorem witR_line {s : ByteArray} {la inp : Int} {f p k : Nat} {d d' : WitD} {a r : List UInt8} (hp : p ≤ s.size) (ha : ∀ b ∈ a, b ≠ 10) (h : s.data.toList.drop p = a ++ 10 :: r)
    (hl : lastR ⟨a.toArray⟩ k d = false) (hs : stepR ⟨a.toArray⟩ k la inp d = some d') :
    witR s la inp (f + 1) p k d = witR s la inp f (p + a.length + 1) (k + 1) d' ∧ p + a.length + 1 ≤ s.size ∧ s.data.toList.drop (p + a.length + 1) = r := by
  have hT := lineT_text hp ha h
  have hlen : (s.data.toList.drop p).length = s.size - p := by rw [List.length_drop, list_size]
  rw [h] at hlen
  simp only [List.length_append, List.length_cons] at hlen
  refine ⟨?_, by omega, ?_⟩
  · simp only [witR, hT]
    rw [if_neg (by simp), hl, if_neg (by simp), hs]
  · rw [show p + a.length + 1 = p + (a.length + 1) by omega, ← List.drop_drop, h]
    rw [show a ++ 10 :: r = (a ++ [10]) ++ r by simp, List.drop_left' (by simp)]

theorem witR_last {s : ByteArray} {la inp : Int} {f p k : Nat} {d : WitD} (hp : p ≤ s.size) (h : s.data.toList.drop p = [46] ++ 10 :: []) (hl : lastR ⟨#[46]⟩ k d = true) :
    witR s la inp (f + 1) p k d = .ok d := by
  have hT := lineT_text hp (by decide) h
  have hlen : (s.data.toList.drop p).length = s.size - p := by rw [List.length_drop, list_size]
  rw [h] at hlen
  simp at hlen
  simp only [witR, hT]
  rw [if_neg (by simp), show (⟨[46].toArray⟩ : ByteArray) = ⟨#[46]⟩ from rfl, hl, if_pos rfl, if_neg (by simp; omega)]

theorem witR_rows {s : ByteArray} {la inp : Int} : ∀ (ins : List (List Bool)) (f p k : Nat) (d : WitD) (r : List UInt8), p ≤ s.size → 2 < k → d.kind = 1 → (∀ x ∈ ins, (x.length : Int) = inp) →
    s.data.toList.drop p = ins.flatMap (fun l => signs l ++ [10]) ++ r → (ins ≠ [] ∨ True) →
    ∃ q, q ≤ s.size ∧ s.data.toList.drop q = r ∧ witR s la inp (ins.length + f) p k d = witR s la inp f q (k + ins.length) { d with ins := d.ins ++ ins }
  | [], f, p, k, d, r, hp, _, _, _, h, _ => by
    refine ⟨p, hp, by simpa using h, ?_⟩
    simp
  | x :: ins, f, p, k, d, r, hp, hk, hd, hx, h, _ => by
    have h' : s.data.toList.drop p = signs x ++ 10 :: (ins.flatMap (fun l => signs l ++ [10]) ++ r) := by rw [h]; simp
    have hl : lastR ⟨(signs x).toArray⟩ k d = false := by
      unfold lastR
      rw [decide_eq_false_iff_not]
      rintro ⟨e, _⟩
      have := congrArg (fun t : ByteArray => t.data.toList) e
      simp only [List.toList_toArray] at this
      cases x with
      | nil => cases this
      | cons b x =>
        simp only [signs, List.map_cons, List.cons.injEq] at this
        cases b <;> simp [sign] at this
    have hs : stepR ⟨(signs x).toArray⟩ k la inp d = some { d with ins := d.ins ++ [x] } := by
      unfold stepR
      rw [if_neg (by omega), if_neg (by omega), if_neg (by simp [hd]), if_neg (by omega), signs_back x inp (hx x (by simp))]
      rfl
    obtain ⟨h1, h2, h3⟩ := witR_line (f := ins.length + f) hp (signs_no10 x) h' hl hs
    obtain ⟨q, hq, hr, hw⟩ := witR_rows (la := la) ins f _ (k + 1) { d with ins := d.ins ++ [x] } r h2 (by omega) hd (fun y hy => hx y (List.mem_cons_of_mem _ hy)) h3 (.inr trivial)
    refine ⟨q, hq, hr, ?_⟩
    rw [List.length_cons, show ins.length + 1 + f = ins.length + f + 1 by omega, h1, hw]
    simp only [List.append_assoc, List.singleton_append]
    rw [show k + 1 + ins.length = k + (ins.length + 1) by omega]

theorem kind_line {kind : Nat} (h : kind ≤ 2) : Lib.itoa (kind : Int) = [UInt8.ofNat (48 + kind)] := by rw [itoa_nat, dd_one (by omega)]

theorem kind_step {kind : Nat} (h : kind ≤ 2) (la inp : Int) : stepR ⟨[UInt8.ofNat (48 + kind)].toArray⟩ 0 la inp wit0 = some { wit0 with kind := kind } := by
  have : kind = 0 ∨ kind = 1 ∨ kind = 2 := by omega
  rcases this with rfl | rfl | rfl <;> rfl

theorem prop_step {prop : Nat} (h : prop < 1000000000) (la inp : Int) (d : WitD) : stepR ⟨(98 :: Lib.decDigits prop).toArray⟩ 1 la inp d = some { d with prop := prop } := by
  obtain ⟨t, ht⟩ : ∃ t : ByteArray, (⟨(98 :: Lib.decDigits prop).toArray⟩ : ByteArray) = t := ⟨_, rfl⟩
  have hd : t.data.toList = 98 :: Lib.decDigits prop := by rw [← ht]
  have hz : t.size = (Lib.decDigits prop).length + 1 := by rw [← list_size, hd]; rfl
  have hpos := dd_pos prop
  have hn : natN t 1 = (prop, 1 + (Lib.decDigits prop).length, 0) := natN_dec h (by omega) (by rw [hd]; simp) (.inl (by omega))
  have hb : bt t 0 = 98 := by
    obtain ⟨b, h1, h2⟩ := byte_at (s := t) (i := 0) (by omega)
    rw [hd] at h1
    rw [← h2, ← Option.some.inj h1]; rfl
  have hP : propR t = some prop := by
    rw [propR_ref, hn]
    rw [if_pos ⟨by omega, hb, rfl, by show 1 + (Lib.decDigits prop).length = t.size; omega⟩]
  rw [ht]
  unfold stepR
  rw [if_neg (by omega), if_pos rfl, hP]
  rfl

/-- what is read of a right witness's text -/
theorem text_witT {s : ByteArray} {kind prop : Nat} {start : List Bool} {ins : List (List Bool)} {la inp : Nat} (hs : s.data.toList = witText kind prop start ins) (hk : kind ≤ 2) (hp : prop < 1000000000)
    (h1 : kind = 1 → ins ≠ [] ∧ start.length = la ∧ ∀ x ∈ ins, x.length = inp) (h2 : kind ≠ 1 → start = [] ∧ ins = []) (hz : ins.length ≤ s.size) :
    witT s la inp = .ok ⟨kind, prop, start, ins⟩ := by
  have hT : witText kind prop start ins = (witLines kind prop start ins).flatMap (fun l => l ++ [10]) := by unfold witText; rw [if_neg (by omega)]
  rw [hT] at hs
  unfold witLines at hs
  rw [kind_line hk, itoa_nat] at hs
  unfold witT
  rw [if_neg (by omega)]
  have d0 : s.data.toList.drop 0 = [UInt8.ofNat (48 + kind)] ++ 10 :: ((98 :: Lib.decDigits prop) ++ 10 :: ((if (kind : Int) = 1 then signs start :: ins.map signs else []) ++ [[46]]).flatMap (fun l => l ++ [10])) := by
    rw [List.drop_zero, hs]; simp
  have n1 : ∀ b ∈ [UInt8.ofNat (48 + kind)], b ≠ 10 := by
    have : kind = 0 ∨ kind = 1 ∨ kind = 2 := by omega
    rcases this with rfl | rfl | rfl <;> decide
  have n2 : ∀ b ∈ (98 :: Lib.decDigits prop), b ≠ 10 := by
    intro b hb
    rcases List.mem_cons.1 hb with rfl | hb
    · decide
    · intro e
      have := dd_digit prop b hb
      rw [e] at this
      simp at this
  have l0 : ∀ t d, lastR t 0 d = false := fun t d => by unfold lastR; rw [decide_eq_false_iff_not]; omega
  have l1 : ∀ t d, lastR t 1 d = false := fun t d => by unfold lastR; rw [decide_eq_false_iff_not]; omega
  obtain ⟨a1, a2, a3⟩ := witR_line (la := la) (inp := inp) (f := s.size + 1) (Nat.zero_le _) n1 d0 (l0 _ wit0) (kind_step hk _ _)
  obtain ⟨b1, b2, b3⟩ := witR_line (la := la) (inp := inp) (f := s.size) a2 n2 a3 (l1 _ _) (prop_step hp _ _ { wit0 with kind := kind })
  rw [a1, b1]
  by_cases h : kind = 1
  · obtain ⟨i1, i2, i3⟩ := h1 h
    rw [if_pos (by omega)] at b3
    obtain ⟨p, hpp⟩ : ∃ p, 0 + [UInt8.ofNat (48 + kind)].length + 1 + (98 :: Lib.decDigits prop).length + 1 = p := ⟨_, rfl⟩
    rw [hpp] at b2 b3 ⊢
    have b3' : s.data.toList.drop p = signs start ++ 10 :: (ins.flatMap (fun l => signs l ++ [10]) ++ ([46] ++ 10 :: [])) := by
      rw [b3]; simp [List.flatMap_map]
    have hst : stepR ⟨(signs start).toArray⟩ (0 + 1 + 1) la inp ⟨kind, prop, [], []⟩ = some ⟨kind, prop, start, []⟩ := by
      unfold stepR
      rw [if_neg (by omega), if_neg (by omega), if_neg (by simp [h]), if_pos rfl, signs_back start la (by omega)]
      rfl
    have hll : lastR ⟨(signs start).toArray⟩ (0 + 1 + 1) ⟨kind, prop, [], []⟩ = false := by unfold lastR; rw [decide_eq_false_iff_not]; simp [h]
    obtain ⟨f, hf⟩ : ∃ f, s.size = f + 1 := ⟨s.size - 1, by omega⟩
    have hil : 0 < ins.length := List.length_pos_iff.2 i1
    rw [hf]
    obtain ⟨c1, c2, c3⟩ := witR_line (la := la) (inp := inp) (f := f) b2 (signs_no10 start) b3' hll hst
    show witR s la inp (f + 1) p (0 + 1 + 1) ⟨kind, prop, [], []⟩ = _
    rw [c1]
    obtain ⟨q, q1, q2, q3⟩ := witR_rows (la := la) (inp := inp) ins (f - ins.length) _ (0 + 1 + 1 + 1) ⟨kind, prop, start, []⟩ _ c2 (by omega) h (fun x hx => by rw [i3 x hx]) c3 (.inr trivial)
    have hq : q + 2 ≤ s.size := by
      have hl := congrArg List.length q2
      rw [List.length_drop, list_size] at hl
      simp at hl
      omega
    have hfl : ins.length + 1 ≤ f := by
      have hl := congrArg List.length b3'
      rw [List.length_drop, list_size] at hl
      have : ins.length ≤ (ins.flatMap (fun l => signs l ++ [10])).length := by
        clear hl q3 q2 c3 b3' hz hil i1 i3 h1 h2 hs hT d0 a3 b3
        induction ins with
        | nil => simp
        | cons x ins ih => simp only [List.flatMap_cons, List.length_append, List.length_cons]; omega
      simp only [List.length_append, List.length_cons, List.length_nil] at hl
      omega
    rw [show f = ins.length + (f - ins.length) by omega, q3]
    obtain ⟨g, hg⟩ : ∃ g, f - ins.length = g + 1 := ⟨f - ins.length - 1, by omega⟩
    rw [hg, witR_last q1 q2 (by unfold lastR; rw [decide_eq_true_iff]; exact ⟨rfl, .inr (by omega)⟩)]
    simp
  · obtain ⟨rfl, rfl⟩ := h2 h
    rw [if_neg (by omega)] at b3
    obtain ⟨f, hf⟩ : ∃ f, s.size = f + 1 := ⟨s.size - 1, by omega⟩
    rw [hf, witR_last b2 (by rw [b3]; rfl) (by unfold lastR; rw [decide_eq_true_iff]; exact ⟨rfl, .inl ⟨rfl, h⟩⟩)]
    rfl

end Go.Proofs.YtkgmiclmpfahlaaDoor

/-
  A region inside a round of a range over a function goes as it goes elsewhere: the laws of a plain region's walk serve in a round's frame. No program in sight.
-/
namespace Go.Proofs.YtkgmiclmpfahlaaDoor
open Go

/-- the post of a region: it ends normally -/
def Onward (K : Act → World → Prop) : Exit → Act → World → Prop
  | .normal, a, w => K a w
  | _, _, _ => False

theorem Onward.only {K : Act → World → Prop} : ∀ {e : Exit} {a : Act} {w : World}, Onward K e a w → e = .normal ∧ K a w := fun {e} {_} {_} h => by
  cases e <;> first | exact ⟨rfl, h⟩ | exact h.elim

theorem opsIn_of_ops {l n : Nat} {P : Program} {ops : Array Oper} (hd : ∀ (i : Nat) (o : Oper), ops[i]? = some o → ∀ c, o.op ≠ .defer c) {K : Act → World → Prop} {Q : Exit → Act → World → Prop} (hK : ∀ a w, K a w → Q .normal a w) :
    ∀ (L : List Nat) (a : Act) (w : World), wpOps P ops (Onward K) L a w → wpOpsIn (Fence.wide.inRound l) n P ops Q L a w
  | [], a, w, h => hK _ _ h
  | i :: rest, a, w, h => by
    have ih := fun a w => opsIn_of_ops (l := l) (n := n) (P := P) hd hK rest a w
    simp only [wpOps, wpOpsIn] at h ⊢
    cases ho : ops[i]? with
    | none => rw [ho] at h; exact ih _ _ h
    | some o =>
      rw [ho] at h
      simp only at h ⊢
      by_cases hw : Region.wanted o (yielded ops a.tmps) = true
      · rw [if_pos hw] at h ⊢
        rcases h with h | ⟨_, _, _, hq⟩
        · refine ⟨fun _ _ => trivial, ?_⟩
          rw [Oper.semAt_plain _ _ _ (hd i o ho)]
          unfold Oper.wp at h
          generalize (execOp a.eval o).run P w = r at h ⊢
          cases r with
          | ok x w1 =>
            cases x <;> simp only [Oper.upon, Oper.uponIn] at h ⊢ <;> first | exact ih _ _ h | exact h.elim | skip
            · refine ⟨(fun h => nomatch h), ?_⟩
              refine CallsIn.mono (callsIn_wide.2 h) ?_
              intro e w2 he
              cases e with
              | returned v => exact ih _ _ he
              | panicked c => exact (Onward.only he).1 |> fun h => by cases h
              | outgrown => obtain ⟨_, _, hq⟩ := he; exact (Onward.only hq).1 |> fun h => by cases h
            · refine ⟨(fun h => nomatch h), ?_⟩
              intro c cs _
              obtain ⟨v, w2, hr, hs⟩ := h c cs
              exact ⟨v, w2, ih _ _ hr, stepsIn_wide.2 hs⟩
          | halt c w1 =>
            cases c <;> simp only [Oper.upon] at h <;> first | exact h.elim | exact ((Onward.only h).1 |> fun h => by cases h)
        · exact (Onward.only hq).1 |> fun h => by cases h
      · rw [if_neg hw] at h ⊢
        exact ⟨fun _ _ => trivial, ih _ _ h⟩

def noDefer (ops : Array Oper) : Bool := ops.all fun o => match o.op with | .defer _ => false | _ => true

theorem noDefer_spec {ops : Array Oper} (h : noDefer ops = true) : ∀ (i : Nat) (o : Oper), ops[i]? = some o → ∀ c, o.op ≠ .defer c := by
  intro i o ho c e
  obtain ⟨hi, he⟩ := Array.getElem?_eq_some_iff.1 ho
  have := (Array.all_eq_true.1 h) i hi
  rw [he, e] at this
  cases this

/-- a region that draws, in a round's frame -/
theorem wpIn_region_held {l n id : Nat} {P : Program} {ops : Array Oper} {S : World → Prop} {Q : Exit → Act → World → Prop} {a : Act} {w : World} (hm : P.follows .mixedOrders = true) (hd : noDefer ops = true)
    (hS : S w.drew) (h : ∀ K : Act → World → Prop, (∀ a w, Q .normal a w → K a w) → S w.drew → wpAnyH P .any ops (Onward K) S ops.size (Array.replicate ops.size false) a w.drew) :
    (Code.region id ops true).wpIn (Fence.wide.inRound l) n P Q a w :=
  wpIn_region_draw fun t => by
    simp only [Region.schedule, hm, Bool.true_or, if_true]
    exact opsIn_of_ops (noDefer_spec hd) (fun _ _ h => h) _ _ _ (wpAny_sound ops.size t _ a _ (wpAny_of_held _ _ _ _ (h _ (fun _ _ h => h) hS)))

end Go.Proofs.YtkgmiclmpfahlaaDoor

/-
  wit.Read: a range over a function.
-/
namespace Go.Proofs.YtkgmiclmpfahlaaDoor
open Go.RowKit Go.Shelf

attribute [local go_sem] Oper.semAt_some

/-- the frame at the start of a round -/
def frameX (w : World) (s : ByteArray) (la inp : Int) (BX : Nat) (x : LX s.size) : Act :=
  { tmps := #[.string s, .int .i64 la, .int .i64 inp, .pointer (some ⟨w.heap.size, 0, none⟩), .pointer (some ⟨w.heap.size + 1, 0, none⟩), .pointer (some ⟨w.heap.size + 2, 0, none⟩), .pointer (some ⟨w.heap.size + 3, 0, none⟩), .pointer (some ⟨w.heap.size + 4, 0, none⟩), .pointer (some ⟨w.heap.size + 5, 0, none⟩), .pointer (some ⟨w.heap.size + 6, 0, none⟩), .pointer (some ⟨w.heap.size + 7, 0, none⟩), .pointer (some ⟨w.heap.size + 8, 0, none⟩), .pointer (some ⟨BX, 0, none⟩), undef, undef, undef, .agg #[.int .i64 0, .int .i64 0, .slice none 0 0, .slice none 0 0], .agg #[.int .i64 0, .int .i64 0, .slice none 0 0, .slice none 0 0], .int .i64 la, .bool false, .bool false, .int .i64 inp, .bool false, .bool false, undef, .string s, .func (.func 46) #[] #[.pointer (some ⟨w.heap.size + 9, 0, none⟩)], .agg #[.string x.text, .int .i64 x.at_, .int .i64 x.next, .int .i64 x.e], undef, undef, undef, undef, undef, undef, undef, undef, undef, undef, undef, undef, undef, undef, undef, undef, undef, undef, undef, undef, undef, undef, undef, undef, undef, undef, undef, undef, undef, undef, undef, undef, undef, undef, undef, undef, undef, undef, undef, undef, undef, undef, undef, undef, undef, undef, undef, undef, undef, undef, undef, undef, undef, undef, undef, undef, undef, undef, undef, undef, undef, undef, undef, undef, undef, undef, undef, undef, undef, undef, undef, undef, undef, undef, undef, undef, undef, undef, undef, undef, undef, undef, undef, undef, undef, undef, undef, undef, undef, undef, undef, undef, undef, undef, undef, undef, undef, undef, undef, undef, undef, undef, undef], defers := [] }

set_option maxRecDepth 100000 in
set_option maxHeartbeats 4000000 in
theorem wit_Read_own (s : ByteArray) (la inp : Int) (w : World) (hs : s.size ≤ 100000) (hm : ML w) (h1 : 0 ≤ la) (h2 : 0 ≤ inp) :
    Calls Tryd.prog 23 #[.string s, .int .i64 la, .int .i64 inp] w (WReadQ w s (witT s la inp)) := by
  have g1 : decide (la < 0) = false := by simpa using h1
  have g2 : decide (inp < 0) = false := by simpa using h2
  refine (callsIn_wide (n := 5)).1 ?_
  refine callsIn_of_wp_marks Tryd.func23 rfl trivial ?_ rfl
  simp only [Tryd.ntmps23, List.size_toArray, List.length_cons, List.length_nil, Nat.reduceAdd, Nat.reduceSub, Array.replicate_succ, Array.replicate_zero, List.push_toArray, List.append_toArray, List.nil_append, List.cons_append]
  have HLn := Lib.hid (fun u => (callsIn_wide (n := 4)).2 (wit_lines s u))
  gi_wp2_with (refine ⟨trivial, ?_⟩; gi_at_call 34; refine (HLn.out _).mono ?_; rintro e w' ⟨rfl, hw⟩; subst hw)
  obtain ⟨W0, hW0⟩ : ∃ W0, ((((((((((w.alloc (.cells #[.string s] 9)).alloc (.cells #[.int .i64 la] 3)).alloc (.cells #[.int .i64 inp] 3)).alloc (.cells #[.int .i64 0, .int .i64 0, .slice none 0 0, .slice none 0 0] 34)).alloc (.cells #[.int .i64 0] 3)).alloc (.cells #[.int .i64 0] 22)).alloc (.cells #[.int .i64 0, .int .i64 0, .slice none 0 0, .slice none 0 0] 34)).alloc (.cells #[.int .i64 0, .int .i64 0, .slice none 0 0, .slice none 0 0] 34)).alloc (.cells #[.int .i64 0] 3)).alloc (.cells #[.string s] 9)) = W0 := ⟨_, rfl⟩
  rw [hW0]
  have hsz : W0.heap.size = w.heap.size + 10 := by rw [← hW0]; simp
  have hSt : St w s la inp W0 wit0 0 (.slice none 0 0) (.slice none 0 0) [] := by
    rw [← hW0]
    exact wit_start w s la inp
  clear hW0
  refine wpIn_rangeFunc_ownH rfl (by decide) (gf := 46) (lb := #[.pointer (some ⟨w.heap.size + 9, 0, none⟩)]) rfl trivial (enters_of Tryd.func46 (by kernel_rfl) rfl)
    (lines_stops (5 - 1) (by decide) (w.heap.size + 9) s hs W0 (hSt.st.b9.cell (i := 0) rfl)) (fun h k => h.trans k)
    (fun W l o o' hl ho h3 h4 => ⟨by simp, fun _ => World.putObj_heap_other (by omega)⟩)
    (Below.refl _ _) (fun _ => rfl)
    (fun pre W => ∃ d v2 v3 rows, runX la inp 0 wit0 pre = .inl d ∧ St w s la inp W d pre.length v2 v3 rows)
    (fun c pre W => c = .ret ∧ ∃ o v2 v3 rows, runX la inp 0 wit0 pre = .inr o ∧ Res w s W o v2 v3 rows)
    ?hI ?hIx ⟨wit0, _, _, _, rfl, hSt⟩
    (fun x a' W => ∃ BX, w.heap.size + 10 ≤ BX ∧ Blk W BX #[.string x.text, .int .i64 x.at_, .int .i64 x.next, .int .i64 x.e] 76 ∧ a' = frameX w s la inp BX x)
    ?hAx ?assign ?body ?done ?stop
  case hI =>
    rintro pre W W' row ⟨d, v2, v3, rows, e1, e2⟩ hg hr
    obtain ⟨q, hn⟩ := grown_nocells (n := w.heap.size) hg (fun r e => ⟨by have := (hr r e).1; omega, (hr r e).2⟩)
    exact ⟨d, v2, v3, rows, e1, e2.keep q hn⟩
  case hIx =>
    rintro c pre W W' row ⟨rfl, o, v2, v3, rows, e1, e2⟩ hg hr
    obtain ⟨q, hn⟩ := grown_nocells (n := w.heap.size) hg (fun r e => ⟨by have := (hr r e).1; omega, (hr r e).2⟩)
    exact ⟨rfl, o, v2, v3, rows, e1, e2.keep q hn⟩
  case hAx =>
    rintro x a' _ W W' row ⟨BX, e1, e2, e3⟩ hg hr
    obtain ⟨q, hn⟩ := grown_nocells (n := w.heap.size) hg (fun r e => ⟨by have := (hr r e).1; omega, (hr r e).2⟩)
    exact ⟨BX, e1, e2.kp q (hn.blk e2), e3⟩
  case assign =>
    rintro l pre x W K ⟨d, v2, v3, rows, e1, e2⟩ hK
    have hK' := Lib.hid hK
    clear hK
    have HRd := Lib.hid ((Rd.refl w.heap.size W).alloc (.cells #[.string x.text, .int .i64 x.at_, .int .i64 x.next, .int .i64 x.e] 76))
    have HSt := Lib.hid (e2.keep ((Kp.refl (fun _ => False) W).alloc (.cells #[.string x.text, .int .i64 x.at_, .int .i64 x.next, .int .i64 x.e] 76)) (NoCells.none _ _))
    have hWs : w.heap.size + 10 ≤ W.heap.size := by have := e2.st.b9.lt; omega
    unfold LX.enc
    gi_wp2
    exact hK'.out _ _ (by rw [hsz]; exact HRd.out.kf) HRd.out.kb ⟨d, v2, v3, rows, e1, HSt.out⟩ ⟨W.heap.size, hWs, Blk.new _ _ _, rfl⟩
  case body =>
    rintro l pre x a' W hl ⟨r, hr⟩ ⟨d, v2, v3, rows, e1, e2⟩ ⟨BX, hBX, bX, rfl⟩ hlt
    rw [hsz]
    have ht0 := bX.cell (i := 0) rfl
    have ht1 := bX.cell (i := 1) rfl
    have ht2 := bX.cell (i := 2) rfl
    have ht3 := bX.cell (i := 3) rfl
    have c0 := e2.st.b0.cell (i := 0) rfl
    have c1 := e2.st.b1.cell (i := 0) rfl
    have c2 := e2.st.b2.cell (i := 0) rfl
    have c60 := e2.st.b6.cell (i := 0) rfl
    have c61 := e2.st.b6.cell (i := 1) rfl
    have c62 := e2.st.b6.cell (i := 2) rfl
    have c63 := e2.st.b6.cell (i := 3) rfl
    have c70 := e2.b7.cell (i := 0) rfl
    have c71 := e2.b7.cell (i := 1) rfl
    have c72 := e2.b7.cell (i := 2) rfl
    have c73 := e2.b7.cell (i := 3) rfl
    have c8 := e2.st.b8.cell (i := 0) rfl
    have hSt2 := Lib.hid e2
    have hXX := Lib.hid bX
    clear e2 bX hSt
    obtain ⟨k, hk⟩ : ∃ k, pre.length = k := ⟨_, rfl⟩
    rw [hk] at c8 hSt2 hlt
    have hRun := Lib.hid (runX_snoc x pre 0 wit0 d e1)
    rw [Nat.zero_add, hk] at hRun
    have HLate := Lib.hid (show 3 ≤ k → d.kind = 1 from fun h3 => (runX_late pre 0 wit0 d e1).1 (by intro e; rw [e] at hk; simp at hk; omega) (by rw [hk]; omega))
    have HIns := Lib.hid (show d.ins.length ≤ k by have h := (runX_late pre 0 wit0 d e1).2; rw [hk] at h; simpa [wit0] using h)
    have HLen : Hid ((pre ++ [x]).length = k + 1) := by show _ = _; rw [List.length_append, hk]; rfl
    clear e1 hk
    obtain ⟨text, at_, next, er, q1, q2, q3, q4⟩ := x
    simp only at ht0 ht1 ht2 ht3 hXX
    unfold frameX
    dsimp only
    by_cases he : er = 0
    · subst he
      have hb2 : Mid w s la inp W W k BX text at_ next false d v2 v3 rows := ⟨hSt2.out.st, hXX.out, Rd.refl _ _, fun h => by cases h⟩
      clear hb2
      gi_upto_region 8 with fail
      iterate 11 (first | go_values | gi_guarded | gi_step | gi_upon)
      gi_cut [13, 14] from 28 (fun s13 s14 wx => ∃ (b o : Bool) (d' : WitD) (v2' v3' : Value) (rows' : List Value), s13 = .bool b ∧ s14 = .bool o ∧ Mid w s la inp W wx k BX text at_ next b d' v2' v3' rows' ∧ MidX la inp k d text b o d')
      case first =>
        clear c60 c61 c62 c63
        have f70 := hSt2.out.b7.free 0
        have f71 := hSt2.out.b7.free 1
        have hk1 : k ≤ 200000 := by omega
        by_cases k0 : k = 0
        · -- the kind
          have HSx := Lib.hid (show stepR text k la inp d = if text.size = 1 ∧ 48 ≤ bt text 0 ∧ bt text 0 ≤ 50 then some { d with kind := bt text 0 - 48 } else none by unfold stepR; rw [if_pos k0])
          have HLx := Lib.hid (show lastR text k d = false by unfold lastR; rw [decide_eq_false_iff_not]; omega)
          have b0 : ((k : Int) == 0) = true := by simp [k0]
          have HI := Lib.hid (fun (u : World) (hu : ML u) => (callsIn_wide (n := 5 - 1 - 1 - 1)).2 (wit_index text u hu))
          have HML := Lib.hid (hm.own hSt2.out.st.kp)
          clear k0 hm
          gi_wp2_with fail
          refine ⟨trivial, ?_⟩
          refine (HI.out _ HML.out).mono ?_
          rintro e w' ⟨⟨i, rfl, hi⟩, hw⟩
          have hw' := hw.symm; clear hw; subst hw'
          have z0 : (0 : Int) ≤ (text.size : Int) := by omega
          by_cases z1 : text.size = 1
          · have g3 : ((text.size : Int) == 1) = true := by simp [z1]
            by_cases z2 : 48 ≤ bt text 0 ∧ bt text 0 ≤ 50
            · obtain ⟨m, hm⟩ : ∃ m : Nat, bt text 0 - 48 = m := ⟨_, rfl⟩
              obtain rfl : i = (m : Int) := by have := (hi z1).1 z2; omega
              have HSy := Lib.hid (HSx.out.trans (if_pos ⟨z1, z2⟩))
              rw [hm] at HSy
              have g4 : decide ((0 : Int) ≤ (m : Int)) = true := by simp
              clear z1 z2 hi hm HSx
              gi_wp2
              gi_meet
              case rel => exact ⟨true, false, _, _, _, _, rfl, rfl, mid7 hSt2.out.st (Rd.refl _ _) hXX.out hBX 0 (.int .i64 m) (fun _ => hSt2.out.kind m), ⟨fun h => (by cases h), fun _ _ => ⟨HLx.out, HSy.out⟩, fun _ h => (by cases h)⟩⟩
            · have g4 : decide ((0 : Int) ≤ i) = false := by have := (hi z1).2 z2; simpa using this
              have HSy := Lib.hid (HSx.out.trans (if_neg (fun h => z2 ⟨h.2.1, h.2.2⟩)))
              clear z1 z2 hi HSx
              gi_wp2
              gi_meet
              case rel => exact ⟨false, false, d, v2, v3, rows, rfl, rfl, mid7 hSt2.out.st (Rd.refl _ _) hXX.out hBX 0 (.int .i64 i) (fun h => (by cases h)), ⟨fun _ => ⟨HLx.out, HSy.out⟩, fun h => (by cases h), fun h => (by cases h)⟩⟩
          · have g3 : ((text.size : Int) == 1) = false := by simp; omega
            have HSy := Lib.hid (HSx.out.trans (if_neg (fun h => z1 h.1)))
            clear z1 hi HSx
            gi_wp2
            gi_meet
            case rel => exact ⟨false, false, d, v2, v3, rows, rfl, rfl, mid7 hSt2.out.st (Rd.refl _ _) hXX.out hBX 0 (.int .i64 i) (fun h => (by cases h)), ⟨fun _ => ⟨HLx.out, HSy.out⟩, fun h => (by cases h), fun h => (by cases h)⟩⟩
        have b0 : ((k : Int) == 0) = false := by simp; omega
        have hts : text.size ≤ 100000 := by omega
        by_cases k1 : k = 1
        · -- the number behind a b
          have HSx := Lib.hid (show stepR text k la inp d = (propR text).map (fun n => { d with prop := n }) by unfold stepR; rw [if_neg k0, if_pos k1])
          have HLx := Lib.hid (show lastR text k d = false by unfold lastR; rw [decide_eq_false_iff_not]; omega)
          have b1 : ((k : Int) == 1) = true := by simp [k1]
          have HP := Lib.hid (fun (u : World) => (callsIn_wide (n := 5 - 1 - 1 - 1)).2 (wit_prop text u (by omega)))
          clear k0 k1 hm
          cases hp : propR text with
          | none =>
            rw [hp] at HP HSx
            gi_wp2_with fail
            refine ⟨trivial, ?_⟩
            refine (HP.out _).mono ?_
            rintro e w1 ⟨⟨m, rfl, _⟩, hK⟩
            have hS1 := Lib.hid (hSt2.out.keep hK (NoCells.none _ _))
            have hX1 := Lib.hid (hXX.out.kp hK (fun h => h))
            have hR1 := Lib.hid ((Rd.refl w.heap.size W).kp hK)
            have c71' := hS1.out.b7.cell (i := 1) rfl
            have f71' := hS1.out.b7.free 1
            clear hK
            simp only [Option.isSome_none]
            gi_wp2
            gi_meet
            case rel => exact ⟨false, false, d, v2, v3, rows, rfl, rfl, mid7 hS1.out.st hR1.out hX1.out hBX 1 (.int .i64 m) (fun h => (by cases h)), ⟨fun _ => ⟨HLx.out, HSx.out⟩, fun h => (by cases h), fun h => (by cases h)⟩⟩
          | some m0 =>
            rw [hp] at HP HSx
            gi_wp2_with fail
            refine ⟨trivial, ?_⟩
            refine (HP.out _).mono ?_
            rintro e w1 ⟨⟨m, rfl, hm⟩, hK⟩
            obtain rfl := hm m0 rfl
            have hS1 := Lib.hid (hSt2.out.keep hK (NoCells.none _ _))
            have hX1 := Lib.hid (hXX.out.kp hK (fun h => h))
            have hR1 := Lib.hid ((Rd.refl w.heap.size W).kp hK)
            have c71' := hS1.out.b7.cell (i := 1) rfl
            have f71' := hS1.out.b7.free 1
            clear hK hm
            simp only [Option.isSome_some]
            gi_wp2
            gi_meet
            case rel => exact ⟨true, false, _, _, _, _, rfl, rfl, mid7 hS1.out.st hR1.out hX1.out hBX 1 (.int .i64 m) (fun _ => hS1.out.propn m), ⟨fun h => (by cases h), fun _ _ => ⟨HLx.out, HSx.out⟩, fun _ h => (by cases h)⟩⟩
        have b1 : ((k : Int) == 1) = false := by simp; omega
        by_cases kd : d.kind = 1
        · have b3 : ((d.kind : Int) != 1) = false := by simp [kd]
          by_cases k2 : k = 2
          · -- the start
            have HSx := Lib.hid (show stepR text k la inp d = (rowR text la).map (fun l => { d with start := l }) by unfold stepR; rw [if_neg k0, if_neg k1, if_neg (fun h => h kd), if_pos k2])
            have HLx := Lib.hid (show lastR text k d = false by unfold lastR; rw [decide_eq_false_iff_not]; omega)
            have b4 : decide ((3 : Int) < (k : Int)) = false := by simp; omega
            have b5 : ((k : Int) == 2) = true := by simp [k2]
            have HP := Lib.hid (fun (u : World) => (callsIn_wide (n := 5 - 1 - 1 - 1)).2 (wit_row text la u hts))
            have hWs : w.heap.size + 10 ≤ W.heap.size := by have := hSt2.out.st.b9.lt; omega
            have f72 := hSt2.out.b7.free 2
            clear k0 k1 hm kd k2
            cases hp : rowR text la with
            | none =>
              rw [hp] at HP HSx
              gi_wp2_with fail
              refine ⟨trivial, ?_⟩
              refine (HP.out _).mono ?_
              rintro e w1 ⟨⟨v, rfl, ho⟩, hK⟩
              obtain ⟨a9, c9, rfl, -⟩ := ho.form
              have hS1 := Lib.hid (hSt2.out.keep hK (NoCells.none _ _))
              have hX1 := Lib.hid (hXX.out.kp hK (fun h => h))
              have hR1 := Lib.hid ((Rd.refl w.heap.size W).kp hK)
              have c72' := hS1.out.b7.cell (i := 2) rfl
              have f72' := hS1.out.b7.free 2
              clear hK ho
              simp only [Option.isSome_none]
              gi_wp2
              gi_meet
              case rel => exact ⟨false, false, d, v2, v3, rows, rfl, rfl, mid7 hS1.out.st hR1.out hX1.out hBX 2 _ (fun h => (by cases h)), ⟨fun _ => ⟨HLx.out, HSx.out⟩, fun h => (by cases h), fun h => (by cases h)⟩⟩
            | some l9 =>
              have HL9 := Lib.hid (rowR_bits hp)
              rw [hp] at HP HSx
              gi_wp2_with fail
              refine ⟨trivial, ?_⟩
              refine (HP.out _).mono ?_
              rintro e w1 ⟨⟨v, rfl, ho⟩, hK⟩
              rw [← HL9.out] at ho
              have HO := Lib.hid (ho.mono hWs)
              obtain ⟨a9, c9, E9, -⟩ := ho.form
              obtain ⟨z9, hz9⟩ : ∃ z, (l9.map Value.bool).length = z := ⟨_, rfl⟩
              rw [hz9] at E9
              subst E9
              have hS1 := Lib.hid (hSt2.out.keep hK (NoCells.none _ _))
              have hX1 := Lib.hid (hXX.out.kp hK (fun h => h))
              have hR1 := Lib.hid ((Rd.refl w.heap.size W).kp hK)
              have c72' := hS1.out.b7.cell (i := 2) rfl
              have f72' := hS1.out.b7.free 2
              clear hK ho hz9
              simp only [Option.isSome_some]
              gi_wp2
              gi_meet
              case rel => exact ⟨true, false, _, _, _, _, rfl, rfl, mid7 hS1.out.st hR1.out hX1.out hBX 2 _ (fun _ => hS1.out.startn HO.out), ⟨fun h => (by cases h), fun _ _ => ⟨HLx.out, HSx.out⟩, fun _ h => (by cases h)⟩⟩
          · have hk3 : 3 ≤ k := by omega
            have b5 : ((k : Int) == 2) = false := by simp; omega
            have hWs : w.heap.size + 10 ≤ W.heap.size := by have := hSt2.out.st.b9.lt; omega
            have HSx := Lib.hid (show stepR text k la inp d = (rowR text inp).map (fun l => { d with ins := d.ins ++ [l] }) by unfold stepR; rw [if_neg k0, if_neg k1, if_neg (fun h => h kd), if_neg k2])
            have hd := dot_eq text
            by_cases hpt : 3 < k ∧ text = ⟨#[46]⟩
            · -- the point behind the first input
              have HLx := Lib.hid (show lastR text k d = true by unfold lastR; rw [decide_eq_true_iff]; exact ⟨hpt.2, .inr hpt.1⟩)
              have b4 : decide ((3 : Int) < (k : Int)) = true := by simp; omega
              have g5 : (text.toList == [46]) = true := by rw [hd]; simpa using hpt.2
              clear hd hpt k0 k1 k2 kd hm
              gi_wp2
              gi_meet
              case rel => exact ⟨true, true, d, v2, v3, rows, rfl, rfl, ⟨hSt2.out.st, hXX.out, Rd.refl _ _, fun _ => hSt2.out⟩, ⟨fun h => (by cases h), fun _ h => (by cases h), fun _ _ => ⟨HLx.out, rfl⟩⟩⟩
            · have HLx := Lib.hid (show lastR text k d = false by unfold lastR; rw [decide_eq_false_iff_not]; rintro ⟨h1, h2 | h2⟩ <;> first | exact hpt ⟨h2, h1⟩ | omega)
              have hw : decide ((3 : Int) < (k : Int)) = false ∨ (decide ((3 : Int) < (k : Int)) = true ∧ (text.toList == [46]) = false) := by
                by_cases h3 : 3 < k
                · exact .inr ⟨by simp; omega, by rw [hd]; simpa using fun h => hpt ⟨h3, h⟩⟩
                · exact .inl (by simp; omega)
              have HP := Lib.hid (fun (u : World) => (callsIn_wide (n := 5 - 1 - 1 - 1)).2 (wit_row text inp u hts))
              have f73 := hSt2.out.b7.free 3
              have hil : rows.length ≤ k := by rw [hSt2.out.o3.len]; exact HIns.out
              clear hd hpt k0 k1 k2 kd hm
              obtain ⟨ob, hob⟩ : ∃ ob, (rowR text inp).isSome = ob := ⟨_, rfl⟩
              have HOB := Lib.hid hob
              rw [hob] at HP
              clear hob
              rcases hw with b4 | ⟨b4, g5⟩
              all_goals
                gi_wp2_with fail
                refine ⟨trivial, ?_⟩
                refine (HP.out _).mono ?_
                rintro e w1 ⟨⟨v, rfl, ho⟩, hK⟩
                have HO := Lib.hid (ho.mono hWs)
                obtain ⟨a9, c9, E9, -⟩ := ho.form
                obtain ⟨z9, hz9⟩ : ∃ z, ((bitsR text).map Value.bool).length = z := ⟨_, rfl⟩
                rw [hz9] at E9
                subst E9
                have hS1 := Lib.hid (hSt2.out.keep hK (NoCells.none _ _))
                have hX1 := Lib.hid (hXX.out.kp hK (fun h => h))
                have hR1 := Lib.hid ((Rd.refl w.heap.size W).kp hK)
                have c70' := hS1.out.b7.cell (i := 0) rfl
                have c73' := hS1.out.b7.cell (i := 3) rfl
                have hW1 : w.heap.size + 10 ≤ w1.heap.size := by have := hS1.out.st.b9.lt; omega
                clear hK ho hz9
                gi_wp2_with (gi_at_builtin; refine wpListIn_append1 rfl _ _ 24 23 rfl Tryd.underlying24 boolsInfo rfl (hS1.out.o3.own.alloc _) rfl ⟨w1.heap.size, 0, none⟩ (.slice a9 z9 c9) rfl ?c1 rfl ?c2 ?c3 ?c4 ?_)
                case c1 => exact (Blk.new w1 #[.slice a9 z9 c9] 23).cell (i := 0) rfl
                case c2 => omega
                case c3 => unfold maxLen; omega
                case c4 => simp; omega
                intro v' w2 hO3 hg
                have hS2 := hS1.out.keep ((Kp.refl (fun _ => False) w1).alloc (.cells #[.slice a9 z9 c9] 23)) (NoCells.none _ _)
                obtain ⟨hA, hB, hG⟩ := hS2.append (HO.out.alloc _) hg hO3
                have hX2 : Blk w2 BX _ _ := (hX1.out.alloc _).kp ((Kp.refl (fun j => v3.ownBlock = some j) _).grown hg (fun _ e _ => e)) (blk_ne_own (hX1.out.alloc _) hS2.o3.own (by decide))
                have HMid := Lib.hid (mid7 (b := ob) hA ((hR1.out.alloc _).grown hS2.o3.own hg) hX2 hBX 3 v' (fun _ => St.insn hA hB hG))
                obtain ⟨a8, c8', E8, -⟩ := hO3.form
                obtain ⟨z8, hz8⟩ : ∃ z, (rows ++ [Value.slice a9 z9 c9]).length = z := ⟨_, rfl⟩
                rw [hz8] at E8
                subst E8
                have c73'' := hB.cell (i := 3) rfl
                have f73'' := hB.free 3
                have HX : Hid (MidX la inp k d text ob false { d with ins := d.ins ++ [bitsR text] }) := by
                  refine ⟨fun h => ⟨HLx.out, ?_⟩, fun h _ => ⟨HLx.out, ?_⟩, fun _ h => (by cases h)⟩
                  · have h1 := HOB.out
                    rw [HSx.out, h] at *
                    cases hr : rowR text inp with
                    | none => rfl
                    | some l => rw [hr] at h1; cases h1
                  · have h1 := HOB.out
                    rw [HSx.out, h] at *
                    cases hr : rowR text inp with
                    | none => rw [hr] at h1; cases h1
                    | some l => rw [rowR_bits hr]; rfl
                clear hA hB hG hX2 hS2 hO3 hg hz8 hil
                gi_wp2
                gi_meet
                case rel => exact ⟨ob, false, _, _, _, _, rfl, rfl, HMid.out, HX.out⟩
        · -- no run: the point's line
          have k2 : k = 2 := by
            by_cases h3 : 3 ≤ k
            · exact absurd (HLate.out h3) kd
            · omega
          have HSx := Lib.hid (show stepR text k la inp d = none by unfold stepR; rw [if_neg k0, if_neg k1, if_pos kd])
          have b3 : ((d.kind : Int) != 1) = true := by simp; omega
          have HLx := Lib.hid (show lastR text k d = decide (text = ⟨#[46]⟩) by unfold lastR; simp [k2, kd])
          clear k0 k1 hm kd k2
          have hd := dot_eq text
          by_cases ht : text = ⟨#[46]⟩
          · have g5 : (text.toList == [46]) = true := by rw [hd]; simpa using ht
            have HLy := Lib.hid (HLx.out.trans (by simpa using ht : decide (text = ⟨#[46]⟩) = true))
            clear hd ht
            gi_wp2
            gi_meet
            case rel => exact ⟨true, true, d, v2, v3, rows, rfl, rfl, ⟨hSt2.out.st, hXX.out, Rd.refl _ _, fun _ => hSt2.out⟩, ⟨fun h => (by cases h), fun _ h => (by cases h), fun _ _ => ⟨HLy.out, rfl⟩⟩⟩
          · have g5 : (text.toList == [46]) = false := by rw [hd]; simpa using ht
            have HLy := Lib.hid (HLx.out.trans (by simpa using ht : decide (text = ⟨#[46]⟩) = false))
            clear hd ht
            gi_wp2
            gi_meet
            case rel => exact ⟨false, true, d, v2, v3, rows, rfl, rfl, ⟨hSt2.out.st, hXX.out, Rd.refl _ _, fun _ => hSt2.out⟩, ⟨fun _ => ⟨HLy.out, HSx.out⟩, fun h => (by cases h), fun h => (by cases h)⟩⟩
      case rest =>
        obtain ⟨b, o, d', v2', v3', rows', rfl, rfl, hmid, hmx⟩ := hcut
        have hOne := Lib.hid (midX_one (x := (⟨text, at_, next, 0, q1, q2, q3, q4⟩ : LX s.size)) rfl hmx)
        have HM := Lib.hid hmid
        clear hmid hmx ht0 ht1 ht2 ht3 c0 c1 c2 c60 c61 c62 c63 c70 c71 c72 c73 c8 hSt2 hXX
        have c0 := HM.out.st.b0.cell (i := 0) rfl
        have e1 := HM.out.bx.cell (i := 1) rfl
        have e2 := HM.out.bx.cell (i := 2) rfl
        have c60 := HM.out.st.b6.cell (i := 0) rfl
        have c61 := HM.out.st.b6.cell (i := 1) rfl
        have c62 := HM.out.st.b6.cell (i := 2) rfl
        have c63 := HM.out.st.b6.cell (i := 3) rfl
        have c8 := HM.out.st.b8.cell (i := 0) rfl
        have f8 := HM.out.st.b8.free 0
        have d3 := HM.out.st.b3.cell (i := 0) rfl
        have d31 := HM.out.st.b3.cell (i := 1) rfl
        have d32 := HM.out.st.b3.cell (i := 2) rfl
        have d33 := HM.out.st.b3.cell (i := 3) rfl
        have d4 := HM.out.st.b4.cell (i := 0) rfl
        have d5 := HM.out.st.b5.cell (i := 0) rfl
        have f3 := fun i => HM.out.st.b3.free i
        have f4 := HM.out.st.b4.free 0
        have f5 := HM.out.st.b5.free 0
        have n3 : BX ≠ w.heap.size + 3 := by omega
        have n4 : BX ≠ w.heap.size + 4 := by omega
        have n5 : BX ≠ w.heap.size + 5 := by omega
        have m3 : w.heap.size + 3 ≠ BX := by omega
        have m4 : w.heap.size + 4 ≠ BX := by omega
        have m5 : w.heap.size + 5 ≠ BX := by omega
        cases b with
        | false =>
          gi_wp2
          clear hr hl hm h1 h2 g1 g2 HLn
          refine wpIn_region_held (S := fun W => W.cell? ⟨w.heap.size + 6, 0, none⟩ = some (.int .i64 0) ∧ W.cell? ⟨w.heap.size + 6, 1, none⟩ = some (.int .i64 0) ∧ W.cell? ⟨w.heap.size + 6, 2, none⟩ = some (.slice none 0 0) ∧ W.cell? ⟨w.heap.size + 6, 3, none⟩ = some (.slice none 0 0) ∧ W.cell? ⟨BX, 1, none⟩ = some (.int .i64 at_)) (by kernel_rfl) (by kernel_rfl) ⟨c60, c61, c62, c63, e1⟩ (fun K hK hHeld => ?_)
          refine wpAnyH_take (i := 0) (oi := _) (v := ?_) rfl (by kernel_rfl) (by kernel_rfl) (by kernel_rfl) (fun _ _ _ h => h) (Or.inl ⟨by rfl, ?_⟩) (by assumption) ?_
          rotate_left
          · intro w hSw; (try dsimp only at hSw); go_simp; (try with_reducible rfl)
          try simp only [Act.put, List.setIfInBounds_toArray, List.set_cons_zero, List.set_cons_succ]
          refine wpAnyH_take (i := 1) (oi := _) (v := ?_) rfl (by kernel_rfl) (by kernel_rfl) (by kernel_rfl) (fun _ _ _ h => h) (Or.inl ⟨by rfl, ?_⟩) (by assumption) ?_
          rotate_left
          · intro w hSw; (try dsimp only at hSw); go_simp; (try with_reducible rfl)
          try simp only [Act.put, List.setIfInBounds_toArray, List.set_cons_zero, List.set_cons_succ]
          refine wpAnyH_take (i := 2) (oi := _) (v := ?_) rfl (by kernel_rfl) (by kernel_rfl) (by kernel_rfl) (fun _ _ _ h => h) (Or.inl ⟨by rfl, ?_⟩) (by assumption) ?_
          rotate_left
          · intro w hSw; (try dsimp only at hSw); go_simp; (try with_reducible rfl)
          try simp only [Act.put, List.setIfInBounds_toArray, List.set_cons_zero, List.set_cons_succ]
          refine wpAnyH_ready (rs := [3]) (by kernel_rfl) (by simp) ?_
          refine AllReadyH.cons (o := _) rfl (fun K1 hK1 => ?_) AllReadyH.nil
          go_simp
          refine hK1.out _ _ ?_ (fun hHeld => ?_)
          · simp [*, World.cell?_setCell_far]
          clear hK1 K1
          try simp only [Act.put, List.setIfInBounds_toArray, List.set_cons_zero, List.set_cons_succ]
          refine wpAnyH_ready (rs := [4]) (by kernel_rfl) (by simp) ?_
          refine AllReadyH.cons (o := _) rfl (fun K1 hK1 => ?_) AllReadyH.nil
          go_simp
          refine hK1.out _ _ ?_ (fun hHeld => ?_)
          · simp [*, World.cell?_setCell_far]
          clear hK1 K1
          try simp only [Act.put, List.setIfInBounds_toArray, List.set_cons_zero, List.set_cons_succ]
          refine wpAnyH_ready (rs := [5]) (by kernel_rfl) (by simp) ?_
          refine AllReadyH.cons (o := _) rfl (fun K1 hK1 => ?_) AllReadyH.nil
          go_simp
          refine hK1.out _ _ ?_ (fun hHeld => ?_)
          · simp [*, World.cell?_setCell_far]
          clear hK1 K1
          try simp only [Act.put, List.setIfInBounds_toArray, List.set_cons_zero, List.set_cons_succ]
          refine wpAnyH_done (by kernel_rfl) ?_ _
          refine hK _ _ ?_
          clear hK K hHeld
          gi_wp2
          obtain ⟨r1, r2⟩ := exit_bad HM.out.st at_ 2 rfl
          exact ⟨(HM.out.rd.kf).trans r1.kf, rfl, _, _, _, _, hRun.out.trans (hOne.out.trans rfl), r2⟩
        | true =>
          obtain ⟨x2, y2, E2, -⟩ := (HM.out.good rfl).o2.form
          obtain ⟨x3, y3, E3, -⟩ := (HM.out.good rfl).o3.own.form
          obtain ⟨z2, hz2⟩ : ∃ z, (d'.start.map Value.bool).length = z := ⟨_, rfl⟩
          obtain ⟨z3, hz3⟩ : ∃ z, rows'.length = z := ⟨_, rfl⟩
          rw [hz2] at E2
          rw [hz3] at E3
          clear hz2 hz3
          subst E2
          subst E3
          have c70 := (HM.out.good rfl).b7.cell (i := 0) rfl
          have c71 := (HM.out.good rfl).b7.cell (i := 1) rfl
          have c72 := (HM.out.good rfl).b7.cell (i := 2) rfl
          have c73 := (HM.out.good rfl).b7.cell (i := 3) rfl
          have hsz2 : (s.size : Int) ≤ 100000 := by omega
          cases o with
          | false =>
            have hk1 : k ≤ 200000 := by omega
            gi_wp2
            refine ⟨(HM.out.rd.set 0 (by omega) _).kf, (HM.out.rd.set 0 (by omega) _).kb, d', hRun.out.trans hOne.out, _, _, rows', by rw [HLen.out]; exact (HM.out.good rfl).next⟩
          | true =>
            by_cases hz : next < s.size
            · have g3 : decide ((next : Int) < (s.size : Int)) = true := by simpa using hz
              have HZ := Lib.hid hz; clear hz
              gi_wp2
              clear hr hl hm h1 h2 g1 g2 HLn
              refine wpIn_region_held (S := fun W => W.cell? ⟨w.heap.size + 6, 0, none⟩ = some (.int .i64 0) ∧ W.cell? ⟨w.heap.size + 6, 1, none⟩ = some (.int .i64 0) ∧ W.cell? ⟨w.heap.size + 6, 2, none⟩ = some (.slice none 0 0) ∧ W.cell? ⟨w.heap.size + 6, 3, none⟩ = some (.slice none 0 0) ∧ W.cell? ⟨BX, 2, none⟩ = some (.int .i64 next)) (by kernel_rfl) (by kernel_rfl) ⟨c60, c61, c62, c63, e2⟩ (fun K hK hHeld => ?_)
              refine wpAnyH_take (i := 0) (oi := _) (v := ?_) rfl (by kernel_rfl) (by kernel_rfl) (by kernel_rfl) (fun _ _ _ h => h) (Or.inl ⟨by rfl, ?_⟩) (by assumption) ?_
              rotate_left
              · intro w hSw; (try dsimp only at hSw); go_simp; (try with_reducible rfl)
              try simp only [Act.put, List.setIfInBounds_toArray, List.set_cons_zero, List.set_cons_succ]
              refine wpAnyH_take (i := 1) (oi := _) (v := ?_) rfl (by kernel_rfl) (by kernel_rfl) (by kernel_rfl) (fun _ _ _ h => h) (Or.inl ⟨by rfl, ?_⟩) (by assumption) ?_
              rotate_left
              · intro w hSw; (try dsimp only at hSw); go_simp; (try with_reducible rfl)
              try simp only [Act.put, List.setIfInBounds_toArray, List.set_cons_zero, List.set_cons_succ]
              refine wpAnyH_take (i := 2) (oi := _) (v := ?_) rfl (by kernel_rfl) (by kernel_rfl) (by kernel_rfl) (fun _ _ _ h => h) (Or.inl ⟨by rfl, ?_⟩) (by assumption) ?_
              rotate_left
              · intro w hSw; (try dsimp only at hSw); go_simp; (try with_reducible rfl)
              try simp only [Act.put, List.setIfInBounds_toArray, List.set_cons_zero, List.set_cons_succ]
              refine wpAnyH_ready (rs := [3]) (by kernel_rfl) (by simp) ?_
              refine AllReadyH.cons (o := _) rfl (fun K1 hK1 => ?_) AllReadyH.nil
              go_simp
              refine hK1.out _ _ ?_ (fun hHeld => ?_)
              · simp [*, World.cell?_setCell_far]
              clear hK1 K1
              try simp only [Act.put, List.setIfInBounds_toArray, List.set_cons_zero, List.set_cons_succ]
              refine wpAnyH_ready (rs := [4]) (by kernel_rfl) (by simp) ?_
              refine AllReadyH.cons (o := _) rfl (fun K1 hK1 => ?_) AllReadyH.nil
              go_simp
              refine hK1.out _ _ ?_ (fun hHeld => ?_)
              · simp [*, World.cell?_setCell_far]
              clear hK1 K1
              try simp only [Act.put, List.setIfInBounds_toArray, List.set_cons_zero, List.set_cons_succ]
              refine wpAnyH_ready (rs := [5]) (by kernel_rfl) (by simp) ?_
              refine AllReadyH.cons (o := _) rfl (fun K1 hK1 => ?_) AllReadyH.nil
              go_simp
              refine hK1.out _ _ ?_ (fun hHeld => ?_)
              · simp [*, World.cell?_setCell_far]
              clear hK1 K1
              try simp only [Act.put, List.setIfInBounds_toArray, List.set_cons_zero, List.set_cons_succ]
              refine wpAnyH_done (by kernel_rfl) ?_ _
              refine hK _ _ ?_
              clear hK K hHeld
              gi_wp2
              obtain ⟨r1, r2⟩ := exit_bad HM.out.st next 2 rfl
              exact ⟨(HM.out.rd.kf).trans r1.kf, rfl, _, _, _, _, hRun.out.trans (hOne.out.trans (if_pos HZ.out)), r2⟩
            · have g3 : decide ((next : Int) < (s.size : Int)) = false := by simpa using hz
              have HZ := Lib.hid hz; clear hz
              gi_wp2
              clear hr hl hm h1 h2 g1 g2 HLn
              have a3 : w.heap.size ≠ w.heap.size + 3 := by omega
              have a4 : w.heap.size ≠ w.heap.size + 4 := by omega
              have a5 : w.heap.size ≠ w.heap.size + 5 := by omega
              refine wpIn_region_held (S := fun W => W.cell? ⟨w.heap.size + 7, 0, none⟩ = some (.int .i64 d'.kind) ∧ W.cell? ⟨w.heap.size + 7, 1, none⟩ = some (.int .i64 d'.prop) ∧ W.cell? ⟨w.heap.size + 7, 2, none⟩ = some (.slice x2 z2 y2) ∧ W.cell? ⟨w.heap.size + 7, 3, none⟩ = some (.slice x3 z3 y3) ∧ W.cell? ⟨w.heap.size, 0, none⟩ = some (.string s)) (by kernel_rfl) (by kernel_rfl) ⟨c70, c71, c72, c73, c0⟩ (fun K hK hHeld => ?_)
              refine wpAnyH_take (i := 0) (oi := _) (v := ?_) rfl (by kernel_rfl) (by kernel_rfl) (by kernel_rfl) (fun _ _ _ h => h) (Or.inl ⟨by rfl, ?_⟩) (by assumption) ?_
              rotate_left
              · intro w hSw; (try dsimp only at hSw); go_simp; (try with_reducible rfl)
              try simp only [Act.put, List.setIfInBounds_toArray, List.set_cons_zero, List.set_cons_succ]
              refine wpAnyH_take (i := 1) (oi := _) (v := ?_) rfl (by kernel_rfl) (by kernel_rfl) (by kernel_rfl) (fun _ _ _ h => h) (Or.inl ⟨by rfl, ?_⟩) (by assumption) ?_
              rotate_left
              · intro w hSw; (try dsimp only at hSw); go_simp; (try with_reducible rfl)
              try simp only [Act.put, List.setIfInBounds_toArray, List.set_cons_zero, List.set_cons_succ]
              refine wpAnyH_take (i := 2) (oi := _) (v := ?_) rfl (by kernel_rfl) (by kernel_rfl) (by kernel_rfl) (fun _ _ _ h => h) (Or.inl ⟨by rfl, ?_⟩) (by assumption) ?_
              rotate_left
              · intro w hSw; (try dsimp only at hSw); go_simp; (try with_reducible rfl)
              try simp only [Act.put, List.setIfInBounds_toArray, List.set_cons_zero, List.set_cons_succ]
              refine wpAnyH_ready (rs := [3]) (by kernel_rfl) (by simp) ?_
              refine AllReadyH.cons (o := _) rfl (fun K1 hK1 => ?_) AllReadyH.nil
              go_simp
              refine hK1.out _ _ ?_ (fun hHeld => ?_)
              · simp [*, World.cell?_setCell_far]
              clear hK1 K1
              try simp only [Act.put, List.setIfInBounds_toArray, List.set_cons_zero, List.set_cons_succ]
              refine wpAnyH_ready (rs := [4]) (by kernel_rfl) (by simp) ?_
              refine AllReadyH.cons (o := _) rfl (fun K1 hK1 => ?_) AllReadyH.nil
              go_simp
              refine hK1.out _ _ ?_ (fun hHeld => ?_)
              · simp [*, World.cell?_setCell_far]
              clear hK1 K1
              try simp only [Act.put, List.setIfInBounds_toArray, List.set_cons_zero, List.set_cons_succ]
              refine wpAnyH_ready (rs := [5]) (by kernel_rfl) (by simp) ?_
              refine AllReadyH.cons (o := _) rfl (fun K1 hK1 => ?_) AllReadyH.nil
              go_simp
              refine hK1.out _ _ ?_ (fun hHeld => ?_)
              · simp [*, World.cell?_setCell_far]
              clear hK1 K1
              try simp only [Act.put, List.setIfInBounds_toArray, List.set_cons_zero, List.set_cons_succ]
              refine wpAnyH_done (by kernel_rfl) ?_ _
              refine hK _ _ ?_
              clear hK K hHeld
              gi_wp2
              obtain ⟨r1, r2⟩ := exit_ok (HM.out.good rfl) rfl
              exact ⟨(HM.out.rd.kf).trans r1.kf, rfl, _, _, _, _, hRun.out.trans (hOne.out.trans (if_neg HZ.out)), r2⟩
    · have g : (((er : Nat) : Int) != 0) = true := by simp [he]
      have d3 := hSt2.out.st.b3.cell (i := 0) rfl
      have d31 := hSt2.out.st.b3.cell (i := 1) rfl
      have d32 := hSt2.out.st.b3.cell (i := 2) rfl
      have d33 := hSt2.out.st.b3.cell (i := 3) rfl
      have d4 := hSt2.out.st.b4.cell (i := 0) rfl
      have d5 := hSt2.out.st.b5.cell (i := 0) rfl
      have f3 := fun i => hSt2.out.st.b3.free i
      have f4 := hSt2.out.st.b4.free 0
      have f5 := hSt2.out.st.b5.free 0
      have n3 : BX ≠ w.heap.size + 3 := by omega
      have n4 : BX ≠ w.heap.size + 4 := by omega
      have n5 : BX ≠ w.heap.size + 5 := by omega
      have m3 : w.heap.size + 3 ≠ BX := by omega
      have m4 : w.heap.size + 4 ≠ BX := by omega
      have m5 : w.heap.size + 5 ≠ BX := by omega
      gi_wp2
      clear c0 c1 c2 c70 c71 c72 c73 c8 ht0 ht2 hlt g hr hl hm hs h1 h2 g1 g2 HLn hBX
      have HE := Lib.hid he; clear he
      refine wpIn_region_held (S := fun W => W.cell? ⟨w.heap.size + 6, 0, none⟩ = some (.int .i64 0) ∧ W.cell? ⟨w.heap.size + 6, 1, none⟩ = some (.int .i64 0) ∧ W.cell? ⟨w.heap.size + 6, 2, none⟩ = some (.slice none 0 0) ∧ W.cell? ⟨w.heap.size + 6, 3, none⟩ = some (.slice none 0 0) ∧ W.cell? ⟨BX, 1, none⟩ = some (.int .i64 at_) ∧ W.cell? ⟨BX, 3, none⟩ = some (.int .i64 er)) (by kernel_rfl) (by kernel_rfl) ⟨c60, c61, c62, c63, ht1, ht3⟩ (fun K hK hHeld => ?_)
      refine wpAnyH_take (i := 0) (oi := _) (v := ?_) rfl (by kernel_rfl) (by kernel_rfl) (by kernel_rfl) (fun _ _ _ h => h) (Or.inl ⟨by rfl, ?_⟩) (by assumption) ?_
      rotate_left
      · intro w hSw; (try dsimp only at hSw); go_simp; (try with_reducible rfl)
      try simp only [Act.put, List.setIfInBounds_toArray, List.set_cons_zero, List.set_cons_succ]
      refine wpAnyH_take (i := 1) (oi := _) (v := ?_) rfl (by kernel_rfl) (by kernel_rfl) (by kernel_rfl) (fun _ _ _ h => h) (Or.inl ⟨by rfl, ?_⟩) (by assumption) ?_
      rotate_left
      · intro w hSw; (try dsimp only at hSw); go_simp; (try with_reducible rfl)
      try simp only [Act.put, List.setIfInBounds_toArray, List.set_cons_zero, List.set_cons_succ]
      refine wpAnyH_take (i := 2) (oi := _) (v := ?_) rfl (by kernel_rfl) (by kernel_rfl) (by kernel_rfl) (fun _ _ _ h => h) (Or.inl ⟨by rfl, ?_⟩) (by assumption) ?_
      rotate_left
      · intro w hSw; (try dsimp only at hSw); go_simp; (try with_reducible rfl)
      try simp only [Act.put, List.setIfInBounds_toArray, List.set_cons_zero, List.set_cons_succ]
      refine wpAnyH_take (i := 3) (oi := _) (v := ?_) rfl (by kernel_rfl) (by kernel_rfl) (by kernel_rfl) (fun _ _ _ h => h) (Or.inl ⟨by rfl, ?_⟩) (by assumption) ?_
      rotate_left
      · intro w hSw; (try dsimp only at hSw); go_simp; (try with_reducible rfl)
      try simp only [Act.put, List.setIfInBounds_toArray, List.set_cons_zero, List.set_cons_succ]
      refine wpAnyH_take (i := 4) (oi := _) (v := ?_) rfl (by kernel_rfl) (by kernel_rfl) (by kernel_rfl) (fun _ _ _ h => h) (Or.inl ⟨by rfl, ?_⟩) (by assumption) ?_
      rotate_left
      · intro w hSw; (try dsimp only at hSw); go_simp; (try with_reducible rfl)
      try simp only [Act.put, List.setIfInBounds_toArray, List.set_cons_zero, List.set_cons_succ]
      refine wpAnyH_ready (rs := [5]) (by kernel_rfl) (by simp) ?_
      refine AllReadyH.cons (o := _) rfl (fun K1 hK1 => ?_) AllReadyH.nil
      go_simp
      refine hK1.out _ _ ?_ (fun hHeld => ?_)
      · simp [*, World.cell?_setCell_far]
      clear hK1 K1
      try simp only [Act.put, List.setIfInBounds_toArray, List.set_cons_zero, List.set_cons_succ]
      refine wpAnyH_ready (rs := [6]) (by kernel_rfl) (by simp) ?_
      refine AllReadyH.cons (o := _) rfl (fun K1 hK1 => ?_) AllReadyH.nil
      go_simp
      refine hK1.out _ _ ?_ (fun hHeld => ?_)
      · simp [*, World.cell?_setCell_far]
      clear hK1 K1
      try simp only [Act.put, List.setIfInBounds_toArray, List.set_cons_zero, List.set_cons_succ]
      refine wpAnyH_ready (rs := [7]) (by kernel_rfl) (by simp) ?_
      refine AllReadyH.cons (o := _) rfl (fun K1 hK1 => ?_) AllReadyH.nil
      go_simp
      refine hK1.out _ _ ?_ (fun hHeld => ?_)
      · simp [*, World.cell?_setCell_far]
      clear hK1 K1
      try simp only [Act.put, List.setIfInBounds_toArray, List.set_cons_zero, List.set_cons_succ]
      refine wpAnyH_done (by kernel_rfl) ?_ _
      refine hK _ _ ?_
      clear hK K hHeld
      gi_wp2
      obtain ⟨r1, r2⟩ := exit_bad hSt2.out.st at_ er rfl
      exact ⟨r1.kf, rfl, _, _, _, _, hRun.out.trans (if_pos HE.out), r2⟩
  case done =>
    rintro D ys W _ rfl ⟨d, v2, v3, rows, e1, e2⟩ hK
    exfalso
    rw [runX_lines s la inp (s.size + 2) 0 0 wit0 (Nat.zero_le _) (by omega)] at e1
    cases e1
  case stop =>
    rintro D c pre W hD ⟨r, hpre⟩ ⟨rfl, o, v2, v3, rows, e1, e2⟩ hK
    have ho : o = witT s la inp := by
      have h := runX_prefix pre r 0 wit0 e1
      rw [hpre, runX_lines s la inp (s.size + 2) 0 0 wit0 (Nat.zero_le _) (by omega)] at h
      cases h
      unfold witT
      rw [if_neg (by omega)]
    subst ho
    gi_wp2
    refine ⟨by simp, .inl ⟨_, _, rfl, run_takeDeferred hK, ?_⟩⟩
    have e3 := e2.close hK hD hsz none
    obtain ⟨W', hW'⟩ : ∃ W', W.putObj D (.deferred none) = W' := ⟨_, rfl⟩
    rw [hW'] at e3 ⊢
    have c30 := e3.b3.cell (i := 0) rfl
    have c31 := e3.b3.cell (i := 1) rfl
    have c32 := e3.b3.cell (i := 2) rfl
    have c33 := e3.b3.cell (i := 3) rfl
    have c4 := e3.b4.cell (i := 0) rfl
    have c5 := e3.b5.cell (i := 0) rfl
    exact ⟨.tuple #[.agg #[.int .i64 (witT s la inp).w.kind, .int .i64 (witT s la inp).w.prop, v2, v3], .int .i64 ((witT s la inp).at_ s), .int .i64 (witT s la inp).e], by simp [results, Tryd.results23, go_sem, c30, c31, c32, c33, c4, c5], e3.post⟩

theorem wit_Read_in (s : ByteArray) (la inp : Int) (w : World) (hs : s.size ≤ 100000) (hm : ML w) (h1 : 0 ≤ la) (h2 : 0 ≤ inp) :
    Calls Tryd.prog 23 #[.string s, .int .i64 la, .int .i64 inp] w (WReadP w s (witT s la inp)) :=
  (wit_Read_own s la inp w hs hm h1 h2).mono fun _ _ h => h.P

end Go.Proofs.YtkgmiclmpfahlaaDoor

/-
  wit.Read and its reference at lengths below 0; latchetref18.Same of equal witnesses.
-/
namespace Go.Proofs.YtkgmiclmpfahlaaDoor
open Go.RowKit Go.Shelf

theorem zero_post (w W : World) (s : ByteArray) (la inp : Int) (h : la < 0 ∨ inp < 0) (hk : Kp (fun _ => False) w W) :
    WReadP w s (witT s la inp) (.returned (.tuple #[.agg #[.int .i64 0, .int .i64 0, .slice none 0 0, .slice none 0 0], .int .i64 0, .int .i64 1])) W := by
  have hT : witT s la inp = .bad 0 1 := by unfold witT; rw [if_pos h]
  rw [hT]
  exact ⟨⟨_, rfl, _, _, rfl, own_boolsSl (l := []) (Own.nil _ 0 _), none, 0, rfl, Nat.le_refl _, by simp [maxLen], fun _ => rfl, [], RowAt.nil _ _, rfl, fun j r x h => by cases h⟩, hk⟩

set_option maxRecDepth 100000 in
set_option maxHeartbeats 4000000 in
theorem wit_Read_bad (s : ByteArray) (la inp : Int) (w : World) (h : la < 0 ∨ inp < 0) :
    Calls Tryd.prog 23 #[.string s, .int .i64 la, .int .i64 inp] w (WReadP w s (witT s la inp)) := by
  have HZ := Lib.hid (fun W hk => zero_post w W s la inp h hk)
  have h3 : decide (la < 0) = true ∨ (decide (la < 0) = false ∧ decide (inp < 0) = true) := by
    by_cases h1 : la < 0
    · exact .inl (by simpa using h1)
    · exact .inr ⟨by simpa using h1, by rcases h with h | h; exact absurd h h1; simpa using h⟩
  clear h
  rcases h3 with g1 | ⟨g1, g2⟩
  all_goals
    go_enter Tryd.func23, Tryd.ntmps23
    go_wp2_with fail
    exact bodyPost_ret (v := .tuple #[.agg #[.int .i64 0, .int .i64 0, .slice none 0 0, .slice none 0 0], .int .i64 0, .int .i64 1]) (by simp [results, Tryd.results23, go_sem]) rfl (HZ.out _ (by repeat (first | exact Kp.refl _ w | apply Kp.alloc)))

/-- both Reads, of any lengths -/
theorem wit_Read_any (s : ByteArray) (la inp : Int) (w : World) (hs : s.size ≤ 100000) (hm : ML w) :
    Calls Tryd.prog 23 #[.string s, .int .i64 la, .int .i64 inp] w (WReadP w s (witT s la inp)) := by
  by_cases h : la < 0 ∨ inp < 0
  · exact wit_Read_bad s la inp w h
  · exact wit_Read_in s la inp w hs hm (by omega) (by omega)

set_option maxRecDepth 100000 in
set_option maxHeartbeats 4000000 in
theorem ref18_SameI (kind prop : Int) (u2 u3 x2 x3 : Value) (start : List Bool) (ins : List (List Bool)) (w : World) (h2 : BoolsSl w u2 start) (h3 : GridSl w u3 ins) (h2' : BoolsSl w x2 start) (h3' : GridSl w x3 ins) (hn : ins.length ≤ 1000000) :
    Calls Tryd.prog 9 #[.agg #[.int .i64 kind, .int .i64 prop, u2, u3], .agg #[.int .i64 kind, .int .i64 prop, x2, x3]] w fun e w' => e = .returned (.bool true) ∧ Kp (fun _ => False) w w' := by
  obtain ⟨a2, c2, rfl, p1, p2, p3, p4⟩ := h2
  obtain ⟨a2', c2', rfl, p1', p2', p3', p4'⟩ := h2'
  obtain ⟨a3, c3, rfl, r1, r2, r3, r4⟩ := h3
  obtain ⟨a3', c3', rfl, r1', r2', r3', r4'⟩ := h3'
  have q := ((Kp.refl (fun _ => False) w).alloc (.cells #[.int .i64 kind, .int .i64 prop, .slice a2 start.length c2, .slice a3 ins.length c3] 34)).alloc (.cells #[.int .i64 kind, .int .i64 prop, .slice a2' start.length c2', .slice a3' ins.length c3'] 34)
  have hB1 := (Blk.new w #[.int .i64 kind, .int .i64 prop, .slice a2 start.length c2, .slice a3 ins.length c3] 34).alloc (.cells #[.int .i64 kind, .int .i64 prop, .slice a2' start.length c2', .slice a3' ins.length c3'] 34)
  have hB2 := Blk.new (w.alloc (.cells #[.int .i64 kind, .int .i64 prop, .slice a2 start.length c2, .slice a3 ins.length c3] 34)) #[.int .i64 kind, .int .i64 prop, .slice a2' start.length c2', .slice a3' ins.length c3'] 34
  have hst := ref_Same a2 a2' start.length start.length c2 c2' start start _ (p4.kp q (fun _ _ h => h)) (p4'.kp q (fun _ _ h => h)) rfl rfl (by unfold maxLen at p2; omega)
  rw [show (start == start) = true by simp] at hst
  have hg := r4.kp q
  have hg' := r4'.kp q
  rw [World.size_alloc] at hB2
  obtain ⟨W1, hW1⟩ : ∃ W1, (w.alloc (.cells #[.int .i64 kind, .int .i64 prop, .slice a2 start.length c2, .slice a3 ins.length c3] 34)).alloc (.cells #[.int .i64 kind, .int .i64 prop, .slice a2' start.length c2', .slice a3' ins.length c3'] 34) = W1 := ⟨_, rfl⟩
  rw [hW1] at hst hB1 hB2 q hg hg'
  have HSt := Lib.hid hst
  have HG := Lib.hid hg
  have HG' := Lib.hid hg'
  have HQ := Lib.hid q
  have k0 := hB1.cell (i := 0) rfl
  have k1 := hB1.cell (i := 1) rfl
  have k2 := hB1.cell (i := 2) rfl
  have k3 := hB1.cell (i := 3) rfl
  have m0 := hB2.cell (i := 0) rfl
  have m1 := hB2.cell (i := 1) rfl
  have m2 := hB2.cell (i := 2) rfl
  have m3 := hB2.cell (i := 3) rfl
  have HB1 := Lib.hid hB1
  have HB2 := Lib.hid hB2
  clear hg hg'
  have e1 : (kind != kind) = false := by simp
  have e2 : (prop != prop) = false := by simp
  have e3 : ((ins.length : Int) != (ins.length : Int)) = false := by simp
  clear hst hB1 hB2 q p1 p2 p3 p4 p1' p2' p3' p4' r1 r2 r3 r4 r1' r2' r3' r4'
  go_enter Tryd.func9, Tryd.ntmps9
  go_wp2_with fail
  refine HSt.out.mono ?_
  rintro e w' ⟨rfl, q, hq⟩
  have hb1 := HB1.out.drewN q
  have hb2 := HB2.out.drewN q
  rw [← hq] at hb1 hb2
  have k1' := hb1.cell (i := 1) rfl
  have k3' := hb1.cell (i := 3) rfl
  have m1' := hb2.cell (i := 1) rfl
  have m3' := hb2.cell (i := 3) rfl
  have HQ2 := Lib.hid hq
  clear hq hb1 hb2 k0 k1 k2 k3 m0 m1 m2 m3 hW1
  go_wp2_with fail
  go_loopw [5] (fun v5 wr => ∃ k q : Nat, k ≤ ins.length ∧ v5 = .int .i64 k ∧ wr = W1.drewN q) (fun v5 _ => ins.length - (intOf v5).toNat)
  case atStart => exact ⟨0, q, Nat.zero_le _, rfl, HQ2.out⟩
  case round =>
    obtain ⟨k, q, hk, rfl, hw⟩ := hrel
    have hb1 := HB1.out.drewN q
    have hb2 := HB2.out.drewN q
    have hg := HG.out.kp ((Kp.refl (fun _ => False) W1).drewN q)
    have hg' := HG'.out.kp ((Kp.refl (fun _ => False) W1).drewN q)
    rw [← hw] at hb1 hb2 hg hg'
    have k3 := hb1.cell (i := 3) rfl
    have m3 := hb2.cell (i := 3) rfl
    clear hb1 hb2 k1' k3' m1' m3' HQ2
    have HW := Lib.hid hw
    clear hw
    by_cases hlt : k < ins.length
    · obtain ⟨b, off, v, rfl, c0, hv⟩ := hg.row hlt
      obtain ⟨b', off', v', rfl, c0', hv'⟩ := hg'.row hlt
      obtain ⟨av, cv, rfl, _, _, _, hv4⟩ := hv
      obtain ⟨av', cv', rfl, _, hcm2, _, hv4'⟩ := hv'
      have HI := Lib.hid (fun (j : Nat) => ref_Same av av' (gb ins k).length (gb ins k).length cv cv' (gb ins k) (gb ins k) (wr.drewN j) (hv4.drewN j) (hv4'.drewN j) rfl rfl (by unfold maxLen at hcm2; omega))
      rw [show (gb ins k == gb ins k) = true by simp] at HI
      obtain ⟨m, hm⟩ : ∃ m, (gb ins k).length = m := ⟨_, rfl⟩
      rw [hm] at HI c0 c0'
      clear hv4 hv4' hcm2 hm hg hg'
      have i0 : (0 : Int) ≤ (k : Int) := by omega
      have i1 : (k : Int) < (ins.length : Int) := by omega
      have dd : decide ((k : Int) < (ins.length : Int)) = true := by simp; omega
      go_wp2_with fail
      go_quiet ((go_at_call 19; exact Calls.quiet_of (HI.out _)))
      go_wp2_with fail
      go_roundw
      case rel => exact ⟨k + 1, _, by omega, by go_num, by rw [HW.out, World.drewN_drewN]⟩
      case measure => simp [intOf]; omega
    · have dd : decide ((k : Int) < (ins.length : Int)) = false := by simp; omega
      go_wp2_with fail
      go_ret
      exact ⟨rfl, by rw [HW.out]; exact HQ.out.drewN q⟩

theorem ref18_Same (v v' : Value) (d : WitD) (w : World) (hv : WitSl w v d) (hv' : WitSl w v' d) (hn : d.ins.length ≤ 1000000) :
    Calls Tryd.prog 9 #[v, v'] w fun e w' => e = .returned (.bool true) ∧ Kp (fun _ => False) w w' := by
  obtain ⟨u2, u3, rfl, h2, h3⟩ := hv
  obtain ⟨x2, x3, rfl, h2', h3'⟩ := hv'
  exact ref18_SameI d.kind d.prop u2 u3 x2 x3 d.start d.ins w h2 h3 h2' h3' hn

end Go.Proofs.YtkgmiclmpfahlaaDoor

/-
  latchetlaw18.lives.
-/
namespace Go.Proofs.YtkgmiclmpfahlaaDoor
open Go.RowKit Go.Shelf

def wlText : ByteArray := ⟨#[49, 10, 98, 48, 10, 48, 10, 49, 10, 46, 10]⟩
def wlD : WitD := ⟨1, 0, [false], [[true]]⟩
theorem wl_read : witT wlText 1 1 = .ok wlD := by kernel_rfl

/-- the literal that lives compares with -/
theorem wl_lit (w : World) : WitSl (((w.alloc (.cells #[.bool false] 4)).alloc (.cells #[.bool true] 4)).alloc (.cells #[.slice (some ⟨w.heap.size + 1, 0, none⟩) 1 1] 23))
    (.agg #[.int .i64 1, .int .i64 0, .slice (some ⟨w.heap.size, 0, none⟩) 1 1, .slice (some ⟨w.heap.size + 1 + 1, 0, none⟩) 1 1]) wlD := by
  have new : ∀ (u : World) (c : Array Value) (t : TypeId) (b : Nat), u.heap.size = b → Blk (u.alloc (.cells c t)) b c t := fun u c t b h => by subst h; exact Blk.new u c t
  have h0 : Blk (((w.alloc (.cells #[.bool false] 4)).alloc (.cells #[.bool true] 4)).alloc (.cells #[.slice (some ⟨w.heap.size + 1, 0, none⟩) 1 1] 23)) w.heap.size #[.bool false] 4 := ((new _ _ _ _ rfl).alloc _).alloc _
  have h1 : Blk (((w.alloc (.cells #[.bool false] 4)).alloc (.cells #[.bool true] 4)).alloc (.cells #[.slice (some ⟨w.heap.size + 1, 0, none⟩) 1 1] 23)) (w.heap.size + 1) #[.bool true] 4 := (new _ _ _ _ (by simp)).alloc _
  have h2 : Blk (((w.alloc (.cells #[.bool false] 4)).alloc (.cells #[.bool true] 4)).alloc (.cells #[.slice (some ⟨w.heap.size + 1, 0, none⟩) 1 1] 23)) (w.heap.size + 1 + 1) #[.slice (some ⟨w.heap.size + 1, 0, none⟩) 1 1] 23 := new _ _ _ _ (by simp)
  refine ⟨_, _, rfl, ⟨_, 1, rfl, Nat.le_refl _, by simp [maxLen], fun h => (by cases h), h0.rowAt (n := 1) rfl⟩, ⟨_, 1, rfl, Nat.le_refl _, by simp [maxLen], fun h => (by cases h), [.slice (some ⟨w.heap.size + 1, 0, none⟩) 1 1], h2.rowAt (n := 1) rfl, rfl, ?_⟩⟩
  intro k r x hr hx
  match k, hr, hx with
  | 0, hr, hx =>
    simp [wlD] at hr hx
    subst hr hx
    exact ⟨_, 1, rfl, Nat.le_refl _, by simp [maxLen], fun h => (by cases h), h1.rowAt (n := 1) rfl⟩
  | n + 1, hr, hx => simp at hr

theorem WitSl.kp {w w' : World} {v : Value} {d : WitD} (h : WitSl w v d) (k : Kp (fun _ => False) w w') : WitSl w' v d := by
  obtain ⟨v2, v3, rfl, h2, h3⟩ := h
  exact ⟨v2, v3, rfl, h2.kp k, h3.kp k⟩

end Go.Proofs.YtkgmiclmpfahlaaDoor

/-
  latchetlaw17.Short; both Writes of a short witness, good or not.
-/
namespace Go.Proofs.YtkgmiclmpfahlaaDoor
open Go.RowKit

/-- few steps, of few values -/
def shortP (start : List Bool) (ins : List (List Bool)) (most : Nat) : Prop := start.length ≤ 60 ∧ ins.length ≤ most ∧ ∀ k, k < ins.length → (gb ins k).length ≤ 60
instance (start : List Bool) (ins : List (List Bool)) (most : Nat) : Decidable (shortP start ins most) := by unfold shortP; infer_instance

theorem short_mem {start : List Bool} {ins : List (List Bool)} {most : Nat} (h : shortP start ins most) : ∀ x ∈ ins, x.length ≤ 60 := by
  intro x hx
  obtain ⟨k, hk, rfl⟩ := List.mem_iff_getElem.1 hx
  have := h.2.2 k hk
  unfold gb at this
  rwa [List.getElem?_eq_getElem hk] at this

set_option maxRecDepth 100000 in
set_option maxHeartbeats 2000000 in
theorem law17_Short (v2 v3 : Value) (start : List Bool) (ins : List (List Bool)) (most : Nat) (w : World) (hs : BoolsSl w v2 start) (hi : GridSl w v3 ins) :
    Calls Tryd.prog 5 #[.agg #[v2, v3], .int .i64 most] w fun e w' => e = .returned (.bool (decide (shortP start ins most))) ∧ Kp (fun _ => False) w w' := by
  obtain ⟨a2, c2, rfl, _, _, _, _⟩ := hs
  obtain ⟨a3, c3, rfl, i1, i2, _, i4⟩ := hi
  have hB := Blk.new w #[.slice a2 start.length c2, .slice a3 ins.length c3] 26
  have q := (Kp.refl (fun _ => False) w).alloc (.cells #[.slice a2 start.length c2, .slice a3 ins.length c3] 26)
  have hG := i4.kp q
  obtain ⟨W1, hW1⟩ : ∃ W1, w.alloc (.cells #[.slice a2 start.length c2, .slice a3 ins.length c3] 26) = W1 := ⟨_, rfl⟩
  rw [hW1] at hB q hG
  have HQ := Lib.hid q
  have HG := Lib.hid hG
  have k0 := hB.cell (i := 0) rfl
  have k1 := hB.cell (i := 1) rfl
  have hin : ins.length ≤ 9223372036854775807 := by unfold maxLen at i2; omega
  clear hB q hG i1 i2 i4
  have HD := Lib.hid (show (decide (shortP start ins most) = true ↔ shortP start ins most) from decide_eq_true_iff)
  by_cases c1 : start.length ≤ 60
  · have g1 : decide ((60 : Int) < (start.length : Int)) = false := by simp; omega
    by_cases c2' : ins.length ≤ most
    · have g2 : decide ((most : Int) < (ins.length : Int)) = false := by simp; omega
      go_enter Tryd.func5, Tryd.ntmps5
      go_wp2_with fail
      go_loop [5] (fun v5 => ∃ k : Nat, k ≤ ins.length ∧ v5 = .int .i64 k ∧ ∀ j, j < k → (gb ins j).length ≤ 60) (fun v5 => ins.length - (intOf v5).toNat)
      case atStart => exact ⟨0, Nat.zero_le _, rfl, fun j hj => by omega⟩
      case round =>
        obtain ⟨k, hk, rfl, hall⟩ := hrel
        have HAll := Lib.hid hall
        clear hall
        by_cases hlt : k < ins.length
        · obtain ⟨b, off, v, rfl, c0, hv⟩ := HG.out.row hlt
          obtain ⟨av, cv, rfl, _, _, _, _⟩ := hv
          have dd : decide ((k : Int) < (ins.length : Int)) = true := by simp; omega
          by_cases c3' : (gb ins k).length ≤ 60
          · have g3 : decide ((60 : Int) < ((gb ins k).length : Int)) = false := by simp; omega
            have HC := Lib.hid c3'
            obtain ⟨m, hm⟩ : ∃ m, (gb ins k).length = m := ⟨_, rfl⟩
            rw [hm] at g3 c0
            clear c3' hm
            go_wp2_with fail
            refine ⟨⟨k + 1, by omega, by go_num, fun j hj => ?_⟩, by simp [intOf]; omega⟩
            by_cases e : j = k
            · subst e; exact HC.out
            · exact HAll.out j (by omega)
          · have g3 : decide ((60 : Int) < ((gb ins k).length : Int)) = true := by simp; omega
            have HC : Hid (decide (shortP start ins most) = false) := by
              show _ = _
              rw [decide_eq_false_iff_not]
              exact fun h => c3' (h.2.2 k hlt)
            obtain ⟨m, hm⟩ : ∃ m, (gb ins k).length = m := ⟨_, rfl⟩
            rw [hm] at g3 c0
            clear c3' hm
            go_wp2_with fail
            go_ret
            rw [HC.out]
            exact ⟨rfl, HQ.out⟩
        · have dd : decide ((k : Int) < (ins.length : Int)) = false := by simp; omega
          have HC := Lib.hid (HD.out.2 ⟨c1, c2', fun j hj => HAll.out j (by omega)⟩)
          go_wp2_with fail
          go_ret
          rw [HC.out]
          exact ⟨rfl, HQ.out⟩
    · have g2 : decide ((most : Int) < (ins.length : Int)) = true := by simp; omega
      have HC : Hid (decide (shortP start ins most) = false) := by
        show _ = _
        rw [decide_eq_false_iff_not]
        exact fun h => c2' h.2.1
      go_enter Tryd.func5, Tryd.ntmps5
      go_wp2_with fail
      go_ret
      rw [HC.out]
      exact ⟨rfl, HQ.out⟩
  · have g1 : decide ((60 : Int) < (start.length : Int)) = true := by simp; omega
    have HC : Hid (decide (shortP start ins most) = false) := by
      show _ = _
      rw [decide_eq_false_iff_not]
      exact fun h => c1 h.1
    go_enter Tryd.func5, Tryd.ntmps5
    go_wp2_with fail
    go_ret
    rw [HC.out]
    exact ⟨rfl, HQ.out⟩

theorem wit_Write_any (kind prop : Int) (v2 v3 : Value) (start : List Bool) (ins : List (List Bool)) (w : World) (p1 : prop ≤ 9223372036854775807) (hs : BoolsSl w v2 start) (hi : GridSl w v3 ins) (h : shortP start ins 40) (ht : Tab w) :
    Calls Tryd.prog 16 #[.agg #[.int .i64 kind, .int .i64 prop, v2, v3]] w fun e w' => e = .returned (.string ⟨(witText kind prop start ins).toArray⟩) ∧ Kp (fun _ => False) w w' := by
  have hm := short_mem h
  obtain ⟨h1, h2, _⟩ := h
  have hs' := hs
  have hi' := hi
  obtain ⟨a2, c2, rfl, _⟩ := hs
  obtain ⟨a3, c3, rfl, _⟩ := hi
  by_cases hb : kind < 0 ∨ 2 < kind ∨ prop < 0
  · rw [witText_bad hb]
    exact wit_Write_bad kind prop a2 a3 _ c2 _ c3 w hb
  · exact wit_Write_good kind prop a2 a3 _ c2 _ c3 start ins w (by omega) (by omega) (by omega) p1 hs' hi' (by omega) (by omega) (fun x hx => by have := hm x hx; omega) ht

theorem ref18_Write_any (kind prop : Int) (v2 v3 : Value) (start : List Bool) (ins : List (List Bool)) (w : World) (p1 : prop ≤ 9223372036854775807) (hs : BoolsSl w v2 start) (hi : GridSl w v3 ins) (h : shortP start ins 40) :
    Calls Tryd.prog 18 #[.agg #[.int .i64 kind, .int .i64 prop, v2, v3]] w fun e w' => e = .returned (.string ⟨(witText kind prop start ins).toArray⟩) ∧ Kp (fun _ => False) w w' := by
  have hm := short_mem h
  obtain ⟨h1, h2, _⟩ := h
  have hs' := hs
  have hi' := hi
  obtain ⟨a2, c2, rfl, _⟩ := hs
  obtain ⟨a3, c3, rfl, _⟩ := hi
  by_cases hb : kind < 0 ∨ 2 < kind ∨ prop < 0
  · rw [witText_bad hb]
    exact ref18_Write_bad kind prop a2 a3 _ c2 _ c3 w hb
  · exact ref18_Write_good kind prop a2 a3 _ c2 _ c3 start ins w (by omega) (by omega) (by omega) p1 hs' hi' (by omega) (by omega) (fun x hx => by have := hm x hx; omega)

theorem witText_len {kind prop : Int} {start : List Bool} {ins : List (List Bool)} (p1 : prop ≤ 9223372036854775807) (h : shortP start ins 40) : (witText kind prop start ins).length ≤ 100000 := by
  have hm := short_mem h
  obtain ⟨h1, h2, _⟩ := h
  unfold witText
  split
  · simp
  · rename_i hb
    have hk : (Lib.itoa kind).length ≤ 60 := by
      obtain ⟨u, rfl⟩ : ∃ u : Nat, kind = u := ⟨kind.toNat, by omega⟩
      rw [itoa_nat]
      have := dd_len 18 u (by omega)
      omega
    have hp : (Lib.itoa prop).length ≤ 60 := by
      obtain ⟨u, rfl⟩ : ∃ u : Nat, prop = u := ⟨prop.toNat, by omega⟩
      rw [itoa_nat]
      have := dd_len 18 u (by omega)
      omega
    have hf := feed_len (xs := witLines kind prop start ins) (m := 100) (by
      intro x hx
      unfold witLines at hx
      simp only [List.mem_append, List.mem_cons, List.not_mem_nil, or_false] at hx
      rcases hx with ((rfl | rfl) | hx) | rfl
      · omega
      · simp only [List.length_cons]; omega
      · split at hx
        · rcases List.mem_cons.1 hx with rfl | hx
          · rw [signs_length]; omega
          · obtain ⟨l, hl, rfl⟩ := List.mem_map.1 hx
            rw [signs_length]; have := hm l hl; omega
        · cases hx
      · simp)
    have hl : (witLines kind prop start ins).length ≤ 44 := by
      unfold witLines
      split <;> simp <;> omega
    have : (100 + 1) * (witLines kind prop start ins).length ≤ 101 * 44 := Nat.mul_le_mul_left _ hl
    omega

end Go.Proofs.YtkgmiclmpfahlaaDoor

/-
  A verdict's text and its witness: plain; verdict.Witness and the reference's.
-/
namespace Go.Proofs.YtkgmiclmpfahlaaDoor
open Go.RowKit

def vwit (kind prop : Int) (v2 v3 : Value) : Value :=
  if kind = 2 then .agg #[.int .i64 1, .int .i64 prop, v2, v3]
  else if kind = 3 ∨ kind = 4 then .agg #[.int .i64 0, .int .i64 prop, .slice none 0 0, .slice none 0 0]
  else .agg #[.int .i64 2, .int .i64 prop, .slice none 0 0, .slice none 0 0]

/-- the kinds' words -/
def vword (k : Nat) : List UInt8 :=
  match k with
  | 0 => [112, 97, 114, 115, 101]
  | 1 => [108, 105, 109, 105, 116]
  | 2 => [117, 110, 115, 97, 102, 101]
  | 3 => [115, 97, 102, 101]
  | 4 => [112, 114, 111, 118, 101, 100]
  | _ => [117, 110, 107, 110, 111, 119, 110]

/-- a verdict's first line -/
def vline (kind : Nat) (step at_ err : Int) : List UInt8 :=
  vword kind ++ (if kind = 0 then 32 :: Lib.itoa err ++ 32 :: Lib.itoa at_ else if kind = 1 then [] else 32 :: Lib.itoa step)

def vspent (spent : Int) : List UInt8 := [10, 115, 112, 101, 110, 116, 32] ++ Lib.itoa spent ++ [10]

def vtext (kind step spent at_ err prop : Int) (start : List Bool) (ins : List (List Bool)) : List UInt8 :=
  if kind < 0 ∨ 5 < kind then [] else vline kind.toNat step at_ err ++ vspent spent ++ (if kind = 2 then witText 1 prop start ins else [])

set_option maxRecDepth 100000 in
set_option maxHeartbeats 4000000 in
theorem ref40_Witness (kind step spent at_ err prop : Int) (a2 a3 : Option Addr) (n2 c2 n3 c3 : Nat) (w : World) :
    Calls Tryd.prog 11 #[.agg #[.int .i64 kind, .int .i64 step, .int .i64 spent, .int .i64 at_, .int .i64 err, .slice a2 n2 c2, .slice a3 n3 c3], .int .i64 prop] w
      fun e w' => e = .returned (vwit kind prop (.slice a2 n2 c2) (.slice a3 n3 c3)) ∧ Kp (fun _ => False) w w' := by
  have hB := (Blk.new w #[.int .i64 kind, .int .i64 step, .int .i64 spent, .int .i64 at_, .int .i64 err, .slice a2 n2 c2, .slice a3 n3 c3] 28).alloc (.cells #[.int .i64 0, .int .i64 0, .slice none 0 0, .slice none 0 0] 34)
  have hB2 := Blk.new (w.alloc (.cells #[.int .i64 kind, .int .i64 step, .int .i64 spent, .int .i64 at_, .int .i64 err, .slice a2 n2 c2, .slice a3 n3 c3] 28)) #[.int .i64 0, .int .i64 0, .slice none 0 0, .slice none 0 0] 34
  rw [World.size_alloc] at hB2
  have q := ((Kp.refl (fun j => j = w.heap.size + 1) w).alloc (.cells #[.int .i64 kind, .int .i64 step, .int .i64 spent, .int .i64 at_, .int .i64 err, .slice a2 n2 c2, .slice a3 n3 c3] 28)).alloc (.cells #[.int .i64 0, .int .i64 0, .slice none 0 0, .slice none 0 0] 34)
  obtain ⟨W1, hW1⟩ : ∃ W1, (w.alloc (.cells #[.int .i64 kind, .int .i64 step, .int .i64 spent, .int .i64 at_, .int .i64 err, .slice a2 n2 c2, .slice a3 n3 c3] 28)).alloc (.cells #[.int .i64 0, .int .i64 0, .slice none 0 0, .slice none 0 0] 34) = W1 := ⟨_, rfl⟩
  rw [hW1] at hB hB2 q
  have k0 := hB.cell (i := 0) rfl
  have k5 := hB.cell (i := 5) rfl
  have k6 := hB.cell (i := 6) rfl
  have r0 := hB2.cell (i := 0) rfl
  have r1 := hB2.cell (i := 1) rfl
  have r2 := hB2.cell (i := 2) rfl
  have r3 := hB2.cell (i := 3) rfl
  have fr := fun i => hB2.free i
  have hend := fun (x0 x1 x2 x3 : Value) => (((((q.setCell (p := ⟨w.heap.size + 1, 0, none⟩) (fun _ => rfl) x0).setCell (p := ⟨w.heap.size + 1, 1, none⟩) (fun _ => rfl) x1).setCell (p := ⟨w.heap.size + 1, 2, none⟩) (fun _ => rfl) x2).setCell (p := ⟨w.heap.size + 1, 3, none⟩) (fun _ => rfl) x3).mono (T := fun _ => False) (fun i hi e => by omega))
  have HEnd := Lib.hid hend
  clear hend q hB hB2
  by_cases h2 : kind = 2
  · have e2 : ((kind : Int) == 2) = true := by simp [h2]
    have HV := Lib.hid (show vwit kind prop (.slice a2 n2 c2) (.slice a3 n3 c3) = .agg #[.int .i64 1, .int .i64 prop, .slice a2 n2 c2, .slice a3 n3 c3] by unfold vwit; rw [if_pos h2])
    clear h2
    go_enter Tryd.func11, Tryd.ntmps11
    go_wp2_with fail
    exact bodyPost_ret (v := .agg #[.int .i64 1, .int .i64 prop, .slice a2 n2 c2, .slice a3 n3 c3]) (by simp [results, Tryd.results11, go_sem, r0, r1, r2, r3]) rfl ⟨by rw [HV.out], HEnd.out _ _ _ _⟩
  · have e2 : ((kind : Int) == 2) = false := by simpa using h2
    by_cases h3 : kind = 3
    · have e3 : ((kind : Int) == 3) = true := by simp [h3]
      have HV := Lib.hid (show vwit kind prop (.slice a2 n2 c2) (.slice a3 n3 c3) = .agg #[.int .i64 0, .int .i64 prop, .slice none 0 0, .slice none 0 0] by unfold vwit; rw [if_neg h2, if_pos (.inl h3)])
      clear h2 h3
      go_enter Tryd.func11, Tryd.ntmps11
      go_wp2_with fail
      exact bodyPost_ret (v := .agg #[.int .i64 0, .int .i64 prop, .slice none 0 0, .slice none 0 0]) (by simp [results, Tryd.results11, go_sem, r0, r1, r2, r3]) rfl ⟨by rw [HV.out], HEnd.out _ _ _ _⟩
    · have e3 : ((kind : Int) == 3) = false := by simpa using h3
      by_cases h4 : kind = 4
      · have e4 : ((kind : Int) == 4) = true := by simp [h4]
        have HV := Lib.hid (show vwit kind prop (.slice a2 n2 c2) (.slice a3 n3 c3) = .agg #[.int .i64 0, .int .i64 prop, .slice none 0 0, .slice none 0 0] by unfold vwit; rw [if_neg h2, if_pos (.inr h4)])
        clear h2 h3 h4
        go_enter Tryd.func11, Tryd.ntmps11
        go_wp2_with fail
        exact bodyPost_ret (v := .agg #[.int .i64 0, .int .i64 prop, .slice none 0 0, .slice none 0 0]) (by simp [results, Tryd.results11, go_sem, r0, r1, r2, r3]) rfl ⟨by rw [HV.out], HEnd.out _ _ _ _⟩
      · have e4 : ((kind : Int) == 4) = false := by simpa using h4
        have HV := Lib.hid (show vwit kind prop (.slice a2 n2 c2) (.slice a3 n3 c3) = .agg #[.int .i64 2, .int .i64 prop, .slice none 0 0, .slice none 0 0] by unfold vwit; rw [if_neg h2, if_neg (fun h => h.elim h3 h4)])
        clear h2 h3 h4
        go_enter Tryd.func11, Tryd.ntmps11
        go_wp2_with fail
        exact bodyPost_ret (v := .agg #[.int .i64 2, .int .i64 prop, .slice none 0 0, .slice none 0 0]) (by simp [results, Tryd.results11, go_sem, r0, r1, r2, r3]) rfl ⟨by rw [HV.out], HEnd.out _ _ _ _⟩

end Go.Proofs.YtkgmiclmpfahlaaDoor

/-
  verdict.Witness; the reference's Write of a verdict.
-/
namespace Go.Proofs.YtkgmiclmpfahlaaDoor
open Go.RowKit

set_option maxRecDepth 100000 in
set_option maxHeartbeats 4000000 in
theorem verdict_Witness (kind step spent at_ err prop : Int) (a2 a3 : Option Addr) (n2 c2 n3 c3 : Nat) (w : World) :
    Calls Tryd.prog 10 #[.agg #[.int .i64 kind, .int .i64 step, .int .i64 spent, .int .i64 at_, .int .i64 err, .slice a2 n2 c2, .slice a3 n3 c3], .int .i64 prop] w
      fun e w' => e = .returned (vwit kind prop (.slice a2 n2 c2) (.slice a3 n3 c3)) ∧ Kp (fun _ => False) w w' := by
  have hB := ((Blk.new w #[.int .i64 kind, .int .i64 step, .int .i64 spent, .int .i64 at_, .int .i64 err, .slice a2 n2 c2, .slice a3 n3 c3] 28).alloc (.cells #[.int .i64 0, .int .i64 0, .slice none 0 0, .slice none 0 0] 34)).alloc (.cells #[.int .i64 2, .int .i64 prop, .slice none 0 0, .slice none 0 0] 34)
  have hB2 := (Blk.new (w.alloc (.cells #[.int .i64 kind, .int .i64 step, .int .i64 spent, .int .i64 at_, .int .i64 err, .slice a2 n2 c2, .slice a3 n3 c3] 28)) #[.int .i64 0, .int .i64 0, .slice none 0 0, .slice none 0 0] 34).alloc (.cells #[.int .i64 2, .int .i64 prop, .slice none 0 0, .slice none 0 0] 34)
  have hB3 := Blk.new ((w.alloc (.cells #[.int .i64 kind, .int .i64 step, .int .i64 spent, .int .i64 at_, .int .i64 err, .slice a2 n2 c2, .slice a3 n3 c3] 28)).alloc (.cells #[.int .i64 0, .int .i64 0, .slice none 0 0, .slice none 0 0] 34)) #[.int .i64 2, .int .i64 prop, .slice none 0 0, .slice none 0 0] 34
  rw [World.size_alloc] at hB2
  rw [World.size_alloc, World.size_alloc] at hB3
  have q := (((Kp.refl (fun j => w.heap.size ≤ j) w).alloc (.cells #[.int .i64 kind, .int .i64 step, .int .i64 spent, .int .i64 at_, .int .i64 err, .slice a2 n2 c2, .slice a3 n3 c3] 28)).alloc (.cells #[.int .i64 0, .int .i64 0, .slice none 0 0, .slice none 0 0] 34)).alloc (.cells #[.int .i64 2, .int .i64 prop, .slice none 0 0, .slice none 0 0] 34)
  obtain ⟨W1, hW1⟩ : ∃ W1, ((w.alloc (.cells #[.int .i64 kind, .int .i64 step, .int .i64 spent, .int .i64 at_, .int .i64 err, .slice a2 n2 c2, .slice a3 n3 c3] 28)).alloc (.cells #[.int .i64 0, .int .i64 0, .slice none 0 0, .slice none 0 0] 34)).alloc (.cells #[.int .i64 2, .int .i64 prop, .slice none 0 0, .slice none 0 0] 34) = W1 := ⟨_, rfl⟩
  rw [hW1] at hB hB2 hB3 q
  have k0 := hB.cell (i := 0) rfl
  have k5 := hB.cell (i := 5) rfl
  have k6 := hB.cell (i := 6) rfl
  have r0 := hB2.cell (i := 0) rfl
  have r1 := hB2.cell (i := 1) rfl
  have r2 := hB2.cell (i := 2) rfl
  have r3 := hB2.cell (i := 3) rfl
  have s0 := hB3.cell (i := 0) rfl
  have s1 := hB3.cell (i := 1) rfl
  have s2 := hB3.cell (i := 2) rfl
  have s3 := hB3.cell (i := 3) rfl
  have fr := fun i => hB2.free i
  have fs := fun i => hB3.free i
  have HQ := Lib.hid q
  have HSet := Lib.hid (fun (W : World) (h : Kp (fun j => w.heap.size ≤ j) w W) (i : Nat) (x : Value) => h.setCell (p := ⟨w.heap.size + 1, i, none⟩) (fun _ => by simp only; omega) x)
  have HSet2 := Lib.hid (fun (W : World) (h : Kp (fun j => w.heap.size ≤ j) w W) (i : Nat) (x : Value) => h.setCell (p := ⟨w.heap.size + 1 + 1, i, none⟩) (fun _ => by simp only; omega) x)
  have HB := Lib.hid hB
  have HB2 := Lib.hid hB2
  have HB3 := Lib.hid hB3
  clear q hB hB2 hB3
  by_cases h2 : kind = 2
  · have e2 : ((kind : Int) == 2) = true := by simp [h2]
    have HV := Lib.hid (show vwit kind prop (.slice a2 n2 c2) (.slice a3 n3 c3) = .agg #[.int .i64 1, .int .i64 prop, .slice a2 n2 c2, .slice a3 n3 c3] by unfold vwit; rw [if_pos h2])
    have n0 : w.heap.size + 1 + 1 ≠ w.heap.size := by omega
    have n0' : w.heap.size ≠ w.heap.size + 1 + 1 := by omega
    clear h2
    go_enter Tryd.func10, Tryd.ntmps10
    go_upto_block 0 with fail
    go_cut [] (fun wx => Kp (fun j => w.heap.size ≤ j) w wx ∧ Blk wx (w.heap.size + 1) #[.int .i64 0, .int .i64 0, .slice none 0 0, .slice none 0 0] 34 ∧ Blk wx (w.heap.size + 1 + 1) #[.int .i64 1, .int .i64 prop, .slice a2 n2 c2, .slice a3 n3 c3] 34)
    case first =>
      clear r0 r1 r2 r3 fr HSet
      go_wp2_with fail
      go_region_held3 (fun w' => w'.cell? ⟨w.heap.size, 5, none⟩ = some (.slice a2 n2 c2) ∧ w'.cell? ⟨w.heap.size, 6, none⟩ = some (.slice a3 n3 c3)) ((simp only [cell_drew_own]; simp [k5, k6, World.cell?_setCell_far, n0])) (fail)
      go_wp2_with fail
      go_meet
      case rel => exact ⟨(HSet2.out _ (HSet2.out _ (HSet2.out _ (HSet2.out _ (HSet2.out _ HQ.out 2 _) 3 _) 0 _) 2 _) 3 _).drew, (((((HB2.out.set_other (p := ⟨w.heap.size + 1 + 1, 2, none⟩) (by simp) _).set_other (p := ⟨w.heap.size + 1 + 1, 3, none⟩) (by simp) _).set_other (p := ⟨w.heap.size + 1 + 1, 0, none⟩) (by simp) _).set_other (p := ⟨w.heap.size + 1 + 1, 2, none⟩) (by simp) _).set_other (p := ⟨w.heap.size + 1 + 1, 3, none⟩) (by simp) _).drew, ((((HB3.out.set_same 2 _).set_same 3 _).set_same 0 _).set_same 2 _).set_same 3 _⟩
    case rest =>
      obtain ⟨hq, hb2, hb3⟩ := hcut
      have HQ2 := Lib.hid hq
      have r0 := hb2.cell (i := 0) rfl
      have r1 := hb2.cell (i := 1) rfl
      have r2 := hb2.cell (i := 2) rfl
      have r3 := hb2.cell (i := 3) rfl
      have s0 := hb3.cell (i := 0) rfl
      have s1 := hb3.cell (i := 1) rfl
      have s2 := hb3.cell (i := 2) rfl
      have s3 := hb3.cell (i := 3) rfl
      have fr := fun i => hb2.free i
      clear hq hb2 hb3
      go_wp2_with fail
      exact bodyPost_ret (v := .agg #[.int .i64 1, .int .i64 prop, .slice a2 n2 c2, .slice a3 n3 c3]) (by simp [results, Tryd.results10, go_sem, r0, r1, r2, r3]) rfl ⟨by rw [HV.out], Kp.below0 (by repeat (with_reducible first | apply HSet.out | apply HSet2.out | apply Kp.drew | exact HQ2.out))⟩
  · have e2 : ((kind : Int) == 2) = false := by simpa using h2
    by_cases h3 : kind = 3
    · have e3 : ((kind : Int) == 3) = true := by simp [h3]
      have HV := Lib.hid (show vwit kind prop (.slice a2 n2 c2) (.slice a3 n3 c3) = .agg #[.int .i64 0, .int .i64 prop, .slice none 0 0, .slice none 0 0] by unfold vwit; rw [if_neg h2, if_pos (.inl h3)])
      clear h2 h3 
      go_enter Tryd.func10, Tryd.ntmps10
      go_wp2_with fail
      exact bodyPost_ret (v := .agg #[.int .i64 0, .int .i64 prop, .slice none 0 0, .slice none 0 0]) (by simp [results, Tryd.results10, go_sem, r0, r1, r2, r3]) rfl ⟨by rw [HV.out], Kp.below0 (by repeat (with_reducible first | apply HSet.out | apply HSet2.out | apply Kp.drew | exact HQ.out))⟩
    · have e3 : ((kind : Int) == 3) = false := by simpa using h3
      by_cases h4 : kind = 4
      · have e4 : ((kind : Int) == 4) = true := by simp [h4]
        have HV := Lib.hid (show vwit kind prop (.slice a2 n2 c2) (.slice a3 n3 c3) = .agg #[.int .i64 0, .int .i64 prop, .slice none 0 0, .slice none 0 0] by unfold vwit; rw [if_neg h2, if_pos (.inr h4)])
        clear h2 h4 h3
        go_enter Tryd.func10, Tryd.ntmps10
        go_wp2_with fail
        exact bodyPost_ret (v := .agg #[.int .i64 0, .int .i64 prop, .slice none 0 0, .slice none 0 0]) (by simp [results, Tryd.results10, go_sem, r0, r1, r2, r3]) rfl ⟨by rw [HV.out], Kp.below0 (by repeat (with_reducible first | apply HSet.out | apply HSet2.out | apply Kp.drew | exact HQ.out))⟩
      · have e4 : ((kind : Int) == 4) = false := by simpa using h4
        have HV := Lib.hid (show vwit kind prop (.slice a2 n2 c2) (.slice a3 n3 c3) = .agg #[.int .i64 2, .int .i64 prop, .slice none 0 0, .slice none 0 0] by unfold vwit; rw [if_neg h2, if_neg (fun h => h.elim h3 h4)])
        clear h2 h3 h4
        go_enter Tryd.func10, Tryd.ntmps10
        go_wp2_with fail
        exact bodyPost_ret (v := .agg #[.int .i64 2, .int .i64 prop, .slice none 0 0, .slice none 0 0]) (by simp [results, Tryd.results10, go_sem, r0, r1, r2, r3]) rfl ⟨by rw [HV.out], Kp.below0 (by repeat (with_reducible first | apply HSet.out | apply HSet2.out | apply Kp.drew | exact HQ.out))⟩

end Go.Proofs.YtkgmiclmpfahlaaDoor

/-
  The reference's Write of a verdict.
-/
namespace Go.Proofs.YtkgmiclmpfahlaaDoor
open Go.RowKit

theorem vword_len (k : Nat) : (vword k).length ≤ 7 := by
  unfold vword
  split <;> simp

theorem cat_left (a b : List UInt8) {x y : ByteArray} (hx : x = ⟨a.toArray⟩) (hy : y = ⟨b.toArray⟩) : x ++ y = ⟨(a ++ b).toArray⟩ := by rw [hx, hy, cat_bytes]

set_option maxRecDepth 100000 in
set_option maxHeartbeats 4000000 in
theorem ref40_Write_bad (kind step spent at_ err prop : Int) (a2 a3 : Option Addr) (n2 c2 n3 c3 : Nat) (w : World) (h : kind < 0 ∨ 5 < kind) :
    Calls Tryd.prog 8 #[.agg #[.int .i64 kind, .int .i64 step, .int .i64 spent, .int .i64 at_, .int .i64 err, .slice a2 n2 c2, .slice a3 n3 c3], .int .i64 prop] w
      fun e w' => e = .returned (.string ⟨#[]⟩) ∧ Kp (fun _ => False) w w' := by
  have h3 : (decide (kind < 0) = true) ∨ (decide (kind < 0) = false ∧ decide (5 < kind) = true) := by
    by_cases k1 : kind < 0
    · exact .inl (by simpa using k1)
    · exact .inr ⟨by simpa using k1, by rcases h with h | h; exact absurd h k1; simpa using h⟩
  have k0 := (Blk.new w #[.int .i64 kind, .int .i64 step, .int .i64 spent, .int .i64 at_, .int .i64 err, .slice a2 n2 c2, .slice a3 n3 c3] 28).cell (i := 0) rfl
  clear h
  rcases h3 with g1 | ⟨g1, g2⟩
  all_goals
    go_enter Tryd.func8, Tryd.ntmps8
    go_wp2_with fail
    go_ret
    exact ⟨rfl, (Kp.refl _ _).alloc _⟩

set_option maxRecDepth 100000 in
set_option maxHeartbeats 8000000 in
theorem ref40_Write_good (kind step spent at_ err prop : Int) (v2 v3 : Value) (start : List Bool) (ins : List (List Bool)) (w : World) (k0 : 0 ≤ kind) (k5 : kind ≤ 5)
    (b1 : -9223372036854775808 ≤ step ∧ step ≤ 9223372036854775807) (b2 : -9223372036854775808 ≤ spent ∧ spent ≤ 9223372036854775807) (b3 : -9223372036854775808 ≤ at_ ∧ at_ ≤ 9223372036854775807) (b4 : -9223372036854775808 ≤ err ∧ err ≤ 9223372036854775807) (p1 : prop ≤ 9223372036854775807)
    (hs : BoolsSl w v2 start) (hi : GridSl w v3 ins) (hsh : shortP start ins 40) :
    Calls Tryd.prog 8 #[.agg #[.int .i64 kind, .int .i64 step, .int .i64 spent, .int .i64 at_, .int .i64 err, v2, v3], .int .i64 prop] w
      fun e w' => e = .returned (.string ⟨(vtext kind step spent at_ err prop start ins).toArray⟩) ∧ Kp (fun _ => False) w w' := by
  have HS0 := Lib.hid hs
  have HI0 := Lib.hid hi
  have HSh := Lib.hid hsh
  have HP1 := Lib.hid p1
  obtain ⟨a2, c2, rfl, _⟩ := hs
  obtain ⟨a3, c3, rfl, _⟩ := hi
  obtain ⟨n2, hn2⟩ : ∃ n, start.length = n := ⟨_, rfl⟩
  obtain ⟨n3, hn3⟩ : ∃ n, ins.length = n := ⟨_, rfl⟩
  rw [hn2] at HS0 ⊢
  rw [hn3] at HI0 ⊢
  clear hn2 hn3 hsh p1
  have g1 : decide (kind < 0) = false := decide_eq_false (by omega)
  have g2 : decide (5 < kind) = false := decide_eq_false (by omega)
  have hB := Blk.new w #[.int .i64 kind, .int .i64 step, .int .i64 spent, .int .i64 at_, .int .i64 err, .slice a2 n2 c2, .slice a3 n3 c3] 28
  have q := (Kp.refl (fun _ => False) w).alloc (.cells #[.int .i64 kind, .int .i64 step, .int .i64 spent, .int .i64 at_, .int .i64 err, .slice a2 n2 c2, .slice a3 n3 c3] 28)
  obtain ⟨W1, hW1⟩ : ∃ W1, w.alloc (.cells #[.int .i64 kind, .int .i64 step, .int .i64 spent, .int .i64 at_, .int .i64 err, .slice a2 n2 c2, .slice a3 n3 c3] 28) = W1 := ⟨_, rfl⟩
  rw [hW1] at hB q
  have HB := Lib.hid hB
  have HQ := Lib.hid q
  have c0 := hB.cell (i := 0) rfl
  have hlt0 := hB.lt
  clear hB q
  have HX := Lib.hid (show vtext kind step spent at_ err prop start ins = vline kind.toNat step at_ err ++ vspent spent ++ (if kind = 2 then witText 1 prop start ins else []) by unfold vtext; rw [if_neg (by omega)])
  obtain ⟨tx, htx⟩ : ∃ f : Int → List UInt8, Lib.itoa = f := ⟨_, rfl⟩
  have HD : Hid (∀ n u, (n = step ∨ n = spent ∨ n = at_ ∨ n = err) → Calls Tryd.prog 17 #[.int .i64 n] u fun e w' => e = .returned (.string ⟨(tx n).toArray⟩) ∧ Kp (fun _ => False) u w') := Lib.hid (fun n u h => by
    rw [← htx]
    exact ref_Dec n u (by rcases h with rfl | rfl | rfl | rfl <;> omega) (by rcases h with rfl | rfl | rfl | rfl <;> omega))
  have l1 := itoaLen b1.1 b1.2
  have l2 := itoaLen b2.1 b2.2
  have l3 := itoaLen b3.1 b3.2
  have l4 := itoaLen b4.1 b4.2
  have HVl := Lib.hid (show vline kind.toNat step at_ err = vword kind.toNat ++ (if kind.toNat = 0 then 32 :: Lib.itoa err ++ 32 :: Lib.itoa at_ else if kind.toNat = 1 then [] else 32 :: Lib.itoa step) from rfl)
  have HVs := Lib.hid (show vspent spent = [10, 115, 112, 101, 110, 116, 32] ++ Lib.itoa spent ++ [10] from rfl)
  rw [htx] at l1 l2 l3 l4 HVl HVs
  clear htx b1 b2 b3 b4
  have hwl := vword_len kind.toNat
  go_enter Tryd.func8, Tryd.ntmps8
  go_upto_region 3 with (fail)
  go_cut [5] (fun s5 wx => s5 = .string ⟨(vword kind.toNat).toArray⟩ ∧ Kp (fun _ => False) w wx ∧ Blk wx w.heap.size #[.int .i64 kind, .int .i64 step, .int .i64 spent, .int .i64 at_, .int .i64 err, .slice a2 n2 c2, .slice a3 n3 c3] 28)
  case first =>
    have hk : kind = 0 ∨ kind = 1 ∨ kind = 2 ∨ kind = 3 ∨ kind = 4 ∨ kind = 5 := by omega
    clear HX HVl HVs HD
    rcases hk with rfl | rfl | rfl | rfl | rfl | rfl
    all_goals
      go_wp2_with fail
      go_meet
      case rel => exact ⟨rfl, HQ.out.alloc _, HB.out.alloc _⟩
  case rest =>
    obtain ⟨rfl, hq, hb⟩ := hcut
    have HQ1 := Lib.hid hq
    have HB1 := Lib.hid hb
    have d0 := hb.cell (i := 0) rfl
    clear hq hb c0 hlt0
    obtain ⟨wd, hwd⟩ : ∃ t, vword kind.toNat = t := ⟨_, rfl⟩
    rw [hwd] at hwl HVl ⊢
    clear hwd
    go_upto_if 21 with (fail)
    obtain ⟨wa, rfl⟩ : ∃ wa : World, wa = wc := ⟨_, rfl⟩
    go_cut [5] (fun s5 wx => s5 = .string ⟨(wd ++ (if kind = 0 then 32 :: tx err ++ 32 :: tx at_ else [])).toArray⟩ ∧ Kp (fun _ => False) w wx ∧ Blk wx w.heap.size #[.int .i64 kind, .int .i64 step, .int .i64 spent, .int .i64 at_, .int .i64 err, .slice a2 n2 c2, .slice a3 n3 c3] 28)
    case first =>
      clear HX HVl HVs
      by_cases hk : kind = 0
      · have e0 : ((kind : Int) == 0) = true := by simp [hk]
        have HIf := Lib.hid (show (if kind = 0 then 32 :: tx err ++ 32 :: tx at_ else []) = 32 :: tx err ++ 32 :: tx at_ from if_pos hk)
        clear hk
        have HC : Hid (((((⟨wd.toArray⟩ : ByteArray) ++ ⟨#[32]⟩) ++ ⟨(tx err).toArray⟩) ++ ⟨#[32]⟩) ++ ⟨(tx at_).toArray⟩ = ⟨(wd ++ (32 :: tx err ++ 32 :: tx at_)).toArray⟩) := by
          show _ = _
          rw [show (⟨#[32]⟩ : ByteArray) = ⟨[32].toArray⟩ from rfl, cat_bytes, cat_bytes, cat_bytes, cat_bytes]
          simp
        have m1 : ¬ 9223372036854775807 < wd.length + 1 := by omega
        have m2 : ¬ 9223372036854775807 < wd.length + 1 + (tx err).length := by omega
        have m3 : ¬ 9223372036854775807 < wd.length + 1 + (tx err).length + 1 := by omega
        have m4 : ¬ 9223372036854775807 < wd.length + 1 + (tx err).length + 1 + (tx at_).length := by omega
        have b3 := HB1.out.drew.cell (i := 3) rfl
        have b4 := HB1.out.drew.cell (i := 4) rfl
        go_wp2_with fail
        go_region_held3 (fun w' => w'.cell? ⟨w.heap.size, 3, none⟩ = some (.int .i64 at_) ∧ w'.cell? ⟨w.heap.size, 4, none⟩ = some (.int .i64 err)) (first | exact ⟨z3, z4⟩ | exact ⟨b3, b4⟩) ((first
            | (go_at_call 17
               refine (HD.out _ _ (by first | exact .inr (.inr (.inl rfl)) | exact .inr (.inr (.inr rfl)))).mono ?_
               rintro e wk ⟨rfl, hKk⟩
               first
                 | have HKk := Lib.hid (HKk.out.trans hKk (fun _ _ h => h))
                 | have HKk := Lib.hid (HQ1.out.drew.trans hKk (fun _ _ h => h))
               first
                 | have HBk := Lib.hid (HBk.out.kp hKk (fun h => h))
                 | have HBk := Lib.hid (HB1.out.drew.kp hKk (fun h => h))
               have z3 := HBk.out.cell (i := 3) rfl
               have z4 := HBk.out.cell (i := 4) rfl
               clear hKk)))
        all_goals go_wp2_with fail
        all_goals go_meet
        all_goals exact ⟨by rw [HIf.out]; exact congrArg Value.string HC.out, HKk.out, HBk.out⟩
      · have e0 : ((kind : Int) == 0) = false := by simpa using hk
        have HIf := Lib.hid (show (if kind = 0 then 32 :: tx err ++ 32 :: tx at_ else []) = [] from if_neg hk)
        clear hk
        go_wp2_with fail
        go_meet
        case rel => exact ⟨by rw [HIf.out, List.append_nil], HQ1.out, HB1.out⟩
    case rest =>
      obtain ⟨rfl, hq, hb⟩ := hcut
      have HQ2 := Lib.hid hq
      have HB2 := Lib.hid hb
      have e0 := hb.cell (i := 0) rfl
      clear hq hb d0 HQ1 HB1
      obtain ⟨l5, hl5⟩ : ∃ t, wd ++ (if kind = 0 then 32 :: tx err ++ 32 :: tx at_ else []) = t := ⟨_, rfl⟩
      have hll5 : l5.length ≤ 60 := by
        rw [← hl5]
        split <;> simp <;> omega
      have HL5 := Lib.hid hl5
      rw [hl5]
      clear hl5
      go_upto_if 35 with (fail)
      obtain ⟨wb, rfl⟩ : ∃ wb : World, wb = wc := ⟨_, rfl⟩
      go_cut [5] (fun s5 wx => s5 = .string ⟨(l5 ++ (if 1 < kind then 32 :: tx step else [])).toArray⟩ ∧ Kp (fun _ => False) w wx ∧ Blk wx w.heap.size #[.int .i64 kind, .int .i64 step, .int .i64 spent, .int .i64 at_, .int .i64 err, .slice a2 n2 c2, .slice a3 n3 c3] 28)
      case first =>
        clear HX HVl HVs
        by_cases hk : 1 < kind
        · have f0 : decide (1 < kind) = true := by simpa using hk
          have HIf := Lib.hid (show (if 1 < kind then 32 :: tx step else []) = 32 :: tx step from if_pos hk)
          clear hk
          have HC : Hid (((⟨l5.toArray⟩ : ByteArray) ++ ⟨#[32]⟩) ++ ⟨(tx step).toArray⟩ = ⟨(l5 ++ (32 :: tx step)).toArray⟩) := by
            show _ = _
            rw [show (⟨#[32]⟩ : ByteArray) = ⟨[32].toArray⟩ from rfl, cat_bytes, cat_bytes]
            simp
          have m1 : ¬ 9223372036854775807 < l5.length + 1 := by omega
          have m2 : ¬ 9223372036854775807 < l5.length + 1 + (tx step).length := by omega
          have b1 := HB2.out.cell (i := 1) rfl
          rw [f0]
          go_wp2_with fail
          refine (HD.out _ _ (.inl rfl)).mono ?_
          rintro e wk ⟨rfl, hKk⟩
          have HKk := Lib.hid (HQ2.out.trans hKk (fun _ _ h => h))
          have HBk := Lib.hid (HB2.out.kp hKk (fun h => h))
          clear hKk
          go_wp2_with fail
          go_meet
          case rel => exact ⟨by rw [HIf.out]; exact congrArg Value.string HC.out, HKk.out, HBk.out⟩
        · have f0 : decide (1 < kind) = false := by simpa using hk
          have HIf := Lib.hid (show (if 1 < kind then 32 :: tx step else []) = [] from if_neg hk)
          clear hk
          rw [f0]
          go_wp2_with fail
          go_meet
          case rel => exact ⟨by rw [HIf.out, List.append_nil], HQ2.out, HB2.out⟩
      case rest =>
        obtain ⟨rfl, hq, hb⟩ := hcut
        have HQ3 := Lib.hid hq
        have HB3 := Lib.hid hb
        have f0 := hb.cell (i := 0) rfl
        have f2 := hb.cell (i := 2) rfl
        clear hq hb e0 HQ2 HB2
        obtain ⟨l6, hl6⟩ : ∃ t, l5 ++ (if 1 < kind then 32 :: tx step else []) = t := ⟨_, rfl⟩
        have hll6 : l6.length ≤ 90 := by
          rw [← hl6]
          split <;> simp <;> omega
        have HL6 : Hid (vline kind.toNat step at_ err = l6) := by
          show _ = _
          rw [HVl.out, ← hl6, ← HL5.out]
          by_cases z0 : kind = 0
          · rw [if_pos (by omega), if_pos z0, if_neg (by omega), List.append_nil]
          · rw [if_neg (by omega), if_neg z0, List.append_nil]
            by_cases z1 : kind = 1
            · rw [if_pos (by omega), if_neg (by omega)]
            · rw [if_neg (by omega), if_pos (by omega)]
        rw [hl6]
        clear hl6 HL5 HVl
        have HC : Hid ((((⟨l6.toArray⟩ : ByteArray) ++ ⟨#[10, 115, 112, 101, 110, 116, 32]⟩) ++ ⟨(tx spent).toArray⟩) ++ ⟨#[10]⟩ = ⟨(l6 ++ vspent spent).toArray⟩) := by
          show _ = _
          rw [HVs.out, show (⟨#[10, 115, 112, 101, 110, 116, 32]⟩ : ByteArray) = ⟨[10, 115, 112, 101, 110, 116, 32].toArray⟩ from rfl, show (⟨#[10]⟩ : ByteArray) = ⟨[10].toArray⟩ from rfl, cat_bytes, cat_bytes, cat_bytes]
          simp
        have hls : (vspent spent).length ≤ 50 := by rw [HVs.out]; simp; omega
        have m1 : ¬ 9223372036854775807 < l6.length + 7 := by omega
        have m2 : ¬ 9223372036854775807 < l6.length + 7 + (tx spent).length := by omega
        have m3 : ¬ 9223372036854775807 < l6.length + 7 + (tx spent).length + 1 := by omega
        go_wp2_with fail
        refine (HD.out _ _ (.inr (.inl rfl))).mono ?_
        rintro e wk ⟨rfl, hKk⟩
        have HKk := Lib.hid (HQ3.out.trans hKk (fun _ _ h => h))
        have hb := HB3.out.kp hKk (fun h => h)
        have g0 := hb.cell (i := 0) rfl
        have g5 := hb.cell (i := 5) rfl
        have g6 := hb.cell (i := 6) rfl
        have g1' := hb.cell (i := 1) rfl
        have g2' := hb.cell (i := 2) rfl
        have g3' := hb.cell (i := 3) rfl
        have g4' := hb.cell (i := 4) rfl
        clear hKk hb f0 f2
        rw [HL6.out] at HX
        obtain ⟨ls, hls2⟩ : ∃ t, vspent spent = t := ⟨_, rfl⟩
        rw [hls2] at HC HX hls
        clear hls2 HVs
        by_cases hk : kind = 2
        · have e2 : ((kind : Int) == 2) = true := by simp [hk]
          rw [if_pos hk] at HX
          have HWt := Lib.hid (fun u => ref40_Witness kind step spent at_ err prop a2 a3 n2 c2 n3 c3 u)
          have HVw := Lib.hid (show vwit kind prop (.slice a2 n2 c2) (.slice a3 n3 c3) = .agg #[.int .i64 1, .int .i64 prop, .slice a2 n2 c2, .slice a3 n3 c3] by unfold vwit; rw [if_pos hk])
          rw [HVw.out] at HWt
          clear hk
          go_wp2_with fail
          refine (HWt.out _).mono ?_
          rintro e w7 ⟨rfl, hK7⟩
          have HK7 := Lib.hid (HKk.out.trans hK7 (fun _ _ h => h))
          clear hK7
          have HWr := Lib.hid (ref18_Write_any 1 prop (.slice a2 n2 c2) (.slice a3 n3 c3) start ins w7 HP1.out (HS0.out.kp HK7.out) (HI0.out.kp HK7.out) HSh.out)
          have hwl2 := witText_len (kind := 1) HP1.out HSh.out
          obtain ⟨wt, hwt⟩ : ∃ t, witText 1 prop start ins = t := ⟨_, rfl⟩
          rw [hwt] at HWr HX hwl2
          clear hwt
          go_wp2_with fail
          refine HWr.out.mono ?_
          rintro e w8 ⟨rfl, hK8⟩
          have HK8 := Lib.hid (HK7.out.trans hK8 (fun _ _ h => h))
          clear hK8
          have m4 : ¬ 9223372036854775807 < l6.length + 7 + (tx spent).length + 1 + wt.length := by omega
          go_wp2_with fail
          go_ret
          exact ⟨congrArg (fun x => Ending.returned (Value.string x)) ((cat_left _ wt HC.out rfl).trans (by rw [HX.out])), HK8.out⟩
        · have e2 : ((kind : Int) == 2) = false := by simpa using hk
          rw [if_neg hk, List.append_nil] at HX
          clear hk
          go_wp2_with fail
          go_ret
          exact ⟨congrArg (fun x => Ending.returned (Value.string x)) (HC.out.trans (by rw [HX.out])), HKk.out⟩

end Go.Proofs.YtkgmiclmpfahlaaDoor
