/-
  wit.Read: how a round ends the loop; what stands between the two switches.
-/
import Derived.Test.YtpejimlmokfppaaDoorWitSt
import Derived.OwnWalkIn
namespace Go.Proofs.YtpejimlmokfppaaDoor
open Go.RowKit Go.Shelf

theorem ML.own {w W : World} (h : ML w) (q : Kp (fun j => w.heap.size ≤ j) w W) : ML W := by
  obtain ⟨m, hm⟩ := h
  have hlt := World.block_lt_of_cell? w _ hm
  exact ⟨m, (World.cell?_of_block (w := w) (w' := W) (a := ⟨0, 0, none⟩) (q.block _ hlt (fun hs => absurd hlt (Nat.not_lt.2 hs)))).trans hm⟩

theorem exit_world {w : World} {s : ByteArray} {la inp : Int} {W : World} {k : Nat} (h : St0 w s la inp W k) (x0 x1 u2 u3 p e : Value) {W' : World}
    (hW : W' = ((((((W.setCell ⟨w.heap.size + 3, 0, none⟩ x0).setCell ⟨w.heap.size + 3, 1, none⟩ x1).setCell ⟨w.heap.size + 3, 2, none⟩ u2).setCell ⟨w.heap.size + 3, 3, none⟩ u3).setCell ⟨w.heap.size + 4, 0, none⟩ p).setCell ⟨w.heap.size + 5, 0, none⟩ e).drew) :
    Rd w.heap.size W W' ∧ Blk W' (w.heap.size + 3) #[x0, x1, u2, u3] 27 ∧ Blk W' (w.heap.size + 4) #[p] 3 ∧ Blk W' (w.heap.size + 5) #[e] 28 ∧ Kp (fun j => w.heap.size ≤ j) w W' ∧
      Kp (fun j => j = w.heap.size + 3 ∨ j = w.heap.size + 4 ∨ j = w.heap.size + 5) W W' := by
  have q : ∀ A : World, Kp (fun j => j = w.heap.size + 3 ∨ j = w.heap.size + 4 ∨ j = w.heap.size + 5) W A → ∀ b i v, (b = w.heap.size + 3 ∨ b = w.heap.size + 4 ∨ b = w.heap.size + 5) → Kp (fun j => j = w.heap.size + 3 ∨ j = w.heap.size + 4 ∨ j = w.heap.size + 5) W (A.setCell ⟨b, i, none⟩ v) :=
    fun A hA b i v hb => hA.setCell (p := ⟨b, i, none⟩) (fun _ => hb) v
  have r : ∀ A : World, Rd w.heap.size W A → ∀ b i v, (b = w.heap.size + 3 ∨ b = w.heap.size + 4 ∨ b = w.heap.size + 5) → Rd w.heap.size W (A.setCell ⟨b, i, none⟩ v) :=
    fun A hA b i v hb => hA.set i (by omega) v
  have q3 := q _ (q _ (q _ (q _ (q _ (q _ (Kp.refl _ W) (w.heap.size + 3) 0 x0 (.inl rfl)) (w.heap.size + 3) 1 x1 (.inl rfl)) (w.heap.size + 3) 2 u2 (.inl rfl)) (w.heap.size + 3) 3 u3 (.inl rfl)) (w.heap.size + 4) 0 p (.inr (.inl rfl))) (w.heap.size + 5) 0 e (.inr (.inr rfl))
  have r3 := r _ (r _ (r _ (r _ (r _ (r _ (Rd.refl _ W) (w.heap.size + 3) 0 x0 (.inl rfl)) (w.heap.size + 3) 1 x1 (.inl rfl)) (w.heap.size + 3) 2 u2 (.inl rfl)) (w.heap.size + 3) 3 u3 (.inl rfl)) (w.heap.size + 4) 0 p (.inr (.inl rfl))) (w.heap.size + 5) 0 e (.inr (.inr rfl))
  subst hW
  refine ⟨r3.drew, ?_, ?_, ?_, h.kp.trans q3.drew (fun i _ hs => by omega), q3.drew⟩
  · have b := ((((h.b3.set_same 0 x0).set_same 1 x1).set_same 2 u2).set_same 3 u3)
    exact ((b.set_other (p := ⟨w.heap.size + 4, 0, none⟩) (by simp) p).set_other (p := ⟨w.heap.size + 5, 0, none⟩) (by simp) e).drew
  · have b := ((((h.b4.set_other (p := ⟨w.heap.size + 3, 0, none⟩) (by simp) x0).set_other (p := ⟨w.heap.size + 3, 1, none⟩) (by simp) x1).set_other (p := ⟨w.heap.size + 3, 2, none⟩) (by simp) u2).set_other (p := ⟨w.heap.size + 3, 3, none⟩) (by simp) u3)
    exact ((b.set_same 0 p).set_other (p := ⟨w.heap.size + 5, 0, none⟩) (by simp) e).drew
  · have b := ((((h.b5.set_other (p := ⟨w.heap.size + 3, 0, none⟩) (by simp) x0).set_other (p := ⟨w.heap.size + 3, 1, none⟩) (by simp) x1).set_other (p := ⟨w.heap.size + 3, 2, none⟩) (by simp) u2).set_other (p := ⟨w.heap.size + 3, 3, none⟩) (by simp) u3)
    exact ((b.set_other (p := ⟨w.heap.size + 4, 0, none⟩) (by simp) p).set_same 0 e).drew

theorem exit_bad {w : World} {s : ByteArray} {la inp : Int} {W : World} {k : Nat} (h : St0 w s la inp W k) (p e : Nat) {W' : World}
    (hW : W' = ((((((W.setCell ⟨w.heap.size + 3, 0, none⟩ (.int .i64 0)).setCell ⟨w.heap.size + 3, 1, none⟩ (.int .i64 0)).setCell ⟨w.heap.size + 3, 2, none⟩ (.slice none 0 0)).setCell ⟨w.heap.size + 3, 3, none⟩ (.slice none 0 0)).setCell ⟨w.heap.size + 4, 0, none⟩ (.int .i64 p)).setCell ⟨w.heap.size + 5, 0, none⟩ (.int .i64 e)).drew) :
    Rd w.heap.size W W' ∧ Res w s W' (.bad p e) (.slice none 0 0) (.slice none 0 0) [] := by
  obtain ⟨r, b3, b4, b5, kp, _⟩ := exit_world h _ _ _ _ _ _ hW
  exact ⟨r, b3, b4, b5, Own.nil _ _ _, ⟨Own.nil _ _ _, rfl, fun j r x h => by cases h⟩, kp⟩

theorem exit_ok {w : World} {s : ByteArray} {la inp : Int} {W : World} {d : WitD} {k : Nat} {v2 v3 : Value} {rows : List Value} (h : St w s la inp W d k v2 v3 rows) {W' : World}
    (hW : W' = ((((((W.setCell ⟨w.heap.size + 3, 0, none⟩ (.int .i64 d.kind)).setCell ⟨w.heap.size + 3, 1, none⟩ (.int .i64 d.prop)).setCell ⟨w.heap.size + 3, 2, none⟩ v2).setCell ⟨w.heap.size + 3, 3, none⟩ v3).setCell ⟨w.heap.size + 4, 0, none⟩ (.int .i64 s.size)).setCell ⟨w.heap.size + 5, 0, none⟩ (.int .i64 0)).drew) :
    Rd w.heap.size W W' ∧ Res w s W' (.ok d) v2 v3 rows := by
  obtain ⟨r, b3, b4, b5, kp, q⟩ := exit_world h.st _ _ _ _ _ _ hW
  refine ⟨r, b3, b4, b5, h.o2.kp q (fun j hj e => ?_), ⟨h.o3.own.kp q (fun j hj e => ?_), h.o3.len, fun j r x h1 h2 => (h.o3.row j r x h1 h2).kp q (fun i hi e => ?_)⟩, kp⟩
  · have := (h.o2.lt j hj).1; omega
  · have := (h.o3.own.lt j hj).1; omega
  · have := ((h.o3.row j r x h1 h2).lt i hi).1; omega

theorem St.next {w : World} {s : ByteArray} {la inp : Int} {W : World} {d : WitD} {k : Nat} {v2 v3 : Value} {rows : List Value} (h : St w s la inp W d k v2 v3 rows) :
    St w s la inp (W.setCell ⟨w.heap.size + 8, 0, none⟩ (.int .i64 ((k : Int) + 1))) d (k + 1) v2 v3 rows := by
  have q := Kp.set W ⟨w.heap.size + 8, 0, none⟩ (.int .i64 ((k : Int) + 1))
  refine ⟨h.st.next, h.b7.kp q (fun e => by simp at e), h.o2.kp q (fun j hj e => ?_), ⟨h.o3.own.kp q (fun j hj e => ?_), h.o3.len, fun j r x h1 h2 => (h.o3.row j r x h1 h2).kp q (fun i hi e => ?_)⟩⟩
  · have := (h.o2.lt j hj).1; simp only at e; omega
  · have := (h.o3.own.lt j hj).1; simp only at e; omega
  · have := ((h.o3.row j r x h1 h2).lt i hi).1; simp only at e; omega

/-- what the first switch says of a line: is it good, is it the last -/
def MidX (la inp : Int) (k : Nat) (d : WitD) (t : ByteArray) (b o : Bool) (d' : WitD) : Prop :=
  (b = false → lastR t k d = false ∧ stepR t k la inp d = none) ∧ (b = true → o = false → lastR t k d = false ∧ stepR t k la inp d = some d') ∧ (b = true → o = true → lastR t k d = true ∧ d' = d)

structure Mid (w : World) (s : ByteArray) (la inp : Int) (W wx : World) (k BX : Nat) (t : ByteArray) (p q : Nat) (b : Bool) (d' : WitD) (v2 v3 : Value) (rows : List Value) : Prop where
  st : St0 w s la inp wx k
  bx : Blk wx BX #[.string t, .int .i64 p, .int .i64 q, .int .i64 0] 43
  rd : Rd w.heap.size W wx
  good : b = true → St w s la inp wx d' k v2 v3 rows

theorem St.kind {w : World} {s : ByteArray} {la inp : Int} {W : World} {d : WitD} {k : Nat} {v2 v3 : Value} {rows : List Value} (h : St w s la inp W d k v2 v3 rows) (m : Nat) :
    St w s la inp (W.setCell ⟨w.heap.size + 7, 0, none⟩ (.int .i64 m)) { d with kind := m } k v2 v3 rows := by
  have q := Kp.set W ⟨w.heap.size + 7, 0, none⟩ (.int .i64 m)
  refine ⟨h.st.set7 0 _, h.b7.set_same 0 _, h.o2.kp q (fun j hj e => ?_), ⟨h.o3.own.kp q (fun j hj e => ?_), h.o3.len, fun j r x h1 h2 => (h.o3.row j r x h1 h2).kp q (fun i hi e => ?_)⟩⟩
  · have := (h.o2.lt j hj).1; simp only at e; omega
  · have := (h.o3.own.lt j hj).1; simp only at e; omega
  · have := ((h.o3.row j r x h1 h2).lt i hi).1; simp only at e; omega

theorem St.propn {w : World} {s : ByteArray} {la inp : Int} {W : World} {d : WitD} {k : Nat} {v2 v3 : Value} {rows : List Value} (h : St w s la inp W d k v2 v3 rows) (m : Nat) :
    St w s la inp (W.setCell ⟨w.heap.size + 7, 1, none⟩ (.int .i64 m)) { d with prop := m } k v2 v3 rows := by
  have q := Kp.set W ⟨w.heap.size + 7, 1, none⟩ (.int .i64 m)
  refine ⟨h.st.set7 1 _, h.b7.set_same 1 _, h.o2.kp q (fun j hj e => ?_), ⟨h.o3.own.kp q (fun j hj e => ?_), h.o3.len, fun j r x h1 h2 => (h.o3.row j r x h1 h2).kp q (fun i hi e => ?_)⟩⟩
  · have := (h.o2.lt j hj).1; simp only at e; omega
  · have := (h.o3.own.lt j hj).1; simp only at e; omega
  · have := ((h.o3.row j r x h1 h2).lt i hi).1; simp only at e; omega

theorem St.startn {w : World} {s : ByteArray} {la inp : Int} {W : World} {d : WitD} {k : Nat} {v2 v3 : Value} {rows : List Value} (h : St w s la inp W d k v2 v3 rows) {v : Value} {l : List Bool} (ho : Own W (w.heap.size + 10) 4 v (l.map Value.bool)) :
    St w s la inp (W.setCell ⟨w.heap.size + 7, 2, none⟩ v) { d with start := l } k v v3 rows := by
  have q := Kp.set W ⟨w.heap.size + 7, 2, none⟩ v
  refine ⟨h.st.set7 2 _, h.b7.set_same 2 _, ho.kp q (fun j hj e => ?_), ⟨h.o3.own.kp q (fun j hj e => ?_), h.o3.len, fun j r x h1 h2 => (h.o3.row j r x h1 h2).kp q (fun i hi e => ?_)⟩⟩
  · have := (ho.lt j hj).1; simp only at e; omega
  · have := (h.o3.own.lt j hj).1; simp only at e; omega
  · have := ((h.o3.row j r x h1 h2).lt i hi).1; simp only at e; omega

/-- behind an append to the rows, ahead of its store -/
structure Grew (w : World) (W : World) (d : WitD) (l : List Bool) (v2 v3' : Value) (rows' : List Value) : Prop where
  o2 : Own W (w.heap.size + 10) 4 v2 (d.start.map Value.bool)
  o3 : OwnRows W (w.heap.size + 10) v3' rows' (d.ins ++ [l])

theorem St.insn {w : World} {s : ByteArray} {la inp : Int} {W : World} {d : WitD} {k : Nat} {v2 v3 v3' : Value} {rows' : List Value} {l : List Bool} (h0 : St0 w s la inp W k) (h7 : Blk W (w.heap.size + 7) #[.int .i64 d.kind, .int .i64 d.prop, v2, v3] 27) (g : Grew w W d l v2 v3' rows') :
    St w s la inp (W.setCell ⟨w.heap.size + 7, 3, none⟩ v3') { d with ins := d.ins ++ [l] } k v2 v3' rows' := by
  have q := Kp.set W ⟨w.heap.size + 7, 3, none⟩ v3'
  refine ⟨h0.set7 3 _, h7.set_same 3 _, g.o2.kp q (fun j hj e => ?_), ⟨g.o3.own.kp q (fun j hj e => ?_), g.o3.len, fun j r x h1 h2 => (g.o3.row j r x h1 h2).kp q (fun i hi e => ?_)⟩⟩
  · have := (g.o2.lt j hj).1; simp only at e; omega
  · have := (g.o3.own.lt j hj).1; simp only at e; omega
  · have := ((g.o3.row j r x h1 h2).lt i hi).1; simp only at e; omega

theorem mid7 {w : World} {s : ByteArray} {la inp : Int} {W0 W : World} {k BX : Nat} {t : ByteArray} {p q : Nat} (h : St0 w s la inp W k) (hR : Rd w.heap.size W0 W)
    (hX : Blk W BX #[.string t, .int .i64 p, .int .i64 q, .int .i64 0] 43) (hB : w.heap.size + 10 ≤ BX) (i : Nat) (v : Value) {b : Bool} {d' : WitD} {v2' v3' : Value} {rows' : List Value}
    (hg : b = true → St w s la inp (W.setCell ⟨w.heap.size + 7, i, none⟩ v) d' k v2' v3' rows') :
    Mid w s la inp W0 (W.setCell ⟨w.heap.size + 7, i, none⟩ v) k BX t p q b d' v2' v3' rows' :=
  ⟨h.set7 i v, hX.set_other (by simp only; omega) v, hR.set i (by omega) v, hg⟩

/-- what a round comes to -/
theorem midX_one {B : Nat} {la inp : Int} {k : Nat} {d d' : WitD} {x : LX B} {b o : Bool} (he : x.e = 0) (h : MidX la inp k d x.text b o d') :
    oneX la inp k d x = if b = false then .inr (.bad x.at_ 2) else if o = false then .inl d' else if x.next < B then .inr (.bad x.next 2) else .inr (.ok d') := by
  unfold oneX
  rw [if_neg (by simp [he])]
  cases b with
  | false =>
    obtain ⟨h1, h2⟩ := h.1 rfl
    rw [h1, h2]; rfl
  | true =>
    cases o with
    | false => obtain ⟨h1, h2⟩ := h.2.1 rfl rfl; rw [h1, h2]; rfl
    | true => obtain ⟨h1, rfl⟩ := h.2.2 rfl rfl; rw [h1]; rfl

theorem own_nil_cap {w : World} {base : Nat} {e : TypeId} {a : Option Addr} {n c : Nat} {cs : List Value} (h : Own w base e (.slice a n c) cs) : a = none → c = 0 := by
  rintro rfl
  rcases h.2 with ⟨h1, hn⟩ | ⟨g, cap, cur, h1, hb, hgg, rest⟩
  · cases h1; rfl
  · cases h1

theorem own_boolsSl {w : World} {base : Nat} {v : Value} {l : List Bool} (h : Own w base 4 v (l.map Value.bool)) : BoolsSl w v l := by
  obtain ⟨a, cap, rfl, h1, h2, h3, h4⟩ := h.form
  have := own_nil_cap h
  rw [List.length_map] at *
  exact ⟨a, cap, rfl, h1, h2, this, h4⟩

theorem Kp.below0 {w w' : World} (h : Kp (fun j => w.heap.size ≤ j) w w') : Kp (fun _ => False) w w' :=
  h.mono (fun i hi hs => absurd hi (Nat.not_lt.2 hs))

theorem Res.close {w : World} {s : ByteArray} {W : World} {o : WitO} {v2 v3 : Value} {rows : List Value} (h : Res w s W o v2 v3 rows) {n D : Nat} {x : Option (List Deferred)} (hD : W.heap[D]? = some (.deferred x)) (hn : n ≤ D) (hn2 : n = w.heap.size + 10) (y : Option (List Deferred)) :
    Res w s (W.putObj D (.deferred y)) o v2 v3 rows := by
  have q : Kp (fun j => j = D) W (W.putObj D (.deferred y)) := ⟨rfl, rfl, rfl, by simp, fun k _ hk => World.putObj_heap_other hk⟩
  exact h.keep q (fun j e => by
    subst e
    refine ⟨by omega, fun o ho => ?_⟩
    rw [hD] at ho
    rw [← Option.some.inj ho]; rfl)

theorem Res.post {w : World} {s : ByteArray} {W : World} {o : WitO} {v2 v3 : Value} {rows : List Value} (h : Res w s W o v2 v3 rows) :
    WReadP w s o (.returned (.tuple #[.agg #[.int .i64 o.w.kind, .int .i64 o.w.prop, v2, v3], .int .i64 (o.at_ s), .int .i64 o.e])) W := by
  refine ⟨⟨_, rfl, v2, v3, rfl, own_boolsSl h.o2, ?_⟩, h.kp.below0⟩
  obtain ⟨a, cap, rfl, h1, h2, h3, h4⟩ := h.o3.own.form
  refine ⟨a, cap, by rw [h.o3.len], by rw [← h.o3.len]; exact h1, h2, own_nil_cap h.o3.own, rows, h4, h.o3.len, fun j r x hr hx => own_boolsSl (h.o3.row j r x hr hx)⟩

theorem stepR_late {t : ByteArray} {k : Nat} {la inp : Int} {d d' : WitD} (hk : 2 ≤ k) (h : stepR t k la inp d = some d') : d.kind = 1 ∧ d'.kind = 1 := by
  unfold stepR at h
  rw [if_neg (by omega), if_neg (by omega)] at h
  by_cases h1 : d.kind = 1
  · rw [if_neg (fun h => h h1)] at h
    split at h
    · cases hr : rowR t la with
      | none => rw [hr] at h; cases h
      | some l => rw [hr] at h; cases h; exact ⟨h1, h1⟩
    · cases hr : rowR t inp with
      | none => rw [hr] at h; cases h
      | some l => rw [hr] at h; cases h; exact ⟨h1, h1⟩
  · rw [if_pos h1] at h; cases h

theorem stepR_ins {t : ByteArray} {k : Nat} {la inp : Int} {d d' : WitD} (h : stepR t k la inp d = some d') : d'.ins.length ≤ d.ins.length + 1 := by
  unfold stepR at h
  split at h
  · split at h
    · cases h; simp
    · cases h
  · split at h
    · cases hr : propR t with
      | none => rw [hr] at h; cases h
      | some l => rw [hr] at h; cases h; simp
    · split at h
      · cases h
      · split at h
        · cases hr : rowR t la with
          | none => rw [hr] at h; cases h
          | some l => rw [hr] at h; cases h; simp
        · cases hr : rowR t inp with
          | none => rw [hr] at h; cases h
          | some l => rw [hr] at h; cases h; simp

theorem oneX_step {B : Nat} {la inp : Int} {k : Nat} {d d' : WitD} {x : LX B} (h : oneX la inp k d x = .inl d') : stepR x.text k la inp d = some d' := by
  unfold oneX at h
  split at h
  · cases h
  · split at h
    · split at h <;> cases h
    · cases hs : stepR x.text k la inp d with
      | none => rw [hs] at h; cases h
      | some y => rw [hs] at h; cases h; rfl

theorem runX_late {B : Nat} {la inp : Int} : ∀ (l : List (LX B)) (k : Nat) (d d' : WitD), runX la inp k d l = .inl d' → (l ≠ [] → 3 ≤ k + l.length → d'.kind = 1) ∧ d'.ins.length ≤ d.ins.length + l.length
  | [], k, d, d', h => by cases h; exact ⟨fun h => absurd rfl h, by simp⟩
  | x :: r, k, d, d', h => by
    simp only [runX] at h
    cases ho : oneX la inp k d x with
    | inr o => rw [ho] at h; cases h
    | inl d1 =>
      rw [ho] at h
      have hs := oneX_step ho
      have hi := stepR_ins hs
      obtain ⟨h1, h2⟩ := runX_late r (k + 1) d1 d' h
      refine ⟨fun _ h3 => ?_, by simp only [List.length_cons] at *; omega⟩
      by_cases hr : r = []
      · subst hr
        simp only [runX] at h
        cases h
        exact (stepR_late (by simp only [List.length_cons, List.length_nil] at h3; omega) hs).2
      · exact h1 hr (by simp only [List.length_cons] at h3; omega)

theorem witR_ins (s : ByteArray) (la inp : Int) : ∀ (f p k : Nat) (d : WitD), d.ins.length ≤ k → (witR s la inp f p k d).w.ins.length ≤ k + f
  | 0, p, k, d, h => by simp [witR, WitO.w, wit0]
  | f + 1, p, k, d, h => by
    simp only [witR]
    split
    · simp [WitO.w, wit0]
    split
    · split
      · simp [WitO.w, wit0]
      · simp only [WitO.w]; omega
    · cases hs : stepR (lineT s (p : Nat)).1 k la inp d with
      | none => simp [WitO.w, wit0]
      | some d' =>
        simp only
        have := witR_ins s la inp f (lineT s (p : Nat)).2.1 (k + 1) d' (by have := stepR_ins hs; omega)
        omega

/-- 'append(v, u)' within a fence -/
theorem wpListIn_append1 {F : Fence} {n : Nat} {P : Program} {w : World} {ops : Array Oper} {rest : List Oper} {o : Oper} {a : Act} {Q : Exit → Act → World → Prop} (hgd : o.guard = none) (s x : Operand) (t e : TypeId)
    (ho : o.op = .call { callee := .builtin .append, args := #[s, x], argTypes := #[t, t] }) {z : Value} {bytes : Nat}
    (ht : P.underlying t = some (.slice e)) (hI : (P.info? e).map (fun i => (i.zero, i.size, i.bytes)) = some (some z, 1, bytes)) (hzs : z.cells.size = 1)
    {base : Nat} {v : Value} {cs : List Value} (hown : Own w base e v cs) (hs : a.eval s = v) (ad : Addr) (u : Value) (hx : a.eval x = .slice (some ad) 1 1) (hnew : w.cell? ad = some u) (h1 : u.oneCell' = true)
    (hbytes : (cs.length + 1) * bytes ≤ 140737488355328) (hm : cs.length + 1 ≤ maxLen) (hbase : base ≤ w.heap.size)
    (h : ∀ v' w', Own w' base e v' (cs ++ [u]) → w.grownBy w' v.ownBlock → wpListIn F n P ops Q rest (a.put o.dst v') w') : wpListIn F n P ops Q (o :: rest) a w := by
  obtain ⟨i0, hi, hz0, hz1, hz2⟩ := info_parts hI
  refine wpListIn_append_own _ hgd s x t ho base e i0 z 1 bytes ht hi hz0 hz1 hz2 hzs (by decide) v cs.length cs hs hown ad 1 1 [u] hx rfl ?_ ?_ hm hbytes hbase ?_
  · intro j u' hj
    match j, hj with
    | 0, hj =>
      have : ad.add 0 = ad := by unfold Addr.add; split <;> simp_all
      simp at hj
      rw [this, ← hj]; exact hnew
  · intro u' hu; simp at hu; subst hu; exact h1
  · intro v' w' h2 h3 _
    exact h v' w' (by unfold Own; rw [List.length_append]; exact h2) h3

theorem dot_eq (t : ByteArray) : (t.toList == [46]) = decide (t = ⟨#[46]⟩) := by
  have h : t.toList = t.data.toList := Lib.toList_data t
  rw [h, Bool.eq_iff_iff, beq_iff_eq, decide_eq_true_iff]
  constructor
  · intro e
    apply ByteArray.ext
    apply Array.toList_inj.1
    rw [e]
  · intro e; rw [e]

theorem rowR_bits {t : ByteArray} {m : Int} {l : List Bool} (h : rowR t m = some l) : l = bitsR t := by
  unfold rowR at h
  split at h
  · cases h; rfl
  · cases h

theorem own_type {w : World} {base : Nat} {e : TypeId} {v : Value} {cs : List Value} (h : Own w base e v cs) {j : Nat} (hj : v.ownBlock = some j) : ∃ c, w.heap[j]? = some (.cells c e (0, 0)) := by
  rcases h.2 with ⟨rfl, hn⟩ | ⟨g, cap, cur, rfl, hb, hgg, rest⟩
  · cases hj
  · cases hj; exact ⟨_, hgg⟩

theorem own_ne_own {w : World} {b1 b2 : Nat} {e1 e2 : TypeId} {v1 v2 : Value} {c1 c2 : List Value} (h1 : Own w b1 e1 v1 c1) (h2 : Own w b2 e2 v2 c2) (he : e1 ≠ e2) : ∀ j, v1.ownBlock = some j → ¬ v2.ownBlock = some j := by
  intro j x y
  obtain ⟨_, p⟩ := own_type h1 x
  obtain ⟨_, q⟩ := own_type h2 y
  rw [p] at q
  cases q
  exact he rfl

theorem blk_ne_own {w : World} {b b2 : Nat} {c : Array Value} {t e2 : TypeId} {v2 : Value} {c2 : List Value} (h1 : Blk w b c t) (h2 : Own w b2 e2 v2 c2) (he : t ≠ e2) : ¬ v2.ownBlock = some b := by
  intro y
  obtain ⟨_, q⟩ := own_type h2 y
  rw [show w.heap[b]? = _ from h1] at q
  cases q
  exact he rfl

theorem St.append {w : World} {s : ByteArray} {la inp : Int} {W W2 : World} {d : WitD} {k : Nat} {v2 v3 r v' : Value} {rows : List Value} {l : List Bool} (h : St w s la inp W d k v2 v3 rows) (ho : Own W (w.heap.size + 10) 4 r (l.map Value.bool))
    (hg : W.grownBy W2 v3.ownBlock) (ho3 : Own W2 (w.heap.size + 10) 22 v' (rows ++ [r])) :
    St0 w s la inp W2 k ∧ Blk W2 (w.heap.size + 7) #[.int .i64 d.kind, .int .i64 d.prop, v2, v3] 27 ∧ Grew w W2 d l v2 v' (rows ++ [r]) := by
  have q := (Kp.refl (fun j => v3.ownBlock = some j) W).grown hg (fun _ e _ => e)
  refine ⟨h.st.far q (fun j e => .inr (h.o3.own.lt j e).1), h.b7.kp q (fun e => by have := (h.o3.own.lt _ e).1; omega), h.o2.kp q (own_ne_own h.o2 h.o3.own (by decide)), ho3, by simp [h.o3.len], ?_⟩
  intro j r' x h1 h2
  by_cases hj : j < rows.length
  · rw [List.getElem?_append_left hj] at h1
    rw [List.getElem?_append_left (by rw [← h.o3.len]; exact hj)] at h2
    have := h.o3.row j r' x h1 h2
    exact this.kp q (own_ne_own this h.o3.own (by decide))
  · have hj2 : j = rows.length := by
      have := (List.getElem?_eq_some_iff.1 h1).1
      simp at this; omega
    subst hj2
    rw [List.getElem?_append_right (Nat.le_refl _)] at h1
    rw [h.o3.len, List.getElem?_append_right (Nat.le_refl _)] at h2
    simp at h1 h2
    subst h1 h2
    exact ho.kp q (own_ne_own ho h.o3.own (by decide))

theorem boolsInfo : (Tryd.prog.info? 22).map (fun i => (i.zero, i.size, i.bytes)) = some (some (.slice none 0 0), 1, 24) := by kernel_rfl

end Go.Proofs.YtpejimlmokfppaaDoor
