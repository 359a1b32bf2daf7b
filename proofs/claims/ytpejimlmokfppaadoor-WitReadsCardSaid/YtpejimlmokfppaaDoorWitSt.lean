/-
  What wit.Read's cells hold between two rounds, and behind the last one.
-/
import Derived.Test.YtpejimlmokfppaaDoorWitRun
import Derived.Test.YtpejimlmokfppaaDoorWitText
namespace Go.Proofs.YtpejimlmokfppaaDoor
open Go.RowKit Go.Shelf

/-- a witness as a value -/
def WitSl (W : World) (v : Value) (d : WitD) : Prop := ∃ v2 v3, v = .agg #[.int .i64 d.kind, .int .i64 d.prop, v2, v3] ∧ BoolsSl W v2 d.start ∧ GridSl W v3 d.ins

def WReadP (w : World) (s : ByteArray) (o : WitO) (e : Ending) (w' : World) : Prop :=
  (∃ v, e = .returned (.tuple #[v, .int .i64 (o.at_ s), .int .i64 o.e]) ∧ WitSl w' v o.w) ∧ Kp (fun _ => False) w w'

theorem own_cells {w : World} {base : Nat} {e : TypeId} {v : Value} {cs : List Value} (h : Own w base e v cs) {j : Nat} (hj : v.ownBlock = some j) : ∃ o, w.heap[j]? = some o ∧ o.isCells = true := by
  rcases h.2 with ⟨rfl, hn⟩ | ⟨g, cap, cur, rfl, hb, hgg, rest⟩
  · cases hj
  · cases hj
    exact ⟨_, hgg, rfl⟩

theorem blk_cells {w : World} {b : Nat} {c : Array Value} {t : TypeId} (h : Blk w b c t) : ∃ o, w.heap[b]? = some o ∧ o.isCells = true := ⟨_, h, rfl⟩

/-- S holds blocks of the call's own that are no cells -/
def NoCells (n : Nat) (W : World) (S : Nat → Prop) : Prop := ∀ j, S j → n ≤ j ∧ ∀ o, W.heap[j]? = some o → o.isCells = false

theorem NoCells.none (n : Nat) (W : World) : NoCells n W (fun _ => False) := fun _ h => h.elim

theorem NoCells.blk {n : Nat} {W : World} {S : Nat → Prop} (h : NoCells n W S) {b : Nat} {c : Array Value} {t : TypeId} (hb : Blk W b c t) : ¬ S b := fun hs => by
  have := (h b hs).2 _ hb
  cases this

theorem NoCells.own {n : Nat} {W : World} {S : Nat → Prop} (h : NoCells n W S) {base : Nat} {e : TypeId} {v : Value} {cs : List Value} (ho : Own W base e v cs) : ∀ j, v.ownBlock = some j → ¬ S j := fun j hj hs => by
  obtain ⟨o, h1, h2⟩ := own_cells ho hj
  rw [(h j hs).2 _ h1] at h2
  cases h2

/-- rows of signs, each in a block of its own -/
structure OwnRows (W : World) (n : Nat) (v : Value) (rows : List Value) (ins : List (List Bool)) : Prop where
  own : Own W n 22 v rows
  len : rows.length = ins.length
  row : ∀ (j : Nat) (r : Value) (x : List Bool), rows[j]? = some r → ins[j]? = some x → Own W n 4 r (x.map Value.bool)

theorem OwnRows.kp {W W' : World} {n m : Nat} {v : Value} {rows : List Value} {ins : List (List Bool)} (h : OwnRows W n v rows ins) {S : Nat → Prop} (k : Kp S W W') (hS : NoCells m W S) : OwnRows W' n v rows ins :=
  ⟨h.own.kp k (hS.own h.own), h.len, fun j r x h1 h2 => (h.row j r x h1 h2).kp k (hS.own (h.row j r x h1 h2))⟩

/-- the cells that no round turns but the last -/
structure St0 (w : World) (s : ByteArray) (la inp : Int) (W : World) (k : Nat) : Prop where
  b0 : Blk W w.heap.size #[.string s] 9
  b1 : Blk W (w.heap.size + 1) #[.int .i64 la] 3
  b2 : Blk W (w.heap.size + 2) #[.int .i64 inp] 3
  b3 : Blk W (w.heap.size + 3) #[.int .i64 0, .int .i64 0, .slice none 0 0, .slice none 0 0] 27
  b4 : Blk W (w.heap.size + 4) #[.int .i64 0] 3
  b5 : Blk W (w.heap.size + 5) #[.int .i64 0] 28
  b6 : Blk W (w.heap.size + 6) #[.int .i64 0, .int .i64 0, .slice none 0 0, .slice none 0 0] 27
  b8 : Blk W (w.heap.size + 8) #[.int .i64 k] 3
  b9 : Blk W (w.heap.size + 9) #[.string s] 9
  kp : Kp (fun j => w.heap.size ≤ j) w W

theorem St0.far {w : World} {s : ByteArray} {la inp : Int} {W W' : World} {k : Nat} (h : St0 w s la inp W k) {S : Nat → Prop} (q : Kp S W W') (hS : ∀ j, S j → j = w.heap.size + 7 ∨ w.heap.size + 10 ≤ j) : St0 w s la inp W' k := by
  have hn : ∀ i, i < 10 → i ≠ 7 → ¬ S (w.heap.size + i) := fun i h1 h2 hs => by have := hS _ hs; omega
  exact ⟨h.b0.kp q (hn 0 (by omega) (by omega)), h.b1.kp q (hn 1 (by omega) (by omega)), h.b2.kp q (hn 2 (by omega) (by omega)), h.b3.kp q (hn 3 (by omega) (by omega)), h.b4.kp q (hn 4 (by omega) (by omega)), h.b5.kp q (hn 5 (by omega) (by omega)), h.b6.kp q (hn 6 (by omega) (by omega)),
    h.b8.kp q (hn 8 (by omega) (by omega)), h.b9.kp q (hn 9 (by omega) (by omega)), h.kp.trans q (fun i _ hs => by have := hS i hs; omega)⟩

theorem St0.kp0 {w : World} {s : ByteArray} {la inp : Int} {W W' : World} {k : Nat} (h : St0 w s la inp W k) (q : Kp (fun _ => False) W W') : St0 w s la inp W' k := h.far q (fun _ h => h.elim)

theorem St0.set7 {w : World} {s : ByteArray} {la inp : Int} {W : World} {k : Nat} (h : St0 w s la inp W k) (i : Nat) (v : Value) : St0 w s la inp (W.setCell ⟨w.heap.size + 7, i, none⟩ v) k :=
  h.far (Kp.set W ⟨w.heap.size + 7, i, none⟩ v) (fun _ e => .inl e)

theorem St0.next {w : World} {s : ByteArray} {la inp : Int} {W : World} {k : Nat} (h : St0 w s la inp W k) : St0 w s la inp (W.setCell ⟨w.heap.size + 8, 0, none⟩ (.int .i64 ((k : Int) + 1))) (k + 1) := by
  have q := Kp.set W ⟨w.heap.size + 8, 0, none⟩ (.int .i64 ((k : Int) + 1))
  have hn : ∀ i, i ≠ 8 → ¬ (w.heap.size + i = w.heap.size + 8) := fun i h => by omega
  exact ⟨h.b0.kp q (hn 0 (by omega)), h.b1.kp q (hn 1 (by omega)), h.b2.kp q (hn 2 (by omega)), h.b3.kp q (hn 3 (by omega)), h.b4.kp q (hn 4 (by omega)), h.b5.kp q (hn 5 (by omega)), h.b6.kp q (hn 6 (by omega)),
    h.b8.set_same 0 _, h.b9.kp q (hn 9 (by omega)), h.kp.trans q (fun i _ hs => by simp only at hs; omega)⟩

theorem St0.keep {w : World} {s : ByteArray} {la inp : Int} {W W' : World} {k : Nat} (h : St0 w s la inp W k) {S : Nat → Prop} (q : Kp S W W') (hS : NoCells w.heap.size W S) : St0 w s la inp W' k :=
  ⟨h.b0.kp q (hS.blk h.b0), h.b1.kp q (hS.blk h.b1), h.b2.kp q (hS.blk h.b2), h.b3.kp q (hS.blk h.b3), h.b4.kp q (hS.blk h.b4), h.b5.kp q (hS.blk h.b5), h.b6.kp q (hS.blk h.b6),
    h.b8.kp q (hS.blk h.b8), h.b9.kp q (hS.blk h.b9), h.kp.trans q (fun i _ hs => (hS i hs).1)⟩

structure St (w : World) (s : ByteArray) (la inp : Int) (W : World) (d : WitD) (k : Nat) (v2 v3 : Value) (rows : List Value) : Prop where
  st : St0 w s la inp W k
  b7 : Blk W (w.heap.size + 7) #[.int .i64 d.kind, .int .i64 d.prop, v2, v3] 27
  o2 : Own W (w.heap.size + 10) 4 v2 (d.start.map Value.bool)
  o3 : OwnRows W (w.heap.size + 10) v3 rows d.ins

theorem St.keep {w : World} {s : ByteArray} {la inp : Int} {W W' : World} {d : WitD} {k : Nat} {v2 v3 : Value} {rows : List Value} (h : St w s la inp W d k v2 v3 rows) {S : Nat → Prop} (q : Kp S W W') (hS : NoCells w.heap.size W S) : St w s la inp W' d k v2 v3 rows :=
  ⟨h.st.keep q hS, h.b7.kp q (hS.blk h.b7), h.o2.kp q (hS.own h.o2), h.o3.kp q hS⟩

/-- what a round may do, from its start on -/
structure Rd (n : Nat) (W W' : World) : Prop where
  kf : KeepsFrom (n + 10) W W'
  kb : KeepB (n + 9) W W'

theorem Rd.refl (n : Nat) (W : World) : Rd n W W := ⟨KeepsFrom.refl _ _, KeepB.refl _ _⟩

theorem Rd.kp {n : Nat} {W A B : World} (h : Rd n W A) (k : Kp (fun _ => False) A B) : Rd n W B :=
  ⟨h.kf.trans ⟨k.size, fun j _o _ hj _ => (k.block j (Array.getElem?_eq_some_iff.1 hj).1 (fun h => h)).trans hj⟩, h.kb.trans ⟨k.size, fun hl => k.block _ hl (fun h => h)⟩⟩

theorem Rd.set {n : Nat} {W A : World} (h : Rd n W A) {b : Nat} (i : Nat) (hb : b < n + 9) (v : Value) : Rd n W (A.setCell ⟨b, i, none⟩ v) := by
  have q := Kp.set A ⟨b, i, none⟩ v
  exact ⟨h.kf.trans ((KeepsOthers.setCell A _ v).from _), h.kb.trans ⟨q.size, fun hl => q.block _ hl (by simp only; omega)⟩⟩

theorem Rd.alloc {n : Nat} {W A : World} (h : Rd n W A) (o : Obj) : Rd n W (A.alloc o) := h.kp ((Kp.refl (fun _ => False) A).alloc o)

theorem Rd.drew {n : Nat} {W A : World} (h : Rd n W A) : Rd n W A.drew := h.kp (Kp.refl (fun _ => False) A).drew

theorem Rd.grown {n : Nat} {W A B : World} (h : Rd n W A) {v : Value} {e : TypeId} {cs : List Value} (ho : Own A (n + 10) e v cs) (hg : A.grownBy B v.ownBlock) : Rd n W B := by
  have q := (Kp.refl (fun j => v.ownBlock = some j) A).grown hg (fun _ e _ => e)
  refine ⟨h.kf.trans ((KeepsOthers.of_grownBy hg (fun j o e ho' => ?_)).from _), h.kb.trans ⟨q.size, fun hl => q.block _ hl (fun e => ?_)⟩⟩
  · obtain ⟨o', h1, h2⟩ := own_cells ho e
    rw [h1] at ho'
    rw [← Option.some.inj ho']; exact h2
  · have := (ho.lt _ e).1; omega

/-- what is handed back lies in the cells -/
structure Res (w : World) (s : ByteArray) (W : World) (o : WitO) (v2 v3 : Value) (rows : List Value) : Prop where
  b3 : Blk W (w.heap.size + 3) #[.int .i64 o.w.kind, .int .i64 o.w.prop, v2, v3] 27
  b4 : Blk W (w.heap.size + 4) #[.int .i64 (o.at_ s)] 3
  b5 : Blk W (w.heap.size + 5) #[.int .i64 o.e] 28
  o2 : Own W (w.heap.size + 10) 4 v2 (o.w.start.map Value.bool)
  o3 : OwnRows W (w.heap.size + 10) v3 rows o.w.ins
  kp : Kp (fun j => w.heap.size ≤ j) w W

theorem Res.keep {w : World} {s : ByteArray} {W W' : World} {o : WitO} {v2 v3 : Value} {rows : List Value} (h : Res w s W o v2 v3 rows) {S : Nat → Prop} (q : Kp S W W') (hS : NoCells w.heap.size W S) : Res w s W' o v2 v3 rows :=
  ⟨h.b3.kp q (hS.blk h.b3), h.b4.kp q (hS.blk h.b4), h.b5.kp q (hS.blk h.b5), h.o2.kp q (hS.own h.o2), h.o3.kp q hS, h.kp.trans q (fun i _ hs => (hS i hs).1)⟩

/-- a turn of a block that is no cells -/
theorem grown_nocells {n : Nat} {W W' : World} {row : Option Nat} (hg : W.grownBy W' row) (hr : ∀ r, row = some r → n ≤ r ∧ ∃ o : Obj, W.heap[r]? = some o ∧ o.isCells = false) : Kp (fun j => row = some j) W W' ∧ NoCells n W (fun j => row = some j) :=
  ⟨(Kp.refl (fun j => row = some j) W).grown hg (fun _ e _ => e), fun j e => ⟨(hr j e).1, fun o ho => by
    obtain ⟨_, o', h1, h2⟩ := hr j e
    rw [h1] at ho
    rw [← Option.some.inj ho]; exact h2⟩⟩

theorem wit_start (w : World) (s : ByteArray) (la inp : Int) :
    St w s la inp ((((((((((w.alloc (.cells #[.string s] 9)).alloc (.cells #[.int .i64 la] 3)).alloc (.cells #[.int .i64 inp] 3)).alloc (.cells #[.int .i64 0, .int .i64 0, .slice none 0 0, .slice none 0 0] 27)).alloc (.cells #[.int .i64 0] 3)).alloc (.cells #[.int .i64 0] 28)).alloc (.cells #[.int .i64 0, .int .i64 0, .slice none 0 0, .slice none 0 0] 27)).alloc (.cells #[.int .i64 0, .int .i64 0, .slice none 0 0, .slice none 0 0] 27)).alloc (.cells #[.int .i64 0] 3)).alloc (.cells #[.string s] 9)) wit0 0 (.slice none 0 0) (.slice none 0 0) [] := by
  have new : ∀ (u : World) (c : Array Value) (t : TypeId) (b : Nat), u.heap.size = b → Blk (u.alloc (.cells c t)) b c t := fun u c t b h => by subst h; exact Blk.new u c t
  refine ⟨⟨?_, ?_, ?_, ?_, ?_, ?_, ?_, ?_, ?_, ?_⟩, ?_, Own.nil _ _ _, ⟨Own.nil _ _ _, rfl, fun j r x h => by cases h⟩⟩
  · exact ((((((((((new _ _ _ _ rfl).alloc _).alloc _).alloc _).alloc _).alloc _).alloc _).alloc _).alloc _).alloc _)
  · exact (((((((((new _ _ _ _ (by simp)).alloc _).alloc _).alloc _).alloc _).alloc _).alloc _).alloc _).alloc _)
  · exact ((((((((new _ _ _ _ (by simp)).alloc _).alloc _).alloc _).alloc _).alloc _).alloc _).alloc _)
  · exact (((((((new _ _ _ _ (by simp)).alloc _).alloc _).alloc _).alloc _).alloc _).alloc _)
  · exact ((((((new _ _ _ _ (by simp)).alloc _).alloc _).alloc _).alloc _).alloc _)
  · exact (((((new _ _ _ _ (by simp)).alloc _).alloc _).alloc _).alloc _)
  · exact ((((new _ _ _ _ (by simp)).alloc _).alloc _).alloc _)
  · exact ((new _ _ _ _ (by simp)).alloc _)
  · exact (new _ _ _ _ (by simp))
  · exact ((((((((((Kp.refl _ w).alloc _).alloc _).alloc _).alloc _).alloc _).alloc _).alloc _).alloc _).alloc _).alloc _
  · exact (((new _ _ _ _ (by simp)).alloc _).alloc _)

end Go.Proofs.YtpejimlmokfppaaDoor
