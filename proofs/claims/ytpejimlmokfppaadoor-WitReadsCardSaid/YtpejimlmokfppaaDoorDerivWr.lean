/-
  deriv.Write.
-/
import Derived.Test.YtpejimlmokfppaaDoorDerivWrite
namespace Go.Proofs.YtpejimlmokfppaaDoor
open Go.RowKit

/-- a slice of ints that reads l -/
def IntsSl (w : World) (v : Value) (l : List Int) : Prop := ∃ a cap, v = .slice a l.length cap ∧ l.length ≤ cap ∧ cap ≤ maxLen ∧ (a = none → cap = 0) ∧ IntsAt w a l

theorem IntsSl.kp {w w' : World} {v : Value} {l : List Int} (h : IntsSl w v l) (k : Kp (fun _ => False) w w') : IntsSl w' v l := by
  obtain ⟨a, cap, e, h1, h2, h3, h4⟩ := h
  exact ⟨a, cap, e, h1, h2, h3, h4.kp k (fun _ _ h => h)⟩

/-- rows of lines that read L -/
def LnsAt (w : World) (a : Option Addr) (L : List (Bool × List Int)) : Prop :=
  ∃ rs : List (Bool × Value), RowAt w a (lrows rs).flatten ∧ rs.length = L.length ∧ ∀ (k : Nat) (r : Bool × Value) (x : Bool × List Int), rs[k]? = some r → L[k]? = some x → r.1 = x.1 ∧ IntsSl w r.2 x.2

theorem LnsAt.kp {w w' : World} {a : Option Addr} {L : List (Bool × List Int)} (h : LnsAt w a L) (k : Kp (fun _ => False) w w') : LnsAt w' a L := by
  obtain ⟨rs, h1, h2, h3⟩ := h
  exact ⟨rs, h1.kp k (fun _ _ h => h), h2, fun i r x hr hx => ⟨(h3 i r x hr hx).1, (h3 i r x hr hx).2.kp k⟩⟩

theorem lrows_len (rs : List (Bool × Value)) : ∀ r ∈ lrows rs, r.length = 2 := by
  intro r hr
  obtain ⟨x, _, rfl⟩ := List.mem_map.1 hr
  rfl

def li (L : List (Bool × List Int)) (k : Nat) : Bool × List Int := L[k]?.getD (false, [])
theorem li_at {L : List (Bool × List Int)} {k : Nat} (h : k < L.length) : L[k]? = some (li L k) := by unfold li; rw [List.getElem?_eq_getElem h]; rfl

/-- the cells of line k -/
theorem LnsAt.line {w : World} {a : Option Addr} {L : List (Bool × List Int)} (h : LnsAt w a L) {k : Nat} (hk : k < L.length) :
    ∃ b off v, a = some ⟨b, off, none⟩ ∧ w.cell? ⟨b, off + k * 2, none⟩ = some (.bool (li L k).1) ∧ w.cell? ⟨b, off + k * 2 + 1, none⟩ = some v ∧ IntsSl w v (li L k).2 := by
  obtain ⟨rs, h1, h2, h3⟩ := h
  have hk' : k < rs.length := by rw [h2]; exact hk
  have hr : rs[k]? = some rs[k] := List.getElem?_eq_getElem hk'
  have hl : (lrows rs)[k]? = some [.bool rs[k].1, rs[k].2] := by simp [lrows, hr]
  obtain ⟨b, off, rfl, c0⟩ := h1.cellAt (lrows_len rs) (j := k) (i := 0) hl rfl
  obtain ⟨b1, off1, e1, c1⟩ := h1.cellAt (lrows_len rs) (j := k) (i := 1) hl rfl
  simp only [Option.some.injEq, Addr.mk.injEq, and_true] at e1
  obtain ⟨rfl, rfl⟩ := e1
  obtain ⟨e, hi⟩ := h3 k _ _ hr (li_at hk)
  rw [e] at c0
  exact ⟨b, off, _, rfl, c0, c1, hi⟩

/-- the lines' texts -/
def lti (L : List (Bool × List Int)) : List (Bool × List (List UInt8)) := L.map (fun x => (x.1, x.2.map litText))

theorem isbKp {T e : TypeId} {B b : Nat} {bs : List Value} {w w' : World} (h : Lib.IsBuilder T e B b bs w) (k : Kp (fun _ => False) w w') : Lib.IsBuilder T e B b bs w' := by
  have go : ∀ p, Lib.BuilderAt T e B b p bs w → Lib.BuilderAt T e B b p bs w' := by
    rintro p ⟨hB, v, hb, hown, hne⟩
    exact ⟨hB, v, (k.block b (Array.getElem?_eq_some_iff.1 hb).1 (fun h => h)).trans hb, Own.kp (cs := bs) hown k (fun _ _ h => h), hne⟩
  rcases h with h | h
  · exact .inl (go _ h)
  · exact .inr (go _ h)

theorem bcells_append (a b : List UInt8) : Lib.byteCells (a ++ b) = Lib.byteCells a ++ Lib.byteCells b := by simp [Lib.byteCells]
theorem strCells_is (s : ByteArray) : Lib.strCells s = Lib.byteCells s.data.toList := rfl

theorem words_flat {c : List (List UInt8)} (h : c ≠ []) : 32 :: jn c = c.flatMap (fun x => 32 :: x) := by
  cases c with
  | nil => exact absurd rfl h
  | cons a r => rw [jn_flat, List.flatMap_cons]; rfl

theorem linesText_take {L : List (Bool × List Int)} {k : Nat} (h : k < L.length) : linesText (lti (L.take (k + 1))) = linesText (lti (L.take k)) ++ (lineText (li L k).1 ((li L k).2.map litText) ++ [10]) := by
  have e : L.take (k + 1) = L.take k ++ [li L k] := by
    rw [List.take_succ_eq_append_getElem h]
    congr 2
    unfold li; rw [List.getElem?_eq_getElem h]; rfl
  rw [e]
  unfold lti
  rw [List.map_append, linesText_append]
  congr 1
  simp [linesText]

theorem linesText_take_le (L : List (Bool × List Int)) (k : Nat) : (linesText (lti (L.take k))).length ≤ (linesText (lti L)).length := by
  conv => rhs; rw [← List.take_append_drop k L]
  unfold lti
  rw [List.map_append, linesText_append, List.length_append]
  omega

theorem Kp.cellAt {w w' : World} (k : Kp (fun _ => False) w w') {b o : Nat} {v : Value} (h : w.cell? ⟨b, o, none⟩ = some v) : w'.cell? ⟨b, o, none⟩ = some v :=
  (World.cell?_of_block (w := w) (w' := w') (a := ⟨b, o, none⟩) (k.block b (World.block_lt_of_cell? w _ h) (fun h => h))).trans h

theorem sgn_size (f : Bool) : (sgn f).size = 1 := by cases f <;> rfl

end Go.Proofs.YtpejimlmokfppaaDoor
