/-
  deriv.Read.
-/
import Derived.Test.YtpejimlmokfppaaDoorDerivLine
import Derived.Test.YtpejimlmokfppaaDoorStrips
import Derived.RegionTactic
import Derived.ChangeAlike
import Derived.Defers
import Derived.Tactics2
namespace Go.Proofs.YtpejimlmokfppaaDoor
open Go.RowKit

/-- lines as rows of two cells -/
def lrows (rs : List (Bool × Value)) : List (List Value) := rs.map (fun r => [.bool r.1, r.2])

/-- the clauses of lines lie in blocks of their own -/
def Lns (w : World) (base : Nat) (rs : List (Bool × Value)) (L : List (Bool × List Nat)) : Prop :=
  rs.length = L.length ∧ ∀ (k : Nat) (r : Bool × Value) (x : Bool × List Nat), rs[k]? = some r → L[k]? = some x → r.1 = x.1 ∧ Own w base 3 r.2 (nums x.2)

theorem Lns.nil (w : World) (base : Nat) : Lns w base [] [] := ⟨rfl, fun k r x h => by simp at h⟩

theorem Lns.kp {S : Nat → Prop} {w w' : World} {base : Nat} {rs : List (Bool × Value)} {L : List (Bool × List Nat)} (h : Lns w base rs L) (k : Kp S w w') (hS : ∀ r ∈ rs, ∀ j, r.2.ownBlock = some j → ¬ S j) : Lns w' base rs L :=
  ⟨h.1, fun i r x hr hx => ⟨(h.2 i r x hr hx).1, (h.2 i r x hr hx).2.kp k (hS r (List.mem_of_getElem? hr))⟩⟩

theorem Lns.snoc {w : World} {base : Nat} {rs : List (Bool × Value)} {L : List (Bool × List Nat)} {f : Bool} {v : Value} {c : List Nat} (h : Lns w base rs L) (hv : Own w base 3 v (nums c)) : Lns w base (rs ++ [(f, v)]) (L ++ [(f, c)]) := by
  refine ⟨by rw [List.length_append, List.length_append, h.1]; rfl, ?_⟩
  intro k r x hr hx
  by_cases hk : k < rs.length
  · rw [List.getElem?_append_left hk] at hr
    rw [List.getElem?_append_left (by rw [← h.1]; exact hk)] at hx
    exact h.2 k r x hr hx
  · rw [List.getElem?_append_right (by omega)] at hr
    rw [List.getElem?_append_right (by rw [← h.1]; omega), ← h.1] at hx
    cases hi : k - rs.length with
    | zero =>
      rw [hi] at hr hx
      simp at hr hx
      subst hr hx
      exact ⟨rfl, hv⟩
    | succ n => rw [hi] at hr; simp at hr

theorem Lns.mono {w : World} {base b' : Nat} {rs : List (Bool × Value)} {L : List (Bool × List Nat)} (h : Lns w base rs L) (hb : b' ≤ base) : Lns w b' rs L :=
  ⟨h.1, fun i r x hr hx => ⟨(h.2 i r x hr hx).1, (h.2 i r x hr hx).2.mono hb⟩⟩

/-- each clause's block, if it has one, is a block of ints -/
theorem Lns.block {w : World} {base : Nat} {rs : List (Bool × Value)} {L : List (Bool × List Nat)} (h : Lns w base rs L) {r : Bool × Value} (hr : r ∈ rs) {j : Nat} (hj : r.2.ownBlock = some j) : base ≤ j ∧ ∃ c, Blk w j c 3 := by
  obtain ⟨k, hk⟩ := List.mem_iff_getElem?.1 hr
  have hkl := (List.getElem?_eq_some_iff.1 hk).1
  have hO := (h.2 k r _ hk (List.getElem?_eq_getElem (by rw [← h.1]; exact hkl))).2
  rcases hO.2 with ⟨hv, _⟩ | ⟨g, cap, cur, hv, hb, hg, _⟩
  · rw [hv] at hj; cases hj
  · rw [hv] at hj
    have e : g = j := by simpa [Value.ownBlock] using hj
    subst e
    exact ⟨hb, cur, hg⟩

theorem OwnK.blk {w : World} {base k : Nat} {e : TypeId} {v : Value} {rows : List (List Value)} (h : OwnK w base e k v rows) {j : Nat} (hj : v.ownBlock = some j) : base ≤ j ∧ ∃ c, Blk w j c e := by
  rcases h.own.2 with ⟨hv, _⟩ | ⟨g, cap, cur, hv, hb, hg, _⟩
  · rw [hv] at hj; cases hj
  · rw [hv] at hj
    have e : g = j := by simpa [Value.ownBlock] using hj
    subst e
    exact ⟨hb, cur, hg⟩

theorem blk_type {w : World} {j : Nat} {c c' : Array Value} {t t' : TypeId} (h : Blk w j c t) (h' : Blk w j c' t') : t = t' := by
  unfold Blk at h h'
  rw [h] at h'
  simp at h'
  exact h'.2

theorem derivR_err {s : ByteArray} {f p n nx er : Nat} {t : ByteArray} {L : List (Bool × List Nat)} (hp : p < s.size) (hl : lineT s (p : Nat) = (t, nx, er)) (he : er ≠ 0) : derivR s (f + 1) L p n = ⟨[], n + 1, er⟩ := by
  unfold derivR; rw [if_neg (by omega), hl, if_pos he]
theorem derivR_form {s : ByteArray} {f p n nx er : Nat} {t : ByteArray} {L : List (Bool × List Nat)} (hp : p < s.size) (hl : lineT s (p : Nat) = (t, nx, er)) (he : er = 0) (hx : lineR t = none) : derivR s (f + 1) L p n = ⟨[], n + 1, 2⟩ := by
  unfold derivR; rw [if_neg (by omega), hl, if_neg (by simpa using he)]; simp only; rw [hx]
theorem derivR_more {s : ByteArray} {f p n nx er : Nat} {t : ByteArray} {x : Bool × List Nat} {L : List (Bool × List Nat)} (hp : p < s.size) (hl : lineT s (p : Nat) = (t, nx, er)) (he : er = 0) (hx : lineR t = some x) : derivR s (f + 1) L p n = derivR s f (L ++ [x]) nx (n + 1) := by
  conv => lhs; unfold derivR
  rw [if_neg (by omega), hl, if_neg (by simpa using he)]; simp only; rw [hx]

theorem three_blocks (w : World) (c0 c1 c2 : Array Value) (t0 t1 t2 : TypeId) :
    Blk (((w.alloc (.cells c0 t0)).alloc (.cells c1 t1)).alloc (.cells c2 t2)) w.heap.size c0 t0 ∧ Blk (((w.alloc (.cells c0 t0)).alloc (.cells c1 t1)).alloc (.cells c2 t2)) (w.heap.size + 1) c1 t1 ∧ Blk (((w.alloc (.cells c0 t0)).alloc (.cells c1 t1)).alloc (.cells c2 t2)) (w.heap.size + 2) c2 t2 := by
  refine ⟨((Blk.new w c0 t0).alloc _).alloc _, ?_, ?_⟩
  · have := (Blk.new (w.alloc (.cells c0 t0)) c1 t1).alloc (.cells c2 t2)
    rw [World.size_alloc] at this
    exact this
  · have := Blk.new ((w.alloc (.cells c0 t0)).alloc (.cells c1 t1)) c2 t2
    rw [World.size_alloc, World.size_alloc] at this
    exact this

/-- three cells of the call's own, written -/
theorem three_set {wr : World} {B : Nat} {x0 x1 x2 : Value} {t0 t1 t2 : TypeId} (b0 : Blk wr B #[x0] t0) (b1 : Blk wr (B + 1) #[x1] t1) (b2 : Blk wr (B + 2) #[x2] t2) (y0 y1 y2 : Value) :
    Blk (((wr.setCell ⟨B, 0, none⟩ y0).setCell ⟨B + 1, 0, none⟩ y1).setCell ⟨B + 1 + 1, 0, none⟩ y2).drew B #[y0] t0 ∧ Blk (((wr.setCell ⟨B, 0, none⟩ y0).setCell ⟨B + 1, 0, none⟩ y1).setCell ⟨B + 1 + 1, 0, none⟩ y2).drew (B + 1) #[y1] t1 ∧ Blk (((wr.setCell ⟨B, 0, none⟩ y0).setCell ⟨B + 1, 0, none⟩ y1).setCell ⟨B + 1 + 1, 0, none⟩ y2).drew (B + 2) #[y2] t2 ∧
    Kp (fun j => j = B ∨ j = B + 1 ∨ j = B + 2) wr (((wr.setCell ⟨B, 0, none⟩ y0).setCell ⟨B + 1, 0, none⟩ y1).setCell ⟨B + 1 + 1, 0, none⟩ y2).drew := by
  refine ⟨?_, ?_, ?_, ?_⟩
  · exact (((b0.set_same 0 y0).set_other (p := ⟨B + 1, 0, none⟩) (by simp) y1).set_other (p := ⟨B + 1 + 1, 0, none⟩) (by simp; omega) y2).drew
  · exact (((b1.set_other (p := ⟨B, 0, none⟩) (by simp) y0).set_same 0 y1).set_other (p := ⟨B + 1 + 1, 0, none⟩) (by simp) y2).drew
  · exact (((b2.set_other (p := ⟨B, 0, none⟩) (by simp) y0).set_other (p := ⟨B + 1, 0, none⟩) (by simp) y1).set_same 0 y2).drew
  · exact ((((Kp.refl _ wr).setCell (p := ⟨B, 0, none⟩) (fun _ => .inl rfl) y0).setCell (p := ⟨B + 1, 0, none⟩) (fun _ => .inr (.inl rfl)) y1).setCell (p := ⟨B + 1 + 1, 0, none⟩) (fun _ => .inr (.inr rfl)) y2).drew

end Go.Proofs.YtpejimlmokfppaaDoor
