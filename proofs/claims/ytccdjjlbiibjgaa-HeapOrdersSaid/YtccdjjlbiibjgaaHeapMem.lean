/-
  A heap in memory; score.Less, ahead, swap.
-/
import Derived.Test.YtccdjjlbiibjgaaRows
import Derived.Test.YtccdjjlbiibjgaaBase
import Derived.Test.YtccdjjlbiibjgaaHeapPlain
import Derived.BigRegion
import Derived.Deep.QuietTactic
import Derived.BigQuiet
namespace Go.Proofs.Ytccdjjlbiibjgaa
open Go.RowKit

def rowF (f : Nat → Value) (n : Nat) : List Value := (List.range n).map f

theorem rowF_length (f : Nat → Value) (n : Nat) : (rowF f n).length = n := by simp [rowF]
theorem rowF_at {f : Nat → Value} {n i : Nat} (h : i < n) : (rowF f n)[i]? = some (f i) := by simp [rowF, h]
theorem rowF_congr {f g : Nat → Value} {n : Nat} (h : ∀ j, j < n → f j = g j) : rowF f n = rowF g n := by
  unfold rowF; apply List.map_congr_left; intro j hj; exact h j (List.mem_range.1 hj)
theorem rowF_set (f : Nat → Value) (n i : Nat) (v : Value) : (rowF f n).set i v = rowF (up1 f i v) n := by
  apply List.ext_getElem?
  intro j
  by_cases hj : j < n
  · rw [rowF_at hj, List.getElem?_set]
    by_cases e : i = j
    · subst e; simp [rowF_length, hj, up1]
    · rw [if_neg e, rowF_at hj, up1_off _ _ (fun h => e h.symm)]
  · rw [List.getElem?_eq_none (by rw [List.length_set, rowF_length]; omega), List.getElem?_eq_none (by rw [rowF_length]; omega)]
theorem rowF_snoc (f : Nat → Value) (n : Nat) (v : Value) : rowF f n ++ [v] = rowF (up1 f n v) (n + 1) := by
  unfold rowF
  rw [List.range_succ, List.map_append]
  congr 1
  · apply List.map_congr_left; intro j hj; rw [up1_off _ _ (by have := List.mem_range.1 hj; omega)]
  · simp [up1]
theorem rowF_take (f : Nat → Value) {n m : Nat} (h : m ≤ n) : (rowF f n).take m = rowF f m := by
  unfold rowF
  rw [← List.map_take, List.take_range, Nat.min_eq_left h]

def nts (T : Nat → Nat) (m : Nat) : List Value := rowF (fun i => .int .i64 (T i : Int)) m
def zts (Q : Nat → Int) (n : Nat) : List Value := rowF (fun i => .int .i64 (Q i)) n
def fls (S : Nat → Nat) (n : Nat) : List Value := rowF (fun i => .float .f64 (S i)) n

theorem nts_length (T : Nat → Nat) (m : Nat) : (nts T m).length = m := rowF_length ..
theorem zts_length (T : Nat → Int) (m : Nat) : (zts T m).length = m := rowF_length ..
theorem fls_length (T : Nat → Nat) (m : Nat) : (fls T m).length = m := rowF_length ..
theorem nts_at {T : Nat → Nat} {m i : Nat} (h : i < m) : (nts T m)[i]? = some (.int .i64 (T i : Int)) := rowF_at h
theorem zts_at {T : Nat → Int} {m i : Nat} (h : i < m) : (zts T m)[i]? = some (.int .i64 (T i)) := rowF_at h
theorem fls_at {T : Nat → Nat} {m i : Nat} (h : i < m) : (fls T m)[i]? = some (.float .f64 (T i)) := rowF_at h
theorem nts_set (T : Nat → Nat) (m i x : Nat) : (nts T m).set i (.int .i64 (x : Int)) = nts (up1 T i x) m := by
  unfold nts; rw [rowF_set]; apply rowF_congr; intro j _; unfold up1; split <;> rfl
theorem zts_set (T : Nat → Int) (m i : Nat) (x : Int) : (zts T m).set i (.int .i64 x) = zts (up1 T i x) m := by
  unfold zts; rw [rowF_set]; apply rowF_congr; intro j _; unfold up1; split <;> rfl
theorem fls_set (T : Nat → Nat) (m i x : Nat) : (fls T m).set i (.float .f64 x) = fls (up1 T i x) m := by
  unfold fls; rw [rowF_set]; apply rowF_congr; intro j _; unfold up1; split <;> rfl
theorem nts_snoc (T : Nat → Nat) (m x : Nat) : nts T m ++ [.int .i64 (x : Int)] = nts (up1 T m x) (m + 1) := by
  unfold nts; rw [rowF_snoc]; apply rowF_congr; intro j _; unfold up1; split <;> rfl
theorem nts_congr {T T' : Nat → Nat} {m : Nat} (h : ∀ j, j < m → T j = T' j) : nts T m = nts T' m := rowF_congr fun j hj => by rw [h j hj]

theorem sw_up1 (T : Nat → Nat) (i k : Nat) : up1 (up1 T i (T k)) k (T i) = sw T i k := by
  funext j
  unfold up1 sw
  by_cases h1 : j = k
  · subst h1
    by_cases h2 : j = i
    · subst h2; simp
    · simp [h2]
  · by_cases h2 : j = i
    · subst h2; simp [h1]
    · simp [h1, h2]

/-- the heap at block h: its three lists, in blocks of their own -/
structure Hp (w : World) (base h : Nat) (vs vt va : Value) (n m : Nat) (S T : Nat → Nat) (Q : Nat → Int) : Prop where
  blk : Blk w h #[vs, vt, va] 45
  low : base ≤ h
  s : Own w base 28 vs (fls S n)
  t : Own w base 3 vt (nts T m)
  a : Own w base 3 va (zts Q n)
  hs : ∀ j, vs.ownBlock = some j → j ≠ h ∧ vt.ownBlock ≠ some j ∧ va.ownBlock ≠ some j
  ht : ∀ j, vt.ownBlock = some j → j ≠ h ∧ va.ownBlock ≠ some j
  ha : ∀ j, va.ownBlock = some j → j ≠ h

section
variable {w w' : World} {base h n m : Nat} {vs vt va : Value} {S T : Nat → Nat} {Q : Nat → Int}

theorem Hp.drewN (H : Hp w base h vs vt va n m S T Q) (k : Nat) : Hp (w.drewN k) base h vs vt va n m S T Q := ⟨H.blk, H.low, H.s, H.t, H.a, H.hs, H.ht, H.ha⟩
theorem Hp.drew (H : Hp w base h vs vt va n m S T Q) : Hp w.drew base h vs vt va n m S T Q := ⟨H.blk, H.low, H.s, H.t, H.a, H.hs, H.ht, H.ha⟩

theorem Hp.kp {X : Nat → Prop} (H : Hp w base h vs vt va n m S T Q) (k : Kp X w w') (hX : ∀ j, base ≤ j → j < w.heap.size → ¬ X j) : Hp w' base h vs vt va n m S T Q :=
  ⟨H.blk.kp k (hX h H.low H.blk.lt), H.low, H.s.kp k (fun j hj => hX j (H.s.lt j hj).1 (H.s.lt j hj).2), H.t.kp k (fun j hj => hX j (H.t.lt j hj).1 (H.t.lt j hj).2), H.a.kp k (fun j hj => hX j (H.a.lt j hj).1 (H.a.lt j hj).2), H.hs, H.ht, H.ha⟩

theorem Hp.setT {g c : Nat} (H : Hp w base h vs (.slice (some ⟨g, 0, none⟩) m c) va n m S T Q) (i x : Nat) : Hp (w.setCell ⟨g, i, none⟩ (.int .i64 (x : Int))) base h vs (.slice (some ⟨g, 0, none⟩) m c) va n m S (up1 T i x) Q := by
  refine ⟨H.blk.set_other (p := ⟨g, i, none⟩) (fun e => (H.ht g rfl).1 e.symm) _, H.low, H.s.set_other (p := ⟨g, i, none⟩) (fun j hj e => (H.hs j hj).2.1 (by rw [e]; rfl)) _, ?_, H.a.set_other (p := ⟨g, i, none⟩) (fun j hj e => (H.ht g rfl).2 (by rw [hj, e])) _, H.hs, H.ht, H.ha⟩
  rw [← nts_set]; exact H.t.set i _

theorem Hp.setA {g c k : Nat} (H : Hp w base h vs vt (.slice (some ⟨g, 0, none⟩) k c) n m S T Q) (i : Nat) (x : Int) : Hp (w.setCell ⟨g, i, none⟩ (.int .i64 x)) base h vs vt (.slice (some ⟨g, 0, none⟩) k c) n m S T (up1 Q i x) := by
  refine ⟨H.blk.set_other (p := ⟨g, i, none⟩) (fun e => H.ha g rfl e.symm) _, H.low, H.s.set_other (p := ⟨g, i, none⟩) (fun j hj e => (H.hs j hj).2.2 (by rw [e]; rfl)) _, H.t.set_other (p := ⟨g, i, none⟩) (fun j hj e => (H.ht j hj).2 (by rw [e]; rfl)) _, ?_, H.hs, H.ht, H.ha⟩
  rw [← zts_set]; exact H.a.set i _

theorem Hp.setS {g c k : Nat} (H : Hp w base h (.slice (some ⟨g, 0, none⟩) k c) vt va n m S T Q) (i x : Nat) : Hp (w.setCell ⟨g, i, none⟩ (.float .f64 x)) base h (.slice (some ⟨g, 0, none⟩) k c) vt va n m (up1 S i x) T Q := by
  refine ⟨H.blk.set_other (p := ⟨g, i, none⟩) (fun e => (H.hs g rfl).1 e.symm) _, H.low, ?_, H.t.set_other (p := ⟨g, i, none⟩) (fun j hj e => (H.hs g rfl).2.1 (by rw [hj, e])) _, H.a.set_other (p := ⟨g, i, none⟩) (fun j hj e => (H.hs g rfl).2.2 (by rw [hj, e])) _, H.hs, H.ht, H.ha⟩
  rw [← fls_set]; exact H.s.set i _
end

set_option maxHeartbeats 400000 in
theorem score_Less (a b : Nat) (w : World) :
    Calls Try.prog 10 #[.float .f64 a, .float .f64 b] w fun e w' => e = .returned (.bool (lessB a b)) ∧ w = w' := by
  have ha := self_order a
  have hb := self_order b
  have fa : FloatKind.f64.format = Ieee.double := rfl
  by_cases h1 : (fk a).1 = -2
  · have HO := Lib.hid (less_odd (.inl h1 : (fk a).1 = -2 ∨ (fk b).1 = -2))
    rw [h1] at ha
    have q1 : (FloatKind.f64.format.order a a != some .eq) = true := by rw [fa]; unfold bne; rw [ha]; simp
    obtain ⟨B, hB⟩ : ∃ B, (FloatKind.f64.format.order b b == some .eq) = B := ⟨_, rfl⟩
    rw [fa] at hB
    have HB := Lib.hid (show B = decide ((fk b).1 ≠ -2) by rw [← hB]; exact hb)
    have hB' : (FloatKind.f64.format.order b b == some .eq) = B := hB
    have H1 := Lib.hid h1
    clear ha hb h1 hB fa
    go_enter Try.func10, Try.ntmps10
    go_wp2
    go_ret
    rw [← HO.out, HB.out, H1.out]
    exact ⟨by simp, rfl⟩
  · by_cases h2 : (fk b).1 = -2
    · have HO := Lib.hid (less_odd (.inr h2 : (fk a).1 = -2 ∨ (fk b).1 = -2))
      have q1 : (FloatKind.f64.format.order a a != some .eq) = false := by rw [fa]; unfold bne; rw [ha]; simp [h1]
      have q2 : (FloatKind.f64.format.order b b != some .eq) = true := by rw [fa]; unfold bne; rw [hb]; simp [h2]
      have H1 := Lib.hid h1
      clear ha hb h1 fa h2
      go_enter Try.func10, Try.ntmps10
      go_wp2
      go_ret
      rw [← HO.out]
      exact ⟨by simp [H1.out], rfl⟩
    · have HO := Lib.hid (less_lt h1 h2)
      have q1 : (FloatKind.f64.format.order a a != some .eq) = false := by rw [fa]; unfold bne; rw [ha]; simp [h1]
      have q2 : (FloatKind.f64.format.order b b != some .eq) = false := by rw [fa]; unfold bne; rw [hb]; simp [h2]
      clear ha hb h1 fa h2
      go_enter Try.func10, Try.ntmps10
      go_wp2
      go_ret
      rw [← HO.out]
      exact ⟨rfl, rfl⟩

set_option maxHeartbeats 400000 in
theorem heap_ahead {w : World} {base h n m : Nat} {vs vt va : Value} {S T : Nat → Nat} {Q : Nat → Int} (H : Hp w base h vs vt va n m S T Q) (hn : n ≤ 1048576) {a b : Nat} (ha : a < n) (hb : b < n) :
    Calls Try.prog 27 #[.pointer (some ⟨h, 0, none⟩), .int .i64 a, .int .i64 b] w fun e w' => e = .returned (.bool (aheadB S a b)) ∧ ∃ q, w' = w.drewN q := by
  obtain ⟨g, c, rfl, _, _⟩ := H.s.leads (by rw [fls_length]; omega)
  have hS := H.s
  rw [fls_length] at hS
  have c0 : w.cell? ⟨h, 0, none⟩ = some (.slice (some ⟨g, 0, none⟩) n c) := by have := H.blk.cell (i := 0) rfl; rw [fls_length] at this; exact this
  have ca := hS.cell (fls_at ha)
  have cb := hS.cell (fls_at hb)
  have a1 : (a : Int) < (n : Int) := by omega
  have b1 : (b : Int) < (n : Int) := by omega
  have a0 : (0 : Int) ≤ (a : Int) := by omega
  have b0 : (0 : Int) ≤ (b : Int) := by omega
  have HE := Lib.hid (show aheadB S a b = (lessB (S b) (S a) || (!lessB (S a) (S b) && decide (a < b))) from rfl)
  obtain ⟨x, hx⟩ : ∃ x, S a = x := ⟨_, rfl⟩
  obtain ⟨y, hy⟩ : ∃ y, S b = y := ⟨_, rfl⟩
  rw [hx] at ca HE
  rw [hy] at cb HE
  clear hx hy hS H
  by_cases l1 : lessB y x = true
  · rw [l1] at HE
    go_enter Try.func27, Try.ntmps27
    go_wp2
    go_quiet (fail)
    go_wp2_with fail
    refine (score_Less _ _ _).mono ?_
    rintro e w' ⟨rfl, rfl⟩
    rw [l1]
    go_wp2_with fail
    go_ret
    rw [HE.out]
    exact ⟨rfl, _, rfl⟩
  · have l1' : lessB y x = false := by simpa using l1
    rw [l1'] at HE
    by_cases l2 : lessB x y = true
    · rw [l2] at HE
      go_enter Try.func27, Try.ntmps27
      go_wp2
      go_quiet (fail)
      go_wp2_with fail
      refine (score_Less _ _ _).mono ?_
      rintro e w' ⟨rfl, rfl⟩
      rw [l1']
      go_wp2_with fail
      refine (score_Less _ _ _).mono ?_
      rintro e w' ⟨rfl, rfl⟩
      rw [l2]
      go_wp2_with fail
      go_ret
      rw [HE.out]
      exact ⟨rfl, _, rfl⟩
    · have l2' : lessB x y = false := by simpa using l2
      rw [l2'] at HE
      go_enter Try.func27, Try.ntmps27
      go_wp2
      go_quiet (fail)
      go_wp2_with fail
      refine (score_Less _ _ _).mono ?_
      rintro e w' ⟨rfl, rfl⟩
      rw [l1']
      go_wp2_with fail
      refine (score_Less _ _ _).mono ?_
      rintro e w' ⟨rfl, rfl⟩
      rw [l2']
      go_wp2_with fail
      go_ret
      rw [HE.out]
      exact ⟨by simp, _, rfl⟩

end Go.Proofs.Ytccdjjlbiibjgaa
