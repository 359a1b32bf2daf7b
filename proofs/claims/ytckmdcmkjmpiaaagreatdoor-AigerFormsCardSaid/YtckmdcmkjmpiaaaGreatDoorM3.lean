/-
  Maps of the call's own from numbers to truths, and to numbers.
-/
import Derived.Test.YtckmdcmkjmpiaaaGreatDoorRows
import Derived.Test.YtckmdcmkjmpiaaaGreatDoorM1
import Derived.Maps.Views
import Derived.Maps.OwnSet
import Derived.Test.YtckmdcmkjmpiaaaGreatDoorM2
set_option linter.unusedVariables false
set_option linter.unusedSimpArgs false
namespace Go.Proofs.YtckmdcmkjmpiaaaGreatDoor
open Go.RowKit
open Go.Maps (Keyed)

theorem intk_keyed : Keyed Tryz.prog 3 := Maps.int_keyed Tryz.underlying3

def okInt (x : Int) : Prop := -9223372036854775808 ≤ x ∧ x ≤ 9223372036854775807
theorem okInt.wf {x : Int} (h : okInt x) : (Lit.int .i64 x).wf = true := by
  unfold okInt at h
  simp [Lit.wf, IntKind.min, IntKind.max, IntKind.signed, IntKind.bits]; omega
theorem intk_key {x : Int} (h : okInt x) : keyOf Tryz.prog 3 (.int .i64 x) = some (.int .i64 x) := Maps.keyOf_int_mk Tryz.underlying3 h.wf

theorem boolv_elem {H : Type} {P : Program} {e : TypeId} (he : P.underlying e = some .bool) {v : Value} {x : Bool} {ps : List MemPlace} (h : plainElem (H := H) P e v = some (.lit (.bool x), ps)) : v = .bool x := by
  unfold plainElem at h
  rw [he] at h
  cases v <;> simp at h
  rw [h.1]

/-- block b is a map in which F tells what stands by each number -/
def IMB (w : World) (b n : Nat) (F : Int → Bool) : Prop :=
  ∃ D : DataW Unit, w.ownsMap Tryz.prog 3 (plainElem Tryz.prog 4) b n D ∧ Maps.IsMap D ∧ ∀ x, okInt x → D.atKey (.int .i64 x) (.lit (.bool false)) = .lit (.bool (F x))

theorem IMB.made (w : World) : IMB (w.alloc (.map #[] 0)) w.heap.size 0 (fun _ => false) :=
  ⟨.map [], World.ownsMap_made _ _ _ _, Maps.isMap_empty, fun x _ => by simp [DataW.atKey]⟩

theorem IMB.lt {w : World} {b n : Nat} {F : Int → Bool} (h : IMB w b n F) : b < w.heap.size := by
  obtain ⟨D, h, _⟩ := h
  exact h.lt

theorem IMB.kp {S : Nat → Prop} {w w' : World} {b n : Nat} {F : Int → Bool} (h : IMB w b n F) (k : Kp S w w') (hS : ¬ S b) : IMB w' b n F := by
  have hb := h.lt
  obtain ⟨D, ⟨es, clock, h1, h2⟩, h3⟩ := h
  exact ⟨D, ⟨es, clock, (k.block b hb hS).trans h1, h2⟩, h3⟩

theorem IMB.look {w : World} {b n : Nat} {F : Int → Bool} (h : IMB w b n F) {x : Int} (hx : okInt x) :
    (Instr.lookup 89 (.map (some b)) (.int .i64 x) false).run Tryz.prog w = .ok (.bool (F x)) w := by
  obtain ⟨D, h1, _, h2⟩ := h
  obtain ⟨v, ps, hr, hv⟩ := h1.lookup intk_keyed Tryz.underlying89 (Tryz.zeroValue4 w) (plainElem_bool Tryz.underlying4 false) (intk_key hx)
  rw [h2 x hx] at hv
  rw [boolv_elem Tryz.underlying4 hv] at hr
  exact hr

theorem IMB.put {w : World} {b n : Nat} {F : Int → Bool} (h : IMB w b n F) (hn : n < maxLen) {x : Int} (hx : okInt x) (v : Bool) :
    ∃ w', (Instr.mapUpdate 89 (.map (some b)) (.int .i64 x) (.bool v)).run Tryz.prog w = .ok () w' ∧ IMB w' b (n + 1) (fun y => if y = x then v else F y) ∧ Kp (· = b) w w' := by
  obtain ⟨D, h1, hD, h2⟩ := h
  obtain ⟨w', hr, h3, hg⟩ := h1.update intk_keyed Tryz.underlying89 hn (intk_key hx) (plainElem_bool Tryz.underlying4 v)
  refine ⟨w', hr, ⟨_, h3, hD.put _ _, fun y hy => ?_⟩, (Kp.refl _ w).grown hg (fun j hj _ => by simpa using hj.symm)⟩
  show _ = DataW.lit (.bool (if y = x then v else F y))
  by_cases e : y = x
  · subst e
    rw [Maps.atKey_put_same hD (intk_keyed.key (intk_key hx)), if_pos rfl]
  · rw [if_neg e, Maps.atKey_put_other (fun h => e (by simpa using h)), h2 y hy]

/-- block b is a map in which F tells what stands by each number, if something does -/
def IMI (w : World) (b n : Nat) (F : Int → Option Int) : Prop :=
  ∃ D : DataW Unit, w.ownsMap Tryz.prog 3 (plainElem Tryz.prog 3) b n D ∧ Maps.IsMap D ∧ ∀ x, okInt x → D.atKey (.int .i64 x) (.lit (.int .i64 0)) = .lit (.int .i64 ((F x).getD 0)) ∧ Maps.has D (.int .i64 x) = (F x).isSome

theorem IMI.made (w : World) : IMI (w.alloc (.map #[] 0)) w.heap.size 0 (fun _ => none) :=
  ⟨.map [], World.ownsMap_made _ _ _ _, Maps.isMap_empty, fun x _ => ⟨by simp [DataW.atKey], rfl⟩⟩

theorem IMI.lt {w : World} {b n : Nat} {F : Int → Option Int} (h : IMI w b n F) : b < w.heap.size := by
  obtain ⟨D, h, _⟩ := h
  exact h.lt

theorem IMI.kp {S : Nat → Prop} {w w' : World} {b n : Nat} {F : Int → Option Int} (h : IMI w b n F) (k : Kp S w w') (hS : ¬ S b) : IMI w' b n F := by
  have hb := h.lt
  obtain ⟨D, ⟨es, clock, h1, h2⟩, h3⟩ := h
  exact ⟨D, ⟨es, clock, (k.block b hb hS).trans h1, h2⟩, h3⟩

theorem IMI.look {w : World} {b n : Nat} {F : Int → Option Int} (h : IMI w b n F) {x : Int} (hx : okInt x) :
    (Instr.lookup 137 (.map (some b)) (.int .i64 x) true).run Tryz.prog w = .ok (.tuple #[.int .i64 ((F x).getD 0), .bool (F x).isSome]) w := by
  obtain ⟨D, h1, _, h2⟩ := h
  obtain ⟨v, ps, hr, hv⟩ := h1.look_ok intk_keyed Tryz.underlying137 (Tryz.zeroValue3 w) (plainElem_int Tryz.underlying3 (q := .i64) (a := 0) (by decide)) (intk_key hx)
  rw [(h2 x hx).1] at hv
  obtain ⟨c, rfl, hc, _⟩ := plainElem_int_inv Tryz.underlying3 hv
  simp only [Prod.mk.injEq, DataW.lit.injEq, Lit.int.injEq, true_and] at hc
  rw [(h2 x hx).2, ← hc.1] at hr
  exact hr

theorem IMI.put {w : World} {b n : Nat} {F : Int → Option Int} (h : IMI w b n F) (hn : n < maxLen) {x : Int} (hx : okInt x) {v : Int} (hv : okInt v) :
    ∃ w', (Instr.mapUpdate 137 (.map (some b)) (.int .i64 x) (.int .i64 v)).run Tryz.prog w = .ok () w' ∧ IMI w' b (n + 1) (fun y => if y = x then some v else F y) ∧ Kp (· = b) w w' := by
  obtain ⟨D, h1, hD, h2⟩ := h
  obtain ⟨w', hr, h3, hg⟩ := h1.update intk_keyed Tryz.underlying137 hn (intk_key hx) (plainElem_int Tryz.underlying3 hv.wf)
  refine ⟨w', hr, ⟨_, h3, hD.put _ _, fun y hy => ?_⟩, (Kp.refl _ w).grown hg (fun j hj _ => by simpa using hj.symm)⟩
  show _ = DataW.lit (.int .i64 ((if y = x then some v else F y).getD 0)) ∧ _ = (if y = x then some v else F y).isSome
  by_cases e : y = x
  · subst e
    rw [Maps.atKey_put_same hD (intk_keyed.key (intk_key hx)), Maps.has_put_same hD (intk_keyed.key (intk_key hx)), if_pos rfl]
    exact ⟨rfl, rfl⟩
  · rw [if_neg e, Maps.atKey_put_other (fun h => e (by simpa using h)), Maps.has_put_other (fun h => e (by simpa using h))]
    exact h2 y hy

end Go.Proofs.YtckmdcmkjmpiaaaGreatDoor

/-
  What circ.Order keeps in memory: the map of places, what is lacking, what is above, the heap, and the order so far.
-/
namespace Go.Proofs.YtckmdcmkjmpiaaaGreatDoor
open Go.RowKit

def nv (l : List Nat) : List Value := l.map (fun (i : Nat) => Value.int .i64 (i : Int))
theorem nv_length (l : List Nat) : (nv l).length = l.length := List.length_map ..
theorem nv_snoc (l : List Nat) (i : Nat) : nv (l ++ [i]) = nv l ++ [.int .i64 (i : Int)] := by simp [nv]
def gn (l : List Nat) (k : Nat) : Nat := l[k]?.getD 0
theorem nv_at {l : List Nat} {k : Nat} (h : k < l.length) : (nv l)[k]? = some (.int .i64 (gn l k : Int)) := by
  unfold nv gn; rw [List.getElem?_map, List.getElem?_eq_getElem h]; rfl
/-- the memory of circ.Order -/
structure OS (w : World) (bp gl ga h n np : Nat) (F : Int → Option Int) (L : Nat → Int) (R : Nat → Value) (A : Nat → List Nat) (X M : Nat → Prop) (vo : Value) (out : List Nat) (wr : World) : Prop where
  pl : IMI wr bp np F
  la : Blk wr gl (zts L n).toArray 3
  ab : Blk wr ga (rowF R n).toArray 22
  ow : ∀ k, k < n → Own wr w.heap.size 3 (R k) (nv (A k))
  hp : HSet wr w.heap.size h n X M
  oo : Own wr w.heap.size 3 vo (nv out)
  kp : Kp (fun _ => False) w wr
  lo : w.heap.size ≤ bp ∧ w.heap.size ≤ gl ∧ w.heap.size ≤ ga
  d1 : bp ≠ gl ∧ bp ≠ ga ∧ gl ≠ ga ∧ ¬ X bp ∧ ¬ X gl ∧ ¬ X ga
  d2 : ∀ k, k < n → ∀ j, (R k).ownBlock = some j → j ≠ bp ∧ j ≠ gl ∧ j ≠ ga ∧ ¬ X j
  d3 : ∀ k k', k < n → k' < n → k ≠ k' → ∀ j, (R k).ownBlock = some j → (R k').ownBlock ≠ some j
  d4 : ∀ j, vo.ownBlock = some j → j ≠ bp ∧ j ≠ gl ∧ j ≠ ga ∧ ¬ X j ∧ ∀ k, k < n → (R k).ownBlock ≠ some j

section
variable {w wr wr' : World} {bp gl ga h n np : Nat} {F : Int → Option Int} {L : Nat → Int} {R : Nat → Value} {A : Nat → List Nat} {X M : Nat → Prop} {vo : Value} {out : List Nat}

theorem OS.fresh (H : OS w bp gl ga h n np F L R A X M vo out wr) (k : Kp (fun _ => False) wr wr') : OS w bp gl ga h n np F L R A X M vo out wr' :=
  ⟨H.pl.kp k (fun h => h), H.la.kp k (fun h => h), H.ab.kp k (fun h => h), fun i hi => (H.ow i hi).kp k (fun _ _ h => h), H.hp.kp k (fun _ _ h => h), H.oo.kp k (fun _ _ h => h), H.kp.trans k (fun _ _ h => h), H.lo, H.d1, H.d2, H.d3, H.d4⟩

theorem OS.same {L' : Nat → Int} {A' : Nat → List Nat} {M' : Nat → Prop} (H : OS w bp gl ga h n np F L R A X M vo out wr) (h1 : ∀ k, k < n → L k = L' k) (h2 : ∀ k, k < n → A k = A' k) (h3 : ∀ x, M x ↔ M' x) : OS w bp gl ga h n np F L' R A' X M' vo out wr :=
  ⟨H.pl, by rw [← zts_congr h1]; exact H.la, H.ab, fun i hi => by rw [← h2 i hi]; exact H.ow i hi, H.hp.same h3, H.oo, H.kp, H.lo, H.d1, H.d2, H.d3, H.d4⟩

theorem OS.cellL (H : OS w bp gl ga h n np F L R A X M vo out wr) {k : Nat} (hk : k < n) : wr.cell? ⟨gl, k, none⟩ = some (.int .i64 (L k)) :=
  H.la.cell (by have := zts_at (T := L) hk; simpa using this)
theorem OS.freeL (H : OS w bp gl ga h n np F L R A X M vo out wr) (k : Nat) : wr.frozen? ⟨gl, k, none⟩ = false := H.la.free k
theorem OS.cellA (H : OS w bp gl ga h n np F L R A X M vo out wr) {k : Nat} (hk : k < n) : wr.cell? ⟨ga, k, none⟩ = some (R k) :=
  H.ab.cell (by have := rowF_at (f := R) hk; simpa using this)
theorem OS.setL (H : OS w bp gl ga h n np F L R A X M vo out wr) (k : Nat) (x : Int) : OS w bp gl ga h n np F (up1 L k x) R A X M vo out (wr.setCell ⟨gl, k, none⟩ (.int .i64 x)) := by
  have hK : Kp (fun j => j = gl) wr (wr.setCell ⟨gl, k, none⟩ (.int .i64 x)) := Kp.set wr ⟨gl, k, none⟩ _
  refine ⟨H.pl.kp hK H.d1.1, ?_, H.ab.kp hK (fun e => H.d1.2.2.1 e.symm), fun i hi => (H.ow i hi).kp hK (fun j hj e => (H.d2 i hi j hj).2.1 e), H.hp.kp hK (fun j hj e => H.d1.2.2.2.2.1 (e ▸ hj)), H.oo.kp hK (fun j hj e => (H.d4 j hj).2.1 e), H.kp.setCell (p := ⟨gl, k, none⟩) (fun hl => by have := H.lo.2.1; exact absurd hl (Nat.not_lt.2 this)) _, H.lo, H.d1, H.d2, H.d3, H.d4⟩
  have := H.la.set_same k (.int .i64 x)
  have e : (zts L n).toArray.setIfInBounds k (.int .i64 x) = ((zts L n).set k (.int .i64 x)).toArray := by simp
  rw [e, zts_set] at this
  exact this

/-- one more gate above gate k -/
theorem OS.snoc {w1 w2 : World} {v' : Value} {i k : Nat} (H : OS w bp gl ga h n np F L R A X M vo out wr) (hk : k < n) (hK : Kp (fun _ => False) wr w1)
    (hO : Own w2 w.heap.size 3 v' (nv (A k) ++ [.int .i64 (i : Int)])) (hg : w1.grownBy w2 (R k).ownBlock) (hat : v'.ownBlock = (R k).ownBlock ∨ v'.ownBlock = some w1.heap.size) :
    OS w bp gl ga h n np F L (up1 R k v') (up1 A k (A k ++ [i])) X M vo out (w2.setCell ⟨ga, k, none⟩ v') := by
  have H1 := H.fresh hK
  have hKg : Kp (fun j => (R k).ownBlock = some j) w1 w2 := (Kp.refl _ w1).grown hg (fun j hj _ => hj)
  have hsz := hKg.size
  have hKs : Kp (fun j => j = ga) w2 (w2.setCell ⟨ga, k, none⟩ v') := Kp.set w2 ⟨ga, k, none⟩ _
  have hKK : Kp (fun j => (R k).ownBlock = some j ∨ j = ga) w1 (w2.setCell ⟨ga, k, none⟩ v') := (hKg.mono (fun _ _ h => .inl h)).trans hKs (fun _ _ h => .inr h)
  have hv : ∀ j, v'.ownBlock = some j → (R k).ownBlock = some j ∨ w1.heap.size ≤ j := fun j hj => by
    rcases hat with e | e
    · exact .inl (e ▸ hj)
    · rw [e] at hj; right; have : w1.heap.size = j := by simpa using hj
      omega
  have hXlt : ∀ j, X j → j < w1.heap.size := fun j hj => (H1.hp.lt hj).2
  have hRlt : ∀ i, i < n → ∀ j, (R i).ownBlock = some j → j < w1.heap.size := fun i hi j hj => ((H1.ow i hi).lt j hj).2
  have hgl := H1.la.lt
  have hga := H1.ab.lt
  have hbp := H1.pl.lt
  have hne : ∀ j, v'.ownBlock = some j → j ≠ bp ∧ j ≠ gl ∧ j ≠ ga ∧ ¬ X j := fun j hj => by
    rcases hv j hj with e | e
    · exact H.d2 k hk j e
    · exact ⟨by omega, by omega, by omega, fun hx => by have := hXlt j hx; omega⟩
  refine ⟨H1.pl.kp hKK (fun e => ?_), H1.la.kp hKK (fun e => ?_), ?_, fun i' hi' => ?_, H1.hp.kp hKK (fun j hj e => ?_), H1.oo.kp hKK (fun j hj e => ?_), ?_, H.lo, H.d1, fun i' hi' j hj => ?_, fun a b ha hb hab j hj => ?_, fun j hj => ?_⟩
  · rcases e with e | e
    · exact (H.d2 k hk _ e).1 rfl
    · exact H.d1.2.1 e
  · rcases e with e | e
    · exact (H.d2 k hk _ e).2.1 rfl
    · exact H.d1.2.2.1 e
  · have hab : Blk w2 ga (rowF R n).toArray 22 := H1.ab.kp hKg (fun e => (H.d2 k hk _ e).2.2.1 rfl)
    have := hab.set_same k v'
    have e : (rowF R n).toArray.setIfInBounds k v' = ((rowF R n).set k v').toArray := by simp
    rw [e, rowF_set] at this
    exact this
  · by_cases e : i' = k
    · subst e
      rw [up1_at, up1_at, nv_snoc]
      exact hO.kp hKs (fun j hj e => (hne j hj).2.2.1 e)
    · rw [up1_off _ _ e, up1_off _ _ e]
      refine (H1.ow i' hi').kp hKK (fun j hj h => ?_)
      rcases h with h | h
      · exact H.d3 i' k hi' hk e j hj h
      · exact (H.d2 i' hi' j hj).2.2.1 h
  · rcases e with e | e
    · exact (H.d2 k hk _ e).2.2.2 hj
    · exact H.d1.2.2.2.2.2 (e ▸ hj)
  · rcases e with e | e
    · exact (H.d4 j hj).2.2.2.2 k hk e
    · exact (H.d4 j hj).2.2.1 e
  · exact (H1.kp.grown hg (fun j hj hl => by have := ((H.ow k hk).lt j hj).1; omega)).setCell (p := ⟨ga, k, none⟩) (fun hl => by have := H.lo.2.2; exact absurd hl (Nat.not_lt.2 this)) _
  · by_cases e : i' = k
    · subst e; rw [up1_at] at hj; exact hne j hj
    · rw [up1_off _ _ e] at hj; exact H.d2 i' hi' j hj
  · by_cases ea : a = k
    · subst ea
      rw [up1_at] at hj
      rw [up1_off _ _ (fun e => hab e.symm)]
      intro hb'
      rcases hv j hj with h | h
      · exact H.d3 a b ha hb hab j h hb'
      · have := hRlt b hb j hb'; omega
    · rw [up1_off _ _ ea] at hj
      by_cases eb : b = k
      · subst eb
        rw [up1_at]
        intro hb'
        rcases hv j hb' with h | h
        · exact H.d3 a b ha hb hab j hj h
        · have := hRlt a ha j hj; omega
      · rw [up1_off _ _ eb]; exact H.d3 a b ha hb hab j hj
  · obtain ⟨q1, q2, q3, q4, q5⟩ := H.d4 j hj
    refine ⟨q1, q2, q3, q4, fun i' hi' => ?_⟩
    by_cases e : i' = k
    · subst e
      rw [up1_at]
      intro hb
      rcases hv j hb with h | h
      · exact q5 i' hi' h
      · have := (H1.oo.lt j hj).2; omega
    · rw [up1_off _ _ e]; exact q5 i' hi'

/-- the order grows -/
theorem OS.outS {w1 w2 : World} {v' : Value} {i : Nat} (H : OS w bp gl ga h n np F L R A X M vo out wr) (hK : Kp (fun _ => False) wr w1)
    (hO : Own w2 w.heap.size 3 v' (nv out ++ [.int .i64 (i : Int)])) (hg : w1.grownBy w2 vo.ownBlock) (hat : v'.ownBlock = vo.ownBlock ∨ v'.ownBlock = some w1.heap.size) :
    OS w bp gl ga h n np F L R A X M v' (out ++ [i]) w2 := by
  have H1 := H.fresh hK
  have hKg : Kp (fun j => vo.ownBlock = some j) w1 w2 := (Kp.refl _ w1).grown hg (fun j hj _ => hj)
  have hXlt : ∀ j, X j → j < w1.heap.size := fun j hj => (H1.hp.lt hj).2
  have hRlt : ∀ i, i < n → ∀ j, (R i).ownBlock = some j → j < w1.heap.size := fun i hi j hj => ((H1.ow i hi).lt j hj).2
  have hgl := H1.la.lt
  have hga := H1.ab.lt
  have hbp := H1.pl.lt
  refine ⟨H1.pl.kp hKg (fun e => (H.d4 _ e).1 rfl), H1.la.kp hKg (fun e => (H.d4 _ e).2.1 rfl), H1.ab.kp hKg (fun e => (H.d4 _ e).2.2.1 rfl), fun k hk => (H1.ow k hk).kp hKg (fun j hj e => (H.d4 j e).2.2.2.2 k hk hj), H1.hp.kp hKg (fun j hj e => (H.d4 j e).2.2.2.1 hj), by rw [nv_snoc]; exact hO, H1.kp.grown hg (fun j hj hl => by have := (H.oo.lt j hj).1; omega), H.lo, H.d1, H.d2, H.d3, fun j hj => ?_⟩
  rcases hat with e | e
  · exact H.d4 j (e ▸ hj)
  · rw [e] at hj
    have hj' : w1.heap.size = j := by simpa using hj
    exact ⟨by omega, by omega, by omega, fun hx => by have := hXlt j hx; omega, fun k hk hb => by have := hRlt k hk j hb; omega⟩

theorem OS.push (H : OS w bp gl ga h n np F L R A X M vo out wr) (hn : n ≤ 1048576) {id : Nat} (hid : id < n) (hm : ¬ M id) :
    Calls Tryz.prog 75 #[.pointer (some ⟨h, 0, none⟩), .int .i64 id] wr fun e w' => e = .returned (.int .i64 0) ∧ ∃ X', OS w bp gl ga h n np F L R A X' (fun x => M x ∨ x = id) vo out w' :=
  (H.hp.push hn hid hm).mono (by
    rintro e w' ⟨he, X', hp', hX', hK⟩
    have hgl := H.la.lt
    have hga := H.ab.lt
    have hbp := H.pl.lt
    have no : ∀ j, j < wr.heap.size → ¬ X j → ¬ X' j := fun j hj hx h => by
      rcases hX' j h with h | h
      · exact hx h
      · omega
    exact ⟨he, X', H.pl.kp hK H.d1.2.2.2.1, H.la.kp hK H.d1.2.2.2.2.1, H.ab.kp hK H.d1.2.2.2.2.2, fun k hk => (H.ow k hk).kp hK (fun j hj => (H.d2 k hk j hj).2.2.2), hp', H.oo.kp hK (fun j hj => (H.d4 j hj).2.2.2.1), H.kp.trans hK (fun j hj hx => by have := (H.hp.lt hx).1; omega), H.lo,
      ⟨H.d1.1, H.d1.2.1, H.d1.2.2.1, no _ hbp H.d1.2.2.2.1, no _ hgl H.d1.2.2.2.2.1, no _ hga H.d1.2.2.2.2.2⟩,
      fun k hk j hj => ⟨(H.d2 k hk j hj).1, (H.d2 k hk j hj).2.1, (H.d2 k hk j hj).2.2.1, no j ((H.ow k hk).lt j hj).2 (H.d2 k hk j hj).2.2.2⟩, H.d3,
      fun j hj => ⟨(H.d4 j hj).1, (H.d4 j hj).2.1, (H.d4 j hj).2.2.1, no j (H.oo.lt j hj).2 (H.d4 j hj).2.2.2.1, (H.d4 j hj).2.2.2.2⟩⟩)

theorem OS.pop (H : OS w bp gl ga h n np F L R A X M vo out wr) (hn : n ≤ 1048576) (hm : ∃ x, M x) :
    Calls Tryz.prog 76 #[.pointer (some ⟨h, 0, none⟩)] wr fun e w' => ∃ id : Nat, id < n ∧ e = .returned (.tuple #[.int .i64 id, .bool true]) ∧ M id ∧ (∀ x, M x → id ≤ x) ∧ OS w bp gl ga h n np F L R A X (fun x => M x ∧ x ≠ id) vo out w' :=
  (H.hp.pop hn hm).mono (by
    rintro e w' ⟨id, hid, he, h1, h2, hp', hK⟩
    exact ⟨id, hid, he, h1, h2, H.pl.kp hK H.d1.2.2.2.1, H.la.kp hK H.d1.2.2.2.2.1, H.ab.kp hK H.d1.2.2.2.2.2, fun k hk => (H.ow k hk).kp hK (fun j hj => (H.d2 k hk j hj).2.2.2), hp', H.oo.kp hK (fun j hj => (H.d4 j hj).2.2.2.1), H.kp.trans hK (fun j hj hx => by have := (H.hp.lt hx).1; omega), H.lo, H.d1, H.d2, H.d3, H.d4⟩)

theorem OS.pop0 (H : OS w bp gl ga h n np F L R A X M vo out wr) (hm : ∀ x, ¬ M x) :
    Calls Tryz.prog 76 #[.pointer (some ⟨h, 0, none⟩)] wr fun e w' => e = .returned (.tuple #[.int .i64 0, .bool false]) ∧ wr = w' := H.hp.pop0 hm

end

/-- which gate a variable is, by the first k gates -/
def placeF (G : List (Int × Int × Int)) : Nat → Int → Option Int
  | 0 => fun _ => none
  | k + 1 => fun y => if y = (g3 G k).1 / 2 then some (k : Int) else placeF G k y

theorem placeF_some {G : List (Int × Int × Int)} : ∀ {n : Nat} {y v : Int}, placeF G n y = some v → ∃ k : Nat, v = k ∧ k < n ∧ (g3 G k).1 / 2 = y
  | 0, _, _, h => by simp [placeF] at h
  | n + 1, y, v, h => by
    unfold placeF at h
    by_cases e : y = (g3 G n).1 / 2
    · simp only [e, if_true, Option.some.injEq] at h
      exact ⟨n, h.symm, by omega, e.symm⟩
    · simp only [e, if_false] at h
      obtain ⟨k, h1, h2, h3⟩ := placeF_some h
      exact ⟨k, h1, by omega, h3⟩

theorem placeF_isSome {G : List (Int × Int × Int)} : ∀ {n : Nat} {y : Int}, (placeF G n y).isSome = true ↔ ∃ k, k < n ∧ (g3 G k).1 / 2 = y
  | 0, y => by simp [placeF]
  | n + 1, y => by
    unfold placeF
    by_cases e : y = (g3 G n).1 / 2
    · simp only [e, if_true, Option.isSome_some, true_iff]
      exact ⟨n, by omega, rfl⟩
    · simp only [e, if_false, placeF_isSome]
      constructor
      · rintro ⟨k, h1, h2⟩; exact ⟨k, by omega, h2⟩
      · rintro ⟨k, h1, h2⟩
        refine ⟨k, ?_, h2⟩
        have : k ≠ n := fun ek => e (by rw [← h2, ek])
        omega

theorem waits_nil {G : List (Int × Int × Int)} {l : Int} : waitsB G [] l = (placeF G G.length (l / 2)).isSome := by
  rw [Bool.eq_iff_iff, waitsB_iff, placeF_isSome]
  simp

/-- above and lacking while gate i's literals are gone through -/
def abvP (G : List (Int × Int × Int)) (i q k : Nat) : List Nat := aboveL G k i ++ (((pins G i).take q).filter (fun p => decide (p / 2 = (g3 G k).1 / 2))).map (fun _ => i)
def cntP (G : List (Int × Int × Int)) (i q : Nat) : Nat := (((pins G i).take q).filter (waitsB G [])).length
def lackP (G : List (Int × Int × Int)) (i q k : Nat) : Int := if k < i then (cntO G [] k : Int) else if k = i then (cntP G i q : Int) else 0

theorem aboveL_len (G : List (Int × Int × Int)) (k : Nat) : ∀ i, (aboveL G k i).length ≤ 2 * i
  | 0 => by simp [aboveL]
  | i + 1 => by
    unfold aboveL
    rw [List.length_append, List.length_map]
    have := aboveL_len G k i
    have := List.length_filter_le (fun p => decide (p / 2 = (g3 G k).1 / 2)) (pins G i)
    have : (pins G i).length = 2 := rfl
    omega
theorem abvP_len (G : List (Int × Int × Int)) (i q k : Nat) : (abvP G i q k).length ≤ 2 * i + 2 := by
  unfold abvP
  rw [List.length_append, List.length_map]
  have := aboveL_len G k i
  have := List.length_filter_le (fun p => decide (p / 2 = (g3 G k).1 / 2)) ((pins G i).take q)
  have : ((pins G i).take q).length ≤ 2 := by rw [List.length_take, show (pins G i).length = 2 from rfl]; omega
  omega

theorem abvP_zero (G : List (Int × Int × Int)) (i k : Nat) : abvP G i 0 k = aboveL G k i := by simp [abvP]
theorem abvP_two (G : List (Int × Int × Int)) (i k : Nat) : abvP G i 2 k = aboveL G k (i + 1) := by simp [abvP, aboveL, pins]
theorem lackP_two (G : List (Int × Int × Int)) (i k : Nat) : lackP G i 2 k = lackP G (i + 1) 0 k := by
  unfold lackP cntP
  by_cases h1 : k < i
  · rw [if_pos h1, if_pos (by omega)]
  · rw [if_neg h1]
    by_cases h2 : k = i
    · subst h2
      rw [if_pos rfl, if_pos (by omega)]
      simp [cntO, pins]
    · rw [if_neg h2, if_neg (by omega)]
      by_cases h3 : k = i + 1
      · rw [if_pos h3]; simp
      · rw [if_neg h3]

def gpin (G : List (Int × Int × Int)) (i q : Nat) : Int := gi (pins G i) q
theorem pins_take {G : List (Int × Int × Int)} {i q : Nat} (h : q < 2) : (pins G i).take (q + 1) = (pins G i).take q ++ [gpin G i q] := take_gi (by simpa [pins] using h)

theorem pin_hit {G : List (Int × Int × Int)} (hG : GoodG G) {i q k : Nat} (hq : q < 2) (hk : k < G.length) (hp : (g3 G k).1 / 2 = gpin G i q / 2) :
    (∀ x, x < G.length → up1 (abvP G i q) k (abvP G i q k ++ [i]) x = abvP G i (q + 1) x) ∧ (∀ x, up1 (lackP G i q) i (lackP G i q i + 1) x = lackP G i (q + 1) x) := by
  refine ⟨fun x hx => ?_, fun x => ?_⟩
  · by_cases e : x = k
    · subst e
      rw [up1_at]
      unfold abvP
      rw [pins_take hq, List.filter_append, List.map_append, ← List.append_assoc]
      congr 1
      simp [hp]
    · rw [up1_off _ _ e]
      unfold abvP
      rw [pins_take hq, List.filter_append, List.map_append]
      have : ¬ gpin G i q / 2 = (g3 G x).1 / 2 := fun h => e (hG x k hx hk (h.symm.trans hp.symm))
      simp [this]
  · have hw : waitsB G [] (gpin G i q) = true := waitsB_iff.2 ⟨k, hk, by simp, hp⟩
    by_cases e : x = i
    · subst e
      rw [up1_at]
      unfold lackP cntP
      rw [if_neg (by omega), if_pos rfl, if_neg (by omega), if_pos rfl, pins_take hq, List.filter_append, List.length_append]
      simp [hw]
    · rw [up1_off _ _ e]
      unfold lackP
      simp only [e, if_false]

theorem pin_miss {G : List (Int × Int × Int)} {i q : Nat} (hq : q < 2) (hp : waitsB G [] (gpin G i q) = false) :
    (∀ x, x < G.length → abvP G i q x = abvP G i (q + 1) x) ∧ (∀ x, lackP G i q x = lackP G i (q + 1) x) := by
  refine ⟨fun x hx => ?_, fun x => ?_⟩
  · unfold abvP
    rw [pins_take hq, List.filter_append, List.map_append]
    have : ¬ gpin G i q / 2 = (g3 G x).1 / 2 := fun h => by
      have : waitsB G [] (gpin G i q) = true := waitsB_iff.2 ⟨x, hx, by simp, h.symm⟩
      rw [hp] at this; cases this
    simp [this]
  · unfold lackP cntP
    rw [pins_take hq, List.filter_append]
    simp [hp]

/-- what is lacking while those above gate i are gone through -/
def lackQ (G : List (Int × Int × Int)) (out : List Nat) (i q k : Nat) : Int := (cntO G out k : Int) - (((aboveL G i G.length).take q).count k : Int)

theorem take_gn {l : List Nat} {q : Nat} (h : q < l.length) : l.take (q + 1) = l.take q ++ [gn l q] := by
  rw [List.take_succ_eq_append_getElem h]
  unfold gn
  rw [List.getElem?_eq_getElem h]
  rfl

theorem lackQ_zero (G : List (Int × Int × Int)) (out : List Nat) (i k : Nat) : lackQ G out i 0 k = (cntO G out k : Int) := by simp [lackQ]
theorem lackQ_step {G : List (Int × Int × Int)} {out : List Nat} {i q : Nat} (hq : q < (aboveL G i G.length).length) (x : Nat) :
    up1 (lackQ G out i q) (gn (aboveL G i G.length) q) (lackQ G out i q (gn (aboveL G i G.length) q) - 1) x = lackQ G out i (q + 1) x := by
  by_cases e : x = gn (aboveL G i G.length) q
  · subst e
    rw [up1_at]
    unfold lackQ
    rw [take_gn hq, List.count_append]
    simp
    omega
  · rw [up1_off _ _ e]
    unfold lackQ
    rw [take_gn hq, List.count_append]
    have : [gn (aboveL G i G.length) q].count x = 0 := by
      rw [List.count_eq_zero]; simpa using e
    rw [this]
    simp
theorem lackQ_at {G : List (Int × Int × Int)} (hG : GoodG G) {out : List Nat} (h : MidO G out) {i q : Nat} (hn : nextO G out = some i) (hq : q < (aboveL G i G.length).length) :
    gn (aboveL G i G.length) q < G.length ∧ 1 ≤ lackQ G out i q (gn (aboveL G i G.length) q) ∧ lackQ G out i q (gn (aboveL G i G.length) q) ≤ 2 ∧ gn (aboveL G i G.length) q ∉ out ++ [i] := by
  have e : aboveL G i G.length = (aboveL G i G.length).take q ++ gn (aboveL G i G.length) q :: (aboveL G i G.length).drop (q + 1) := by
    have h1 := List.take_append_drop (q + 1) (aboveL G i G.length)
    rw [take_gn hq] at h1
    simpa using h1.symm
  obtain ⟨h1, h2, h3⟩ := part_count hG h hn e
  refine ⟨h1, ?_, ?_, h3⟩
  · unfold lackQ; omega
  · unfold lackQ
    have : cntO G out (gn (aboveL G i G.length) q) ≤ 2 := by unfold cntO; exact Nat.le_trans (List.length_filter_le _ _) (by simp [pins])
    omega
theorem lackQ_end {G : List (Int × Int × Int)} (hG : GoodG G) {out : List Nat} {i : Nat} (hn : nextO G out = some i) {k : Nat} (hk : k < G.length) :
    lackQ G out i (aboveL G i G.length).length k = (cntO G (out ++ [i]) k : Int) := by
  obtain ⟨hi, hr⟩ := nextO_some hn
  have := cnt_step hG hi (ready_iff.1 hr).1 hk
  unfold lackQ
  rw [List.take_length]
  omega

/-- between two takings, what is popped lies in two slots -/
def OrdRel (w : World) (bp gl ga h n : Nat) (G : List (Int × Int × Int)) (v15 v16 v17 : Value) (wr : World) : Prop :=
  ∃ (out : List Nat) (R : Nat → Value) (X M : Nat → Prop), MidO G out ∧ OS w bp gl ga h n n (placeF G n) (fun k => (cntO G out k : Int)) R (fun k => aboveL G k n) X M v15 out wr ∧
    ((∃ i : Nat, v16 = .int .i64 i ∧ v17 = .bool true ∧ nextO G out = some i ∧ ∀ x, M x ↔ x < n ∧ x ∉ out ∧ cntO G out x = 0 ∧ x ≠ i) ∨ (v16 = .int .i64 0 ∧ v17 = .bool false ∧ nextO G out = none))

theorem pop_next {w wr : World} {bp gl ga h n : Nat} {G : List (Int × Int × Int)} (hn : G.length = n) (hn1 : n ≤ 1048576) {out : List Nat} {R : Nat → Value} {X M : Nat → Prop} {vo : Value} (hM : MidO G out)
    (H : OS w bp gl ga h n n (placeF G n) (fun k => (cntO G out k : Int)) R (fun k => aboveL G k n) X M vo out wr) (hm : ∀ x, M x ↔ x < n ∧ x ∉ out ∧ cntO G out x = 0) :
    Calls Tryz.prog 76 #[.pointer (some ⟨h, 0, none⟩)] wr fun e w' => ∃ v16 v17, e = .returned (.tuple #[v16, v17]) ∧ OrdRel w bp gl ga h n G vo v16 v17 w' := by
  by_cases hex : ∃ x, M x
  · refine (H.pop hn1 hex).mono ?_
    rintro e w' ⟨id, hid, he, h1, h2, H'⟩
    refine ⟨_, _, he, out, R, X, _, hM, H', .inl ⟨id, rfl, rfl, ?_, fun x => ?_⟩⟩
    · obtain ⟨q1, q2, q3⟩ := (hm id).1 h1
      refine next_of_least (by omega) q2 q3 (fun j hj hjm hz => ?_)
      have := h2 j ((hm j).2 ⟨by omega, hjm, hz⟩)
      omega
    · rw [hm x]
      constructor
      · rintro ⟨⟨a, b, c⟩, d⟩; exact ⟨a, b, c, d⟩
      · rintro ⟨a, b, c, d⟩; exact ⟨⟨a, b, c⟩, d⟩
  · refine (H.pop0 (fun x hx => hex ⟨x, hx⟩)).mono ?_
    rintro e w' ⟨he, rfl⟩
    refine ⟨_, _, he, out, R, X, M, hM, H, .inr ⟨rfl, rfl, next_none (fun j hj hjm hz => hex ⟨j, (hm j).2 ⟨by omega, hjm, hz⟩⟩)⟩⟩

def lenV : Value → Nat
  | .slice _ n _ => n
  | _ => 0

theorem OS.start {w wa w2 : World} {bp gl ga h n : Nat} {F : Int → Option Int} {X : Nat → Prop} (hp : IMI wa bp n F) (hl : Blk wa gl (zts (fun _ => 0) n).toArray 3) (ha : Blk wa ga (rowF (fun _ => .slice none 0 0) n).toArray 22)
    (hK : Kp (fun _ => False) w wa) (hH : HSet w2 wa.heap.size h n X (fun _ => False)) (hK2 : Kp (fun _ => False) wa w2) (lo : w.heap.size ≤ bp ∧ w.heap.size ≤ gl ∧ w.heap.size ≤ ga) (d : bp ≠ gl ∧ bp ≠ ga ∧ gl ≠ ga) :
    OS w bp gl ga h n n F (fun _ => 0) (fun _ => .slice none 0 0) (fun _ => []) X (fun _ => False) (.slice none 0 0) [] w2 := by
  have far : ∀ j, j < wa.heap.size → ¬ X j := fun j hj hx => by have := (hH.lt hx).1; omega
  refine ⟨hp.kp hK2 (fun h => h), hl.kp hK2 (fun h => h), ha.kp hK2 (fun h => h), fun k _ => Own.nil _ _ _, hH.low hK.size, Own.nil _ _ _, hK.trans hK2 (fun _ _ h => h), lo, ⟨d.1, d.2.1, d.2.2, far _ hp.lt, far _ hl.lt, far _ ha.lt⟩, fun k _ j hj => by simp [Value.ownBlock] at hj, fun a b _ _ _ j hj => by simp [Value.ownBlock] at hj, fun j hj => by simp [Value.ownBlock] at hj⟩

theorem lackP_nil (G : List (Int × Int × Int)) (k : Nat) : lackP G 0 0 k = 0 := by
  unfold lackP cntP
  simp

/-- the second loop, at gate i -/
def BuildRel (w : World) (bp gl ga h n : Nat) (G : List (Int × Int × Int)) (i : Nat) (wr : World) : Prop :=
  ∃ (R : Nat → Value) (X : Nat → Prop), OS w bp gl ga h n n (placeF G n) (lackP G i 0) R (fun k => aboveL G k i) X (fun x => x < i ∧ cntO G [] x = 0) (.slice none 0 0) [] wr

/-- in the round of gate i, at its literal q -/
def PinRel (w : World) (bp gl ga h n : Nat) (G : List (Int × Int × Int)) (i q bq : Nat) (x1 x2 : Int) (wr : World) : Prop :=
  ∃ (R : Nat → Value) (X : Nat → Prop), OS w bp gl ga h n n (placeF G n) (lackP G i q) R (abvP G i q) X (fun x => x < i ∧ cntO G [] x = 0) (.slice none 0 0) [] wr ∧
    Blk wr bq #[.int .i64 x1, .int .i64 x2] 3 ∧ bq ≠ gl ∧ bq ≠ ga ∧ ∀ k, k < n → (R k).ownBlock ≠ some bq

theorem OS.abG {w wr w1 w2 : World} {bp gl ga h n np : Nat} {F : Int → Option Int} {L : Nat → Int} {R : Nat → Value} {A : Nat → List Nat} {X M : Nat → Prop} {vo : Value} {out : List Nat} {k : Nat} (H : OS w bp gl ga h n np F L R A X M vo out wr) (hk : k < n) (hK : Kp (fun _ => False) wr w1) (hg : w1.grownBy w2 (R k).ownBlock) :
    Blk w2 ga (rowF R n).toArray 22 :=
  (H.ab.kp hK (fun h => h)).kp (S := fun j => (R k).ownBlock = some j) ((Kp.refl _ w1).grown hg (fun j hj _ => hj)) (fun e => (H.d2 k hk _ e).2.2.1 rfl)

theorem PinRel.hit {w w1 w1' w2 : World} {bp gl ga h n i q k bq : Nat} {x1 x2 c : Int} {G : List (Int × Int × Int)} {R : Nat → Value} {X : Nat → Prop} {v' : Value}
    (H : OS w bp gl ga h n n (placeF G n) (up1 (lackP G i q) i (c + 1)) R (abvP G i q) X (fun x => x < i ∧ cntO G [] x = 0) (.slice none 0 0) [] w1) (hn : G.length = n) (hc : lackP G i q i = c) (hk : k < n)
    (hh : (∀ x, x < G.length → up1 (abvP G i q) k (abvP G i q k ++ [i]) x = abvP G i (q + 1) x) ∧ ∀ x, up1 (lackP G i q) i (lackP G i q i + 1) x = lackP G i (q + 1) x)
    (hB : Blk w1 bq #[.int .i64 x1, .int .i64 x2] 3) (hq1 : bq ≠ gl) (hq2 : bq ≠ ga) (hq3 : ∀ k, k < n → (R k).ownBlock ≠ some bq) (hK : Kp (fun _ => False) w1 w1')
    (hO : Own w2 w.heap.size 3 v' (nv (abvP G i q k) ++ [.int .i64 (i : Int)])) (hg : w1'.grownBy w2 (R k).ownBlock) (hat : v'.ownBlock = (R k).ownBlock ∨ v'.ownBlock = some w1'.heap.size) :
    PinRel w bp gl ga h n G i (q + 1) bq x1 x2 (w2.setCell ⟨ga, k, none⟩ v') := by
  have H2 := H.snoc hk hK hO hg hat
  have hlt := hB.lt
  have hsz := hK.size
  have hKg : Kp (fun j => (R k).ownBlock = some j) w1' w2 := (Kp.refl _ w1').grown hg (fun j hj _ => hj)
  refine ⟨_, X, H2.same (fun x _ => ?_) (fun x hx => hh.1 x (by omega)) (fun _ => Iff.rfl), ((hB.kp hK (fun h => h)).kp hKg (fun e => hq3 k hk e)).set_other (p := ⟨ga, k, none⟩) hq2 _, hq1, hq2, fun k' hk' => ?_⟩
  · rw [← hh.2 x, hc]
  · by_cases e : k' = k
    · subst e
      rw [up1_at]
      intro hb
      rcases hat with e | e
      · exact hq3 k' hk' (e ▸ hb)
      · rw [e] at hb
        have : w1'.heap.size = bq := by simpa using hb
        omega
    · rw [up1_off _ _ e]; exact hq3 k' hk'

theorem BuildRel.push {w wr : World} {bp gl ga h n i : Nat} {G : List (Int × Int × Int)} {R : Nat → Value} {X : Nat → Prop} (hz : cntO G [] i = 0)
    (H : OS w bp gl ga h n n (placeF G n) (lackP G i 2) R (abvP G i 2) X (fun x => (x < i ∧ cntO G [] x = 0) ∨ x = i) (.slice none 0 0) [] wr) : BuildRel w bp gl ga h n G (i + 1) wr :=
  ⟨R, X, H.same (fun k _ => lackP_two G i k) (fun k _ => abvP_two G i k) (fun x => by
    constructor
    · rintro (⟨a, b⟩ | rfl)
      · exact ⟨by omega, b⟩
      · exact ⟨by omega, hz⟩
    · rintro ⟨a, b⟩
      by_cases e : x = i
      · exact .inr e
      · exact .inl ⟨by omega, b⟩)⟩

theorem BuildRel.skip {w wr : World} {bp gl ga h n i : Nat} {G : List (Int × Int × Int)} {R : Nat → Value} {X : Nat → Prop} (hz : cntO G [] i ≠ 0)
    (H : OS w bp gl ga h n n (placeF G n) (lackP G i 2) R (abvP G i 2) X (fun x => x < i ∧ cntO G [] x = 0) (.slice none 0 0) [] wr) : BuildRel w bp gl ga h n G (i + 1) wr :=
  ⟨R, X, H.same (fun k _ => lackP_two G i k) (fun k _ => abvP_two G i k) (fun x => by
    constructor
    · rintro ⟨a, b⟩; exact ⟨by omega, b⟩
    · rintro ⟨a, b⟩
      have : x ≠ i := fun e => hz (e ▸ b)
      exact ⟨by omega, b⟩)⟩

theorem lackP_self (G : List (Int × Int × Int)) (i : Nat) : lackP G i 2 i = (cntO G [] i : Int) := by
  unfold lackP
  rw [if_neg (by omega), if_pos rfl]
  rfl

/-- in the round of a gate that is taken, behind q of those above it -/
def LackRel (w : World) (bp gl ga h n : Nat) (G : List (Int × Int × Int)) (out : List Nat) (i q : Nat) (R : Nat → Value) (v : Value) (wr : World) : Prop :=
  ∃ (X M : Nat → Prop), OS w bp gl ga h n n (placeF G n) (lackQ G out i q) R (fun k => aboveL G k n) X M v (out ++ [i]) wr ∧ ∀ x, M x ↔ x < n ∧ x ∉ out ++ [i] ∧ lackQ G out i q x = 0

theorem LackRel.start {w wr : World} {bp gl ga h n : Nat} {G : List (Int × Int × Int)} {out : List Nat} {i : Nat} {R : Nat → Value} {X M : Nat → Prop} {v : Value}
    (H : OS w bp gl ga h n n (placeF G n) (fun k => (cntO G out k : Int)) R (fun k => aboveL G k n) X M v (out ++ [i]) wr) (hM : ∀ x, M x ↔ x < n ∧ x ∉ out ∧ cntO G out x = 0 ∧ x ≠ i) : LackRel w bp gl ga h n G out i 0 R v wr :=
  ⟨X, M, H.same (fun k _ => (lackQ_zero G out i k).symm) (fun _ _ => rfl) (fun _ => Iff.rfl), fun x => by
    rw [hM x, lackQ_zero]
    simp only [List.mem_append, List.mem_singleton]
    constructor
    · rintro ⟨a, b, c, d⟩; exact ⟨a, fun h => by rcases h with h | h; exact b h; exact d h, by omega⟩
    · rintro ⟨a, b, c⟩; exact ⟨a, fun h => b (.inl h), by omega, fun h => b (.inr h)⟩⟩

theorem LackRel.end_ {w wr : World} {bp gl ga h n : Nat} {G : List (Int × Int × Int)} (hn : G.length = n) (hG : GoodG G) {out : List Nat} {i : Nat} (hi : nextO G out = some i) {R : Nat → Value} {v : Value}
    (H : LackRel w bp gl ga h n G out i (aboveL G i n).length R v wr) : ∃ (X M : Nat → Prop), OS w bp gl ga h n n (placeF G n) (fun k => (cntO G (out ++ [i]) k : Int)) R (fun k => aboveL G k n) X M v (out ++ [i]) wr ∧ ∀ x, M x ↔ x < n ∧ x ∉ out ++ [i] ∧ cntO G (out ++ [i]) x = 0 := by
  obtain ⟨X, M, H, hM⟩ := H
  subst hn
  refine ⟨X, M, H.same (fun k hk => lackQ_end hG hi hk) (fun _ _ => rfl) (fun _ => Iff.rfl), fun x => ?_⟩
  rw [hM x]
  constructor
  · rintro ⟨a, b, c⟩; rw [lackQ_end hG hi a] at c; exact ⟨a, b, by omega⟩
  · rintro ⟨a, b, c⟩; exact ⟨a, b, by rw [lackQ_end hG hi a]; omega⟩

end Go.Proofs.YtckmdcmkjmpiaaaGreatDoor

/-
  circ.Order: the gates' places, in the document's order.
-/
namespace Go.Proofs.YtckmdcmkjmpiaaaGreatDoor
open Go.RowKit

/-- literals of gates that are no greater than may be -/
def GBnd (G : List (Int × Int × Int)) : Prop := ∀ i, i < G.length → 0 ≤ (g3 G i).1 ∧ (g3 G i).1 ≤ 100000000 ∧ 0 ≤ (g3 G i).2.1 ∧ (g3 G i).2.1 ≤ 100000000 ∧ 0 ≤ (g3 G i).2.2 ∧ (g3 G i).2.2 ≤ 100000000

/-- what making two lists leaves -/
def Made2 (n : Nat) (wp : World) (s6 s7 : Value) (wx : World) : Prop :=
  ∃ gl ga, s6 = .slice (some ⟨gl, 0, none⟩) n n ∧ s7 = .slice (some ⟨ga, 0, none⟩) n n ∧ Blk wx gl (zts (fun _ => 0) n).toArray 3 ∧ Blk wx ga (rowF (fun _ => .slice none 0 0) n).toArray 22 ∧ gl ≠ ga ∧ wp.heap.size ≤ gl ∧ wp.heap.size ≤ ga ∧ Kp (fun _ => False) wp wx

theorem made2_a (n : Nat) (wp : World) : Made2 n wp (.slice (some ⟨wp.heap.size, 0, none⟩) n n) (.slice (some ⟨wp.heap.size + 1, 0, none⟩) n n) ((wp.alloc (.cells (madeCells #[.int .i64 0] n) 3)).alloc (.cells (madeCells #[.slice none 0 0] n) 22)).drew := by
  refine ⟨_, _, rfl, rfl, ?_, ?_, by omega, Nat.le_refl _, by omega, (((Kp.refl _ wp).alloc _).alloc _).drew⟩
  · show Blk _ _ (rowF (fun _ => .int .i64 0) n).toArray _
    rw [← made_row]
    exact ((Blk.new wp (madeCells #[.int .i64 0] n) 3).alloc (.cells (madeCells #[.slice none 0 0] n) 22)).drew
  · rw [← made_row (.slice none 0 0)]
    exact (two_blk wp (madeCells #[.int .i64 0] n) (madeCells #[.slice none 0 0] n) 3 22).drew
theorem made2_b (n : Nat) (wp : World) : Made2 n wp (.slice (some ⟨wp.heap.size + 1, 0, none⟩) n n) (.slice (some ⟨wp.heap.size, 0, none⟩) n n) ((wp.alloc (.cells (madeCells #[.slice none 0 0] n) 22)).alloc (.cells (madeCells #[.int .i64 0] n) 3)).drew := by
  refine ⟨_, _, rfl, rfl, ?_, ?_, by omega, by omega, Nat.le_refl _, (((Kp.refl _ wp).alloc _).alloc _).drew⟩
  · show Blk _ _ (rowF (fun _ => .int .i64 0) n).toArray _
    rw [← made_row]
    exact (two_blk wp (madeCells #[.slice none 0 0] n) (madeCells #[.int .i64 0] n) 22 3).drew
  · rw [← made_row (.slice none 0 0)]
    exact ((Blk.new wp (madeCells #[.slice none 0 0] n) 22).alloc (.cells (madeCells #[.int .i64 0] n) 3)).drew

set_option maxRecDepth 100000 in
set_option maxHeartbeats 8000000 in
theorem circ_Order (V : CV) (C : Circ) (w : World) (h : CAt w V C) (hf : C.gates.length ≤ 1000000) (hG : GoodG C.gates) (hb : GBnd C.gates) :
    Calls Tryz.prog 42 #[.agg (cvals V C)] w fun e w' => ∃ v, e = .returned v ∧ Own w' w.heap.size 3 v (nv (ordO C.gates)) ∧ Kp (fun _ => False) w w' := by
  obtain ⟨n, hn⟩ : ∃ n, C.gates.length = n := ⟨_, rfl⟩
  have hn1 : n ≤ 1000000 := by omega
  obtain ⟨i0, hi, hz0, hz1, hz2⟩ := info_parts (show (Tryz.prog.info? 3).map (fun i => (i.zero, i.size, i.bytes)) = some (some (.int .i64 0), 1, 8) by kernel_rfl)
  have hmk : ∀ u : World, (Instr.makeSlice 22 (.int .i64 (n : Int)) (.int .i64 (n : Int))).run Tryz.prog u =
      .ok (.slice (some ⟨u.heap.size, 0, none⟩) n n) (u.alloc (.cells (madeCells #[.int .i64 0] n) 3)) := fun u => by
    have h := run_make (P := Tryz.prog) u 22 3 i0 (.int .i64 0) Tryz.underlying22 hi hz0 .i64 .i64 (n : Int) (n : Int) (by omega) (Int.le_refl _) (by rw [hz2]; omega) (by omega)
    simpa [hz1, Value.cells] using h
  clear hi hz0 hz1 hz2 i0
  obtain ⟨i0, hi, hz0, hz1, hz2⟩ := info_parts (show (Tryz.prog.info? 22).map (fun i => (i.zero, i.size, i.bytes)) = some (some (.slice none 0 0), 1, 24) by kernel_rfl)
  have hms : ∀ u : World, (Instr.makeSlice 115 (.int .i64 (n : Int)) (.int .i64 (n : Int))).run Tryz.prog u =
      .ok (.slice (some ⟨u.heap.size, 0, none⟩) n n) (u.alloc (.cells (madeCells #[.slice none 0 0] n) 22)) := fun u => by
    have h := run_make (P := Tryz.prog) u 115 22 i0 (.slice none 0 0) Tryz.underlying115 hi hz0 .i64 .i64 (n : Int) (n : Int) (by omega) (Int.le_refl _) (by rw [hz2]; omega) (by omega)
    simpa [hz1, Value.cells] using h
  clear hi hz0 hz1 hz2 i0
  have hmm := @run_makeMap Tryz.prog
  have HMk := Lib.hid (And.intro hmk hms)
  clear hmk hms
  have HI := Lib.hid (show (Tryz.prog.info? 3).map (fun i => (i.zero, i.size, i.bytes)) = some (some (.int .i64 0), 1, 8) by kernel_rfl)
  obtain ⟨bp, hbp⟩ : ∃ bp, bp = w.heap.size + 1 := ⟨_, rfl⟩
  obtain ⟨wz, hwz⟩ : ∃ wz : World, wz = (w.alloc (.cells (cvals V C) 27)).alloc (.map #[] 0) := ⟨_, rfl⟩
  have HK0 : Hid (Kp (fun _ => False) w wz) := Lib.hid (by rw [hwz]; exact ((Kp.refl _ w).alloc _).alloc _)
  have HC0 : Hid (Blk wz w.heap.size (cvals V C) 27) := Lib.hid (by rw [hwz]; exact (Blk.new w _ _).alloc _)
  have HM0 : Hid (IMI wz bp 0 (placeF C.gates 0)) := Lib.hid (by rw [hwz, hbp]; have := IMI.made (w.alloc (.cells (cvals V C) 27)); rw [World.size_alloc] at this; exact this)
  have HBP := Lib.hid hbp
  have HZ := Lib.hid hwz
  have HA := Lib.hid h
  have HN := Lib.hid hn
  have HG := Lib.hid hG
  have HB := Lib.hid hb
  have HU : Hid (cvals V C = #[.int .i64 C.max, .slice V.ai C.ins.length V.ci, .slice V.al C.lats.length V.cl, .slice V.ao C.outs.length V.co, .slice V.ab C.bads.length V.cb, .slice V.ac C.cons.length V.cc, .slice V.ag n V.cg, .slice V.ay V.ny V.cy, .string V.cm]) := Lib.hid (by unfold cvals; rw [hn])
  clear hbp hwz h hf hn hG hb
  go_enter Tryz.func42, Tryz.ntmps42
  go_upto_region 2 with fail
  rw [← HZ.out]
  clear hmm HZ
  rw [show w.heap.size + 1 = bp from HBP.out.symm]
  have c6 := HC0.out.cell (i := 6) (v := .slice V.ag n V.cg) (by rw [HU.out]; rfl)
  go_wp2_with fail
  go_loopw [24] (fun v24 wr => ∃ k : Nat, v24 = .int .i64 k ∧ k ≤ n ∧ IMI wr bp k (placeF C.gates k) ∧ Blk wr w.heap.size (cvals V C) 27 ∧ Kp (fun _ => False) w wr) (fun v24 _ => n - (intOf v24).toNat)
  case atStart => exact ⟨0, rfl, by omega, HM0.out, HC0.out, HK0.out⟩
  case round =>
    obtain ⟨k, rfl, hk, hM, hC, hK⟩ := hrel
    clear c6 HM0 HC0 HK0
    obtain ⟨wp, rfl⟩ : ∃ wp : World, wp = wr := ⟨_, rfl⟩
    by_cases hlt : k < n
    · have hkl : k < C.gates.length := by rw [HN.out]; exact hlt
      obtain ⟨b, off, ea, e0, e1, e2⟩ := tri_cells (HA.out.kp hK).g hkl
      have hbd := HB.out k hkl
      obtain ⟨x0, hx0⟩ : ∃ x, (g3 C.gates k).1 = x := ⟨_, rfl⟩
      obtain ⟨x1, hx1⟩ : ∃ x, (g3 C.gates k).2.1 = x := ⟨_, rfl⟩
      obtain ⟨x2, hx2⟩ : ∃ x, (g3 C.gates k).2.2 = x := ⟨_, rfl⟩
      rw [hx0] at e0
      rw [hx1] at e1
      rw [hx2] at e2
      have b0 : 0 ≤ x0 := by rw [← hx0]; exact hbd.1
      have b1 : x0 ≤ 100000000 := by rw [← hx0]; exact hbd.2.1
      have i0 : (0 : Int) ≤ (k : Int) := by omega
      have i2 : (k : Int) < (n : Int) := by omega
      obtain ⟨w3, hput, hM3, hK3⟩ := (hM.kp ((Kp.refl (fun _ => False) wp).alloc (.cells #[.int .i64 x0, .int .i64 x1, .int .i64 x2] 61)) (fun h => h)).put (by unfold maxLen; omega) (x := x0 / 2) ⟨by omega, by omega⟩ (v := (k : Int)) ⟨by omega, by omega⟩
      have hfun : (fun y => if y = x0 / 2 then some (k : Int) else placeF C.gates k y) = placeF C.gates (k + 1) := by funext y; show _ = (if y = (g3 C.gates k).1 / 2 then some (k : Int) else placeF C.gates k y); rw [hx0]
      rw [hfun] at hM3
      have hbw : w.heap.size < bp := by have := HBP.out; omega
      have HR := Lib.hid (show ∃ k' : Nat, Value.int .i64 ((k : Int) + 1) = .int .i64 k' ∧ k' ≤ n ∧ IMI w3 bp k' (placeF C.gates k') ∧ Blk w3 w.heap.size (cvals V C) 27 ∧ Kp (fun _ => False) w w3 from
        ⟨k + 1, by go_num, by omega, hM3, (hC.alloc _).kp hK3 (by omega), (hK.alloc _).trans hK3 (fun j hj h => by omega)⟩)
      have HEA := Lib.hid ea
      clear hx0 hx1 hx2 ea hM3 hK3 hfun hM hC hK hbd hkl hbw
      rw [HEA.out]
      go_wp2_with fail
      go_roundw
      case rel => exact HR.out
      case measure => simp [intOf]; omega
    · have hk' : k = n := by omega
      have HM := Lib.hid (show IMI wp bp n (placeF C.gates n) by rw [← hk']; exact hM)
      have HC := Lib.hid hC
      have HK := Lib.hid hK
      clear hk' hM hC hK
      go_upto_region 7 with fail
      have c6 := HC.out.cell (i := 6) (v := .slice V.ag n V.cg) (by rw [HU.out]; rfl)
      go_cut [6, 7] from 35 to 42 (fun s6 s7 wx => Made2 n wp s6 s7 wx)
      case first =>
        have hmk := HMk.out.1
        have hms := HMk.out.2
        go_region_held3 (fun u => u.cell? ⟨w.heap.size, 6, none⟩ = some (.slice V.ag n V.cg)) (first | exact HC.out.cell (by rw [HU.out]; rfl) | exact HC.out.drew.cell (by rw [HU.out]; rfl) | exact ((HC.out).alloc _).cell (by rw [HU.out]; rfl) | exact ((HC.out).alloc _).drew.cell (by rw [HU.out]; rfl) | exact (((HC.out).alloc _).alloc _).cell (by rw [HU.out]; rfl) | exact (((HC.out).alloc _).alloc _).drew.cell (by rw [HU.out]; rfl)) (fail)
        all_goals go_wp2_with fail
        all_goals go_meet
        all_goals first | exact made2_a n wp | exact made2_b n wp
      case rest =>
      obtain ⟨gl, ga, rfl, rfl, hL, hAb, hne, hgl, hga, hKc⟩ := hcut
      obtain ⟨wa, rfl⟩ : ∃ wa : World, wa = wc := ⟨_, rfl⟩
      have hbw := HBP.out
      have hbpl := HM.out.lt
      have HC1 := Lib.hid (HC.out.kp hKc (fun h => h))
      have HX := Lib.hid (fun w2 h X hH hK2 => OS.start (w := w) (wa := wa) (w2 := w2) (h := h) (X := X) (HM.out.kp hKc (fun h => h)) hL hAb (HK.out.trans hKc (fun _ _ h => h)) hH hK2 ⟨by omega, by have := HK.out.size; omega, by have := HK.out.size; omega⟩ ⟨by omega, by omega, hne⟩)
      clear hL hAb hne hgl hga hKc hbpl hbw c6 HM HC HK hlt hk
      have c6 := HC1.out.cell (i := 6) (v := .slice V.ag n V.cg) (by rw [HU.out]; rfl)
      go_wp2_with fail
      refine (HSet.new (n := n) (by omega) _).mono ?_
      rintro e w2 ⟨h, X, rfl, hH, hK2⟩
      have HC2 := Lib.hid (HC1.out.kp hK2 (fun h => h))
      have HOS := Lib.hid (show BuildRel w bp gl ga h n C.gates 0 w2 from by
        exact ⟨fun _ => .slice none 0 0, X, (HX.out w2 h X hH hK2).same (fun k _ => (lackP_nil C.gates k).symm) (fun k _ => rfl) (fun x => ⟨fun h => h.elim, fun h => by omega⟩)⟩)
      clear hH hK2 HX c6 HC1
      have c6 := HC2.out.cell (i := 6) (v := .slice V.ag n V.cg) (by rw [HU.out]; rfl)
      go_wp2_with fail
      go_loopw [50] (fun v50 wr => ∃ i : Nat, v50 = .int .i64 i ∧ i ≤ n ∧ BuildRel w bp gl ga h n C.gates i wr) (fun v50 _ => n - (intOf v50).toNat)
      case atStart => exact ⟨0, rfl, by omega, HOS.out⟩
      case round =>
        obtain ⟨i, rfl, hi, hB⟩ := hrel
        clear c6 HOS HC2
        obtain ⟨wq, rfl⟩ : ∃ wq : World, wq = wr := ⟨_, rfl⟩
        by_cases hlt : i < n
        · obtain ⟨R, X, H⟩ := hB
          have hkl : i < C.gates.length := by rw [HN.out]; exact hlt
          obtain ⟨b, off, ea, e0, e1, e2⟩ := tri_cells (HA.out.kp H.kp).g hkl
          have hbd := HB.out i hkl
          obtain ⟨x0, hx0⟩ : ∃ x, (g3 C.gates i).1 = x := ⟨_, rfl⟩
          obtain ⟨x1, hx1⟩ : ∃ x, (g3 C.gates i).2.1 = x := ⟨_, rfl⟩
          obtain ⟨x2, hx2⟩ : ∃ x, (g3 C.gates i).2.2 = x := ⟨_, rfl⟩
          have HPin := Lib.hid (show (∀ q, q < 2 → 0 ≤ gpin C.gates i q ∧ gpin C.gates i q ≤ 100000000) ∧ gpin C.gates i 0 = x1 ∧ gpin C.gates i 1 = x2 from by
            have g0 : gpin C.gates i 0 = x1 := hx1
            have g1 : gpin C.gates i 1 = x2 := hx2
            refine ⟨fun q hq => ?_, g0, g1⟩
            match q, hq with
            | 0, _ => rw [g0, ← hx1]; exact ⟨hbd.2.2.1, hbd.2.2.2.1⟩
            | 1, _ => rw [g1, ← hx2]; exact ⟨hbd.2.2.2.2.1, hbd.2.2.2.2.2⟩)
          rw [hx0] at e0
          rw [hx1] at e1
          rw [hx2] at e2
          have i0 : (0 : Int) ≤ (i : Int) := by omega
          have i2 : (i : Int) < (n : Int) := by omega
          have HEA := Lib.hid ea
          have HKL := Lib.hid hkl
          have HP := Lib.hid (show PinRel w bp gl ga h n C.gates i 0 (wq.heap.size + 1) x1 x2 ((wq.alloc (.cells #[.int .i64 x0, .int .i64 x1, .int .i64 x2] 61)).alloc (.cells #[.int .i64 x1, .int .i64 x2] 3)) from by
            have hgl := H.la.lt
            have hga := H.ab.lt
            exact ⟨R, X, (H.fresh (((Kp.refl _ wq).alloc _).alloc _)).same (fun k _ => rfl) (fun k _ => (abvP_zero C.gates i k).symm) (fun x => Iff.rfl), two_blk wq _ _ _ _, by omega, by omega, fun k hk e => by have := ((H.ow k hk).lt _ e).2; omega⟩)
          clear hx0 hx1 hx2 ea hbd H hkl
          rw [HEA.out]
          go_wp2_with fail
          obtain ⟨bq, hbq⟩ : ∃ bq, bq = wq.heap.size + 1 := ⟨_, rfl⟩
          rw [← hbq] at HP ⊢
          clear hbq
          go_loopw [61] (fun v61 wr => ∃ q : Nat, v61 = .int .i64 q ∧ q ≤ 2 ∧ PinRel w bp gl ga h n C.gates i q bq x1 x2 wr) (fun v61 _ => 2 - (intOf v61).toNat)
          case atStart => exact ⟨0, rfl, by omega, HP.out⟩
          case round =>
            obtain ⟨q, rfl, hq, hP⟩ := hrel
            clear e0 e1 e2 HP
            obtain ⟨wp2, rfl⟩ : ∃ wp2 : World, wp2 = wr := ⟨_, rfl⟩
            obtain ⟨R, X, H, hbq, hq1, hq2, hq3⟩ := hP
            by_cases hq2' : q < 2
            · have hbd := HPin.out.1 q hq2'
              have hcell : wp2.cell? ⟨bq, q, none⟩ = some (.int .i64 (gpin C.gates i q)) := by
                match q, hq2' with
                | 0, _ => rw [HPin.out.2.1]; exact hbq.cell rfl
                | 1, _ => rw [HPin.out.2.2]; exact hbq.cell rfl
              have q0 : (0 : Int) ≤ (q : Int) := by omega
              have q1 : (q : Int) < 2 := by omega
              have hlook := H.pl.look (x := gpin C.gates i q / 2) ⟨by omega, by omega⟩
              have HHit := Lib.hid (fun k (hk : k < C.gates.length) hp => pin_hit (i := i) (q := q) (k := k) HG.out hq2' hk hp)
              have HMiss := Lib.hid (pin_miss (G := C.gates) (i := i) (q := q) hq2')
              have hW := waits_nil (G := C.gates) (l := gpin C.gates i q)
              rw [HN.out] at hW
              obtain ⟨l, hl⟩ : ∃ l, gpin C.gates i q = l := ⟨_, rfl⟩
              rw [hl] at hcell hlook hbd hW HMiss
              have HL := Lib.hid hl
              have l0 := hbd.1
              have l1 := hbd.2
              clear hl hbd
              cases hF : placeF C.gates n (l / 2) with
              | none =>
                rw [hF] at hlook hW
                have hlook' : (Instr.lookup 137 (.map (some bp)) (.int .i64 (l / 2)) true).run Tryz.prog wp2 = .ok (.tuple #[.int .i64 0, .bool false]) wp2 := hlook
                have HR := Lib.hid (show PinRel w bp gl ga h n C.gates i (q + 1) bq x1 x2 wp2 from ⟨R, X, H.same (fun k _ => (HMiss.out hW).2 k) (fun k hk => (HMiss.out hW).1 k (by rw [HN.out]; exact hk)) (fun _ => Iff.rfl), hbq, hq1, hq2, hq3⟩)
                clear hF hlook hW H hbq hq1 hq2 hq3
                go_wp2_with fail
                go_roundw
                case rel => exact ⟨q + 1, by go_num, by omega, HR.out⟩
                case measure => simp [intOf]; omega
              | some v =>
                obtain ⟨k, rfl, hk, hkv⟩ := placeF_some hF
                rw [hF] at hlook
                have hlook' : (Instr.lookup 137 (.map (some bp)) (.int .i64 (l / 2)) true).run Tryz.prog wp2 = .ok (.tuple #[.int .i64 (k : Int), .bool true]) wp2 := hlook
                have hh := HHit.out k (by rw [HN.out]; exact hk) (by rw [HL.out]; exact hkv)
                obtain ⟨c, hc⟩ : ∃ c, lackP C.gates i q i = c := ⟨_, rfl⟩
                have c01 : 0 ≤ c ∧ c ≤ 2 := by
                  rw [← hc]; unfold lackP
                  rw [if_neg (by omega), if_pos rfl]
                  have : cntP C.gates i q ≤ 2 := by unfold cntP; exact Nat.le_trans (List.length_filter_le _ _) (by simp [pins]; omega)
                  omega
                have cL := H.cellL hlt
                have fL := H.freeL i
                rw [hc] at cL
                have H1 := H.setL i (c + 1)
                have cA : (wp2.setCell ⟨gl, i, none⟩ (.int .i64 (c + 1))).cell? ⟨ga, k, none⟩ = some (R k) := H1.cellA hk
                have k0 : (0 : Int) ≤ (k : Int) := by omega
                have k1 : (k : Int) < (n : Int) := by omega
                have c0 := c01.1
                have c1 := c01.2
                have hbq' : Blk (wp2.setCell ⟨gl, i, none⟩ (.int .i64 (c + 1))) bq #[.int .i64 x1, .int .i64 x2] 3 := hbq.set_other (p := ⟨gl, i, none⟩) hq1 _
                have HLen := Lib.hid (abvP_len C.gates i q k)
                have HC := Lib.hid hc
                have HH1 := Lib.hid H1
                have HBq := Lib.hid (And.intro hbq' (And.intro hq1 (And.intro hq2 hq3)))
                have HH := Lib.hid (And.intro hh hkv)
                clear hF hlook hW hc c01 H H1 hbq hbq' hq1 hq2 hq3 hh hkv
                go_upto_region 18 with fail
                obtain ⟨w1, hw1⟩ : ∃ w1, w1 = wp2.setCell ⟨gl, i, none⟩ (.int .i64 (c + 1)) := ⟨_, rfl⟩
                rw [← hw1] at HH1 HBq cA ⊢
                clear hw1 cL fL hlook'
                have HOw := Lib.hid ((HH1.out.fresh ((Kp.refl _ _).alloc (.cells #[.int .i64 (i : Int)] 3))).ow k hk)
                have HSz := Lib.hid (show w.heap.size ≤ w1.heap.size from HH1.out.kp.size)
                go_wp2_with (at_builtin; refine wpList_append1_at rfl _ _ 22 3 rfl Tryz.underlying22 HI.out rfl HOw.out rfl ⟨w1.heap.size, 0, none⟩ (.int .i64 (i : Int)) rfl ?c1 rfl ?c2 ?c3 ?c4 ?_)
                case c1 => exact World.cell?_alloc_at _ _ _ _ rfl
                case c2 => rw [nv_length]; have := HLen.out; omega
                case c3 => rw [nv_length]; have := HLen.out; unfold maxLen; omega
                case c4 => have := HSz.out; simp; omega
                intro v' w3 hO2 hg2 hat2
                have hcA := HH1.out.abG hk ((Kp.refl _ w1).alloc _) hg2
                have cA : w3.cell? ⟨ga, k, none⟩ = some (R k) := hcA.cell (by have := rowF_at (f := R) hk; simpa using this)
                have fA : w3.frozen? ⟨ga, k, none⟩ = false := hcA.free k
                have hR := PinRel.hit HH1.out HN.out HC.out hk HH.out.1 HBq.out.1 HBq.out.2.1 HBq.out.2.2.1 HBq.out.2.2.2 ((Kp.refl _ w1).alloc _) hO2 hg2 (by simpa using hat2)
                obtain ⟨av, cv, hav, _⟩ := hO2.form
                obtain ⟨lv, hlv⟩ : ∃ lv, lv = (nv (abvP C.gates i q k) ++ [Value.int .i64 (i : Int)]).length := ⟨_, rfl⟩
                rw [← hlv] at hav
                subst hav
                have HR := Lib.hid hR
                clear hcA hR hO2 hg2 hat2 hlv HOw
                obtain ⟨rk, hrk⟩ : ∃ rk, R k = rk := ⟨_, rfl⟩
                rw [hrk] at cA
                clear hrk
                go_wp2_with fail
                go_roundw
                case rel => exact ⟨q + 1, by go_num, by omega, HR.out⟩
                case measure => simp [intOf]; omega
            · obtain rfl : q = 2 := by omega
              have cL := H.cellL hlt
              rw [lackP_self] at cL
              have HH := Lib.hid H
              clear H hbq hq1 hq2 hq3
              obtain ⟨c, hc⟩ : ∃ c, cntO C.gates [] i = c := ⟨_, rfl⟩
              rw [hc] at cL
              have HC := Lib.hid hc
              clear hc
              by_cases hz : c = 0
              · have hz1 : ((c : Int) == 0) = true := by simp [hz]
                have HP := Lib.hid (HH.out.push (by omega) hlt (by rintro ⟨a, _⟩; omega))
                have HZ := Lib.hid (show cntO C.gates [] i = 0 by rw [HC.out]; exact hz)
                clear hz HC HH
                go_wp2_with fail
                refine HP.out.mono ?_
                rintro e w4 ⟨rfl, X', H4⟩
                have HR := Lib.hid (BuildRel.push HZ.out H4)
                clear H4 HP
                go_wp2_with fail
                go_roundw
                case rel => exact ⟨i + 1, by go_num, by omega, HR.out⟩
                case measure => simp [intOf]; omega
              · have hz1 : ((c : Int) == 0) = false := by simp; omega
                have HR := Lib.hid (BuildRel.skip (by rw [HC.out]; exact hz) HH.out)
                clear hz HC HH
                go_wp2_with fail
                go_roundw
                case rel => exact ⟨i + 1, by go_num, by omega, HR.out⟩
                case measure => simp [intOf]; omega
        · obtain rfl : i = n := by omega
          obtain ⟨R, X, H⟩ := hB
          have H0 : OS w bp gl ga h i i (placeF C.gates i) (fun k => (cntO C.gates [] k : Int)) R (fun k => aboveL C.gates k i) X (fun x => x < i ∧ x ∉ ([] : List Nat) ∧ cntO C.gates [] x = 0) (.slice none 0 0) [] wq :=
            H.same (fun k hk => by unfold lackP; rw [if_pos hk]) (fun _ _ => rfl) (fun x => by simp)
          have HP := Lib.hid (pop_next HN.out (by omega) (MidO.start C.gates) H0 (fun x => Iff.rfl))
          clear H H0
          go_wp2_with fail
          refine HP.out.mono ?_
          rintro e w4 ⟨v16, v17, rfl, hR⟩
          have HR := Lib.hid hR
          clear hR HP
          go_wp2_with fail
          go_loopw [15, 16, 17] (fun v15 v16 v17 wr => OrdRel w bp gl ga h i C.gates v15 v16 v17 wr) (fun v15 _ _ _ => i - lenV v15)
          case atStart => exact HR.out
          case round =>
            clear HR
            obtain ⟨w5, rfl⟩ : ∃ w5 : World, w5 = wr := ⟨_, rfl⟩
            obtain ⟨out, R, X, M, hMid, H, hcase⟩ := hrel
            rcases hcase with ⟨g, rfl, rfl, hnext, hM⟩ | ⟨rfl, rfl, hnone⟩
            · have hg : g < i := by have := (nextO_some hnext).1; rw [HN.out] at this; exact this
              have hol : out.length < i := by have := hMid.at_.lenlt hnext; rw [HN.out] at this; exact this
              have HOw := Lib.hid ((H.fresh ((Kp.refl _ _).alloc (.cells #[.int .i64 (g : Int)] 3))).oo)
              have HSz := Lib.hid (show w.heap.size ≤ w5.heap.size from H.kp.size)
              have hlv : lenV u15 = out.length := by
                obtain ⟨a, c, e, -⟩ := H.oo.form
                rw [e]; exact nv_length out
              have HLV := Lib.hid hlv
              have HOut := Lib.hid (fun v' w2 hO2 hgr hat => H.outS (i := g) (v' := v') (w2 := w2) ((Kp.refl _ w5).alloc (.cells #[.int .i64 (g : Int)] 3)) hO2 hgr hat)
              have HMM := Lib.hid (And.intro hMid (And.intro hnext hM))
              have g0 : (0 : Int) ≤ (g : Int) := by omega
              have g1 : (g : Int) < (i : Int) := by omega
              clear hlv hMid H hnext hM
              go_wp2_with (at_builtin; refine wpList_append1_at rfl _ _ 22 3 rfl Tryz.underlying22 HI.out rfl HOw.out rfl ⟨w5.heap.size, 0, none⟩ (.int .i64 (g : Int)) rfl ?d1 rfl ?d2 ?d3 ?d4 ?_)
              case d1 => exact World.cell?_alloc_at _ _ _ _ rfl
              case d2 => rw [nv_length]; omega
              case d3 => rw [nv_length]; unfold maxLen; omega
              case d4 => have := HSz.out; simp; omega
              intro v' w6 hO2 hgr hat
              have H6 := HOut.out v' w6 hO2 hgr (by simpa using hat)
              have hlv' : lenV v' = out.length + 1 := by
                obtain ⟨a, c, e, -⟩ := hO2.form
                rw [e]; show (nv out ++ [Value.int .i64 (g : Int)]).length = _
                rw [List.length_append, nv_length]; rfl
              have HLV' := Lib.hid hlv'
              have cA := H6.cellA hg
              obtain ⟨ai, ci, eR, hci, hcm, -, -⟩ := (H6.ow g hg).form
              rw [nv_length] at eR hci
              obtain ⟨m, hm⟩ : ∃ m, (aboveL C.gates g i).length = m := ⟨_, rfl⟩
              rw [hm] at eR hci
              rw [eR] at cA
              have hmle : m ≤ 2 * i := by rw [← hm]; exact aboveL_len C.gates g i
              have HER := Lib.hid eR
              have HM := Lib.hid hm
              have HS6 := Lib.hid (LackRel.start H6 HMM.out.2.2)
              clear hO2 hgr hat H6 hlv' eR hm hci hcm HOut HOw
              go_wp2_with fail
              go_loopw [119] (fun v119 wr => ∃ q : Nat, v119 = .int .i64 q ∧ q ≤ m ∧ LackRel w bp gl ga h i C.gates out g q R v' wr) (fun v119 _ => m - (intOf v119).toNat)
              case atStart => exact ⟨0, rfl, by omega, HS6.out⟩
              case round =>
                clear cA HS6
                obtain ⟨q, rfl, hq, hL⟩ := hrel
                obtain ⟨w7, rfl⟩ : ∃ w7 : World, w7 = wr := ⟨_, rfl⟩
                by_cases hqm : q < m
                · obtain ⟨X2, M2, H7, hM7⟩ := hL
                  have hqa : q < (aboveL C.gates g C.gates.length).length := by rw [HN.out, HM.out]; exact hqm
                  obtain ⟨l1, l2, l3, l4⟩ := lackQ_at HG.out HMM.out.1 HMM.out.2.1 hqa
                  have hstep := lackQ_step (out := out) hqa
                  obtain ⟨-, -, -, -, -, -, hrow⟩ := (H7.ow g hg).form
                  obtain ⟨a2, c2, e2, -, -, -, hrow⟩ := (H7.ow g hg).form
                  rw [HER.out] at e2
                  simp only [Value.slice.injEq] at e2
                  obtain ⟨rfl, -, -⟩ := e2
                  obtain ⟨b2, off2, ea2, hcell⟩ := hrow q _ (nv_at (by rw [HM.out]; exact hqm))
                  rw [HN.out] at l1 l2 l3 l4 hstep
                  obtain ⟨k, hk⟩ : ∃ k, gn (aboveL C.gates g i) q = k := ⟨_, rfl⟩
                  rw [hk] at hcell l1 l2 l3 l4 hstep
                  have cL := H7.cellL l1
                  have fL := H7.freeL k
                  have H8 := H7.setL k (lackQ C.gates out g q k - 1)
                  have cL2 := H8.cellL l1
                  rw [up1_at] at cL2
                  have hkM : ¬ M2 k := fun h => by have := ((hM7 k).1 h).2.2; omega
                  have hM8 : ∀ x, (lackQ C.gates out g q k - 1 = 0 → ((M2 x ∨ x = k) ↔ x < i ∧ x ∉ out ++ [g] ∧ lackQ C.gates out g (q + 1) x = 0)) ∧ (lackQ C.gates out g q k - 1 ≠ 0 → (M2 x ↔ x < i ∧ x ∉ out ++ [g] ∧ lackQ C.gates out g (q + 1) x = 0)) := by
                    intro x
                    rw [← hstep x]
                    by_cases ex : x = k
                    · subst ex
                      rw [up1_at]
                      exact ⟨fun h => ⟨fun _ => ⟨l1, l4, h⟩, fun _ => .inr rfl⟩, fun h => ⟨fun h2 => absurd h2 hkM, fun h2 => absurd h2.2.2 h⟩⟩
                    · rw [up1_off _ _ ex]
                      refine ⟨fun h => ?_, fun h => hM7 x⟩
                      rw [← hM7 x]
                      exact ⟨fun h => h.resolve_right ex, .inl⟩
                  obtain ⟨c, hc⟩ : ∃ c, lackQ C.gates out g q k = c := ⟨_, rfl⟩
                  rw [hc] at cL H8 cL2 hM8 l2 l3
                  have HSt := Lib.hid (And.intro hstep hc)
                  have H8h := Lib.hid H8
                  have HM8 := Lib.hid hM8
                  have HKM := Lib.hid (And.intro hkM l4)
                  have k0 : (0 : Int) ≤ (k : Int) := by omega
                  have k1 : (k : Int) < (i : Int) := by omega
                  have q0 : (0 : Int) ≤ (q : Int) := by omega
                  have q1 : (q : Int) < (m : Int) := by omega
                  have HEA2 := Lib.hid ea2
                  clear H7 hM7 hqa hstep hrow hk H8 hkM l4 hM8 hc ea2
                  subst HEA2
                  by_cases hz : c - 1 = 0
                  · have hz1 : ((c - 1 : Int) == 0) = true := by simp [hz]
                    have HP := Lib.hid (H8h.out.push (by omega) l1 HKM.out.1)
                    have HZ := Lib.hid hz
                    clear hz
                    go_wp2_with fail
                    refine HP.out.mono ?_
                    rintro e w9 ⟨rfl, X', H9⟩
                    have HR := Lib.hid (show LackRel w bp gl ga h i C.gates out g (q + 1) R v' w9 from ⟨X', _, H9.same (fun x _ => by rw [← HSt.out.1 x, HSt.out.2]) (fun _ _ => rfl) (fun _ => Iff.rfl), fun x => (HM8.out x).1 HZ.out⟩)
                    clear H9 HP
                    go_wp2_with fail
                    go_roundw
                    case rel => exact ⟨q + 1, by go_num, by omega, HR.out⟩
                    case measure => simp [intOf]; omega
                  · have hz1 : ((c - 1 : Int) == 0) = false := by simp; omega
                    have HR := Lib.hid (show LackRel w bp gl ga h i C.gates out g (q + 1) R v' (w7.setCell ⟨gl, k, none⟩ (.int .i64 (c - 1))) from ⟨X2, _, H8h.out.same (fun x _ => by rw [← HSt.out.1 x, HSt.out.2]) (fun _ _ => rfl) (fun _ => Iff.rfl), fun x => (HM8.out x).2 hz⟩)
                    clear hz
                    go_wp2_with fail
                    go_roundw
                    case rel => exact ⟨q + 1, by go_num, by omega, HR.out⟩
                    case measure => simp [intOf]; omega
                · obtain rfl : q = m := by omega
                  have hm := HM.out
                  rw [← hm] at hL
                  obtain ⟨X2, M2, H8, hM8⟩ := hL.end_ HN.out HG.out HMM.out.2.1
                  have HP := Lib.hid (pop_next HN.out (by omega) (HMM.out.1.step HG.out HMM.out.2.1) H8 hM8)
                  clear H8 hM8 hL hm
                  go_wp2_with fail
                  refine HP.out.mono ?_
                  rintro e w9 ⟨v16, v17, rfl, hR⟩
                  have HR := Lib.hid hR
                  clear hR HP
                  go_wp2_with fail
                  go_roundw
                  case rel => exact HR.out
                  case measure => have h1 := HLV.out; have h2 := HLV'.out; simp [h1, h2]; omega
            · have hend := hMid.at_.done hnone
              have HE := Lib.hid (show Own w5 w.heap.size 3 u15 (nv (ordO C.gates)) ∧ Kp (fun _ => False) w w5 from ⟨by rw [hend]; exact H.oo, H.kp⟩)
              clear hend hnone H hMid
              go_wp2_with fail
              go_ret
              exact ⟨_, rfl, HE.out.1, HE.out.2⟩

end Go.Proofs.YtckmdcmkjmpiaaaGreatDoor

/-
  latchetref11: waits, Order.
-/
namespace Go.Proofs.YtckmdcmkjmpiaaaGreatDoor
open Go.RowKit

/-- which gates are told, as cells -/
def toldC (out : List Nat) (n : Nat) : List Value := rowF (fun i => .bool (decide (i ∈ out))) n
/-- what ref11.Order has made so far -/
structure RO (V : CV) (C : Circ) (w : World) (n gt : Nat) (out : List Nat) (v3 : Value) (wr : World) : Prop where
  mid : OrdAt C.gates out
  own : Own wr w.heap.size 3 v3 (nv out)
  told : Blk wr gt (toldC out n).toArray 4
  low : w.heap.size < gt
  far : ∀ j, v3.ownBlock = some j → w.heap.size < j ∧ j ≠ gt
  circ : Blk wr w.heap.size (cvals V C) 27
  kp : Kp (fun _ => False) w wr

theorem RO.fr {V : CV} {C : Circ} {w wr wr' : World} {n gt : Nat} {out : List Nat} {v3 : Value} (h : RO V C w n gt out v3 wr) (k : Kp (fun _ => False) wr wr') : RO V C w n gt out v3 wr' :=
  ⟨h.mid, h.own.kp k (fun _ _ h => h), h.told.kp k (fun h => h), h.low, h.far, h.circ.kp k (fun h => h), h.kp.trans k (fun _ _ h => h)⟩

theorem RO.more {V : CV} {C : Circ} {w wr wr' w2 : World} {n gt i : Nat} {out : List Nat} {v3 v' : Value} (h : RO V C w n gt out v3 wr) (hn : nextO C.gates out = some i) (hi : i < n) (hK : Kp (fun _ => False) wr wr')
    (hO : Own w2 w.heap.size 3 v' (nv out ++ [.int .i64 (i : Int)])) (hg : wr'.grownBy w2 v3.ownBlock) (hat : v'.ownBlock = v3.ownBlock ∨ v'.ownBlock = some wr'.heap.size) : RO V C w n gt (out ++ [i]) v' (w2.setCell ⟨gt, i, none⟩ (.bool true)) := by
  have h1 := h.fr hK
  have hKg : Kp (fun j => v3.ownBlock = some j) wr' w2 := (Kp.refl _ wr').grown hg (fun j hj _ => hj)
  have hKs := Kp.set w2 ⟨gt, i, none⟩ (.bool true)
  have hlt := h1.told.lt
  have hfar : ∀ j, v'.ownBlock = some j → w.heap.size < j ∧ j ≠ gt := fun j hj => by
    rcases hat with e | e
    · exact h.far j (e ▸ hj)
    · rw [e] at hj
      have : wr'.heap.size = j := by simpa using hj
      have := h.low
      omega
  refine ⟨h.mid.step hn, by rw [nv_snoc]; exact hO.kp hKs (fun j hj e => (hfar j hj).2 e), ?_, h.low, hfar, (h1.circ.kp hKg (fun e => by have := (h.far _ e).1; omega)).kp hKs (fun e => by have := h.low; have e2 : w.heap.size = gt := e; omega), (h1.kp.grown hg (fun j hj hl => by have := (h.far j hj).1; omega)).setCell (p := ⟨gt, i, none⟩) (fun hl => by have := h.low; exact absurd hl (Nat.not_lt.2 (Nat.le_of_lt this))) _⟩
  have ht := (h1.told.kp hKg (fun e => (h.far _ e).2 rfl)).set_same i (.bool true)
  have e : (toldC out n).toArray.setIfInBounds i (.bool true) = (toldC (out ++ [i]) n).toArray := by
    have e1 : (toldC out n).toArray.setIfInBounds i (.bool true) = ((toldC out n).set i (.bool true)).toArray := by simp
    rw [e1]
    congr 1
    unfold toldC
    rw [rowF_set]
    apply rowF_congr
    intro j _
    by_cases ej : j = i
    · subst ej; rw [up1_at]; simp
    · rw [up1_off _ _ ej]; simp [ej]
  rw [e] at ht
  exact ht

end Go.Proofs.YtckmdcmkjmpiaaaGreatDoor

/-
  A net on the way, in memory: its nodes, and where its circuit's variables are.
-/
namespace Go.Proofs.YtckmdcmkjmpiaaaGreatDoor
open Go.RowKit

theorem OwnK.blkN {w : World} {base k : Nat} {e : TypeId} {v : Value} {rows : List (List Value)} (h : OwnK w base e k v rows) {j : Nat} (hj : v.ownBlock = some j) : ∃ c, Blk w j c e := by
  rcases h.own.2 with ⟨hv, _⟩ | ⟨g, cap, cur, hv, hb, hg, _⟩
  · rw [hv] at hj; cases hj
  · rw [hv] at hj
    have e : g = j := by simpa [Value.ownBlock] using hj
    subst e
    exact ⟨cur, hg⟩

theorem blkN_type {w : World} {j : Nat} {c c' : Array Value} {t t' : TypeId} (h : Blk w j c t) (h' : Blk w j c' t') : t = t' := by
  unfold Blk at h h'
  rw [h] at h'
  simp at h'
  exact h'.2

section
variable {V : CV} {C : Circ} {w wr wr' w2 : World} {s : NS} {v4 v5 v' : Value}

end

theorem CAt.inCell {w : World} {V : CV} {C : Circ} (h : CAt w V C) {q : Nat} (hq : q < C.ins.length) : ∃ b off, V.ai = some ⟨b, off, none⟩ ∧ ∀ u, Kp (fun _ => False) w u → u.cell? ⟨b, off + q, none⟩ = some (.int .i64 (gi C.ins q)) := by
  obtain ⟨b, off, ea, e⟩ := h.i.get hq
  exact ⟨b, off, ea, fun u hu => hu.cellK e⟩
theorem CAt.latCell {w : World} {V : CV} {C : Circ} (h : CAt w V C) {q : Nat} (hq : q < C.lats.length) : ∃ b off, V.al = some ⟨b, off, none⟩ ∧ ∀ u, Kp (fun _ => False) w u → u.cell? ⟨b, off + q * 3, none⟩ = some (.int .i64 (g3 C.lats q).1) ∧ u.cell? ⟨b, off + q * 3 + 1, none⟩ = some (.int .i64 (g3 C.lats q).2.1) ∧ u.cell? ⟨b, off + q * 3 + 2, none⟩ = some (.int .i64 (g3 C.lats q).2.2) := by
  obtain ⟨b, off, ea, e0, e1, e2⟩ := tri_cells h.l hq
  exact ⟨b, off, ea, fun u hu => ⟨hu.cellK e0, hu.cellK e1, hu.cellK e2⟩⟩
theorem CAt.gateCell {w : World} {V : CV} {C : Circ} (h : CAt w V C) {q : Nat} (hq : q < C.gates.length) : ∃ b off, V.ag = some ⟨b, off, none⟩ ∧ ∀ u, Kp (fun _ => False) w u → u.cell? ⟨b, off + q * 3, none⟩ = some (.int .i64 (g3 C.gates q).1) ∧ u.cell? ⟨b, off + q * 3 + 1, none⟩ = some (.int .i64 (g3 C.gates q).2.1) ∧ u.cell? ⟨b, off + q * 3 + 2, none⟩ = some (.int .i64 (g3 C.gates q).2.2) := by
  obtain ⟨b, off, ea, e0, e1, e2⟩ := tri_cells h.g hq
  exact ⟨b, off, ea, fun u hu => ⟨hu.cellK e0, hu.cellK e1, hu.cellK e2⟩⟩

end Go.Proofs.YtckmdcmkjmpiaaaGreatDoor

/-
  binary.circuit: what it keeps on its way; its closure lit.
-/
namespace Go.Proofs.YtckmdcmkjmpiaaaGreatDoor
open Go.RowKit

def zc9 : Array Value := #[.int .i64 0, .slice none 0 0, .slice none 0 0, .slice none 0 0, .slice none 0 0, .slice none 0 0, .slice none 0 0, .slice none 0 0, .string ⟨#[]⟩]

/-- all that circuit keeps -/
structure BC (w u : World) (b hb rb cb nb B : Nat) (s : ByteArray) (hd : Array Value) (st : Nat × Nat) (M n : Int) (vI vL vO vB vC vG : Value) (I : List Int) (L : List (Int × Int × Int)) (O D N : List Int) (G : List (Int × Int × Int)) : Prop where
  t : TX u b s st
  h : Blk u hb hd 42
  r : Blk u rb zc9 27
  c : Blk u cb #[.int .i64 M, vI, vL, vO, vB, vC, vG, .slice none 0 0, .string ⟨#[]⟩] 27
  x : Blk u nb #[.int .i64 n] 3
  oi : Own u B 3 vI (iv I)
  ol : OwnK u B 59 3 vL (L.map tri)
  oo : Own u B 3 vO (iv O)
  od : Own u B 3 vB (iv D)
  on : Own u B 3 vC (iv N)
  og : OwnK u B 61 3 vG (G.map tri)
  bl : b < w.heap.size
  lo : w.heap.size ≤ hb ∧ w.heap.size ≤ rb ∧ w.heap.size ≤ cb ∧ w.heap.size ≤ nb
  hi : hb < B ∧ rb < B ∧ cb < B ∧ nb < B ∧ B ≤ u.heap.size
  ne : cb ≠ rb ∧ cb ≠ hb ∧ cb ≠ nb ∧ nb ≠ rb ∧ nb ≠ hb
  kp : Kp (fun j => j = b) w u

section
variable {w u u' : World} {b hb rb cb nb B : Nat} {s : ByteArray} {hd : Array Value} {st : Nat × Nat} {M n : Int} {vI vL vO vB vC vG : Value} {I : List Int} {L : List (Int × Int × Int)} {O D N : List Int} {G : List (Int × Int × Int)}

theorem Own.low {w' : World} {base : Nat} {e : TypeId} {v : Value} {cs : List Value} {S : Nat → Prop} (h : Own u base e v cs) (k : Kp S u w') (hS : ∀ j, S j → j < base) : Own w' base e v cs :=
  h.kp k (fun j hj hs => by have := (h.lt j hj).1; have := hS j hs; omega)
theorem OwnK.low {w' : World} {base kk : Nat} {e : TypeId} {v : Value} {rs : List (List Value)} {S : Nat → Prop} (h : OwnK u base e kk v rs) (k : Kp S u w') (hS : ∀ j, S j → j < base) : OwnK w' base e kk v rs :=
  h.kp k (fun j hj hs => by have := (h.lt j hj).1; have := hS j hs; omega)

theorem BC.kp0 (h : BC w u b hb rb cb nb B s hd st M n vI vL vO vB vC vG I L O D N G) (k : Kp (fun _ => False) u u') : BC w u' b hb rb cb nb B s hd st M n vI vL vO vB vC vG I L O D N G :=
  ⟨h.t.kp k (fun h => h), h.h.kp k (fun h => h), h.r.kp k (fun h => h), h.c.kp k (fun h => h), h.x.kp k (fun h => h), h.oi.low k (fun _ h => h.elim), h.ol.low k (fun _ h => h.elim), h.oo.low k (fun _ h => h.elim), h.od.low k (fun _ h => h.elim), h.on.low k (fun _ h => h.elim), h.og.low k (fun _ h => h.elim), h.bl, h.lo, ⟨h.hi.1, h.hi.2.1, h.hi.2.2.1, h.hi.2.2.2.1, Nat.le_trans h.hi.2.2.2.2 k.size⟩, h.ne, h.kp.trans k (fun _ _ h => h.elim)⟩

theorem BC.rd {st' : Nat × Nat} (h : BC w u b hb rb cb nb B s hd st M n vI vL vO vB vC vG I L O D N G) (k : Kp (fun j => j = b) u u') (t : TX u' b s st') : BC w u' b hb rb cb nb B s hd st' M n vI vL vO vB vC vG I L O D N G := by
  have hbl := h.bl
  have hlo := h.lo
  have hhi := h.hi
  have hS : ∀ j, j = b → j < B := fun j e => by omega
  exact ⟨t, h.h.kp k (by omega), h.r.kp k (by omega), h.c.kp k (by omega), h.x.kp k (by omega), h.oi.low k hS, h.ol.low k hS, h.oo.low k hS, h.od.low k hS, h.on.low k hS, h.og.low k hS, h.bl, h.lo, ⟨h.hi.1, h.hi.2.1, h.hi.2.2.1, h.hi.2.2.2.1, Nat.le_trans h.hi.2.2.2.2 k.size⟩, h.ne, h.kp.trans k (fun _ _ h => h)⟩

theorem BC.nx {n' : Int} (h : BC w u b hb rb cb nb B s hd st M n vI vL vO vB vC vG I L O D N G) (k : Kp (fun j => j = nb) u u') (x : Blk u' nb #[.int .i64 n'] 3) : BC w u' b hb rb cb nb B s hd st M n' vI vL vO vB vC vG I L O D N G := by
  have hbl := h.bl
  have hlo := h.lo
  have hhi := h.hi
  have hne := h.ne
  have hS : ∀ j, j = nb → j < B := fun j e => by omega
  exact ⟨h.t.kp k (by omega), h.h.kp k (by omega), h.r.kp k (by omega), h.c.kp k (by omega), x, h.oi.low k hS, h.ol.low k hS, h.oo.low k hS, h.od.low k hS, h.on.low k hS, h.og.low k hS, h.bl, h.lo, ⟨h.hi.1, h.hi.2.1, h.hi.2.2.1, h.hi.2.2.2.1, Nat.le_trans h.hi.2.2.2.2 k.size⟩, h.ne, h.kp.trans k (fun j hj e => by omega)⟩

/-- cell i of the circuit is set; the rows of the others stay -/
theorem BC.put {vI' vL' vO' vB' vC' vG' : Value} {I' : List Int} {L' : List (Int × Int × Int)} {O' D' N' : List Int} {G' : List (Int × Int × Int)} (h : BC w u b hb rb cb nb B s hd st M n vI vL vO vB vC vG I L O D N G) {S : Nat → Prop} (k : Kp S u u') (hS : ∀ j, S j → B ≤ j) (i : Nat) (v : Value)
    (hc : (#[.int .i64 M, vI, vL, vO, vB, vC, vG, .slice none 0 0, .string ⟨#[]⟩] : Array Value).setIfInBounds i v = #[.int .i64 M, vI', vL', vO', vB', vC', vG', .slice none 0 0, .string ⟨#[]⟩])
    (oi : Own u' B 3 vI' (iv I')) (ol : OwnK u' B 59 3 vL' (L'.map tri)) (oo : Own u' B 3 vO' (iv O')) (od : Own u' B 3 vB' (iv D')) (on : Own u' B 3 vC' (iv N')) (og : OwnK u' B 61 3 vG' (G'.map tri)) :
    BC w (u'.setCell ⟨cb, i, none⟩ v) b hb rb cb nb B s hd st M n vI' vL' vO' vB' vC' vG' I' L' O' D' N' G' := by
  have hbl := h.bl
  have hlo := h.lo
  have hhi := h.hi
  have hne := h.ne
  have k2 := Kp.set u' ⟨cb, i, none⟩ v
  have hS2 : ∀ j, j = cb → j < B := fun j e => by omega
  have q : ∀ j, j < B → ¬ S j := fun j hj hs => by have := hS j hs; omega
  have c1 := (h.c.kp k (q _ (by omega))).set_same i v
  rw [hc] at c1
  exact ⟨(h.t.kp k (q _ (by omega))).kp k2 (by simp; omega), (h.h.kp k (q _ (by omega))).kp k2 (by simp; omega), (h.r.kp k (q _ (by omega))).kp k2 (by simp; omega), c1, (h.x.kp k (q _ (by omega))).kp k2 (by simp; omega),
    oi.low k2 hS2, ol.low k2 hS2, oo.low k2 hS2, od.low k2 hS2, on.low k2 hS2, og.low k2 hS2, h.bl, h.lo, ⟨hhi.1, hhi.2.1, hhi.2.2.1, hhi.2.2.2.1, by rw [show (u'.setCell ⟨cb, i, none⟩ v).heap.size = u'.heap.size from by simp [World.setCell]]; exact Nat.le_trans hhi.2.2.2.2 k.size⟩, h.ne,
    (h.kp.trans k (fun j hj hs => by have := hS j hs; have := h.kp.size; omega)).trans k2 (fun j hj e => by have e2 : j = cb := e; omega)⟩
theorem apart_il {e : TypeId} {k : Nat} {v1 v2 : Value} {cs : List Value} {rs : List (List Value)} (ha : Own u B 3 v1 cs) (hb : OwnK u B e k v2 rs) (he : e ≠ 3) : ∀ j, v1.ownBlock = some j → ¬ v2.ownBlock = some j := fun j h1 h2 => by
  obtain ⟨c, hc⟩ := ha.rows.blkN h1
  obtain ⟨c', hc'⟩ := hb.blkN h2
  exact he (blkN_type hc' hc)
theorem apart_kk {e e' : TypeId} {k k' : Nat} {v1 v2 : Value} {rs rs' : List (List Value)} (ha : OwnK u B e k v1 rs) (hb : OwnK u B e' k' v2 rs') (he : e ≠ e') : ∀ j, v1.ownBlock = some j → ¬ v2.ownBlock = some j := fun j h1 h2 => by
  obtain ⟨c, hc⟩ := ha.blkN h1
  obtain ⟨c', hc'⟩ := hb.blkN h2
  exact he (blkN_type hc hc')

theorem BC.putL {vL' : Value} {L' : List (Int × Int × Int)} (h : BC w u b hb rb cb nb B s hd st M n vI vL vO vB vC vG I L O D N G) (hg : u.grownBy u' vL.ownBlock) (hO : OwnK u' B 59 3 vL' (L'.map tri)) :
    BC w (u'.setCell ⟨cb, 2, none⟩ vL') b hb rb cb nb B s hd st M n vI vL' vO vB vC vG I L' O D N G := by
  have k : Kp (fun j => vL.ownBlock = some j) u u' := (Kp.refl _ u).grown hg (fun j hj _ => hj)
  exact h.put k (fun j hj => (h.ol.lt j hj).1) 2 vL' rfl (h.oi.kp k (apart_il h.oi h.ol (by decide))) hO (h.oo.kp k (apart_il h.oo h.ol (by decide))) (h.od.kp k (apart_il h.od h.ol (by decide))) (h.on.kp k (apart_il h.on h.ol (by decide))) (h.og.kp k (apart_kk h.og h.ol (by decide)))
theorem BC.putG {vG' : Value} {G' : List (Int × Int × Int)} (h : BC w u b hb rb cb nb B s hd st M n vI vL vO vB vC vG I L O D N G) (hg : u.grownBy u' vG.ownBlock) (hO : OwnK u' B 61 3 vG' (G'.map tri)) :
    BC w (u'.setCell ⟨cb, 6, none⟩ vG') b hb rb cb nb B s hd st M n vI vL vO vB vC vG' I L O D N G' := by
  have k : Kp (fun j => vG.ownBlock = some j) u u' := (Kp.refl _ u).grown hg (fun j hj _ => hj)
  exact h.put k (fun j hj => (h.og.lt j hj).1) 6 vG' rfl (h.oi.kp k (apart_il h.oi h.og (by decide))) (h.ol.kp k (apart_kk h.ol h.og (by decide))) (h.oo.kp k (apart_il h.oo h.og (by decide))) (h.od.kp k (apart_il h.od h.og (by decide))) (h.on.kp k (apart_il h.on h.og (by decide))) hO

/-- a block that came behind all is turned -/
theorem BC.fresh {u0 : World} {st0 : Nat × Nat} {n0 : Int} {xb : Nat} (h0 : BC w u0 b hb rb cb nb B s hd st0 M n0 vI vL vO vB vC vG I L O D N G) (hx : u0.heap.size ≤ xb) (h : BC w u b hb rb cb nb B s hd st M n vI vL vO vB vC vG I L O D N G) (k : Kp (fun j => j = xb) u u') : BC w u' b hb rb cb nb B s hd st M n vI vL vO vB vC vG I L O D N G := by
  have hbl := h.bl
  have hlo := h.lo
  have hhi := h0.hi
  have hws := h0.kp.size
  exact ⟨h.t.kp k (by omega), h.h.kp k (by omega), h.r.kp k (by omega), h.c.kp k (by omega), h.x.kp k (by omega),
    h.oi.kp k (fun j hj e => by have := (h0.oi.lt j hj).2; omega), h.ol.kp k (fun j hj e => by have := (h0.ol.lt j hj).2; omega), h.oo.kp k (fun j hj e => by have := (h0.oo.lt j hj).2; omega), h.od.kp k (fun j hj e => by have := (h0.od.lt j hj).2; omega), h.on.kp k (fun j hj e => by have := (h0.on.lt j hj).2; omega), h.og.kp k (fun j hj e => by have := (h0.og.lt j hj).2; omega),
    h.bl, h.lo, ⟨h.hi.1, h.hi.2.1, h.hi.2.2.1, h.hi.2.2.2.1, Nat.le_trans h.hi.2.2.2.2 k.size⟩, h.ne, h.kp.trans k (fun j hj e => by omega)⟩
end

set_option maxRecDepth 100000 in
set_option maxHeartbeats 1000000 in
theorem bin_lit (nb : Nat) (n : Int) (w : World) (h0 : 0 ≤ n) (h1 : n ≤ 1000000000) (hB : Blk w nb #[.int .i64 n] 3) :
    Calls Tryz.prog 87 #[.pointer (some ⟨nb, 0, none⟩)] w fun e w' => e = .returned (.int .i64 (n + 2)) ∧ Blk w' nb #[.int .i64 (n + 2)] 3 ∧ Kp (fun j => j = nb) w w' := by
  have b0 := hB.cell (i := 0) (v := .int .i64 n) rfl
  have f0 := Blk.free hB 0
  have HB := Lib.hid hB
  clear hB
  go_enter Tryz.func87, Tryz.ntmps87
  go_wp2_with fail
  go_ret
  exact ⟨rfl, Blk.set_same HB.out 0 _, (Kp.refl (fun j => j = nb) w).setCell (p := ⟨nb, 0, none⟩) (fun _ => rfl) _⟩

end Go.Proofs.YtckmdcmkjmpiaaaGreatDoor

/-
  The law of loose regions, with guards.
-/
namespace Go.Proofs.YtckmdcmkjmpiaaaGreatDoor
open Go Go.RowKit

end Go.Proofs.YtckmdcmkjmpiaaaGreatDoor

/-
  The law of loose regions, with guards, and with calls that stand in one order and turn old memory: what the memory is, is told by how
  many of them are done.
-/
namespace Go.Proofs.YtckmdcmkjmpiaaaGreatDoor
open Go Go.RowKit

def cntC (c : Nat → Bool) (n : Nat) (listed : Array Bool) : Nat := (List.range n).countP (fun i => c i && listed.getD i false)

theorem cntC_succ (c : Nat → Bool) (n : Nat) (listed : Array Bool) : cntC c (n + 1) listed = cntC c n listed + (if (c n && listed.getD n false) = true then 1 else 0) := by
  unfold cntC
  rw [List.range_succ, List.countP_append]
  simp [List.countP_cons]

theorem cntC_zero (c : Nat → Bool) (n m : Nat) : cntC c n (Array.replicate m false) = 0 := by
  induction n with
  | zero => rfl
  | succ n ih =>
    rw [cntC_succ, ih]
    have : (Array.replicate m false).getD n false = false := by
      simp [Array.getD_eq_getD_getElem?, Array.getElem?_replicate]
      split <;> simp
    rw [this]
    simp

theorem getD_set {listed : Array Bool} {i j : Nat} (h : j ≠ i) : (listed.setIfInBounds i true).getD j false = listed.getD j false := by
  simp only [Array.getD_eq_getD_getElem?, Array.getElem?_setIfInBounds]
  rw [if_neg (fun e => h e.symm)]

theorem cntC_set_ne {c : Nat → Bool} {listed : Array Bool} {i : Nat} (hc : c i = false) : ∀ n, cntC c n (listed.setIfInBounds i true) = cntC c n listed
  | 0 => rfl
  | n + 1 => by
    rw [cntC_succ, cntC_succ, cntC_set_ne hc n]
    by_cases e : n = i
    · subst e; rw [hc]; simp
    · rw [getD_set e]

theorem cntC_far {c : Nat → Bool} {listed : Array Bool} {i : Nat} : ∀ n, n ≤ i → cntC c n (listed.setIfInBounds i true) = cntC c n listed
  | 0, _ => rfl
  | n + 1, h => by rw [cntC_succ, cntC_succ, cntC_far n (by omega), getD_set (by omega)]

theorem cntC_set {c : Nat → Bool} {listed : Array Bool} {i : Nat} (hi : i < listed.size) (hu : listed.getD i false = false) (hc : c i = true) : ∀ n, i < n → cntC c n (listed.setIfInBounds i true) = cntC c n listed + 1
  | 0, h => by omega
  | n + 1, h => by
    rw [cntC_succ, cntC_succ]
    by_cases e : i = n
    · subst e
      rw [cntC_far i (Nat.le_refl _), hc, hu]
      have h1 : (listed.setIfInBounds i true).getD i false = true := by simp [Array.getD_eq_getD_getElem?, hi]
      rw [h1]
      simp
    · rw [cntC_set hi hu hc n (by omega), getD_set (fun h => e h.symm)]
      omega

theorem cntC_num {c : Nat → Bool} {listed : Array Bool} {i : Nat} : ∀ {n : Nat}, (∀ j, j < n → c j = true → (listed.getD j false = true ↔ j < i)) → i ≤ n → cntC c n listed = (List.range i).countP c := by
  have low : ∀ n, n ≤ i → (∀ j, j < n → c j = true → (listed.getD j false = true ↔ j < i)) → cntC c n listed = (List.range n).countP c := by
    intro n hn h
    induction n with
    | zero => rfl
    | succ n ih =>
      rw [cntC_succ, ih (by omega) (fun j hj => h j (by omega)), List.range_succ, List.countP_append]
      by_cases hc : c n = true
      · rw [hc, (h n (by omega) hc).2 (by omega)]
        simp [hc]
      · have hc' : c n = false := by simpa using hc
        simp [hc']
  intro n h hn
  induction n with
  | zero =>
    obtain rfl : i = 0 := Nat.le_zero.1 hn
    rfl
  | succ n ih =>
    by_cases e : i = n + 1
    · subst e
      exact low _ (Nat.le_refl _) h
    · rw [cntC_succ, ih (fun j hj => h j (by omega)) (by omega)]
      by_cases hc : c n = true
      · have : listed.getD n false = false := by
          have := h n (by omega) hc
          by_cases hl : listed.getD n false = true
          · have := this.1 hl; omega
          · simpa using hl
        rw [this]
        simp
      · have hc' : c n = false := by simpa using hc
        simp [hc']

def chainB (ops : Array Oper) (c : Nat → Bool) : Bool := (List.range ops.size).all (fun j => !c j || (List.range j).all (fun i => !c i || (clo ops 6 (edgesOf ops j)).contains i))
theorem chainB_spec {ops : Array Oper} {c : Nat → Bool} (h : chainB ops c = true) : ∀ i j, c i = true → c j = true → i < j → j < ops.size → i ∈ clo ops 6 (edgesOf ops j) := by
  intro i j hi hj hij hjs
  unfold chainB at h
  rw [List.all_eq_true] at h
  have h1 := h j (List.mem_range.2 hjs)
  rw [hj, Bool.not_true, Bool.false_or, List.all_eq_true] at h1
  have h2 := h1 i (List.mem_range.2 hij)
  rw [hi, Bool.not_true, Bool.false_or] at h2
  simpa using h2


/-- how many calls stand before operation i -/
def numC (c : Nat → Bool) (i : Nat) : Nat := (List.range i).countP c
theorem numC_lt {c : Nat → Bool} {j : Nat} (hc : c j = true) : ∀ {i : Nat}, j < i → numC c j < numC c i
  | 0, h => by omega
  | i + 1, h => by
    have e : numC c (i + 1) = numC c i + (if c i = true then 1 else 0) := by
      unfold numC
      rw [List.range_succ, List.countP_append]
      simp [List.countP_cons]
    rw [e]
    by_cases hji : j = i
    · subst hji; rw [if_pos hc]; omega
    · have := numC_lt hc (i := i) (by omega)
      omega

theorem numC_succ (c : Nat → Bool) (i : Nat) : numC c (i + 1) = numC c i + (if c i = true then 1 else 0) := by
  unfold numC
  rw [List.range_succ, List.countP_append]
  simp [List.countP_cons]
theorem cntC_le {c : Nat → Bool} {listed : Array Bool} {j : Nat} : ∀ n, (∀ k, k < n → c k = true → listed.getD k false = true → k < j) → cntC c n listed ≤ numC c (min n j)
  | 0, _ => by simp [cntC]
  | n + 1, h => by
    have ih := cntC_le (c := c) (listed := listed) (j := j) n (fun k hk => h k (by omega))
    rw [cntC_succ]
    by_cases hn : n < j
    · rw [Nat.min_eq_left (by omega), numC_succ]
      rw [Nat.min_eq_left (by omega)] at ih
      by_cases hc : c n = true
      · rw [if_pos hc]
        split <;> omega
      · have hc' : c n = false := by simpa using hc
        rw [hc']
        simpa using ih
    · have : (c n && listed.getD n false) = false := by
        by_cases hb : (c n && listed.getD n false) = true
        · rw [Bool.and_eq_true] at hb
          exact absurd (h n (by omega) hb.1 hb.2) hn
        · simpa using hb
      rw [this]
      rw [Nat.min_eq_right (by omega)] at ih ⊢
      simpa using ih

/-- what an operation that comes behind some calls may know of their results -/
def Told (ops : Array Oper) (c : Nat → Bool) (vs : List Value) (a : Act) (P : Nat → Prop) : Prop := ∀ (j : Nat) (oj : Oper) (d : Nat), P j → c j = true → ops[j]? = some oj → oj.dst = some d → a.tmps.getD d undef = vs.getD (numC c j) undef

/-- how the operations hang together: those of p come first -/
structure LooseSOK (ops : Array Oper) (p : Nat → Bool) (N : Nat) : Prop where
  low : ∀ (i : Nat) (o : Oper), ops[i]? = some o → p i = true → ∀ e ∈ o.after, Region.binds .any e = true → e.on < i ∧ p e.on = true
  dst : ∀ (i : Nat) (o : Oper), ops[i]? = some o → p i = true → ∀ d, o.dst = some d → d < N
  inj : ∀ (i j : Nat) (o o' : Oper), ops[i]? = some o → ops[j]? = some o' → p i = true → p j = true → ∀ d, o.dst = some d → o'.dst = some d → i = j
  bar : ∀ (i : Nat) (o : Oper), ops[i]? = some o → p i = false → ∀ j, j < ops.size → p j = true → j ∈ clo ops 6 (edgesOf ops i)

def looseSB (ops : Array Oper) (p : Nat → Bool) (N : Nat) : Bool :=
  (List.range ops.size).all fun i => match ops[i]? with
    | none => true
    | some o => (if p i then
        o.after.all (fun e => !Region.binds .any e || (decide (e.on < i) && p e.on)) &&
          (match o.dst with
            | none => true
            | some d => decide (d < N) && (List.range ops.size).all (fun j => !p j || decide (j = i) || (match ops[j]? with | none => true | some o' => decide (o'.dst ≠ some d))))
      else (List.range ops.size).all (fun j => !p j || (clo ops 6 (edgesOf ops i)).contains j))

theorem looseSB_spec {ops : Array Oper} {p : Nat → Bool} {N : Nat} (h : looseSB ops p N = true) : LooseSOK ops p N := by
  unfold looseSB at h
  rw [List.all_eq_true] at h
  have get : ∀ (i : Nat) (o : Oper), ops[i]? = some o → (if p i then
        o.after.all (fun e => !Region.binds .any e || (decide (e.on < i) && p e.on)) &&
          (match o.dst with
            | none => true
            | some d => decide (d < N) && (List.range ops.size).all (fun j => !p j || decide (j = i) || (match ops[j]? with | none => true | some o' => decide (o'.dst ≠ some d))))
      else (List.range ops.size).all (fun j => !p j || (clo ops 6 (edgesOf ops i)).contains j)) = true := fun i o ho => by
    have hi : i < ops.size := (Array.getElem?_eq_some_iff.1 ho).1
    have := h i (List.mem_range.2 hi)
    simp only [ho] at this
    exact this
  refine ⟨fun i o ho hp e he hb => ?_, fun i o ho hp d hd => ?_, fun i j o o' ho ho' hp hp' d hd hd' => ?_, fun i o ho hp j hj hpj => ?_⟩
  · have := (get i o ho)
    rw [if_pos hp, Bool.and_eq_true] at this
    have h1 := this.1
    rw [Array.all_eq_true_iff_forall_mem] at h1
    have h2 := h1 e he
    rw [hb] at h2
    simpa using h2
  · have := (get i o ho)
    rw [if_pos hp, Bool.and_eq_true] at this
    have h1 := this.2
    rw [hd] at h1
    simp only [Bool.and_eq_true, decide_eq_true_eq] at h1
    exact h1.1
  · have := (get i o ho)
    rw [if_pos hp, Bool.and_eq_true] at this
    have h1 := this.2
    rw [hd] at h1
    simp only [Bool.and_eq_true] at h1
    have h2 := h1.2
    rw [List.all_eq_true] at h2
    have h3 := h2 j (List.mem_range.2 (Array.getElem?_eq_some_iff.1 ho').1)
    rw [hp', ho'] at h3
    simp only [Bool.not_true, Bool.false_or, Bool.or_eq_true, decide_eq_true_eq] at h3
    rcases h3 with h3 | h3
    · exact h3.symm
    · exact absurd hd' h3
  · have := (get i o ho)
    rw [if_neg (by simp [hp]), List.all_eq_true] at this
    have h1 := this j (List.mem_range.2 hj)
    rw [hpj, Bool.not_true, Bool.false_or] at h1
    simpa using h1

/-- behind those that are listed -/
structure LInvS (ops : Array Oper) (V : Nat → World → Value → Prop) (R : World → World → Prop) (W : List Value → World → Prop) (c : Nat → Bool) (vs : List Value) (w0 : World) (a0 : Act) (L : Nat → Prop) (a : Act) (u : World) : Prop where
  rel : R w0 u
  st : W vs u
  told : Told ops c vs a L
  val : ∀ (i : Nat) (o : Oper) (d : Nat), ops[i]? = some o → L i → o.dst = some d → V i u (a.tmps.getD d undef)
  off : ∀ s, (∀ (i : Nat) (o : Oper), ops[i]? = some o → L i → o.dst ≠ some s) → a.tmps.getD s undef = a0.tmps.getD s undef
  size : a.tmps.size = a0.tmps.size
  defers : a.defers = a0.defers

/-- an operation that is done, or is passed by: vs are the results of the calls before it; nx: what they are behind it -/
def LS (P : Program) (ops : Array Oper) (Q : Exit → Act → World → Prop) (V : Nat → World → Value → Prop) (R : World → World → Prop) (W : List Value → World → Prop) (vs : List Value) (ch : Bool) (i : Nat) (o : Oper) (a : Act) (u : World) : Prop :=
  (Region.wanted o (yielded ops a.tmps) = true ∧ o.wp P a u (fun a' u' => ∃ v, a' = a.put o.dst v ∧ R u u' ∧ W (if ch then vs ++ [v] else vs) u' ∧ V i u' v) Q) ∨ (Region.wanted o (yielded ops a.tmps) = false ∧ R u u ∧ W (if ch then vs ++ [undef] else vs) u ∧ V i u undef)

section
variable {P : Program} {ops : Array Oper} {Q : Exit → Act → World → Prop} {V : Nat → World → Value → Prop} {R : World → World → Prop} {W : List Value → World → Prop} {vs : List Value} {ch : Bool} {i : Nat} {o : Oper} {a : Act} {u : World}
theorem ls_none (hg : o.guard = none) (h : o.wp P a u (fun a' u' => ∃ v, a' = a.put o.dst v ∧ R u u' ∧ W (if ch then vs ++ [v] else vs) u' ∧ V i u' v) Q) : LS P ops Q V R W vs ch i o a u :=
  .inl ⟨by unfold Region.wanted; rw [hg], h⟩
theorem ls_value {v : Value} {u' : World} (h : (execOp a.eval o).run P u = .ok (.value v) u') (hr : R u u') (hw : W (if ch then vs ++ [v] else vs) u') (hv : V i u' v) : o.wp P a u (fun a' u' => ∃ v, a' = a.put o.dst v ∧ R u u' ∧ W (if ch then vs ++ [v] else vs) u' ∧ V i u' v) Q := by
  unfold Oper.wp
  rw [h]
  exact ⟨v, rfl, hr, hw, hv⟩
theorem ls_call {f : FuncId} {args : Array Value} (h : (execOp a.eval o).run P u = .ok (.enter f args) u)
    (hc : Calls P f args u fun e u' => ∃ v, e = .returned v ∧ R u u' ∧ W (if ch then vs ++ [v] else vs) u' ∧ V i u' v) : o.wp P a u (fun a' u' => ∃ v, a' = a.put o.dst v ∧ R u u' ∧ W (if ch then vs ++ [v] else vs) u' ∧ V i u' v) Q := by
  unfold Oper.wp
  rw [h]
  refine hc.mono ?_
  rintro e u' ⟨v, rfl, hK⟩
  exact ⟨v, rfl, hK⟩
theorem ls_skip {u' : World} (h : (execOp a.eval o).run P u = .ok .skip u') (hr : R u u') (hw : W (if ch then vs ++ [undef] else vs) u') (hv : V i u' undef) : o.wp P a u (fun a' u' => ∃ v, a' = a.put o.dst v ∧ R u u' ∧ W (if ch then vs ++ [v] else vs) u' ∧ V i u' v) Q := by
  unfold Oper.wp
  rw [h]
  exact ⟨undef, rfl, hr, hw, hv⟩
theorem lsn_value {v : Value} {u' : World} (hg : o.guard = none) (h : (execOp a.eval o).run P u = .ok (.value v) u') (hr : R u u') (hw : W (if ch then vs ++ [v] else vs) u') (hv : V i u' v) : LS P ops Q V R W vs ch i o a u := ls_none hg (ls_value h hr hw hv)
theorem lsn_skip {u' : World} (hg : o.guard = none) (h : (execOp a.eval o).run P u = .ok .skip u') (hr : R u u') (hw : W (if ch then vs ++ [undef] else vs) u') (hv : V i u' undef) : LS P ops Q V R W vs ch i o a u := ls_none hg (ls_skip h hr hw hv)
theorem lsn_call {f : FuncId} {args : Array Value} (hg : o.guard = none) (h : (execOp a.eval o).run P u = .ok (.enter f args) u) (hc : Calls P f args u fun e u' => ∃ v, e = .returned v ∧ R u u' ∧ W (if ch then vs ++ [v] else vs) u' ∧ V i u' v) : LS P ops Q V R W vs ch i o a u := ls_none hg (ls_call h hc)
end

theorem wpAny_looseS {P : Program} {ops : Array Oper} {Q : Exit → Act → World → Prop} {p : Nat → Bool} {V : Nat → World → Value → Prop} {R : World → World → Prop} {W : List Value → World → Prop} {c : Nat → Bool} {w0 : World} {a0 : Act} {LP : Array Bool} (L : LooseSOK ops p a0.tmps.size)
    (stable : ∀ i u u' v, R u u' → V i u v → V i u' v) (tr : ∀ x y z, R x y → R y z → R x z)
    (LC : ∀ i j, c i = true → c j = true → i < j → j < ops.size → i ∈ clo ops 6 (edgesOf ops j))
    (hstep : ∀ (i : Nat) (o : Oper), ops[i]? = some o → p i = true → ∀ vs a u, R w0 u → W vs u → (c i = true → vs.length = numC c i) → (∀ j, j < ops.size → c j = true → i ∈ clo ops 6 (edgesOf ops j) → vs.length ≤ numC c j) → Told ops c vs a (fun j => ∃ e ∈ o.after, Region.binds .any e = true ∧ e.on = j) →
      (∀ s, (∀ (j : Nat) (oj : Oper), ops[j]? = some oj → p j = true → oj.dst ≠ some s) → a.tmps.getD s undef = a0.tmps.getD s undef) →
      (∀ e ∈ o.after, Region.binds .any e = true → ∀ (oj : Oper) (d : Nat), ops[e.on]? = some oj → oj.dst = some d → V e.on u (a.tmps.getD d undef)) →
      LS P ops Q V R W vs (c i) i o a u)
    (hLs : LP.size = ops.size) (hLP : ∀ i, i < ops.size → LP.getD i false = p i)
    (hend : ∀ vs a u, vs.length = cntC c ops.size LP → LInvS ops V R W c vs w0 a0 (fun i => p i = true) a u → wpAny P .any ops Q (cntU ops.size LP) LP a u) :
    ∀ (fuel : Nat) (listed : Array Bool) (vs : List Value) (a : Act) (u : World), listed.size = ops.size → vs.length = cntC c ops.size listed → fuel = cntU ops.size listed → (∀ i, i < ops.size → listed.getD i false = true → p i = true) → (∀ j, listed.getD j false = true → ∀ k, k ∈ edgesOf ops j → listed.getD k false = true) →
      LInvS ops V R W c vs w0 a0 (fun i => listed.getD i false = true) a u → wpAny P .any ops Q fuel listed a u := by
  intro fuel
  induction fuel with
  | zero =>
    intro listed vs a u hs hvl hf hl hcl hI
    have hall : ∀ i, i < ops.size → listed.getD i false = true := fun i hi => by
      by_cases h : listed.getD i false = true
      · exact h
      · have := cntU_set (listed := listed) (by omega) (by simpa using h) ops.size hi
        omega
    have e : listed = LP := listed_ext (by omega) (fun i hi => by
      rw [hall i (by omega), hLP i (by omega)]
      exact (hl i (by omega) (hall i (by omega))).symm)
    subst e
    have := hend vs a u hvl ⟨hI.rel, hI.st, fun j oj d hp hc ho hd => hI.told j oj d (hall j (Array.getElem?_eq_some_iff.1 ho).1) hc ho hd, fun i o d ho _ hd => hI.val i o d ho (hall i (Array.getElem?_eq_some_iff.1 ho).1) hd, fun s hs' => hI.off s (fun i o ho hi => hs' i o ho (hl i (Array.getElem?_eq_some_iff.1 ho).1 hi)), hI.size, hI.defers⟩
    rwa [← hf] at this
  | succ fuel ih =>
    intro listed vs a u hs hvl hf hl hcl hI
    by_cases hall : ∀ i, i < ops.size → p i = true → listed.getD i false = true
    · have e : listed = LP := listed_ext (by omega) (fun i hi => by
        rw [hLP i (by omega)]
        by_cases h : p i = true
        · rw [h, hall i (by omega) h]
        · by_cases h2 : listed.getD i false = true
          · exact absurd (hl i (by omega) h2) h
          · have h3 : p i = false := by simpa using h
            have h4 : listed.getD i false = false := by simpa using h2
            rw [h3, h4])
      subst e
      have := hend vs a u hvl ⟨hI.rel, hI.st, fun j oj d hp hc ho hd => hI.told j oj d (hall j (Array.getElem?_eq_some_iff.1 ho).1 hp) hc ho hd, fun i o d ho hp hd => hI.val i o d ho (hall i (Array.getElem?_eq_some_iff.1 ho).1 hp) hd, fun s hs' => hI.off s (fun i o ho hi => hs' i o ho (hl i (Array.getElem?_eq_some_iff.1 ho).1 hi)), hI.size, hI.defers⟩
      rwa [← hf] at this
    · obtain ⟨i0, ⟨hi0, hp0, hu0⟩, hmin⟩ := least_of (R := fun i => i < ops.size ∧ p i = true ∧ listed.getD i false = false) (by
        refine Classical.byContradiction fun hno => hall fun i hi hp => ?_
        by_cases h : listed.getD i false = true
        · exact h
        · exact absurd ⟨i, hi, hp, by simpa using h⟩ hno)
      have hready : i0 ∈ Region.ready .any ops listed := by
        rw [mem_ready]
        refine ⟨by rw [getD_true_false (by omega)]; exact hu0, ops[i0], Array.getElem?_eq_getElem hi0, fun e he hb => ?_⟩
        obtain ⟨h1, h2⟩ := L.low i0 _ (Array.getElem?_eq_getElem hi0) hp0 e he hb
        by_cases h : listed.getD e.on false = true
        · exact h
        · exact absurd ⟨by omega, h2, by simpa using h⟩ (hmin e.on h1)
      refine ⟨fun h => (by rw [h] at hready; cases hready), fun i hi => ?_⟩
      obtain ⟨h1, o, ho, hedge⟩ := mem_ready.1 hi
      have hisz : i < ops.size := (Array.getElem?_eq_some_iff.1 ho).1
      rw [getD_true_false (by omega)] at h1
      have hpi : p i = true := by
        by_cases h : p i = true
        · exact h
        · have h3 := clo_listed (listed := fun j => listed.getD j false = true) hcl 6 (edgesOf ops i) (fun k hk => by
            obtain ⟨e, he, hb, hon⟩ := (mem_edgesOf ho).1 hk
            have := hedge e he hb
            rwa [hon] at this) i0 (L.bar i o ho (by simpa using h) i0 hi0 hp0)
          rw [hu0] at h3
          cases h3
      have hnum : c i = true → vs.length = numC c i := fun hci => by
        rw [hvl]
        refine cntC_num (fun j hj hcj => ⟨fun hlj => ?_, fun hji => ?_⟩) (by omega)
        · by_cases e : j = i
          · subst e; rw [h1] at hlj; cases hlj
          · by_cases e2 : j < i
            · exact e2
            · have h3 := clo_listed (listed := fun j => listed.getD j false = true) hcl 6 (edgesOf ops j) (fun k hk => hcl j hlj k hk) i (LC i j hci hcj (by omega) hj)
              rw [h1] at h3
              cases h3
        · exact clo_listed (listed := fun j => listed.getD j false = true) hcl 6 (edgesOf ops i) (fun k hk => by
            obtain ⟨e, he, hb, hon⟩ := (mem_edgesOf ho).1 hk
            have := hedge e he hb
            rwa [hon] at this) j (LC j i hcj hci hji hisz)
      have hlow : ∀ j, j < ops.size → c i = true → c j = true → listed.getD j false = true → j < i := fun j hj hci hcj hlj => by
        by_cases e : j = i
        · subst e; rw [h1] at hlj; cases hlj
        · by_cases e2 : j < i
          · exact e2
          · have h3 := clo_listed (listed := fun j => listed.getD j false = true) hcl 6 (edgesOf ops j) (fun k hk => hcl j hlj k hk) i (LC i j hci hcj (by omega) hj)
            rw [h1] at h3
            cases h3
      have hgo : ∀ a' u', (∃ v, a' = a.put o.dst v ∧ R u u' ∧ W (if c i then vs ++ [v] else vs) u' ∧ V i u' v) → wpAny P .any ops Q fuel (listed.setIfInBounds i true) a' u' := by
        rintro a' u' ⟨v, rfl, hK, hW, hV⟩
        have hset : ∀ j, (listed.setIfInBounds i true).getD j false = true ↔ j = i ∨ listed.getD j false = true := fun j => by
          simp only [Array.getD_eq_getD_getElem?, Array.getElem?_setIfInBounds]
          by_cases e : i = j
          · subst e; simp [show i < listed.size by omega]
          · rw [if_neg e]
            exact ⟨.inr, fun h => h.resolve_left (fun h => e h.symm)⟩
        refine ih _ (if c i then vs ++ [v] else vs) _ _ (by simp [hs]) ?_ ?_ (fun j hj hlj => ?_) (fun j hj k hk => ?_) ⟨tr _ _ _ hI.rel hK, hW, fun j oj dj hj hcj hoj hdj => ?_, fun j oj dj hoj hj hdj => ?_, fun s hs' => ?_, by rw [put_size]; exact hI.size, by rw [put_defers]; exact hI.defers⟩
        · by_cases hci : c i = true
          · rw [if_pos hci, List.length_append, hvl, cntC_set (by omega) h1 hci ops.size hisz]
            rfl
          · rw [if_neg hci, hvl, cntC_set_ne (by simpa using hci)]
        · have := cntU_set (listed := listed) (by omega) h1 ops.size hisz
          omega
        · rcases (hset j).1 hlj with e | e
          · rw [e]; exact hpi
          · exact hl j hj e
        · rcases (hset j).1 hj with e | e
          · subst e
            obtain ⟨e, he, hb, hon⟩ := (mem_edgesOf ho).1 hk
            refine (hset k).2 (.inr ?_)
            rw [← hon]
            exact hedge e he hb
          · exact (hset k).2 (.inr (hcl j e k hk))
        · have hjs : j < ops.size := (Array.getElem?_eq_some_iff.1 hoj).1
          by_cases eji : j = i
          · subst eji
            have : oj = o := by rw [hoj] at ho; exact Option.some.inj ho
            subst this
            rw [hdj, put_getD_same (by rw [hI.size]; exact L.dst j oj hoj hpi dj hdj), if_pos hcj, ← hnum hcj]
            simp [List.getD]
          · have hlj := ((hset j).1 hj).resolve_left eji
            rw [put_getD_ne (fun h => eji (L.inj j i oj o hoj ho (hl j hjs hlj) hpi dj hdj h)), hI.told j oj dj hlj hcj hoj hdj]
            by_cases hci : c i = true
            · have h5 := numC_lt hcj (hlow j hjs hci hcj hlj)
              have h6 := hnum hci
              rw [if_pos hci, List.getD_eq_getElem?_getD, List.getD_eq_getElem?_getD, List.getElem?_append_left (by omega)]
            · rw [if_neg hci]
        · rcases (hset j).1 hj with e | e
          · subst e
            have : oj = o := by rw [hoj] at ho; exact Option.some.inj ho
            subst this
            rw [hdj, put_getD_same (by rw [hI.size]; exact L.dst j oj hoj hpi dj hdj)]
            exact hV
          · by_cases eji : j = i
            · subst eji
              rw [h1] at e; cases e
            · rw [put_getD_ne (fun h => eji (L.inj j i oj o hoj ho (hl j (Array.getElem?_eq_some_iff.1 hoj).1 e) hpi dj hdj h))]
              exact stable j u u' _ hK (hI.val j oj dj hoj e hdj)
        · rw [put_getD_ne (hs' i o ho ((hset i).2 (.inl rfl)))]
          exact hI.off s (fun j oj hoj hj => hs' j oj hoj ((hset j).2 (.inr hj)))
      have hub : ∀ j, j < ops.size → c j = true → i ∈ clo ops 6 (edgesOf ops j) → vs.length ≤ numC c j := fun j hj hcj hij => by
        have hnj : ¬ listed.getD j false = true := fun hlj => by
          have h3 := clo_listed (listed := fun j => listed.getD j false = true) hcl 6 (edgesOf ops j) (fun k hk => hcl j hlj k hk) i hij
          rw [h1] at h3
          cases h3
        rw [hvl]
        have := cntC_le (c := c) (listed := listed) (j := j) ops.size (fun k hk hck hlk => by
          by_cases e : k = j
          · subst e; exact absurd hlk hnj
          · by_cases e2 : k < j
            · exact e2
            · exact absurd (clo_listed (listed := fun j => listed.getD j false = true) hcl 6 (edgesOf ops k) (fun q hq => hcl k hlk q hq) j (LC j k hcj hck (by omega) hk)) hnj)
        rwa [Nat.min_eq_right (by omega)] at this
      have hst := hstep i o ho hpi vs a u hI.rel hI.st hnum hub (fun j oj d hj hcj hoj hd' => by
        obtain ⟨e, he, hb, rfl⟩ := hj
        exact hI.told e.on oj d (hedge e he hb) hcj hoj hd') (fun s hs' => hI.off s (fun j oj hoj hj => hs' j oj hoj (hl j (Array.getElem?_eq_some_iff.1 hoj).1 hj))) (fun e he hb oj d' hoj hd' => hI.val e.on oj d' hoj (hedge e he hb) hd')
      unfold wpOp
      rw [ho]
      simp only
      rcases hst with ⟨hw, hst⟩ | ⟨hw, hst, hst2, hst3⟩
      · rw [if_pos hw]
        exact .inl (Oper.wp_mono hgo hst)
      · rw [if_neg (by rw [hw]; exact Bool.false_ne_true)]
        exact hgo _ _ ⟨undef, rfl, hst, hst2, hst3⟩

/-- the region, whose last ones (not of p) stay to be walked -/
theorem wp_region_looseS {P : Program} {id : Nat} {ops : Array Oper} {Q : Exit → Act → World → Prop} {p : Nat → Bool} {V : Nat → World → Value → Prop} {R : World → World → Prop} {W : List Value → World → Prop} {c : Nat → Bool} {w : World} {a0 : Act} {LP : Array Bool} {K N : Nat} (hm : P.follows .mixedOrders = true) (hB : looseSB ops p a0.tmps.size = true)
    (hC : chainB ops c = true) (hR0 : R w w.drew) (hW0 : W [] w.drew) (tr : ∀ x y z, R x y → R y z → R x z) (stable : ∀ i u u' v, R u u' → V i u v → V i u' v)
    (hstep : ∀ (i : Nat) (o : Oper), ops[i]? = some o → p i = true → ∀ vs a u, R w u → W vs u → (c i = true → vs.length = numC c i) → (∀ j, j < ops.size → c j = true → i ∈ clo ops 6 (edgesOf ops j) → vs.length ≤ numC c j) → Told ops c vs a (fun j => ∃ e ∈ o.after, Region.binds .any e = true ∧ e.on = j) →
      (∀ s, (∀ (j : Nat) (oj : Oper), ops[j]? = some oj → p j = true → oj.dst ≠ some s) → a.tmps.getD s undef = a0.tmps.getD s undef) →
      (∀ e ∈ o.after, Region.binds .any e = true → ∀ (oj : Oper) (d : Nat), ops[e.on]? = some oj → oj.dst = some d → V e.on u (a.tmps.getD d undef)) →
      LS P ops Q V R W vs (c i) i o a u)
    (hLs : LP.size = ops.size) (hLP : ∀ i, i < ops.size → LP.getD i false = p i) (hK : cntU ops.size LP = K) (hN : cntC c ops.size LP = N)
    (hend : ∀ vs a u, vs.length = N → LInvS ops V R W c vs w a0 (fun i => p i = true) a u → wpAny P .any ops Q K LP a u) : (Code.region id ops true).wp P Q a0 w := by
  refine wp_region_any hm ?_
  refine wpAny_looseS (looseSB_spec hB) stable tr (chainB_spec hC) hstep hLs hLP (fun vs a u hv h => by rw [hK]; rw [hN] at hv; exact hend vs a u hv h) ops.size _ [] a0 _ (by simp) (cntC_zero _ _ _).symm ?_ (fun i hi h => ?_) (fun i h => ?_) ⟨hR0, hW0, fun j oj d hj => ?_, fun i o d ho h => ?_, fun _ _ => rfl, rfl, rfl⟩
  · have : ∀ n, cntU n (Array.replicate ops.size false) = n := fun n => by
      induction n with
      | zero => rfl
      | succ n ih => rw [cntU_succ, ih]; simp [unl, Array.getD_eq_getD_getElem?, Array.getElem?_replicate]; split <;> simp
    rw [this]
  · simp [Array.getD_eq_getD_getElem?, Array.getElem?_replicate] at h
    split at h <;> simp at h
  · simp [Array.getD_eq_getD_getElem?, Array.getElem?_replicate] at h
    split at h <;> simp at h
  · exfalso
    simp [Array.getD_eq_getD_getElem?, Array.getElem?_replicate] at hj
    split at hj <;> simp at hj
  · simp [Array.getD_eq_getD_getElem?, Array.getElem?_replicate] at h
    split at h <;> simp at h

end Go.Proofs.YtckmdcmkjmpiaaaGreatDoor

/-
  For the law of loose regions: which operations are loose, by a list; those that stay, in their one order.
-/
namespace Go.Proofs.YtckmdcmkjmpiaaaGreatDoor
open Go Go.RowKit

def inL (l : List Nat) (i : Nat) : Bool := l.contains i

theorem pOf_spec {p : Nat → Bool} {m : Nat} {LP : Array Bool} (h : (List.range m).all (fun i => LP.getD i false == p i) = true) : ∀ i, i < m → LP.getD i false = p i := by
  intro i hi
  rw [List.all_eq_true] at h
  have := h i (List.mem_range.2 hi)
  simpa using this

theorem inL_far {l : List Nat} {n N : Nat} (h : l.all (fun x => decide (x < N)) = true) (hp : inL l (n + N) = true) : False := by
  unfold inL at hp
  rw [List.all_eq_true] at h
  have h1 : n + N ∈ l := by simpa using hp
  have := h _ h1
  simp at this
  omega

theorem atV_stR {R : World → World → Prop} {Vs : List (World → Value → Prop)} (h : ∀ V ∈ Vs, ∀ u u' v, R u u' → V u v → V u' v) : ∀ i u u' v, R u u' → atV Vs i u v → atV Vs i u' v := by
  intro i u u' v k
  unfold atV
  rw [List.getD_eq_getElem?_getD]
  cases hi : Vs[i]? with
  | none => exact fun _ => trivial
  | some V => exact h V (List.mem_of_getElem? hi) u u' v k

theorem vs_list1 {vs : List Value} (h : vs.length = 1) : ∃ r0, vs = [r0] := by
  match vs, h with
  | [r0], _ => exact ⟨r0, rfl⟩
theorem vs_list2 {vs : List Value} (h : vs.length = 2) : ∃ r0 r1, vs = [r0, r1] := by
  match vs, h with
  | [r0, r1], _ => exact ⟨r0, r1, rfl⟩
theorem vs_list3 {vs : List Value} (h : vs.length = 3) : ∃ r0 r1 r2, vs = [r0, r1, r2] := by
  match vs, h with
  | [r0, r1, r2], _ => exact ⟨r0, r1, r2, rfl⟩
theorem vs_list4 {vs : List Value} (h : vs.length = 4) : ∃ r0 r1 r2 r3, vs = [r0, r1, r2, r3] := by
  match vs, h with
  | [r0, r1, r2, r3], _ => exact ⟨r0, r1, r2, r3, rfl⟩
theorem vs_list5 {vs : List Value} (h : vs.length = 5) : ∃ r0 r1 r2 r3 r4, vs = [r0, r1, r2, r3, r4] := by
  match vs, h with
  | [r0, r1, r2, r3, r4], _ => exact ⟨r0, r1, r2, r3, r4, rfl⟩
theorem vs_list6 {vs : List Value} (h : vs.length = 6) : ∃ r0 r1 r2 r3 r4 r5, vs = [r0, r1, r2, r3, r4, r5] := by
  match vs, h with
  | [r0, r1, r2, r3, r4, r5], _ => exact ⟨r0, r1, r2, r3, r4, r5, rfl⟩
theorem eval_at {a : Act} {x : Nat} {v : Value} (h : a.tmps[x]?.getD undef = v) : a.eval (.tmp x) = v := by
  simpa [Act.eval] using h

/-- an element is appended, at an operation -/
theorem op_append1 {P : Program} {w : World} {o : Oper} {a : Act} {post : Act → World → Prop} {Q : Exit → Act → World → Prop} (s x : Operand) (t e : TypeId)
    (ho : o.op = .call { callee := .builtin .append, args := #[s, x], argTypes := #[t, t] }) {z : Value} {bytes : Nat}
    (ht : P.underlying t = some (.slice e)) (hI : (P.info? e).map (fun i => (i.zero, i.size, i.bytes)) = some (some z, 1, bytes)) (hzs : z.cells.size = 1)
    {base : Nat} {v : Value} {cs : List Value} (hown : Own w base e v cs) (hs : a.eval s = v) (ad : Addr) (u : Value) (hx : a.eval x = .slice (some ad) 1 1) (hnew : w.cell? ad = some u) (h1 : u.oneCell' = true)
    (hbytes : (cs.length + 1) * bytes ≤ 140737488355328) (hm : cs.length + 1 ≤ maxLen) (hbase : base ≤ w.heap.size)
    (h : ∀ v' w', Own w' base e v' (cs ++ [u]) → w.grownBy w' v.ownBlock → post (a.put o.dst v') w') : o.wp P a w post Q := by
  obtain ⟨i0, hi, hz0, hz1, hz2⟩ := info_parts hI
  obtain ⟨v', w', hr, h2, h3, h4, h5⟩ := run_append_own_at (P := P) w base t o.type e i0 z 1 bytes ht hi hz0 hz1 hz2 hzs (by decide) v cs.length cs hown ad 1 1 [u] rfl (by
    intro j u' hj
    match j, hj with
    | 0, hj =>
      have : ad.add 0 = ad := by unfold Addr.add; split <;> simp_all
      simp at hj
      rw [this, ← hj]; exact hnew) (by intro u' hu; simp at hu; subst hu; exact h1) hm hbytes hbase
  unfold Oper.wp execOp
  simp only [ho, resolve, invoke, builtin, Sem.run_bind, Sem.run_pure, Result.andThen_ok, List.map_toArray, List.map_cons, List.map_nil, hs, hx, hr]
  exact h v' w' (by unfold Own; rw [List.length_append]; exact h2) h3

end Go.Proofs.YtckmdcmkjmpiaaaGreatDoor

/-
  Nine cells, set one by one. (Out of XAsciiRead.)
-/
namespace Go.Proofs.YtckmdcmkjmpiaaaGreatDoor
open Go.RowKit

/-- nine cells, set one by one -/
def set9 (w : World) (b : Nat) (y0 y1 y2 y3 y4 y5 y6 y7 y8 : Value) : World :=
  ((((((((w.setCell ⟨b, 0, none⟩ y0).setCell ⟨b, 1, none⟩ y1).setCell ⟨b, 2, none⟩ y2).setCell ⟨b, 3, none⟩ y3).setCell ⟨b, 4, none⟩ y4).setCell ⟨b, 5, none⟩ y5).setCell ⟨b, 6, none⟩ y6).setCell ⟨b, 7, none⟩ y7).setCell ⟨b, 8, none⟩ y8

theorem Blk.set9 {w : World} {b : Nat} {x0 x1 x2 x3 x4 x5 x6 x7 x8 : Value} {t : TypeId} (h : Blk w b #[x0, x1, x2, x3, x4, x5, x6, x7, x8] t) (y0 y1 y2 y3 y4 y5 y6 y7 y8 : Value) :
    Blk (set9 w b y0 y1 y2 y3 y4 y5 y6 y7 y8) b #[y0, y1, y2, y3, y4, y5, y6, y7, y8] t := by
  have h7 := ((((((((h.set_same 0 y0).set_same 1 y1).set_same 2 y2).set_same 3 y3).set_same 4 y4).set_same 5 y5).set_same 6 y6).set_same 7 y7).set_same 8 y8
  unfold Go.Proofs.YtckmdcmkjmpiaaaGreatDoor.set9
  simpa only [List.setIfInBounds_toArray, List.set_cons_zero, List.set_cons_succ] using h7

theorem Kp.set9 (w : World) (b : Nat) (y0 y1 y2 y3 y4 y5 y6 y7 y8 : Value) : Kp (fun j => j = b) w (set9 w b y0 y1 y2 y3 y4 y5 y6 y7 y8) :=
  (((((((((Kp.refl (fun j => j = b) w).setCell (p := ⟨b, 0, none⟩) (fun _ => rfl) y0).setCell (p := ⟨b, 1, none⟩) (fun _ => rfl) y1).setCell (p := ⟨b, 2, none⟩) (fun _ => rfl) y2).setCell (p := ⟨b, 3, none⟩) (fun _ => rfl) y3).setCell (p := ⟨b, 4, none⟩) (fun _ => rfl) y4).setCell (p := ⟨b, 5, none⟩) (fun _ => rfl) y5).setCell (p := ⟨b, 6, none⟩) (fun _ => rfl) y6).setCell (p := ⟨b, 7, none⟩) (fun _ => rfl) y7).setCell (p := ⟨b, 8, none⟩) (fun _ => rfl) y8


end Go.Proofs.YtckmdcmkjmpiaaaGreatDoor

/-
  What binary.circuit reads, plainly. (Printed by mkbincirc.py.)
-/
namespace Go.Proofs.YtckmdcmkjmpiaaaGreatDoor
open Go.RowKit

def rdLatsP (s : ByteArray) (top : Int) (I : Nat) : Nat → Nat → List (Int × Int × Int) → Nat × Nat → List (Int × Int × Int) × Nat × Nat
  | 0, _, L, st => (L, st)
  | j + 1, k, L, st =>
    let d := rdD s top st
    let g := rdS s (fun c => c == 32 || c == 10) d.2
    if g.1 = 32 then
      let r := rdD s top g.2
      let q := rdS s (fun c => c == 10) r.2
      rdLatsP s top I j (k + 1) (L ++ [(2 * ((I + k : Nat) : Int) + 2, (d.1 : Int), (r.1 : Int))]) q.2
    else if g.1 = 0 then (L, g.2)
    else rdLatsP s top I j (k + 1) (L ++ [(2 * ((I + k : Nat) : Int) + 2, (d.1 : Int), 0)]) g.2
def rdGatesP (s : ByteArray) (I : Nat) : Nat → Nat → List (Int × Int × Int) → Nat × Nat → List (Int × Int × Int) × Nat × Nat
  | 0, _, L, st => (L, st)
  | j + 1, k, L, st =>
    let lit : Int := 2 * ((I + k : Nat) : Int) + 2
    let d := rdG s 1 lit st
    let e := rdG s 0 (lit - d.1) d.2
    if e.2.2 ≠ 0 then (L, e.2) else rdGatesP s I j (k + 1) (L ++ [(lit, lit - d.1, lit - d.1 - e.1)]) e.2
theorem getR_end {s : ByteArray} {p : Nat} : ∀ (r k a : Nat), p + k ≤ s.size → (getR s p r k a).2.2 = 0 → (getR s p r k a).2.1 ≤ s.size
  | 0, k, a, _, h => by simp [getR] at h
  | r + 1, k, a, hk, h => by
    unfold getR at h ⊢
    by_cases c1 : p + k = s.size
    · rw [if_pos c1] at h; simp at h
    rw [if_neg c1] at h ⊢
    by_cases c2 : k = 4 ∧ 15 < bt s (p + k)
    · rw [if_pos c2] at h; simp at h
    rw [if_neg c2] at h ⊢
    by_cases c3 : 0 < k ∧ bt s (p + k) = 0
    · rw [if_pos c3] at h; simp at h
    rw [if_neg c3] at h ⊢
    by_cases c4 : bt s (p + k) < 128
    · rw [if_pos c4]
      show p + k + 1 ≤ _
      omega
    · rw [if_neg c4] at h ⊢
      exact getR_end r (k + 1) _ (by omega) h
theorem getN_end {s : ByteArray} {p : Nat} (hp : p ≤ s.size) (h : (getN s p).2.2 = 0) : (getN s p).2.1 ≤ s.size := by
  unfold getN at h ⊢
  exact getR_end 5 0 0 (by omega) h
theorem rdLatsP_succ (s : ByteArray) (top : Int) (I j k : Nat) (L : List (Int × Int × Int)) (st : Nat × Nat) : rdLatsP s top I (j + 1) k L st =
    if (rdS s (fun c => c == 32 || c == 10) (rdD s top st).2).1 = 32 then rdLatsP s top I j (k + 1) (L ++ [(2 * ((I + k : Nat) : Int) + 2, ((rdD s top st).1 : Int), ((rdD s top (rdS s (fun c => c == 32 || c == 10) (rdD s top st).2).2).1 : Int))]) (rdS s (fun c => c == 10) (rdD s top (rdS s (fun c => c == 32 || c == 10) (rdD s top st).2).2).2).2
    else if (rdS s (fun c => c == 32 || c == 10) (rdD s top st).2).1 = 0 then (L, (rdS s (fun c => c == 32 || c == 10) (rdD s top st).2).2)
    else rdLatsP s top I j (k + 1) (L ++ [(2 * ((I + k : Nat) : Int) + 2, ((rdD s top st).1 : Int), 0)]) (rdS s (fun c => c == 32 || c == 10) (rdD s top st).2).2 := rfl
theorem rdGatesP_succ (s : ByteArray) (I j k : Nat) (L : List (Int × Int × Int)) (st : Nat × Nat) : rdGatesP s I (j + 1) k L st =
    if (rdG s 0 (2 * ((I + k : Nat) : Int) + 2 - (rdG s 1 (2 * ((I + k : Nat) : Int) + 2) st).1) (rdG s 1 (2 * ((I + k : Nat) : Int) + 2) st).2).2.2 ≠ 0 then (L, (rdG s 0 (2 * ((I + k : Nat) : Int) + 2 - (rdG s 1 (2 * ((I + k : Nat) : Int) + 2) st).1) (rdG s 1 (2 * ((I + k : Nat) : Int) + 2) st).2).2)
    else rdGatesP s I j (k + 1) (L ++ [(2 * ((I + k : Nat) : Int) + 2, 2 * ((I + k : Nat) : Int) + 2 - (rdG s 1 (2 * ((I + k : Nat) : Int) + 2) st).1, 2 * ((I + k : Nat) : Int) + 2 - (rdG s 1 (2 * ((I + k : Nat) : Int) + 2) st).1 - (rdG s 0 (2 * ((I + k : Nat) : Int) + 2 - (rdG s 1 (2 * ((I + k : Nat) : Int) + 2) st).1) (rdG s 1 (2 * ((I + k : Nat) : Int) + 2) st).2).1)]) (rdG s 0 (2 * ((I + k : Nat) : Int) + 2 - (rdG s 1 (2 * ((I + k : Nat) : Int) + 2) st).1) (rdG s 1 (2 * ((I + k : Nat) : Int) + 2) st).2).2 := rfl
theorem rdD_stay {s : ByteArray} {top : Int} {st : Nat × Nat} (h : st.2 ≠ 0) : rdD s top st = (0, st) := by unfold rdD; rw [if_pos h]
theorem rdS_stay {s : ByteArray} {ok : Nat → Bool} {st : Nat × Nat} (h : st.2 ≠ 0) : rdS s ok st = (0, st) := by unfold rdS; rw [if_pos h]
theorem rdG_stay {s : ByteArray} {least top : Int} {st : Nat × Nat} (h : st.2 ≠ 0) : rdG s least top st = (0, st) := by unfold rdG; rw [if_pos h]
theorem rdLits_stay {s : ByteArray} {top : Int} {m : Nat} {L : List Int} {st : Nat × Nat} (h : st.2 ≠ 0) : (rdLits s top m L st).2 = st := by
  cases m with
  | zero => rfl
  | succ m =>
    unfold rdLits
    rw [rdD_stay h]
    simp only
    rw [rdS_stay h]
    simp
theorem rdGatesP_stay {s : ByteArray} {I m k : Nat} {L : List (Int × Int × Int)} {st : Nat × Nat} (h : st.2 ≠ 0) : (rdGatesP s I m k L st).2 = st := by
  cases m with
  | zero => rfl
  | succ m =>
    rw [rdGatesP_succ, rdG_stay h]
    simp only
    rw [rdG_stay h]
    simp only
    rw [if_pos h]
theorem rdG_le {s : ByteArray} {least top : Int} {st : Nat × Nat} (h : st.1 ≤ s.size) (ht : 0 ≤ top) : (rdG s least top st).2.1 ≤ s.size ∧ ((rdG s least top st).1 : Int) ≤ top := by
  unfold rdG
  by_cases c1 : st.2 ≠ 0
  · rw [if_pos c1]; exact ⟨h, by simpa using ht⟩
  rw [if_neg c1]
  by_cases c2 : (getN s st.1).2.2 ≠ 0
  · rw [if_pos c2]; exact ⟨h, by simpa using ht⟩
  rw [if_neg c2]
  by_cases c3 : ((getN s st.1).1 : Int) < least ∨ top < ((getN s st.1).1 : Int)
  · rw [if_pos c3]; exact ⟨h, by simpa using ht⟩
  rw [if_neg c3]
  exact ⟨getN_end h (by simpa using c2), by show ((getN s st.1).1 : Int) ≤ top; omega⟩
theorem rdLits_le {s : ByteArray} {top : Int} : ∀ {m : Nat} {L : List Int} {st : Nat × Nat}, st.1 ≤ s.size → (rdLits s top m L st).2.1 ≤ s.size
  | 0, L, st, h => h
  | m + 1, L, st, h => by
    unfold rdLits
    have h2 := rdS_le (s := s) (ok := fun c => c == 10) (st := (rdD s top st).2) (rdD_le (top := top) h)
    split
    · exact h2
    · exact rdLits_le h2
theorem rdS_zero {s : ByteArray} {ok : Nat → Bool} {st : Nat × Nat} {p e : Nat} (h0 : ok 0 = false) (h : rdS s ok st = (0, p, e)) : e ≠ 0 := by
  unfold rdS at h
  by_cases c1 : st.2 ≠ 0
  · rw [if_pos c1] at h
    have : st = (p, e) := by simpa using h
    rw [this] at c1
    exact c1
  rw [if_neg c1] at h
  by_cases c2 : st.1 = s.size
  · rw [if_pos c2] at h
    simp at h; omega
  rw [if_neg c2] at h
  by_cases c3 : ok (bt s st.1) = false
  · rw [if_pos c3] at h
    simp at h; omega
  rw [if_neg c3] at h
  simp only [Prod.mk.injEq] at h
  rw [h.1, h0] at c3
  exact absurd rfl c3
def insP (n : Nat) : List Int := (List.range n).map (fun k : Nat => 2 * (k : Int) + 2)
def rdC (s : ByteArray) (M : Int) (nI nL nO nA nB nC : Nat) (st : Nat × Nat) : Circ × Nat × Nat :=
  let l := rdLatsP s (2 * M + 1) nI nL 0 [] st
  let o := rdLits s (2 * M + 1) nO [] l.2
  let d := rdLits s (2 * M + 1) nB [] o.2
  let n := rdLits s (2 * M + 1) nC [] d.2
  let g := rdGatesP s (nI + nL) nA 0 [] n.2
  (⟨M, insP nI, l.1, o.1, d.1, n.1, g.1⟩, g.2)

/-- what is so before, between and behind two calls -/
def WG (P0 P1 P2 : World → Prop) : List Value → World → Prop
  | [], u => P0 u
  | [_], u => P1 u
  | [_, _], u => P2 u
  | _, _ => False
theorem WG_all {P0 P1 P2 : World → Prop} {X : Prop} {u : World} (h0 : P0 u → X) (h1 : P1 u → X) (h2 : P2 u → X) : ∀ {vs : List Value}, WG P0 P1 P2 vs u → X
  | [], h => h0 h
  | [_], h => h1 h
  | [_, _], h => h2 h
  | _ :: _ :: _ :: _, h => h.elim

/-- region 18 of circuit: what is so after some of its steps -/
def WO (w : World) (b hb rb cb nb B : Nat) (s : ByteArray) (hd : Array Value) (t : Nat × Nat) (o1 o2 o3 : List Int × Nat × Nat) (M n0 : Int) (vI vL : Value) (I : List Int) (L : List (Int × Int × Int)) : List Value → World → Prop
  | [], u => BC w u b hb rb cb nb B s hd t M n0 vI vL (.slice none 0 0) (.slice none 0 0) (.slice none 0 0) (.slice none 0 0) I L [] [] [] []
  | [r0], u => Own u B 3 r0 (iv o1.1) ∧ BC w u b hb rb cb nb B s hd o1.2 M n0 vI vL (.slice none 0 0) (.slice none 0 0) (.slice none 0 0) (.slice none 0 0) I L [] [] [] []
  | [r0, r1], u => Own u B 3 r0 (iv o1.1) ∧ Own u B 3 r1 (iv o2.1) ∧ BC w u b hb rb cb nb B s hd o2.2 M n0 vI vL (.slice none 0 0) (.slice none 0 0) (.slice none 0 0) (.slice none 0 0) I L [] [] [] []
  | [r0, r1, r2], u => Own u B 3 r0 (iv o1.1) ∧ Own u B 3 r1 (iv o2.1) ∧ Own u B 3 r2 (iv o3.1) ∧ BC w u b hb rb cb nb B s hd o3.2 M n0 vI vL (.slice none 0 0) (.slice none 0 0) (.slice none 0 0) (.slice none 0 0) I L [] [] [] []
  | [r0, r1, r2, _], u => Own u B 3 r1 (iv o2.1) ∧ Own u B 3 r2 (iv o3.1) ∧ BC w u b hb rb cb nb B s hd o3.2 M n0 vI vL r0 (.slice none 0 0) (.slice none 0 0) (.slice none 0 0) I L o1.1 [] [] []
  | [r0, r1, r2, _, _], u => Own u B 3 r2 (iv o3.1) ∧ BC w u b hb rb cb nb B s hd o3.2 M n0 vI vL r0 r1 (.slice none 0 0) (.slice none 0 0) I L o1.1 o2.1 [] []
  | [r0, r1, r2, _, _, _], u => BC w u b hb rb cb nb B s hd o3.2 M n0 vI vL r0 r1 r2 (.slice none 0 0) I L o1.1 o2.1 o3.1 []
  | _, _ => False
theorem WO_h {w u : World} {b hb rb cb nb B : Nat} {s : ByteArray} {hd : Array Value} {t : Nat × Nat} {o1 o2 o3 : List Int × Nat × Nat} {M n0 : Int} {vI vL : Value} {I : List Int} {L : List (Int × Int × Int)} : ∀ {vs : List Value}, WO w b hb rb cb nb B s hd t o1 o2 o3 M n0 vI vL I L vs u → Blk u hb hd 42
  | [], h => h.h
  | [_], h => h.2.h
  | [_, _], h => h.2.2.h
  | [_, _, _], h => h.2.2.2.h
  | [_, _, _, _], h => h.2.2.h
  | [_, _, _, _, _], h => h.2.h
  | [_, _, _, _, _, _], h => h.h
  | _ :: _ :: _ :: _ :: _ :: _ :: _ :: _, h => h.elim

theorem rdC_stop {s : ByteArray} {M : Int} {nI nL nO nA nB nC : Nat} {st t : Nat × Nat} (h : (rdLatsP s (2 * M + 1) nI nL 0 [] st).2 = t) (ht : t.2 ≠ 0) : (rdC s M nI nL nO nA nB nC st).2 = t := by
  unfold rdC
  simp only [h]
  rw [rdLits_stay (st := t) ht, rdLits_stay (st := t) ht, rdLits_stay (st := t) ht, rdGatesP_stay ht]

theorem rdC_fin {s : ByteArray} {M : Int} {nI nL nO nA nB nC : Nat} {st t t2 : Nat × Nat} {L G : List (Int × Int × Int)} {o1 o2 o3 : List Int × Nat × Nat} (hl : rdLatsP s (2 * M + 1) nI nL 0 [] st = (L, t)) (h1 : rdLits s (2 * M + 1) nO [] t = o1) (h2 : rdLits s (2 * M + 1) nB [] o1.2 = o2) (h3 : rdLits s (2 * M + 1) nC [] o2.2 = o3) (hg : rdGatesP s (nI + nL) nA 0 [] o3.2 = (G, t2)) :
    rdC s M nI nL nO nA nB nC st = (⟨M, insP nI, L, o1.1, o2.1, o3.1, G⟩, t2) := by
  unfold rdC
  simp only [hl, h1, h2, h3, hg]

/-- a circuit that no store into older memory spoils -/
def BKeep (B : Nat) (w : World) (V : CV) (C : Circ) : Prop := ∀ (S : Nat → Prop) (w2 : World), (∀ j, S j → j < B ∨ w.heap.size ≤ j) → Kp S w w2 → CAt w2 V C
theorem RowAt.late {u u' : World} {a : Option Addr} {cs : List Value} {B : Nat} {S : Nat → Prop} (h : RowAt u a cs) (hb : ∀ p, a = some p → B ≤ p.block) (hS : ∀ j, S j → j < B ∨ u.heap.size ≤ j) (k : Kp S u u') : RowAt u' a cs := by
  intro j x hx
  obtain ⟨b, off, rfl, hc⟩ := h j x hx
  have hlt : b < u.heap.size := World.block_lt_of_cell? u _ hc
  have h2 : B ≤ b := hb _ rfl
  exact ⟨b, off, rfl, (World.cell?_of_block (w := u) (w' := u') (a := ⟨b, off + j, none⟩) (k.block b hlt (fun hs => by have := hS b hs; omega))).trans hc⟩
theorem rdC_keep {u : World} {B : Nat} {M : Int} {I O D N : List Int} {L G : List (Int × Int × Int)} {ia la oa da na ga : Option Addr} {ic lc oc dc nc gc : Nat}
    (h : (∃ a cap, Value.slice ia I.length ic = .slice a (iv I).length cap ∧ (iv I).length ≤ cap ∧ cap ≤ maxLen ∧ (a = none → cap = 0) ∧ (∀ p, a = some p → B ≤ p.block) ∧ RowAt u a (iv I)) ∧
      (∃ a cap, Value.slice la L.length lc = .slice a (L.map tri).length cap ∧ (L.map tri).length ≤ cap ∧ cap ≤ maxLen ∧ (a = none → cap = 0) ∧ (∀ p, a = some p → ∃ g, p = ⟨g, 0, none⟩ ∧ B ≤ g ∧ g < u.heap.size) ∧ RowAt u a (L.map tri).flatten) ∧
      (∃ a cap, Value.slice oa O.length oc = .slice a (iv O).length cap ∧ (iv O).length ≤ cap ∧ cap ≤ maxLen ∧ (a = none → cap = 0) ∧ (∀ p, a = some p → B ≤ p.block) ∧ RowAt u a (iv O)) ∧
      (∃ a cap, Value.slice da D.length dc = .slice a (iv D).length cap ∧ (iv D).length ≤ cap ∧ cap ≤ maxLen ∧ (a = none → cap = 0) ∧ (∀ p, a = some p → B ≤ p.block) ∧ RowAt u a (iv D)) ∧
      (∃ a cap, Value.slice na N.length nc = .slice a (iv N).length cap ∧ (iv N).length ≤ cap ∧ cap ≤ maxLen ∧ (a = none → cap = 0) ∧ (∀ p, a = some p → B ≤ p.block) ∧ RowAt u a (iv N)) ∧
      (∃ a cap, Value.slice ga G.length gc = .slice a (G.map tri).length cap ∧ (G.map tri).length ≤ cap ∧ cap ≤ maxLen ∧ (a = none → cap = 0) ∧ (∀ p, a = some p → ∃ g, p = ⟨g, 0, none⟩ ∧ B ≤ g ∧ g < u.heap.size) ∧ RowAt u a (G.map tri).flatten)) :
    BKeep B u ⟨ia, ic, la, lc, oa, oc, da, dc, na, nc, ga, gc, none, 0, 0, ⟨#[]⟩⟩ ⟨M, I, L, O, D, N, G⟩ := by
  obtain ⟨⟨a1, c1, e1, q1, m1, n1, p1, r1⟩, ⟨a2, c2, e2, q2, m2, n2, p2, r2⟩, ⟨a3, c3, e3, q3, m3, n3, p3, r3⟩, ⟨a4, c4, e4, q4, m4, n4, p4, r4⟩, ⟨a5, c5, e5, q5, m5, n5, p5, r5⟩, ⟨a6, c6, e6, q6, m6, n6, p6, r6⟩⟩ := h
  simp only [Value.slice.injEq] at e1 e2 e3 e4 e5 e6
  obtain ⟨rfl, -, rfl⟩ := e1
  obtain ⟨rfl, -, rfl⟩ := e2
  obtain ⟨rfl, -, rfl⟩ := e3
  obtain ⟨rfl, -, rfl⟩ := e4
  obtain ⟨rfl, -, rfl⟩ := e5
  obtain ⟨rfl, -, rfl⟩ := e6
  rw [iv_length] at q1 q3 q4 q5
  rw [List.length_map] at q2 q6
  intro S w2 hS k
  have low : ∀ {a : Option Addr}, (∀ p, a = some p → ∃ g, p = ⟨g, 0, none⟩ ∧ B ≤ g ∧ g < u.heap.size) → ∀ p, a = some p → B ≤ p.block := fun h p hp => by
    obtain ⟨g, rfl, hg, -⟩ := h p hp
    exact hg
  exact ⟨r1.late p1 hS k, r2.late (low p2) hS k, r3.late p3 hS k, r4.late p4 hS k, r5.late p5 hS k, r6.late (low p6) hS k, ⟨[], RowAt.nil _ _, rfl, (fun r h => by cases h), (fun r h => by cases h)⟩, ⟨q1, m1, n1⟩, ⟨q2, m2, n2⟩, ⟨q3, m3, n3⟩, ⟨q4, m4, n4⟩, ⟨q5, m5, n5⟩, ⟨q6, m6, n6⟩, ⟨Nat.le_refl _, by simp [maxLen], fun _ => rfl⟩⟩

/-- region 5 of circuit: what is so after some of its steps -/
def WI (w : World) (b hb rb cb nb B : Nat) (s : ByteArray) (hd : Array Value) (st : Nat × Nat) (M n0 : Int) (vI : Value) (I : List Int) : List Value → World → Prop
  | [], u => BC w u b hb rb cb nb B s hd st M n0 vI (.slice none 0 0) (.slice none 0 0) (.slice none 0 0) (.slice none 0 0) (.slice none 0 0) I [] [] [] [] []
  | [r0], u => r0 = .int .i64 (n0 + 2) ∧ BC w u b hb rb cb nb B s hd st M (n0 + 2) vI (.slice none 0 0) (.slice none 0 0) (.slice none 0 0) (.slice none 0 0) (.slice none 0 0) I [] [] [] [] []
  | [_, r1], u => (∃ g, r1 = .slice (some ⟨g, 0, none⟩) 1 1 ∧ u.cell? ⟨g, 0, none⟩ = some (.int .i64 (n0 + 2))) ∧ BC w u b hb rb cb nb B s hd st M (n0 + 2) vI (.slice none 0 0) (.slice none 0 0) (.slice none 0 0) (.slice none 0 0) (.slice none 0 0) I [] [] [] [] []
  | [_, _, r2], u => ∃ u0, BC w u0 b hb rb cb nb B s hd st M (n0 + 2) vI (.slice none 0 0) (.slice none 0 0) (.slice none 0 0) (.slice none 0 0) (.slice none 0 0) I [] [] [] [] [] ∧ Kp (fun j => vI.ownBlock = some j) u0 u ∧ Own u B 3 r2 (iv (I ++ [n0 + 2]))
  | [_, _, r2, _], u => BC w u b hb rb cb nb B s hd st M (n0 + 2) r2 (.slice none 0 0) (.slice none 0 0) (.slice none 0 0) (.slice none 0 0) (.slice none 0 0) (I ++ [n0 + 2]) [] [] [] [] []
  | _, _ => False
theorem WI_load {w u : World} {b hb rb cb nb B : Nat} {s : ByteArray} {hd : Array Value} {st : Nat × Nat} {M n0 : Int} {vI : Value} {I : List Int} : ∀ {vs : List Value}, WI w b hb rb cb nb B s hd st M n0 vI I vs u → vs.length ≤ 2 → u.cell? ⟨cb, 1, none⟩ = some vI
  | [], h, _ => h.c.cell rfl
  | [_], h, _ => h.2.c.cell rfl
  | [_, _], h, _ => h.2.c.cell rfl
  | _ :: _ :: _ :: _, _, h => by simp at h

end Go.Proofs.YtckmdcmkjmpiaaaGreatDoor

/-
  A circuit's text in the short form is read back. No program in sight.
-/
namespace Go.Proofs.YtckmdcmkjmpiaaaGreatDoor
open Go.RowKit

section
variable {s : ByteArray} {p : Nat}
theorem rdD_here {u : Nat} {c : UInt8} {r : List UInt8} {top : Int} (h : Here s p (Lib.itoa (u : Int) ++ c :: r)) (hc : ¬ (48 ≤ c.toNat ∧ c.toNat ≤ 57)) (hu : u < 1000000000) (ht : (u : Int) ≤ top) : rdD s top (p, 0) = (u, p + (Lib.itoa (u : Int)).length, 0) := by
  unfold rdD
  rw [if_neg (by simp)]
  simp only [h.nat hc hu]
  rw [if_neg (by simp), if_neg (by omega)]
theorem rdS_here {c : UInt8} {r : List UInt8} {ok : Nat → Bool} (h : Here s p (c :: r)) (hc : ok c.toNat = true) : rdS s ok (p, 0) = (c.toNat, p + 1, 0) := by
  obtain ⟨h1, h2⟩ := h.byte
  unfold rdS
  rw [if_neg (by simp)]
  simp only [h1]
  rw [if_neg (by omega), if_neg (by rw [hc]; simp)]
theorem rdG_here {n : Nat} {r : List UInt8} {least top : Int} (h : Here s p (numL 5 n ++ r)) (hn : n < 4294967296) (h0 : least ≤ (n : Int)) (h1 : (n : Int) ≤ top) : rdG s least top (p, 0) = (n, p + (numL 5 n).length, 0) := by
  unfold rdG
  rw [if_neg (by simp)]
  simp only [h.num hn]
  rw [if_neg (by simp), if_neg (by omega)]
end

theorem d10 : ¬ (48 ≤ (10 : UInt8).toNat ∧ (10 : UInt8).toNat ≤ 57) := by decide
theorem d32 : ¬ (48 ≤ (32 : UInt8).toNat ∧ (32 : UInt8).toNat ≤ 57) := by decide

theorem rdLits_back {s : ByteArray} {top : Int} (ht : top < 1000000000) : ∀ (T acc : List Int) (p : Nat), (∀ x ∈ T, 0 ≤ x ∧ x ≤ top) → Here s p (T.flatMap oneB) → rdLits s top T.length acc (p, 0) = (acc ++ T, p + (T.flatMap oneB).length, 0)
  | [], acc, p, _, _ => by simp [rdLits]
  | x :: T, acc, p, hb, h => by
    obtain ⟨hx0, hx1⟩ := hb x (by simp)
    obtain ⟨u, rfl⟩ : ∃ u : Nat, x = u := ⟨x.toNat, by omega⟩
    rw [List.flatMap_cons] at h
    have h1 : Here s p (Lib.itoa (u : Int) ++ 10 :: T.flatMap oneB) := by
      have e : oneB (u : Int) = Lib.itoa (u : Int) ++ [10] := rfl
      rw [e] at h
      simpa using h
    have h2 := h1.right
    have h3 := h.right
    have hd := rdD_here (top := top) h1 d10 (by omega) hx1
    have hs := rdS_here (ok := fun c => c == 10) h2 rfl
    rw [List.length_cons]
    unfold rdLits
    rw [hd]
    simp only
    rw [hs]
    simp only
    rw [if_neg (by decide)]
    have hlen : (oneB (u : Int)).length = (Lib.itoa (u : Int)).length + 1 := by unfold oneB; simp
    rw [show p + (Lib.itoa (u : Int)).length + 1 = p + (oneB (u : Int)).length by rw [hlen]; omega]
    rw [rdLits_back ht T _ _ (fun y hy => hb y (by simp [hy])) h3]
    rw [List.flatMap_cons, List.length_append]
    simp
    omega

theorem rdLatsP_back {s : ByteArray} {top : Int} {I : Nat} (ht : top < 1000000000) : ∀ (T : List (Int × Int × Int)) (k : Nat) (acc : List (Int × Int × Int)) (p : Nat), (∀ x ∈ T, 0 ≤ x.2.1 ∧ x.2.1 ≤ top ∧ 0 ≤ x.2.2 ∧ x.2.2 ≤ top) → (∀ i x, T[i]? = some x → x.1 = 2 * ((I + (k + i) : Nat) : Int) + 2) → Here s p (T.flatMap latB) →
    rdLatsP s top I T.length k acc (p, 0) = (acc ++ T, p + (T.flatMap latB).length, 0)
  | [], k, acc, p, _, _, _ => by simp [rdLatsP]
  | x :: T, k, acc, p, hb, hi, h => by
    obtain ⟨l, a, r⟩ := x
    obtain ⟨ha0, ha1, hr0, hr1⟩ := hb (l, a, r) (by simp)
    simp only at ha0 ha1 hr0 hr1
    have hl := hi 0 (l, a, r) rfl
    simp only [Nat.add_zero] at hl
    obtain ⟨u, rfl⟩ : ∃ u : Nat, a = u := ⟨a.toNat, by omega⟩
    obtain ⟨v, rfl⟩ : ∃ v : Nat, r = v := ⟨r.toNat, by omega⟩
    have hrest : ∀ acc q, Here s q (T.flatMap latB) → rdLatsP s top I T.length (k + 1) acc (q, 0) = (acc ++ T, q + (T.flatMap latB).length, 0) := fun acc q hq =>
      rdLatsP_back ht T (k + 1) acc q (fun y hy => hb y (by simp [hy])) (fun i x hx => by
        have := hi (i + 1) x (by simpa using hx)
        rw [this, show k + (i + 1) = k + 1 + i by omega]) hq
    rw [List.flatMap_cons] at h
    have h3 := h.right
    rw [List.length_cons, rdLatsP_succ, List.flatMap_cons, List.length_append]
    by_cases hv : v = 0
    · subst hv
      have e : latB (l, (u : Int), ((0 : Nat) : Int)) = Lib.itoa (u : Int) ++ [10] := by unfold latB lineB; simp
      rw [e] at h h3
      have h1 : Here s p (Lib.itoa (u : Int) ++ 10 :: T.flatMap latB) := by simpa using h
      have hd := rdD_here (top := top) h1 d10 (by omega) ha1
      have hs := rdS_here (ok := fun c => c == 32 || c == 10) h1.right rfl
      rw [hd]
      simp only
      rw [hs]
      simp only
      rw [if_neg (by decide), if_neg (by decide), e]
      have hlen : (Lib.itoa (u : Int) ++ [10] : List UInt8).length = (Lib.itoa (u : Int)).length + 1 := by simp
      rw [show p + (Lib.itoa (u : Int)).length + 1 = p + (Lib.itoa (u : Int) ++ [10] : List UInt8).length by rw [hlen]; omega, hrest _ _ h3, ← hl]
      simp
      omega
    · have e : latB (l, (u : Int), (v : Int)) = Lib.itoa (u : Int) ++ 32 :: (Lib.itoa (v : Int) ++ [10]) := by unfold latB lineB; rw [if_neg (by simpa using hv)]
      rw [e] at h h3
      have h1 : Here s p (Lib.itoa (u : Int) ++ 32 :: (Lib.itoa (v : Int) ++ 10 :: T.flatMap latB)) := by simpa using h
      have h2 := h1.right
      have h4 : Here s (p + (Lib.itoa (u : Int)).length + 1) (Lib.itoa (v : Int) ++ 10 :: T.flatMap latB) := by
        have : Here s (p + (Lib.itoa (u : Int)).length) ([32] ++ (Lib.itoa (v : Int) ++ 10 :: T.flatMap latB)) := by simpa using h2
        simpa using this.right
      have hd := rdD_here (top := top) h1 d32 (by omega) ha1
      have hs := rdS_here (ok := fun c => c == 32 || c == 10) h2 rfl
      have hd2 := rdD_here (top := top) h4 d10 (by omega) hr1
      have hs2 := rdS_here (ok := fun c => c == 10) h4.right rfl
      rw [hd]
      simp only
      rw [hs]
      simp only
      rw [if_pos (by decide), hd2]
      simp only
      rw [hs2]
      simp only
      rw [e]
      have hlen : (Lib.itoa (u : Int) ++ 32 :: (Lib.itoa (v : Int) ++ [10]) : List UInt8).length = (Lib.itoa (u : Int)).length + ((Lib.itoa (v : Int)).length + 2) := by simp
      rw [show p + (Lib.itoa (u : Int)).length + 1 + (Lib.itoa (v : Int)).length + 1 = p + (Lib.itoa (u : Int) ++ 32 :: (Lib.itoa (v : Int) ++ [10]) : List UInt8).length by rw [hlen]; omega, hrest _ _ h3, ← hl]
      simp
      omega

theorem rdGatesP_back {s : ByteArray} {I : Nat} : ∀ (T : List (Int × Int × Int)) (k : Nat) (acc : List (Int × Int × Int)) (p : Nat), (∀ x ∈ T, 0 ≤ x.2.2 ∧ x.2.2 ≤ x.2.1 ∧ x.2.1 < x.1 ∧ x.1 < 4294967296) → (∀ i x, T[i]? = some x → x.1 = 2 * ((I + (k + i) : Nat) : Int) + 2) → Here s p (T.flatMap gateB) →
    rdGatesP s I T.length k acc (p, 0) = (acc ++ T, p + (T.flatMap gateB).length, 0)
  | [], k, acc, p, _, _, _ => by simp [rdGatesP]
  | x :: T, k, acc, p, hb, hi, h => by
    obtain ⟨l, a, r⟩ := x
    obtain ⟨hb0, hb1, hb2, hb3⟩ := hb (l, a, r) (by simp)
    simp only at hb0 hb1 hb2 hb3
    have hl := hi 0 (l, a, r) rfl
    simp only [Nat.add_zero] at hl
    obtain ⟨u, hu⟩ : ∃ u : Nat, (l - a).toNat = u := ⟨_, rfl⟩
    obtain ⟨v, hv⟩ : ∃ v : Nat, (a - r).toNat = v := ⟨_, rfl⟩
    have eu : (u : Int) = l - a := by omega
    have ev : (v : Int) = a - r := by omega
    rw [List.flatMap_cons] at h
    have h3 := h.right
    have e : gateB (l, a, r) = numL 5 u ++ numL 5 v := by unfold gateB; rw [hu, hv]
    rw [e] at h h3
    have h1 : Here s p (numL 5 u ++ (numL 5 v ++ T.flatMap gateB)) := by simpa using h
    have hd := rdG_here (least := 1) (top := l) h1 (by omega) (by omega) (by omega)
    have hd2 := rdG_here (least := 0) (top := l - (u : Int)) h1.right (by omega) (by omega) (by omega)
    rw [List.length_cons, rdGatesP_succ, ← hl, hd]
    simp only
    rw [hd2]
    simp only
    rw [if_neg (by simp), List.flatMap_cons, List.length_append, e]
    rw [show p + (numL 5 u).length + (numL 5 v).length = p + (numL 5 u ++ numL 5 v).length by rw [List.length_append]; omega]
    rw [rdGatesP_back T (k + 1) _ _ (fun y hy => hb y (by simp [hy])) (fun i x hx => by
      have := hi (i + 1) x (by simpa using hx)
      rw [this, show k + (i + 1) = k + 1 + i by omega]) h3]
    rw [show l - (u : Int) = a by omega, show a - (v : Int) = r by omega]
    simp
    omega

theorem insP_eq {C : Circ} (h : NormC C) : insP C.ins.length = C.ins := by
  apply List.ext_getElem?
  intro i
  unfold insP
  rw [List.getElem?_map]
  by_cases hi : i < C.ins.length
  · rw [List.getElem?_range hi, gi_some hi, h.i hi]; rfl
  · rw [List.getElem?_eq_none (by simpa using hi), List.getElem?_eq_none (by omega)]; rfl

end Go.Proofs.YtckmdcmkjmpiaaaGreatDoor
