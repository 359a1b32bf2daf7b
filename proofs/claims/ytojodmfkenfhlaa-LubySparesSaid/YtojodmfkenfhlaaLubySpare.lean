/-
  The plain law of layer 26's Spare: what is let go, told in two ways.
-/
import Derived.Test.YtojodmfkenfhlaaBase
namespace Go.Proofs.Ytojodmfkenfhlaa
open Go.RowKit

/-- place a is let go ahead of place b -/
def bef (f : Nat → Int) (a b : Nat) : Prop := f b < f a ∨ (f a = f b ∧ a < b)

/-- S: the places that may be let go, in their order -/
structure Goes (f : Nat → Int) (n : Nat) (S : List Nat) : Prop where
  mem : ∀ i, i ∈ S ↔ i < n ∧ 2 < f i
  ord : S.Pairwise (bef f)

/-- the places of a list, ascending -/
def ascend (n : Nat) (l : List Nat) : List Nat := (List.range n).filter (fun i => decide (i ∈ l))

theorem bef_irrefl {f : Nat → Int} {a : Nat} (h : bef f a a) : False := by unfold bef at h; omega

theorem Goes.nodup {f : Nat → Int} {n : Nat} {S : List Nat} (h : Goes f n S) : S.Nodup :=
  h.ord.imp (fun hb e => by subst e; exact bef_irrefl hb)

theorem pairwise_take {α : Type} {R : α → α → Prop} {l : List α} (h : l.Pairwise R) (m : Nat) : (l.take m).Pairwise R :=
  h.sublist (List.take_sublist m l)

theorem ascend_mem {n : Nat} {l : List Nat} (h : ∀ i ∈ l, i < n) (i : Nat) : i ∈ ascend n l ↔ i ∈ l := by
  unfold ascend
  simp only [List.mem_filter, List.mem_range, decide_eq_true_eq]
  exact ⟨fun h => h.2, fun hi => ⟨h i hi, hi⟩⟩

theorem ascend_sorted (n : Nat) (l : List Nat) : (ascend n l).Pairwise (· < ·) :=
  List.Pairwise.sublist List.filter_sublist List.pairwise_lt_range

/-- sorting the places of a list without twins -/
theorem sort_ascend {n : Nat} {l : List Nat} (hd : l.Nodup) (h : ∀ i ∈ l, i < n) :
    (l.map (fun i : Nat => (i : Int))).mergeSort (fun x y => decide (x ≤ y)) = (ascend n l).map (fun i : Nat => (i : Int)) := by
  have hs := ascend_sorted n l
  have hp : ((ascend n l).map (fun i : Nat => (i : Int))).Perm (l.map (fun i : Nat => (i : Int))) := by
    refine List.Perm.map _ ?_
    rw [List.perm_ext_iff_of_nodup (hs.imp (fun h => by omega)) hd]
    exact fun i => ascend_mem h i
  refine List.Perm.eq_of_pairwise (le := fun x y : Int => x ≤ y) (fun a b _ _ h1 h2 => by omega) ?_ ?_ ?_
  · refine (List.pairwise_mergeSort (le := fun x y : Int => decide (x ≤ y)) ?_ ?_ _).imp (fun h => by simpa using h)
    · intro a b c h1 h2; simp at *; omega
    · intro a b; simp; omega
  · rw [List.pairwise_map]
    exact hs.imp (fun h => by omega)
  · exact (List.mergeSort_perm _ _).trans hp.symm

/-- the best place below i, of those that are not gone (-1: none): the reference's inner loop -/
def Best (f : Nat → Int) (gone : List Nat) (i : Nat) (at_ : Int) : Prop :=
  (at_ = -1 ∧ ∀ j, j < i → 2 < f j → j ∈ gone) ∨
  ∃ a : Nat, at_ = a ∧ a < i ∧ 2 < f a ∧ a ∉ gone ∧ ∀ j, j < i → 2 < f j → j ∉ gone → j = a ∨ bef f a j

theorem Best.zero (f : Nat → Int) (gone : List Nat) : Best f gone 0 (-1) := .inl ⟨rfl, fun j hj => by omega⟩

theorem Best.pass {f : Nat → Int} {gone : List Nat} {i : Nat} {at_ : Int} (h : Best f gone i at_)
    (hn : i ∈ gone ∨ ¬ 2 < f i ∨ (0 ≤ at_ ∧ f i ≤ f at_.toNat)) : Best f gone (i + 1) at_ := by
  rcases h with ⟨rfl, h⟩ | ⟨a, rfl, ha, hf, hg, h⟩
  · refine .inl ⟨rfl, fun j hj h2 => ?_⟩
    by_cases e : j = i
    · subst e
      rcases hn with hn | hn | hn
      · exact hn
      · exact absurd h2 hn
      · omega
    · exact h j (by omega) h2
  · refine .inr ⟨a, rfl, by omega, hf, hg, fun j hj h2 hng => ?_⟩
    by_cases e : j = i
    · subst e
      rcases hn with hn | hn | hn
      · exact absurd hn hng
      · exact absurd h2 hn
      · right
        unfold bef
        have := hn.2
        rw [Int.toNat_natCast] at this
        omega
    · exact h j (by omega) h2 hng

theorem Best.take {f : Nat → Int} {gone : List Nat} {i : Nat} {at_ : Int} (h : Best f gone i at_)
    (h1 : i ∉ gone) (h2 : 2 < f i) (h3 : at_ < 0 ∨ f at_.toNat < f i) : Best f gone (i + 1) i := by
  refine .inr ⟨i, rfl, by omega, h2, h1, fun j hj h4 h5 => ?_⟩
  by_cases e : j = i
  · exact .inl e
  · right
    rcases h with ⟨rfl, h⟩ | ⟨a, rfl, ha, hf, hg, h⟩
    · exact absurd (h j (by omega) h4) h5
    · rw [Int.toNat_natCast] at h3
      have hlt : f a < f i := by omega
      rcases h j (by omega) h4 h5 with rfl | hb
      · exact .inl hlt
      · unfold bef at hb ⊢; omega

/-- the place that is let go next -/
theorem Goes.next {f : Nat → Int} {n : Nat} {S : List Nat} (hS : Goes f n S) {t : Nat} {at_ : Int} (hb : Best f (S.take t) n at_) :
    (at_ = -1 ∧ S.length ≤ t) ∨ ∃ h : t < S.length, at_ = (S[t] : Nat) := by
  rcases hb with ⟨rfl, h⟩ | ⟨a, rfl, ha, hf, hg, h⟩
  · left
    refine ⟨rfl, ?_⟩
    rcases Nat.lt_or_ge t S.length with hlt | hge
    · exfalso
      have hm := (hS.mem S[t]).1 (List.getElem_mem hlt)
      have hin := h _ hm.1 hm.2
      rw [List.mem_take_iff_getElem] at hin
      obtain ⟨j, hj, e⟩ := hin
      have := (List.getElem_inj (h₀ := by omega) (h₁ := hlt) hS.nodup).1 e
      omega
    · exact hge
  · right
    have hin : a ∈ S := (hS.mem a).2 ⟨ha, hf⟩
    obtain ⟨k, hk, e⟩ := List.getElem_of_mem hin
    have hkt : t ≤ k := by
      rcases Nat.lt_or_ge k t with h1 | h1
      · exfalso; apply hg; rw [List.mem_take_iff_getElem]; exact ⟨k, by omega, e⟩
      · exact h1
    refine ⟨by omega, ?_⟩
    by_cases e2 : k = t
    · subst e2; rw [e]
    · exfalso
      have hlt : t < S.length := by omega
      have hm := (hS.mem S[t]).1 (List.getElem_mem hlt)
      have hng : S[t] ∉ S.take t := by
        intro hin
        rw [List.mem_take_iff_getElem] at hin
        obtain ⟨j, hj, e3⟩ := hin
        have := (List.getElem_inj (h₀ := by omega) (h₁ := hlt) hS.nodup).1 e3
        omega
      have hb1 := List.pairwise_iff_getElem.1 hS.ord t k hlt hk (by omega)
      rw [e] at hb1
      rcases h _ hm.1 hm.2 hng with h1 | h1
      · rw [h1] at hb1; exact bef_irrefl hb1
      · unfold bef at hb1 h1; omega

theorem take_next {S : List Nat} {t : Nat} (h : t < S.length) (i : Nat) : i ∈ S.take (t + 1) ↔ i ∈ S.take t ∨ i = S[t] := by
  rw [List.take_succ_eq_append_getElem h, List.mem_append, List.mem_singleton]

theorem take_all {S : List Nat} {t : Nat} (h : S.length ≤ t) : S.take t = S := List.take_of_length_le h

/-- the marks of what is gone -/
def goneL (n : Nat) (l : List Nat) : List Bool := (List.range n).map (fun i => decide (i ∈ l))
def boolsA (l : List Bool) : Array Value := (l.map Value.bool).toArray

theorem goneL_made (n : Nat) : madeCells #[.bool false] n = boolsA (goneL n []) := by
  apply Array.ext
  · simp [madeCells, boolsA, goneL]
  · intro i h1 h2
    simp [madeCells, boolsA, goneL, Nat.mod_one]

theorem goneL_get {n : Nat} {l : List Nat} {i : Nat} (h : i < n) : (boolsA (goneL n l))[i]? = some (.bool (decide (i ∈ l))) := by
  simp [boolsA, goneL, h]

theorem goneL_set {n : Nat} {l l' : List Nat} {a : Nat} (h : ∀ i, i ∈ l' ↔ i ∈ l ∨ i = a) : (boolsA (goneL n l)).setIfInBounds a (.bool true) = boolsA (goneL n l') := by
  have e : (boolsA (goneL n l)).setIfInBounds a (.bool true) = boolsA ((goneL n l).set a true) := by simp [boolsA, List.map_set]
  rw [e]
  congr 1
  apply List.ext_getElem
  · simp [goneL]
  · intro i h1 h2
    simp only [goneL, List.getElem_set, List.getElem_map, List.getElem_range]
    split
    · rename_i hi; subst hi; simp [(h a).2 (.inr rfl)]
    · rename_i hi
      have : i ∈ l' ↔ i ∈ l := by rw [h i]; constructor; (rintro (h | h); exact h; omega); exact Or.inl
      simp [this]

theorem ascend_snoc (i : Nat) (l : List Nat) : ascend (i + 1) l = ascend i l ++ (if i ∈ l then [i] else []) := by
  unfold ascend
  rw [List.range_succ, List.filter_append]
  by_cases h : i ∈ l <;> simp [h]

end Go.Proofs.Ytojodmfkenfhlaa
