/-
  Lines and words in plain words.
-/
import Derived.Test.YtpejimlmokfppaaDoorOctPlain
import Derived.Lib.SplitLaws
import Derived.Lib.IndexBytes
import Derived.Lib.IndexLaws
namespace Go.Proofs.YtpejimlmokfppaaDoor
open Go.RowKit

/-- the first feed from a place on -/
def feedAt (s : ByteArray) (at_ : Nat) : Option Nat := (List.range s.size).find? (fun i => decide (at_ ≤ i) && (bt s i == 10))

theorem feed_some {s : ByteArray} {at_ i : Nat} (hi : i < s.size) (h : at_ ≤ i) (hb : bt s i = 10) (hn : ∀ j, at_ ≤ j → j < i → bt s j ≠ 10) : feedAt s at_ = some i := by
  unfold feedAt
  rw [List.find?_range_eq_some]
  refine ⟨by simp [h, hb], by simpa using hi, fun j hj => ?_⟩
  simp
  by_cases h' : j < at_
  · exact .inl h'
  · exact .inr (hn j (by omega) hj)

theorem feed_none {s : ByteArray} {at_ : Nat} (hn : ∀ j, at_ ≤ j → j < s.size → bt s j ≠ 10) : feedAt s at_ = none := by
  unfold feedAt
  rw [List.find?_range_eq_none]
  intro j hj
  simp
  by_cases h' : j < at_
  · exact .inl h'
  · exact .inr (hn j (by omega) hj)

theorem feed_cases (s : ByteArray) (at_ : Nat) : (∃ i, feedAt s at_ = some i ∧ at_ ≤ i ∧ i < s.size ∧ bt s i = 10 ∧ ∀ j, at_ ≤ j → j < i → bt s j ≠ 10) ∨ feedAt s at_ = none ∧ ∀ j, at_ ≤ j → j < s.size → bt s j ≠ 10 := by
  cases h : feedAt s at_ with
  | some i =>
    left
    unfold feedAt at h
    rw [List.find?_range_eq_some] at h
    obtain ⟨h1, h2, h3⟩ := h
    simp at h1 h2 h3
    exact ⟨i, rfl, h1.1, h2, h1.2, fun j h4 h5 => (h3 j h5).resolve_left (by omega)⟩
  | none =>
    right
    unfold feedAt at h
    rw [List.find?_range_eq_none] at h
    simp at h
    exact ⟨rfl, fun j h1 h2 => (h j h2).resolve_left (by omega)⟩

/-- what Line tells, of any place -/
def lineT (s : ByteArray) (x : Int) : ByteArray × Nat × Nat :=
  if x < 0 ∨ (s.size : Int) < x then (⟨#[]⟩, 0, 1)
  else match feedAt s x.toNat with
    | some i => (s.extract x.toNat i, i + 1, 0)
    | none => (⟨#[]⟩, 0, 3)

theorem bt_feed {s : ByteArray} {i : Nat} : s.data.toList[i]? = some 10 ↔ i < s.size ∧ bt s i = 10 := by
  constructor
  · intro h
    have hi : i < s.data.toList.length := (List.getElem?_eq_some_iff.1 h).1
    have hi' : i < s.size := by simpa using hi
    refine ⟨hi', ?_⟩
    rw [← bt_eq hi']
    have h2 := (List.getElem?_eq_some_iff.1 h).2
    have : s[i] = 10 := h2
    rw [this]; rfl
  · rintro ⟨hi, hb⟩
    rw [List.getElem?_eq_getElem (by simpa using hi)]
    rw [← bt_eq hi] at hb
    have : s[i] = 10 := UInt8.toNat_inj.1 hb
    exact congrArg some this

/-- the library's word for the first feed behind a place -/
theorem feed_index (s : ByteArray) (at_ : Nat) : Lib.indexByte (s.extract at_ s.size).data.toList 10 = match feedAt s at_ with | some i => ((i - at_ : Nat) : Int) | none => -1 := by
  have he : (s.extract at_ s.size).data.toList = s.data.toList.drop at_ := by
    rw [Lib.extract_to_end]
  rw [he]
  have hge := Lib.indexByte_ge (s.data.toList.drop at_) 10
  rcases (show Lib.indexByte (s.data.toList.drop at_) 10 = -1 ∨ ∃ o : Nat, Lib.indexByte (s.data.toList.drop at_) 10 = o by
    by_cases e : Lib.indexByte (s.data.toList.drop at_) 10 = -1
    · exact .inl e
    · exact .inr ⟨(Lib.indexByte (s.data.toList.drop at_) 10).toNat, by omega⟩) with e | ⟨o, e⟩
  · have hn := Lib.indexByte_none e
    rw [e, feed_none]
    intro j h1 h2 hb
    refine hn (j - at_) ?_
    rw [List.getElem?_drop, show at_ + (j - at_) = j by omega]
    exact bt_feed.2 ⟨h2, hb⟩
  · obtain ⟨h1, h2⟩ := Lib.indexByte_some e
    rw [List.getElem?_drop] at h1
    obtain ⟨h3, h4⟩ := bt_feed.1 h1
    rw [e, feed_some h3 (Nat.le_add_right _ _) h4]
    · simp
    · intro j h5 h6 hb
      refine h2 (j - at_) (by omega) ?_
      rw [List.getElem?_drop, show at_ + (j - at_) = j by omega]
      exact bt_feed.2 ⟨by omega, hb⟩

/-- what stands between blanks -/
def wordsF : List UInt8 → List (List UInt8)
  | [] => [[]]
  | b :: l => if b = 32 then [] :: wordsF l else match wordsF l with
    | [] => [[b]]
    | x :: r => (b :: x) :: r

theorem words_app : ∀ {a : List UInt8} (r : List UInt8), (∀ b ∈ a, b ≠ 32) → wordsF (a ++ 32 :: r) = a :: wordsF r
  | [], r, _ => by simp [wordsF]
  | b :: a, r, h => by
    have hb : b ≠ 32 := h b (by simp)
    rw [List.cons_append, wordsF, if_neg hb, words_app r (fun x hx => h x (by simp [hx]))]

theorem words_none : ∀ {a : List UInt8}, (∀ b ∈ a, b ≠ 32) → wordsF a = [a]
  | [], _ => rfl
  | b :: a, h => by
    rw [wordsF, if_neg (h b (by simp)), words_none (fun x hx => h x (by simp [hx]))]

/-- words with blanks between -/
def jn : List (List UInt8) → List UInt8
  | [] => []
  | [a] => a
  | a :: b :: r => a ++ 32 :: jn (b :: r)

theorem words_ne (l : List UInt8) : wordsF l ≠ [] := by
  cases l with
  | nil => simp [wordsF]
  | cons b l => unfold wordsF; split; · simp
                split <;> simp

theorem jn_cons {a : List UInt8} {r : List (List UInt8)} (h : r ≠ []) : jn (a :: r) = a ++ 32 :: jn r := by
  cases r with
  | nil => exact absurd rfl h
  | cons b r => rfl

theorem jn_words : ∀ l : List UInt8, jn (wordsF l) = l
  | [] => rfl
  | b :: l => by
    have ih := jn_words l
    unfold wordsF
    split
    · rename_i h
      rw [jn_cons (words_ne l), ih, h]; rfl
    · cases hw : wordsF l with
      | nil => exact absurd hw (words_ne l)
      | cons x r =>
        rw [hw] at ih
        simp only
        cases r with
        | nil => simp [jn] at ih ⊢; exact ih
        | cons y r => simp [jn] at ih ⊢; exact ih

theorem jn_snoc : ∀ {xs : List (List UInt8)} {a : List UInt8}, xs ≠ [] → jn (xs ++ [a]) = jn xs ++ 32 :: a
  | [], _, h => absurd rfl h
  | [x], a, _ => by simp [jn]
  | x :: y :: r, a, _ => by
    have := jn_snoc (xs := y :: r) (a := a) (by simp)
    simp only [List.cons_append] at this ⊢
    rw [jn, this, jn]; simp

theorem split_words : ∀ (n : Nat) (l : List UInt8), l.length ≤ n → Lib.splitK [32] 0 (Lib.count l [32]) l = wordsF l
  | n, l, hl => by
    have hge := Lib.indexByte_ge l 32
    by_cases e : Lib.indexByte l 32 = -1
    · have hi : Lib.index l [32] = -1 := by rw [Lib.index_one]; exact e
      have hc : Lib.count l [32] = 0 := Lib.count_miss hi
      rw [hc, words_none]
      · rfl
      · intro b hb hb2
        obtain ⟨k, hk⟩ := List.mem_iff_getElem?.1 hb
        exact Lib.indexByte_none e k (by rw [hk, hb2])
    · obtain ⟨o, ho⟩ : ∃ o : Nat, Lib.indexByte l 32 = o := ⟨(Lib.indexByte l 32).toNat, by omega⟩
      obtain ⟨h1, h2⟩ := Lib.indexByte_some ho
      have hi : Lib.index l [32] = o := by rw [Lib.index_one]; exact ho
      have hlt : o < l.length := (List.getElem?_eq_some_iff.1 h1).1
      have hsp : l = l.take o ++ 32 :: l.drop (o + 1) := by
        have h3 := (List.getElem?_eq_some_iff.1 h1).2
        conv => lhs; rw [← List.take_append_drop o l, List.drop_eq_getElem_cons hlt, h3]
      have hw : wordsF l = l.take o :: wordsF (l.drop (o + 1)) := by
        conv => lhs; rw [hsp]
        apply words_app
        intro b hb hb2
        obtain ⟨k, hk⟩ := List.mem_iff_getElem?.1 hb
        rw [List.getElem?_take] at hk
        split at hk
        · exact h2 k (by assumption) (by rw [hk, hb2])
        · cases hk
      match n with
      | 0 => omega
      | n + 1 =>
        have hcnt : Lib.count l [32] = Lib.count (l.drop (o + 1)) [32] + 1 := by
          have := Lib.count_hit (s := l) (sub := [32]) (i := o) (by simp) hi
          simp at this
          omega
        rw [hcnt, Lib.splitK, if_neg (by rw [hi]; simp), hi, hw]
        simp only [Int.toNat_natCast, Nat.add_zero, List.length_singleton]
        rw [split_words n (l.drop (o + 1)) (by simp; omega)]

end Go.Proofs.YtpejimlmokfppaaDoor
