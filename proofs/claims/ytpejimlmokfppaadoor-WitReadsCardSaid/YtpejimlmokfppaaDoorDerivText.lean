/-
  A derivation's lines and their text, there and back. No program in sight.
-/
import Derived.Test.YtpejimlmokfppaaDoorDerivPlain
import Derived.Test.YtpejimlmokfppaaDoorNumer
namespace Go.Proofs.YtpejimlmokfppaaDoor
open Go.RowKit

/-- a good literal's text -/
def lt (x : Nat) : List UInt8 := if x % 2 = 1 then 33 :: Lib.decDigits (x / 2) else Lib.decDigits (x / 2)

def goodL (l : List Nat) : Prop := ∀ x ∈ l, x ≤ 33554433

theorem list_size (s : ByteArray) : s.data.toList.length = s.size := by simp

theorem negW_iff (w : ByteArray) : negW w = true ↔ ∃ r, w.data.toList = 33 :: r := by
  unfold negW
  rw [decide_eq_true_iff]
  constructor
  · rintro ⟨h0, h1⟩
    obtain ⟨b, hb, hb2⟩ := byte_at h0
    cases hl : w.data.toList with
    | nil => rw [hl] at hb; simp at hb
    | cons c r =>
      rw [hl] at hb
      simp at hb
      subst hb
      refine ⟨r, ?_⟩
      have : c = 33 := UInt8.toNat_inj.1 (by rw [hb2, h1]; rfl)
      rw [this]
  · rintro ⟨r, h⟩
    have h0 : w.data.toList[0]? = some 33 := by rw [h]; rfl
    exact bt_is.1 h0

theorem digW_pos {w : ByteArray} {r : List UInt8} (h : w.data.toList = 33 :: r) : (digW w).data.toList = r := by
  unfold digW
  rw [if_pos ((negW_iff w).2 ⟨r, h⟩), Lib.extract_to_end, h]; rfl

theorem digW_neg {w : ByteArray} (h : ¬ negW w = true) : digW w = w := by
  unfold digW; rw [if_neg h]

theorem litR_text {w : ByteArray} {x : Nat} (h : litR w = some x) : w.data.toList = lt x ∧ x ≤ 33554433 := by
  unfold litR at h
  split at h
  next hc =>
    obtain ⟨h1, h2, h3⟩ := hc
    have hN : natN (digW w) 0 = ((natN (digW w) 0).1, (digW w).size, 0) := Prod.ext rfl (Prod.ext h2 h1)
    obtain ⟨_, _, _, hl⟩ := dec_natN (Nat.zero_le _) hN
    rw [List.drop_zero, Nat.sub_zero, List.take_of_length_le (by rw [list_size]; exact Nat.le_refl _)] at hl
    generalize (natN (digW w) 0).1 = v at h h3 hl
    have h := Option.some.inj h
    by_cases hn : negW w = true
    · rw [if_pos hn] at h
      obtain ⟨r, hr⟩ := (negW_iff w).1 hn
      rw [digW_pos hr] at hl
      subst h
      refine ⟨?_, by omega⟩
      unfold lt
      rw [if_pos (by omega), hr, hl, show (2 * v + 1) / 2 = v by omega]
    · rw [if_neg hn] at h
      rw [digW_neg hn] at hl
      subst h
      refine ⟨?_, by omega⟩
      unfold lt
      rw [if_neg (by omega), hl, show (2 * v + 0) / 2 = v by omega]
  next => cases h

theorem text_litR {w : ByteArray} {x : Nat} (hx : x ≤ 33554433) (h : w.data.toList = lt x) : litR w = some x := by
  have key : ∀ v : Nat, v ≤ 16777216 → (digW w).data.toList = Lib.decDigits v → natN (digW w) 0 = (v, (digW w).size, 0) := by
    intro v hv hd
    have hl : (Lib.decDigits v).length = (digW w).size := by rw [← hd, list_size]
    have := natN_dec (s := digW w) (p := 0) (u := v) (by omega) (by rw [hl]; omega) (by rw [List.drop_zero, hd, List.take_length]) (.inl (by rw [hl]; omega))
    rw [this, hl, Nat.zero_add]
  unfold lt at h
  unfold litR
  by_cases ho : x % 2 = 1
  · rw [if_pos ho] at h
    have hn : negW w = true := (negW_iff w).2 ⟨_, h⟩
    rw [key (x / 2) (by omega) (digW_pos h), if_pos ⟨rfl, rfl, by simp only; omega⟩, if_pos hn]
    simp only [Option.some.injEq]; omega
  · rw [if_neg ho] at h
    have hn : ¬ negW w = true := by
      intro hn
      obtain ⟨r, hr⟩ := (negW_iff w).1 hn
      have := dd_digit (x / 2) 33 (by rw [← h, hr]; simp)
      simp at this
    rw [key (x / 2) (by omega) (by rw [digW_neg hn]; exact h), if_pos ⟨rfl, rfl, by simp only; omega⟩, if_neg hn]
    simp only [Option.some.injEq]; omega

theorem litsR_texts : ∀ {ws : List ByteArray} {l : List Nat}, litsR ws = some l → ws.map (·.data.toList) = l.map lt ∧ goodL l
  | [], l, h => by
    simp [litsR] at h; subst h
    exact ⟨rfl, fun x hx => by cases hx⟩
  | w :: ws, l, h => by
    simp only [litsR] at h
    cases h1 : litR w with
    | none => rw [h1] at h; simp at h
    | some x =>
      cases h2 : litsR ws with
      | none => rw [h1, h2] at h; simp at h
      | some y =>
        rw [h1, h2] at h
        simp at h
        subst h
        obtain ⟨e1, g1⟩ := litR_text h1
        obtain ⟨e2, g2⟩ := litsR_texts h2
        refine ⟨by rw [List.map_cons, List.map_cons, e1, e2], ?_⟩
        intro z hz
        rcases List.mem_cons.1 hz with rfl | hz
        · exact g1
        · exact g2 z hz

theorem texts_litsR : ∀ {ws : List ByteArray} {l : List Nat}, goodL l → ws.map (·.data.toList) = l.map lt → litsR ws = some l
  | [], l, _, h => by
    cases l with
    | nil => rfl
    | cons x l => simp at h
  | w :: ws, l, hg, h => by
    cases l with
    | nil => simp at h
    | cons x l =>
      rw [List.map_cons, List.map_cons] at h
      injection h with h1 h2
      simp only [litsR]
      rw [text_litR (hg x (by simp)) h1, texts_litsR (fun z hz => hg z (by simp [hz])) h2]

/-- a line of words behind a sign -/
def lineText (f : Bool) (c : List (List UInt8)) : List UInt8 := (if f then 45 else 43) :: c.flatMap (fun x => 32 :: x)

theorem jn_flat : ∀ (a : List UInt8) (r : List (List UInt8)), jn (a :: r) = a ++ r.flatMap (fun x => 32 :: x)
  | a, [] => by simp [jn]
  | a, b :: r => by
    rw [jn_cons (by simp), jn_flat b r, List.flatMap_cons]; simp

theorem flat_words : ∀ (a : List UInt8) (r : List (List UInt8)), (∀ b ∈ a, b ≠ 32) → (∀ x ∈ r, ∀ b ∈ x, b ≠ 32) → wordsF (a ++ r.flatMap (fun x => 32 :: x)) = a :: r
  | a, [], ha, _ => by rw [List.flatMap_nil, List.append_nil]; exact words_none ha
  | a, b :: r, ha, hr => by
    rw [List.flatMap_cons, List.cons_append, words_app _ ha, flat_words b r (hr b (by simp)) (fun x hx => hr x (by simp [hx]))]

theorem wordsB_data (s : ByteArray) : (wordsB s).map (·.data.toList) = wordsF s.data.toList := by
  unfold wordsB mkW
  rw [List.map_map]
  conv => rhs; rw [← List.map_id (wordsF s.data.toList)]
  apply List.map_congr_left
  intro b _
  simp

theorem ba_ext {a b : ByteArray} (h : a.data.toList = b.data.toList) : a = b := by
  apply ByteArray.ext; apply Array.ext'; exact h

theorem lineR_text {s : ByteArray} {f : Bool} {c : List Nat} (h : lineR s = some (f, c)) : s.data.toList = lineText f (c.map lt) ∧ goodL c := by
  unfold lineR at h
  have hw := wordsB_data s
  cases hws : wordsB s with
  | nil => rw [hws] at h; cases h
  | cons w ws =>
    rw [hws] at h hw
    rw [List.map_cons] at hw
    have hj := jn_words s.data.toList
    rw [← hw, jn_flat] at hj
    simp only at h
    have fin : ∀ (b : Bool), w.data.toList = [if b then 45 else 43] → (litsR ws).map (fun l => (b, l)) = some (f, c) → s.data.toList = lineText f (c.map lt) ∧ goodL c := by
      intro b hb hm
      cases hl : litsR ws with
      | none => rw [hl] at hm; simp at hm
      | some l =>
        rw [hl] at hm
        simp at hm
        obtain ⟨rfl, rfl⟩ := hm
        obtain ⟨e1, e2⟩ := litsR_texts hl
        refine ⟨?_, e2⟩
        rw [← hj, hb, e1]; rfl
    by_cases h1 : w = ⟨#[43]⟩
    · rw [if_pos h1] at h
      exact fin false (by rw [h1]; rfl) h
    · rw [if_neg h1] at h
      by_cases h2 : w = ⟨#[45]⟩
      · rw [if_pos h2] at h
        exact fin true (by rw [h2]; rfl) h
      · rw [if_neg h2] at h; cases h

theorem lt_byte (x : Nat) : ∀ b ∈ lt x, b ≠ 32 ∧ b ≠ 10 := by
  intro b hb
  unfold lt at hb
  have key : ∀ v, b ∈ Lib.decDigits v → b ≠ 32 ∧ b ≠ 10 := by
    intro v hv
    have := dd_digit v b hv
    constructor <;> (rintro rfl; simp at this)
  split at hb
  · rcases List.mem_cons.1 hb with rfl | hb
    · decide
    · exact key _ hb
  · exact key _ hb

theorem text_lineR {s : ByteArray} {f : Bool} {c : List Nat} (hc : goodL c) (h : s.data.toList = lineText f (c.map lt)) : lineR s = some (f, c) := by
  have hw := wordsB_data s
  have e : wordsF s.data.toList = [if f then 45 else 43] :: c.map lt := by
    rw [h]
    exact flat_words [if f then 45 else 43] (c.map lt) (by intro b hb; simp at hb; subst hb; cases f <;> decide) (by
      intro x hx b hb
      obtain ⟨y, _, rfl⟩ := List.mem_map.1 hx
      exact (lt_byte y b hb).1)
  rw [e] at hw
  unfold lineR
  cases hws : wordsB s with
  | nil => rw [hws] at hw; simp at hw
  | cons w ws =>
    rw [hws, List.map_cons] at hw
    injection hw with h1 h2
    simp only
    rw [texts_litsR hc h2]
    cases f with
    | false =>
      have : w = ⟨#[43]⟩ := ba_ext h1
      rw [if_pos this]; rfl
    | true =>
      have : w = ⟨#[45]⟩ := ba_ext h1
      rw [if_neg (by rw [this]; decide), if_pos this]; rfl

/-- lines' text -/
def linesText (L : List (Bool × List (List UInt8))) : List UInt8 := L.flatMap (fun x => lineText x.1 x.2 ++ [10])
def ltl (L : List (Bool × List Nat)) : List (Bool × List (List UInt8)) := L.map (fun x => (x.1, x.2.map lt))

theorem linesText_append (a b : List (Bool × List (List UInt8))) : linesText (a ++ b) = linesText a ++ linesText b := by simp [linesText]
theorem ltl_append (a b : List (Bool × List Nat)) : ltl (a ++ b) = ltl a ++ ltl b := by simp [ltl]
theorem linesText_one (f : Bool) (c : List (List UInt8)) : linesText [(f, c)] = lineText f c ++ [10] := by simp [linesText]

theorem line_no10 {f : Bool} {c : List Nat} : ∀ b ∈ lineText f (c.map lt), b ≠ 10 := by
  intro b hb
  unfold lineText at hb
  rcases List.mem_cons.1 hb with rfl | hb
  · cases f <;> decide
  · obtain ⟨x, hx, hb⟩ := List.mem_flatMap.1 hb
    obtain ⟨y, _, rfl⟩ := List.mem_map.1 hx
    rcases List.mem_cons.1 hb with rfl | hb
    · decide
    · exact (lt_byte y b hb).2

/-- the line at a place whose text is known -/
theorem lineT_text {s : ByteArray} {p : Nat} {a r : List UInt8} (hp : p ≤ s.size) (ha : ∀ b ∈ a, b ≠ 10) (h : s.data.toList.drop p = a ++ 10 :: r) :
    lineT s (p : Nat) = (⟨a.toArray⟩, p + a.length + 1, 0) := by
  have hl : (s.data.toList.drop p).length = s.size - p := by rw [List.length_drop, list_size]
  have hlen : a.length + 1 + r.length = s.size - p := by rw [← hl, h]; simp; omega
  have hb : ∀ j, j < a.length → bt s (p + j) ≠ 10 := by
    intro j hj e
    have h1 : s.data.toList[p + j]? = some a[j] := by rw [← List.getElem?_drop, h, List.getElem?_append_left hj, List.getElem?_eq_getElem hj]
    have h2 := (bt_is.1 h1).2
    have h3 := ha a[j] (List.getElem_mem hj)
    exact h3 (UInt8.toNat_inj.1 (by rw [← h2, e]; rfl))
  have h10 : bt s (p + a.length) = 10 := by
    have h1 : s.data.toList[p + a.length]? = some 10 := by rw [← List.getElem?_drop, h, List.getElem?_append_right (Nat.le_refl _), Nat.sub_self]; rfl
    exact (bt_is.1 h1).2
  unfold lineT
  rw [if_neg (by omega), Int.toNat_natCast, feed_some (i := p + a.length) (by omega) (by omega) h10 (fun j h1 h2 => by have := hb (j - p) (by omega); rwa [show p + (j - p) = j by omega] at this)]
  simp only [Prod.mk.injEq, and_true]
  apply ba_ext
  rw [Lib.extract_data, h, show p + a.length - p = a.length by omega, List.take_left]

/-- what is read from a place at which lines' text begins -/
theorem derivR_text {s : ByteArray} : ∀ (L2 : List (Bool × List Nat)) (f : Nat) (L1 : List (Bool × List Nat)) (p n : Nat) (r : List UInt8), (∀ x ∈ L2, goodL x.2) → p ≤ s.size →
    s.data.toList.drop p = linesText (ltl L2) ++ r → derivR s (L2.length + f) L1 p n = derivR s f (L1 ++ L2) (p + (linesText (ltl L2)).length) (n + L2.length)
  | [], f, L1, p, n, r, _, _, _ => by simp [linesText, ltl]
  | (b, c) :: L2, f, L1, p, n, r, hg, hp, h => by
    have e0 : linesText (ltl ((b, c) :: L2)) = lineText b (c.map lt) ++ 10 :: linesText (ltl L2) := by simp [linesText, ltl]
    rw [e0, List.append_assoc, List.cons_append] at h
    have hl := lineT_text hp line_no10 h
    have hlen : (s.data.toList.drop p).length = s.size - p := by rw [List.length_drop, list_size]
    rw [h] at hlen
    simp only [List.length_append, List.length_cons] at hlen
    rw [List.length_cons, show L2.length + 1 + f = (L2.length + f) + 1 by omega]
    conv => lhs; unfold derivR
    rw [if_neg (by omega), hl]
    simp only [ne_eq, not_true_eq_false, if_false]
    rw [text_lineR (s := ⟨(lineText b (c.map lt)).toArray⟩) (f := b) (hg (b, c) (by simp)) (by simp)]
    simp only
    rw [derivR_text L2 f (L1 ++ [(b, c)]) _ (n + 1) r (fun x hx => hg x (by simp [hx])) (by omega) ?_]
    · rw [e0]
      simp only [List.length_append, List.length_cons, List.append_assoc, List.singleton_append]
      congr 1 <;> omega
    · rw [Nat.add_assoc, ← List.drop_drop, h, List.drop_append]
      rw [List.drop_of_length_le (by simp), List.nil_append, show (lineText b (c.map lt)).length + 1 - (lineText b (c.map lt)).length = 1 by omega]
      rfl

theorem derivR_done {s : ByteArray} {f p n : Nat} {L : List (Bool × List Nat)} (h : s.size ≤ p) : derivR s f L p n = ⟨L, 0, 0⟩ := by
  cases f with
  | zero => rfl
  | succ f => unfold derivR; rw [if_pos h]

/-- good lines' text is read as the lines -/
theorem text_derivT {s : ByteArray} {L : List (Bool × List Nat)} (hg : ∀ x ∈ L, goodL x.2) (hs : s.data.toList = linesText (ltl L)) (hz : s.size ≤ 1048576) : derivT s = ⟨L, 0, 0⟩ := by
  unfold derivT
  rw [if_neg (by omega)]
  have hsz : s.size = (linesText (ltl L)).length := by rw [← list_size, hs]
  have hle : L.length ≤ s.size := by
    rw [hsz]
    clear hs hz hsz
    induction L with
    | nil => simp
    | cons x L ih =>
      have := ih (fun y hy => hg y (by simp [hy]))
      have e : (linesText (ltl (x :: L))).length = (lineText x.1 (x.2.map lt)).length + 1 + (linesText (ltl L)).length := by simp [linesText, ltl]; omega
      rw [e, List.length_cons]; omega
  obtain ⟨f, hf⟩ : ∃ f, s.size + 1 = L.length + f := ⟨s.size + 1 - L.length, by omega⟩
  rw [hf, derivR_text L f [] 0 0 [] hg (Nat.zero_le _) (by simpa using hs), derivR_done (by omega)]
  rfl

/-- lines that are read from a text have that text -/
theorem derivR_back {s : ByteArray} : ∀ (f : Nat) (L : List (Bool × List Nat)) (p n : Nat) (R : List (Bool × List Nat)) (m : Nat), p ≤ s.size → s.size < p + f → s.data.toList.take p = linesText (ltl L) → (∀ x ∈ L, goodL x.2) →
    derivR s f L p n = ⟨R, m, 0⟩ → s.data.toList = linesText (ltl R) ∧ (∀ x ∈ R, goodL x.2)
  | 0, L, p, n, R, m, hp, hf, _, _, _ => by omega
  | f + 1, L, p, n, R, m, hp, hf, ht, hg, h => by
    unfold derivR at h
    by_cases c1 : s.size ≤ p
    · rw [if_pos c1] at h
      injection h with h1
      subst h1
      rw [List.take_of_length_le (by rw [list_size]; exact c1)] at ht
      exact ⟨ht, hg⟩
    rw [if_neg c1] at h
    by_cases c2 : (lineT s (p : Nat)).2.2 ≠ 0
    · rw [if_pos c2] at h
      injection h with h1 h2 h3
      exact absurd h3 c2
    rw [if_neg c2] at h
    cases hl : lineR (lineT s (p : Nat)).1 with
    | none => rw [hl] at h; simp at h
    | some x =>
      obtain ⟨b, c⟩ := x
      rw [hl] at h
      simp only at h
      obtain ⟨e1, e2⟩ := lineR_text hl
      have hend := lineT_end hp (by simpa using c2)
      rcases feed_cases s p with ⟨i, hf1, hi1, hi2, hi3, _⟩ | ⟨hf1, _⟩
      · have hL : lineT s (p : Nat) = (s.extract p i, i + 1, 0) := by
          unfold lineT; rw [if_neg (by omega), Int.toNat_natCast, hf1]
        rw [hL] at h e1 hend
        simp only at h e1 hend
        refine derivR_back f (L ++ [(b, c)]) (i + 1) (n + 1) R m (by omega) (by omega) ?_ ?_ h
        · rw [ltl_append, linesText_append, ← ht]
          have e3 : linesText (ltl [(b, c)]) = lineText b (c.map lt) ++ [10] := by simp [linesText, ltl]
          rw [e3, ← e1, Lib.extract_data]
          have hi : i < s.data.toList.length := by rw [list_size]; exact hi2
          have h10 : s.data.toList[i] = 10 := by
            have := bt_is (s := s) (i := i) (c := 10) |>.2 ⟨hi2, hi3⟩
            rw [List.getElem?_eq_getElem hi] at this
            exact Option.some.inj this
          rw [List.take_succ_eq_append_getElem hi, h10, ← List.append_assoc]
          congr 1
          rw [← List.take_append_drop p (s.data.toList.take i), List.take_take, Nat.min_eq_left hi1, List.drop_take]
        · intro x hx
          rcases List.mem_append.1 hx with hx | hx
          · exact hg x hx
          · simp at hx; subst hx; exact e2
      · have hL : (lineT s (p : Nat)).2.2 = 3 := by
          unfold lineT; rw [if_neg (by omega), Int.toNat_natCast, hf1]
        rw [hL] at c2; simp at c2

theorem derivT_back {s : ByteArray} (h : (derivT s).e = 0) : s.data.toList = linesText (ltl (derivT s).l) ∧ (∀ x ∈ (derivT s).l, goodL x.2) := by
  unfold derivT at h ⊢
  by_cases c : 1048576 < s.size
  · rw [if_pos c] at h; simp at h
  · rw [if_neg c] at h ⊢
    obtain ⟨R, m, e, he⟩ : ∃ R m e, derivR s (s.size + 1) [] 0 0 = ⟨R, m, e⟩ := ⟨_, _, _, rfl⟩
    rw [he] at h ⊢
    simp only at h
    subst h
    exact derivR_back (s.size + 1) [] 0 0 R m (Nat.zero_le _) (by omega) (by simp [linesText, ltl]) (fun x hx => by cases hx) he

end Go.Proofs.YtpejimlmokfppaaDoor
