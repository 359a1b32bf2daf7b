/-
  clause.Read and deriv.line: a clause of a text, a line of a text.
-/
import Derived.Test.YtpejimlmokfppaaDoorLitRead
import Derived.Test.YtpejimlmokfppaaDoorWordWalk
import Derived.Test.YtpejimlmokfppaaDoorDerivText
namespace Go.Proofs.YtpejimlmokfppaaDoor
open Go.RowKit

/-- the library's MaxLen has some value -/
def ML (w : World) : Prop := ∃ m, w.cell? ⟨0, 0, none⟩ = some (.int .i64 m)

theorem ML.kp {w w' : World} (h : ML w) (k : Kp (fun _ => False) w w') : ML w' := by
  obtain ⟨m, h⟩ := h
  have hlt := World.block_lt_of_cell? w _ h
  exact ⟨m, (World.cell?_of_block (w := w) (w' := w') (k.block _ hlt (fun h => h))).trans h⟩

def nums (l : List Nat) : List Value := l.map (fun (n : Nat) => Value.int .i64 (n : Int))

theorem nums_length (l : List Nat) : (nums l).length = l.length := by simp [nums]
theorem nums_snoc (l : List Nat) (x : Nat) : nums (l ++ [x]) = nums l ++ [.int .i64 (x : Int)] := by simp [nums]

/-- the clause of a text -/
def clauseR (s : ByteArray) : Option (List Nat) := if s.size = 0 then some [] else litsR (wordsB s)

def okE (o : Option (List Nat)) : Int := match o with
  | some _ => 0
  | none => 2

theorem jn_mem : ∀ {xs : List (List UInt8)} {x : List UInt8}, x ∈ xs → x.length ≤ (jn xs).length
  | [a], x, h => by simp at h; subst h; simp [jn]
  | a :: b :: r, x, h => by
    rw [jn_cons (by simp)]
    rcases List.mem_cons.1 h with rfl | h
    · simp
    · have := jn_mem h
      simp only [List.length_append, List.length_cons]; omega

theorem word_size {s b : ByteArray} (h : b ∈ wordsB s) : b.size ≤ s.size := by
  have h1 : b.data.toList ∈ wordsF s.data.toList := by rw [← wordsB_data]; exact List.mem_map.2 ⟨b, h, rfl⟩
  have h2 := jn_mem h1
  rw [jn_words, list_size, list_size] at h2
  exact h2

theorem words_count (s : ByteArray) : (wordsB s).length ≤ s.size + 1 := by rw [← count_words]; have := count_le s; omega

theorem litsR_take {ws : List ByteArray} {k : Nat} {b : ByteArray} {l : List Nat} (hk : ws[k]? = some b) (h : litsR (ws.take k) = some l) {x : Nat} (hx : litR b = some x) : litsR (ws.take (k + 1)) = some (l ++ [x]) := by
  have hl := (List.getElem?_eq_some_iff.1 hk)
  obtain ⟨h1, h2⟩ := hl
  rw [List.take_succ_eq_append_getElem h1, h2]
  exact litsR_snoc h hx

theorem toList_nil {s : ByteArray} (h : s.size = 0) : s.toList = [] := by
  rw [Lib.toList_data]; exact List.eq_nil_of_length_eq_zero (by rw [list_size]; exact h)
theorem nil_toList {s : ByteArray} (h : s.toList = []) : s.size = 0 := by
  rw [Lib.toList_data] at h; rw [← list_size, h]; rfl

theorem intInfo : (Tryd.prog.info? 3).map (fun i => (i.zero, i.size, i.bytes)) = some (some (.int .i64 0), 1, 8) := by kernel_rfl

def sgn (f : Bool) : ByteArray := if f then ⟨#[45]⟩ else ⟨#[43]⟩

/-- what deriv.line leaves -/
def LineP (o : Option (Bool × List Nat)) (w : World) (e : Ending) (w' : World) : Prop :=
  Kp (fun _ => False) w w' ∧ match o with
    | some (f, c) => ∃ v, e = .returned (.tuple #[.agg #[.bool f, v], .bool true]) ∧ Own w' w.heap.size 3 v (nums c)
    | none => ∃ f a n c, e = .returned (.tuple #[.agg #[.bool f, .slice a n c], .bool false])

theorem has_one (s : ByteArray) (c : UInt8) : Lib.hasPrefix s.data.toList [c] = true ↔ ∃ r, s.data.toList = c :: r := by
  unfold Lib.hasPrefix
  cases s.data.toList with
  | nil => simp [List.isPrefixOf]
  | cons d r =>
    simp only [List.isPrefixOf_cons_cons, List.isPrefixOf_nil_left, Bool.and_true, beq_iff_eq, List.cons.injEq]
    constructor
    · rintro rfl; exact ⟨r, rfl, rfl⟩
    · rintro ⟨_, rfl, _⟩; rfl

theorem has_not {s : ByteArray} {c : UInt8} (h : ¬ ∃ r, s.data.toList = c :: r) : Lib.hasPrefix s.data.toList [c] = false := by
  rw [← has_one] at h; simpa using h

theorem trim_one {s : ByteArray} {c : UInt8} {r : List UInt8} (h : s.data.toList = c :: r) : (⟨(Lib.trimPrefix s.data.toList [c]).toArray⟩ : ByteArray) = ⟨r.toArray⟩ := by
  unfold Lib.trimPrefix
  rw [(has_one s c).2 ⟨r, h⟩, if_pos rfl, h]; rfl

/-- a line that does not begin with a sign is none -/
theorem line_nosign {s : ByteArray} (h1 : ¬ ∃ r, s.data.toList = 43 :: r) (h2 : ¬ ∃ r, s.data.toList = 45 :: r) : lineR s = none := by
  cases hl : lineR s with
  | none => rfl
  | some x =>
    obtain ⟨f, c⟩ := x
    have := (lineR_text hl).1
    unfold lineText at this
    cases f
    · exact absurd ⟨_, this⟩ h1
    · exact absurd ⟨_, this⟩ h2

def sgb (f : Bool) : UInt8 := if f then 45 else 43

theorem line_bare {s : ByteArray} {f : Bool} (h : s.data.toList = [sgb f]) : lineR s = some (f, []) :=
  text_lineR (fun x hx => by cases hx) (by rw [h]; rfl)

theorem line_noblank {s : ByteArray} {f : Bool} {c : UInt8} {r : List UInt8} (h : s.data.toList = sgb f :: c :: r) (hc : c ≠ 32) : lineR s = none := by
  cases hl : lineR s with
  | none => rfl
  | some x =>
    obtain ⟨g, l⟩ := x
    have := (lineR_text hl).1
    rw [h] at this
    unfold lineText at this
    cases l with
    | nil => simp at this
    | cons y l =>
      simp at this
      exact absurd this.2.1 hc

theorem line_words {s : ByteArray} {f : Bool} {r : List UInt8} (h : s.data.toList = sgb f :: 32 :: r) : lineR s = if r = [] then none else (clauseR ⟨r.toArray⟩).map (fun l => (f, l)) := by
  have hw := wordsB_data s
  have e : wordsF s.data.toList = [sgb f] :: wordsF r := by
    rw [h]
    exact words_app (a := [sgb f]) r (by intro b hb; simp at hb; subst hb; cases f <;> decide)
  have hw2 := wordsB_data ⟨r.toArray⟩
  rw [e] at hw
  unfold lineR
  cases hws : wordsB s with
  | nil => rw [hws] at hw; simp at hw
  | cons w ws =>
    rw [hws, List.map_cons] at hw
    injection hw with h1 h2
    have hwe : ws = wordsB ⟨r.toArray⟩ := by
      have h3 : ws.map (·.data.toList) = (wordsB ⟨r.toArray⟩).map (·.data.toList) := by rw [h2, hw2]
      exact List.map_inj_right (fun a b hab => ba_ext hab) |>.1 h3
    simp only
    have key : (litsR ws).map (fun l => (f, l)) = if r = [] then none else (clauseR ⟨r.toArray⟩).map (fun l => (f, l)) := by
      rw [hwe]
      by_cases hr : r = []
      · subst hr
        rw [if_pos rfl]
        have : wordsB ⟨[].toArray⟩ = [⟨#[]⟩] := by
          have h4 := wordsB_data ⟨[].toArray⟩
          cases hx : wordsB ⟨[].toArray⟩ with
          | nil => rw [hx] at h4; simp [wordsF] at h4
          | cons a b =>
            rw [hx] at h4
            simp [wordsF] at h4
            rw [h4.2, ba_ext (a := a) (b := ⟨#[]⟩) (by rw [h4.1])]
        rw [this]
        have : litR ⟨#[]⟩ = none := by
          cases hq : litR ⟨#[]⟩ with
          | none => rfl
          | some x =>
            have h5 := (litR_text hq).1
            unfold lt at h5
            split at h5
            · simp at h5
            · have := dd_pos (x / 2)
              rw [← h5] at this; simp at this
        simp [litsR, this]
      · rw [if_neg hr]
        unfold clauseR
        rw [if_neg (by intro h0; rw [← list_size] at h0; exact hr (by simpa using h0))]
    cases f with
    | false =>
      have : w = ⟨#[43]⟩ := ba_ext h1
      rw [if_pos this, key]
    | true =>
      have : w = ⟨#[45]⟩ := ba_ext h1
      rw [if_neg (by rw [this]; decide), if_pos this, key]

end Go.Proofs.YtpejimlmokfppaaDoor
