/-
  Numerals: a number's digits, and the number that digits stand for, there and back. No program in sight.
-/
import Derived.Test.YtmjcpapcmbgkjaaDoorM1
import Derived.Lib.ItoaNum
import Ieee.Arith
import Derived.Test.YtmjcpapcmbgkjaaDoorRows
import Derived.BigRegion
import Derived.Deep.QuietTactic
import Derived.BigQuiet
import Derived.Deep.RegionHeld3
import Derived.Laws.Externs
import Derived.Maps.Views
import Derived.Maps.OwnSet
set_option linter.unusedVariables false
set_option linter.unusedSimpArgs false
namespace Go.Proofs.YtmjcpapcmbgkjaaDoor
open Go.RowKit

theorem dd_one {u : Nat} (h : u < 10) : Lib.decDigits u = [UInt8.ofNat (48 + u)] := Lib.decDigits_one h
theorem dd_more {u : Nat} (h : ¬ u < 10) : Lib.decDigits u = Lib.decDigits (u / 10) ++ [UInt8.ofNat (48 + u % 10)] := by
  conv => lhs; rw [Lib.decDigits, dif_neg h]

theorem dd_byte {d : Nat} (h : d < 10) : (UInt8.ofNat (48 + d)).toNat = 48 + d := by
  rw [UInt8.toNat_ofNat']; omega

theorem dd_digit : ∀ (u : Nat), ∀ b ∈ Lib.decDigits u, 48 ≤ b.toNat ∧ b.toNat ≤ 57 := by
  intro u
  induction u using Nat.strongRecOn with
  | _ u ih =>
    intro b hb
    by_cases h : u < 10
    · rw [dd_one h] at hb
      simp only [List.mem_singleton] at hb
      subst hb
      rw [dd_byte h]; omega
    · rw [dd_more h] at hb
      rcases List.mem_append.1 hb with hb | hb
      · exact ih (u / 10) (by omega) b hb
      · simp only [List.mem_singleton] at hb
        subst hb
        rw [dd_byte (by omega)]; omega

theorem dd_pos (u : Nat) : 0 < (Lib.decDigits u).length := by
  by_cases h : u < 10
  · rw [dd_one h]; simp
  · rw [dd_more h]; simp

theorem dd_head : ∀ (u : Nat), 0 < u → ∃ b r, Lib.decDigits u = b :: r ∧ b.toNat ≠ 48 := by
  intro u
  induction u using Nat.strongRecOn with
  | _ u ih =>
    intro h0
    by_cases h : u < 10
    · exact ⟨_, [], dd_one h, by rw [dd_byte h]; omega⟩
    · obtain ⟨b, r, e, hb⟩ := ih (u / 10) (by omega) (by omega)
      exact ⟨b, r ++ [UInt8.ofNat (48 + u % 10)], by rw [dd_more h, e]; rfl, hb⟩

theorem dd_len : ∀ (k u : Nat), u < 10 ^ (k + 1) → (Lib.decDigits u).length ≤ k + 1
  | 0, u, h => by rw [dd_one (by simpa using h)]; simp
  | k + 1, u, h => by
    by_cases hu : u < 10
    · rw [dd_one hu]; simp
    · rw [dd_more hu]
      have := dd_len k (u / 10) (by rw [Nat.pow_succ] at h; omega)
      simp; omega

theorem decFrom_snoc : ∀ (l : List UInt8) (acc : Nat) (b : UInt8), Lib.decFrom acc (l ++ [b]) = match Lib.decFrom acc l with
    | some n => match Lib.digitVal b with
      | some d => some (n * 10 + d)
      | none => none
    | none => none
  | [], acc, b => by
    simp only [List.nil_append, Lib.decFrom]
    cases Lib.digitVal b <;> rfl
  | c :: l, acc, b => by
    rw [List.cons_append]
    simp only [Lib.decFrom]
    cases Lib.digitVal c with
    | none => rfl
    | some d => exact decFrom_snoc l _ b

theorem digitVal_of {d : Nat} (h : d < 10) : Lib.digitVal (UInt8.ofNat (48 + d)) = some d := by
  unfold Lib.digitVal
  rw [dd_byte h, if_pos ⟨by omega, by omega⟩, show 48 + d - 48 = d by omega]

theorem dd_from : ∀ (u : Nat), Lib.decFrom 0 (Lib.decDigits u) = some u := by
  intro u
  induction u using Nat.strongRecOn with
  | _ u ih =>
    by_cases h : u < 10
    · rw [dd_one h]
      simp only [Lib.decFrom, digitVal_of h]
      simp
    · rw [dd_more h, decFrom_snoc, ih (u / 10) (by omega), digitVal_of (by omega)]
      simp only [Option.some.injEq]; omega

theorem dd_inj {u v : Nat} (h : Lib.decDigits u = Lib.decDigits v) : u = v := by
  have := dd_from u
  rw [h, dd_from v] at this
  exact (Option.some.inj this).symm

/-- digits without a nought ahead are their number's numeral -/
theorem numb_dd {s : ByteArray} {i : Nat} : ∀ (k : Nat), i + (k + 1) ≤ s.size → (∀ j, j < k + 1 → isDig s (i + j)) → (k = 0 ∨ bt s i ≠ 48) →
    (s.data.toList.drop i).take (k + 1) = Lib.decDigits (numb s i (k + 1)) ∧ (bt s i ≠ 48 → 0 < numb s i (k + 1))
  | 0, hs, hd, _ => by
    have h := hd 0 (by omega)
    unfold isDig at h
    rw [Nat.add_zero] at h
    obtain ⟨b, hb, hb2⟩ := byte_at (s := s) (i := i) (by omega)
    simp only [numb, Nat.mul_zero, Nat.zero_add, Nat.add_zero]
    refine ⟨?_, fun h48 => by omega⟩
    rw [dd_one (by omega), show 48 + (bt s i - 48) = b.toNat by omega]
    obtain ⟨hi, hb3⟩ := List.getElem?_eq_some_iff.1 hb
    rw [List.drop_eq_getElem_cons hi, hb3]
    simp
  | k + 1, hs, hd, hz => by
    have h48 : bt s i ≠ 48 := by rcases hz with h | h; omega; exact h
    obtain ⟨h1, h2⟩ := numb_dd k (by omega) (fun j hj => hd j (by omega)) (.inr h48)
    have h2 := h2 h48
    have h := hd (k + 1) (by omega)
    unfold isDig at h
    obtain ⟨b, hb, hb2⟩ := byte_at (s := s) (i := i + (k + 1)) (by omega)
    have e : numb s i (k + 1 + 1) = 10 * numb s i (k + 1) + (bt s (i + (k + 1)) - 48) := rfl
    refine ⟨?_, fun _ => by omega⟩
    have hl : (s.data.toList.drop i)[k + 1]? = some b := by rw [List.getElem?_drop]; exact hb
    obtain ⟨hi, hb3⟩ := List.getElem?_eq_some_iff.1 hl
    rw [List.take_succ_eq_append_getElem hi, hb3, h1, dd_more (u := numb s i (k + 1 + 1)) (by omega), e,
      show (10 * numb s i (k + 1) + (bt s (i + (k + 1)) - 48)) / 10 = numb s i (k + 1) by omega,
      show 48 + (10 * numb s i (k + 1) + (bt s (i + (k + 1)) - 48)) % 10 = b.toNat by omega]
    simp

theorem endOf_dig {s : ByteArray} {i j : Nat} (h : j < endOf s i - i) : isDig s (i + j) := by
  have : j < runL s (s.size - i) i := by unfold endOf at h; omega
  exact runL_dig s _ i j this

/-- a number that is read is the digits' numeral -/
theorem dec_natN {s : ByteArray} {p v q : Nat} (hp : p ≤ s.size) (h : natN s p = (v, q, 0)) : p < q ∧ q ≤ s.size ∧ v < 1000000000 ∧ (s.data.toList.drop p).take (q - p) = Lib.decDigits v := by
  have h0 := natN_end hp (by rw [h])
  rw [h] at h0
  simp only at h0
  refine ⟨h0.1, h0.2.1, h0.2.2, ?_⟩
  unfold natN at h
  by_cases c1 : p = s.size
  · rw [if_pos c1] at h; simp at h
  rw [if_neg c1] at h
  by_cases c2 : endOf s p = p ∨ bt s p = 48 ∧ p + 1 < endOf s p
  · rw [if_pos c2] at h; simp at h
  rw [if_neg c2] at h
  by_cases c3 : 9 < endOf s p - p
  · rw [if_pos c3] at h; simp at h
  rw [if_neg c3] at h
  simp only [Prod.mk.injEq, and_true] at h
  obtain ⟨h1, h2⟩ := h
  rw [h2] at h1 c2
  have hd : ∀ j, j < q - p → isDig s (p + j) := fun j hj => endOf_dig (by rw [h2]; exact hj)
  obtain ⟨k, hk⟩ : ∃ k, q - p = k + 1 := ⟨q - p - 1, by omega⟩
  rw [hk] at h1 hd ⊢
  rw [← h1]
  exact (numb_dd k (by omega) hd (by omega)).1

/-- a numeral is read as its number -/
theorem natN_dec {s : ByteArray} {p u : Nat} (hu : u < 1000000000) (hp : p + (Lib.decDigits u).length ≤ s.size)
    (hs : (s.data.toList.drop p).take (Lib.decDigits u).length = Lib.decDigits u) (he : p + (Lib.decDigits u).length = s.size ∨ ¬ isDig s (p + (Lib.decDigits u).length)) :
    natN s p = (u, p + (Lib.decDigits u).length, 0) := by
  have hpos := dd_pos u
  have hlen : (Lib.decDigits u).length ≤ 9 := dd_len 8 u (by omega)
  obtain ⟨n, hn⟩ : ∃ n, (Lib.decDigits u).length = n := ⟨_, rfl⟩
  rw [hn] at hpos hlen hp hs he ⊢
  have hbyte : ∀ j b, (Lib.decDigits u)[j]? = some b → bt s (p + j) = b.toNat := by
    intro j b hb
    have hj : j < n := by rw [← hn]; exact (List.getElem?_eq_some_iff.1 hb).1
    rw [← hs, List.getElem?_take, if_pos hj, List.getElem?_drop] at hb
    obtain ⟨c, hc, hc2⟩ := byte_at (s := s) (i := p + j) (by omega)
    rw [hb] at hc
    rw [← hc2, Option.some.inj hc]
  have hd : ∀ j, j < n → isDig s (p + j) := by
    intro j hj
    have hj' : j < (Lib.decDigits u).length := by omega
    have := dd_digit u _ (List.getElem_mem hj')
    have hb := hbyte j _ (List.getElem?_eq_getElem hj')
    unfold isDig
    rw [hb]; exact this
  have hend : endOf s p = p + n := endOf_is (by omega) hp (fun k h1 h2 => by have := hd (k - p) (by omega); rwa [show p + (k - p) = k by omega] at this) he
  unfold natN
  rw [if_neg (by omega), hend, if_neg ?_, if_neg (by omega), show p + n - p = n by omega]
  · have h1 := word_dec (s := s) (i := p) n hp hd
    rw [hs, dd_from] at h1
    rw [← Option.some.inj h1]
  · rintro (h | ⟨h1, h2⟩)
    · omega
    · have hu10 : ¬ u < 10 := by intro h; rw [dd_one h] at hn; simp at hn; omega
      obtain ⟨b, r, e, hb⟩ := dd_head u (by omega)
      have := hbyte 0 b (by rw [e]; rfl)
      rw [Nat.add_zero] at this
      omega

theorem itoa_nat (u : Nat) : Lib.itoa (u : Int) = Lib.decDigits u := by unfold Lib.itoa; rw [if_neg (by omega), Int.toNat_natCast]

end Go.Proofs.YtmjcpapcmbgkjaaDoor

/-
  A number read from a place of a text is the number read from the rest of it. No program in sight.
-/
namespace Go.Proofs.YtmjcpapcmbgkjaaDoor
open Go.RowKit

theorem bt_rest (s : ByteArray) (p i : Nat) : bt (s.extract p s.size) i = bt s (p + i) := by
  by_cases h : i < (s.extract p s.size).size
  · have h2 : p + i < s.size := by rw [ByteArray.size_extract] at h; omega
    obtain ⟨b, hb, hb2⟩ := byte_at h
    obtain ⟨c, hc, hc2⟩ := byte_at h2
    rw [Lib.extract_to_end, List.getElem?_drop, hc] at hb
    rw [← hb2, ← hc2, Option.some.inj hb]
  · have h2 : ¬ p + i < s.size := by rw [ByteArray.size_extract] at h; omega
    unfold bt
    rw [dif_neg h, dif_neg h2]

theorem runL_rest (s : ByteArray) (p : Nat) : ∀ f i, runL (s.extract p s.size) f i = runL s f (p + i)
  | 0, i => rfl
  | f + 1, i => by
    simp only [runL, bt_rest]
    rw [runL_rest s p f (i + 1), Nat.add_assoc]

theorem endOf_rest {s : ByteArray} {p i : Nat} (h : p + i ≤ s.size) : endOf (s.extract p s.size) i + p = endOf s (p + i) := by
  unfold endOf
  rw [runL_rest, ByteArray.size_extract, show min s.size s.size - p - i = s.size - (p + i) by omega]
  omega

theorem numb_rest (s : ByteArray) (p i : Nat) : ∀ k, numb (s.extract p s.size) i k = numb s (p + i) k
  | 0 => rfl
  | k + 1 => by
    simp only [numb, bt_rest]
    rw [numb_rest s p i k, Nat.add_assoc]

/-- the number at a place, by the rest's -/
theorem natN_rest {s : ByteArray} {p : Nat} (h : p ≤ s.size) :
    natN s p = ((natN (s.extract p s.size) 0).1, if (natN (s.extract p s.size) 0).2.2 = 0 then (natN (s.extract p s.size) 0).2.1 + p else 0, (natN (s.extract p s.size) 0).2.2) := by
  have he := endOf_rest (s := s) (p := p) (i := 0) (by omega)
  rw [Nat.add_zero] at he
  have hz : (s.extract p s.size).size = s.size - p := by rw [ByteArray.size_extract]; omega
  have hge := endOf_ge (s.extract p s.size) 0
  have hb : bt (s.extract p s.size) 0 = bt s p := by rw [bt_rest, Nat.add_zero]
  obtain ⟨E, hE⟩ : ∃ E, endOf (s.extract p s.size) 0 = E := ⟨_, rfl⟩
  rw [hE] at he hge
  have hR : natN (s.extract p s.size) 0 = if 0 = s.size - p then (0, 0, 3) else if E = 0 ∨ bt s p = 48 ∧ 0 + 1 < E then (0, 0, 2) else if 9 < E - 0 then (0, 0, 5) else (numb s p (E - 0), E, 0) := by
    unfold natN
    rw [hz, hb, hE, numb_rest]; rfl
  have hL : natN s p = if p = s.size then (0, 0, 3) else if E + p = p ∨ bt s p = 48 ∧ p + 1 < E + p then (0, 0, 2) else if 9 < E + p - p then (0, 0, 5) else (numb s p (E + p - p), E + p, 0) := by
    unfold natN
    rw [← he]
  by_cases c1 : p = s.size
  · rw [if_pos c1] at hL; rw [if_pos (by omega)] at hR
    rw [hL, hR]; rfl
  rw [if_neg c1] at hL; rw [if_neg (by omega)] at hR
  by_cases c2 : E = 0 ∨ bt s p = 48 ∧ 0 + 1 < E
  · rw [if_pos (by omega)] at hL; rw [if_pos c2] at hR
    rw [hL, hR]; rfl
  rw [if_neg (by omega)] at hL; rw [if_neg c2] at hR
  by_cases c3 : 9 < E - 0
  · rw [if_pos (by omega)] at hL; rw [if_pos c3] at hR
    rw [hL, hR]; rfl
  rw [if_neg (by omega)] at hL; rw [if_neg c3] at hR
  rw [hL, hR]
  simp only [if_true]
  rw [show E + p - p = E - 0 by omega]

end Go.Proofs.YtmjcpapcmbgkjaaDoor

/-
  Circuits in the short form: what is written, and what stands where. No program in sight.
-/
namespace Go.Proofs.YtmjcpapcmbgkjaaDoor
open Go.RowKit

/-- the bytes l stand at p -/
def Here (s : ByteArray) (p : Nat) (l : List UInt8) : Prop := ∃ more, s.data.toList.drop p = l ++ more

section
variable {s : ByteArray} {p : Nat}
theorem Here.left {a b : List UInt8} (h : Here s p (a ++ b)) : Here s p a := by
  obtain ⟨m, h⟩ := h
  exact ⟨b ++ m, by rw [h, List.append_assoc]⟩
theorem Here.right {a b : List UInt8} (h : Here s p (a ++ b)) : Here s (p + a.length) b := by
  obtain ⟨m, h⟩ := h
  refine ⟨m, ?_⟩
  rw [← List.drop_drop, h, List.append_assoc, List.drop_left]
theorem Here.size {l : List UInt8} (h : Here s p l) (hl : l ≠ []) : p + l.length ≤ s.size := by
  obtain ⟨m, h⟩ := h
  have h1 : (s.data.toList.drop p).length = l.length + m.length := by rw [h, List.length_append]
  rw [List.length_drop] at h1
  have h2 : 0 < l.length := List.length_pos_iff.2 hl
  have h3 : s.data.toList.length = s.size := by simp
  omega
theorem Here.at {l : List UInt8} (h : Here s p l) {j : Nat} {b : UInt8} (hj : l[j]? = some b) : bt s (p + j) = b.toNat ∧ p + j < s.size := by
  obtain ⟨m, h⟩ := h
  have hj2 : (l ++ m)[j]? = some b := by rw [List.getElem?_append_left (List.getElem?_eq_some_iff.1 hj).1]; exact hj
  rw [← h, List.getElem?_drop] at hj2
  obtain ⟨h1, h2⟩ := List.getElem?_eq_some_iff.1 hj2
  have h3 : s.data.toList.length = s.size := by simp
  rw [h3] at h1
  obtain ⟨c, hc, hc2⟩ := byte_at (s := s) (i := p + j) h1
  rw [hj2] at hc
  exact ⟨by rw [← hc2, Option.some.inj hc], h1⟩
theorem Here.byte {c : UInt8} {r : List UInt8} (h : Here s p (c :: r)) : bt s p = c.toNat ∧ p < s.size := by
  have := h.at (j := 0) (b := c) rfl
  simpa using this

/-- a number's numeral, and a byte that is no digit behind it -/
theorem Here.nat {u : Nat} {c : UInt8} {r : List UInt8} (h : Here s p (Lib.itoa (u : Int) ++ c :: r)) (hc : ¬ (48 ≤ c.toNat ∧ c.toNat ≤ 57)) (hu : u < 1000000000) : natN s p = (u, p + (Lib.itoa (u : Int)).length, 0) := by
  have h0 := h
  rw [itoa_nat] at h ⊢
  have hs := h.size (by simp)
  rw [List.length_append, List.length_cons] at hs
  refine natN_dec hu (by omega) ?_ (.inr ?_)
  · obtain ⟨m, h⟩ := h
    rw [h, List.append_assoc, List.take_left]
  · have := (h.right).byte
    unfold isDig
    rw [this.1]
    exact hc

theorem ba_eq {a b : ByteArray} (h : a.data.toList = b.data.toList) : a = b := by
  obtain ⟨⟨la⟩⟩ := a
  obtain ⟨⟨lb⟩⟩ := b
  exact congrArg (fun l => (⟨⟨l⟩⟩ : ByteArray)) h

theorem getR_rest (hp : p ≤ s.size) : ∀ (r k a v q : Nat), getR (s.extract p s.size) 0 r k a = (v, q, 0) → getR s p r k a = (v, p + q, 0)
  | 0, k, a, v, q, h => by simp [getR] at h
  | r + 1, k, a, v, q, h => by
    have hsz : (s.extract p s.size).size = s.size - p := by rw [ByteArray.size_extract]; omega
    have hb : bt (s.extract p s.size) (0 + k) = bt s (p + k) := by rw [bt_rest, Nat.zero_add]
    unfold getR at h ⊢
    rw [hsz, hb] at h
    by_cases c1 : p + k = s.size
    · rw [if_pos (by omega : 0 + k = s.size - p)] at h; simp at h
    rw [if_neg (by omega : ¬ 0 + k = s.size - p)] at h
    rw [if_neg c1]
    by_cases c2 : k = 4 ∧ 15 < bt s (p + k)
    · rw [if_pos c2] at h; simp at h
    rw [if_neg c2] at h ⊢
    by_cases c3 : 0 < k ∧ bt s (p + k) = 0
    · rw [if_pos c3] at h; simp at h
    rw [if_neg c3] at h ⊢
    by_cases c4 : bt s (p + k) < 128
    · rw [if_pos c4] at h ⊢
      simp only [Prod.mk.injEq, and_true] at h ⊢
      omega
    · rw [if_neg c4] at h ⊢
      exact getR_rest hp r (k + 1) _ v q h

theorem numL_pos (f n : Nat) : numL f n ≠ [] := by
  cases f with
  | zero => simp [numL]
  | succ f => unfold numL; split <;> simp

/-- a number by digits of seven bits -/
theorem Here.num {n : Nat} {r : List UInt8} (h : Here s p (numL 5 n ++ r)) (hn : n < 4294967296) : getN s p = (n, p + (numL 5 n).length, 0) := by
  have hs := h.left.size (numL_pos 5 n)
  obtain ⟨m, h⟩ := h
  have he : s.extract p s.size = ⟨(numL 5 n ++ (r ++ m)).toArray⟩ := ba_eq (by rw [Lib.extract_to_end, h, List.append_assoc])
  have hg := get_puts n (r ++ m) hn
  unfold getT at hg
  rw [if_neg (by omega)] at hg
  unfold getN at hg ⊢
  exact getR_rest (by omega) 5 0 0 _ _ (by rw [he]; exact hg)

end

def lineB (a b : Int) : List UInt8 := Lib.itoa a ++ (if b = 0 then [10] else 32 :: (Lib.itoa b ++ [10]))
def oneB (a : Int) : List UInt8 := Lib.itoa a ++ [10]
def gateB (g : Int × Int × Int) : List UInt8 := numL 5 (g.1 - g.2.1).toNat ++ numL 5 (g.2.1 - g.2.2).toNat
def latB (x : Int × Int × Int) : List UInt8 := lineB x.2.1 x.2.2
def binB (C : Circ) : List UInt8 := C.lats.flatMap latB ++ C.outs.flatMap oneB ++ C.bads.flatMap oneB ++ C.cons.flatMap oneB ++ C.gates.flatMap gateB

theorem flat_take {α : Type} (f : α → List UInt8) {L : List α} {k : Nat} {x : α} (h : L[k]? = some x) : (L.take (k + 1)).flatMap f = (L.take k).flatMap f ++ f x := by
  have hk : k < L.length := (List.getElem?_eq_some_iff.1 h).1
  have hx : L[k] = x := (List.getElem?_eq_some_iff.1 h).2
  rw [List.take_succ_eq_append_getElem hk, List.flatMap_append, hx]
  simp
theorem flat_here {α : Type} {f : α → List UInt8} {L : List α} {s : ByteArray} {p k : Nat} {x : α} (h : Here s p (L.flatMap f)) (hx : L[k]? = some x) : Here s (p + ((L.take k).flatMap f).length) (f x) := by
  have hk : k < L.length := (List.getElem?_eq_some_iff.1 hx).1
  have e : L.flatMap f = (L.take k).flatMap f ++ (f x ++ (L.drop (k + 1)).flatMap f) := by
    rw [← List.append_assoc, ← flat_take f hx, ← List.flatMap_append, List.take_append_drop]
  rw [e] at h
  exact h.right.left

theorem g3_some {L : List (Int × Int × Int)} {k : Nat} (h : k < L.length) : L[k]? = some (g3 L k) := by unfold g3; rw [List.getElem?_eq_getElem h]; rfl
theorem gi_some {L : List Int} {k : Nat} (h : k < L.length) : L[k]? = some (gi L k) := by unfold gi; rw [List.getElem?_eq_getElem h]; rfl

/-- numbered as the short form has it -/
structure NormC (C : Circ) : Prop where
  good : GoodC C
  max : C.max = (C.owned.length : Int)
  own : ∀ i, i < C.owned.length → gi C.owned i = 2 * (i : Int) + 2
  gate : ∀ g, g ∈ C.gates → g.2.2 ≤ g.2.1 ∧ g.2.1 < g.1

section
variable {C : Circ} (h : NormC C)
include h
theorem NormC.i {k : Nat} (hk : k < C.ins.length) : gi C.ins k = 2 * (k : Int) + 2 := by
  have h1 := h.own k (by unfold Circ.owned; simp only [List.length_append]; omega)
  unfold Circ.owned gi at h1
  rw [List.append_assoc, List.getElem?_append_left hk] at h1
  exact h1
theorem NormC.l {k : Nat} (hk : k < C.lats.length) : (g3 C.lats k).1 = 2 * ((C.ins.length + k : Nat) : Int) + 2 := by
  have h1 := h.own (C.ins.length + k) (by unfold Circ.owned; simp only [List.length_append, List.length_map]; omega)
  unfold Circ.owned gi at h1
  rw [List.append_assoc, List.getElem?_append_right (by omega), Nat.add_sub_cancel_left, List.getElem?_append_left (by simpa using hk), List.getElem?_map, g3_some hk] at h1
  exact h1
theorem NormC.g {k : Nat} (hk : k < C.gates.length) : (g3 C.gates k).1 = 2 * ((C.ins.length + C.lats.length + k : Nat) : Int) + 2 := by
  have h1 := h.own (C.ins.length + C.lats.length + k) (by unfold Circ.owned; simp only [List.length_append, List.length_map]; omega)
  unfold Circ.owned gi at h1
  rw [List.getElem?_append_right (by simp)] at h1
  simp only [List.length_append, List.length_map, Nat.add_sub_cancel_left, List.getElem?_map, g3_some hk] at h1
  exact h1
theorem NormC.many : (C.ins.length + C.lats.length + C.gates.length : Nat) = C.max := by
  rw [h.max]; unfold Circ.owned; simp; omega
end

end Go.Proofs.YtmjcpapcmbgkjaaDoor

/-
  Scores' order, and a tree in a list in that order. No program in sight.
-/
namespace Go.Proofs.YtmjcpapcmbgkjaaDoor
open Ieee

/-- a key that tells a word's order: what is no number first -/
def fk (x : Nat) : Int × Int :=
  match double.read x with
  | .nan .. => (-2, 0)
  | .infinity true => (-1, 0)
  | .infinity false => (1, 0)
  | .number s m i => (0, signed s m (i - double.leastPlace).toNat)

def klt (a b : Int × Int) : Prop := a.1 < b.1 ∨ a.1 = b.1 ∧ a.2 < b.2
instance (a b : Int × Int) : Decidable (klt a b) := inferInstanceAs (Decidable (_ ∨ _))

theorem read_place {x : Nat} {s : Bool} {m : Nat} {i : Int} (h : double.read x = .number s m i) : double.leastPlace ≤ i := by
  unfold Format.read at h
  simp only at h
  split at h
  · simp only [Datum.number.injEq] at h; omega
  · split at h
    · simp only [Datum.number.injEq] at h; omega
    · split at h <;> cases h

theorem signed_up (s : Bool) (m a b : Nat) : signed s m (a + b) = signed s m a * (2 ^ b : Nat) := by
  unfold signed
  have : m <<< (a + b) = (m <<< a) * 2 ^ b := by simp [Nat.shiftLeft_eq, Nat.pow_add, Nat.mul_assoc]
  rw [this]
  cases s <;> simp [Int.neg_mul]

theorem compare_up {x y : Int} {p : Nat} (hp : 0 < p) : compare (x * (p : Int)) (y * (p : Int)) = compare x y := by
  have hp' : (0 : Int) < p := by omega
  rcases Int.lt_trichotomy x y with h | h | h
  · rw [(Int.compare_eq_lt).2 h, (Int.compare_eq_lt).2 (Int.mul_lt_mul_of_pos_right h hp')]
  · subst h; simp
  · rw [(Int.compare_eq_gt).2 h, (Int.compare_eq_gt).2 (Int.mul_lt_mul_of_pos_right h hp')]

/-- the order of two words that are numbers, infinities too -/
theorem order_key (x y : Nat) : double.order x y = if (fk x).1 = -2 ∨ (fk y).1 = -2 then none else some (if klt (fk x) (fk y) then .lt else if klt (fk y) (fk x) then .gt else .eq) := by
  unfold Format.order fk
  have hpx := @read_place x
  have hpy := @read_place y
  generalize double.read x = dx at *
  generalize double.read y = dy at *
  cases dx with
  | nan => simp [Datum.order]
  | infinity s =>
    cases dy with
    | nan => cases s <;> simp [Datum.order]
    | infinity t => cases s <;> cases t <;> simp [Datum.order, klt] <;> rfl
    | number t n j => cases s <;> simp [Datum.order, klt]
  | number s m i =>
    cases dy with
    | nan => simp [Datum.order]
    | infinity t => cases t <;> simp [Datum.order, klt]
    | number t n j =>
      have h1 := hpx rfl
      have h2 := hpy rfl
      generalize double.leastPlace = L at *
      simp only [Datum.order, klt]
      have e1 : (i - L).toNat = (i - min i j).toNat + (min i j - L).toNat := by omega
      have e2 : (j - L).toNat = (j - min i j).toNat + (min i j - L).toNat := by omega
      rw [e1, e2, signed_up, signed_up, ← compare_up (p := 2 ^ (min i j - L).toNat) (Nat.two_pow_pos _)]
      generalize signed s m (i - min i j).toNat * ((2 ^ (min i j - L).toNat : Nat) : Int) = a
      generalize signed t n (j - min i j).toNat * ((2 ^ (min i j - L).toNat : Nat) : Int) = b
      rcases Int.lt_trichotomy a b with h | h | h
      · rw [(Int.compare_eq_lt).2 h]; simp [h]
      · subst h; simp
      · rw [(Int.compare_eq_gt).2 h]; simp [h]; omega

theorem fk_ge (x : Nat) : -2 ≤ (fk x).1 ∧ ((fk x).1 = -2 → (fk x).2 = 0) := by
  unfold fk
  split <;> simp

theorem self_order (x : Nat) : (double.order x x == some .eq) = decide ((fk x).1 ≠ -2) := by
  rw [order_key]
  by_cases h : (fk x).1 = -2
  · simp [h]
  · simp [h, klt]

/-- one stands ahead of another one -/
def lessB (a b : Nat) : Bool := decide (klt (fk a) (fk b))

theorem less_lt {a b : Nat} (ha : (fk a).1 ≠ -2) (hb : (fk b).1 ≠ -2) : (double.order a b == some .lt) = lessB a b := by
  rw [order_key, if_neg (by omega)]
  unfold lessB
  by_cases h : klt (fk a) (fk b)
  · simp [h]
  · by_cases h2 : klt (fk b) (fk a) <;> simp [h, h2]

theorem less_odd {a b : Nat} (h : (fk a).1 = -2 ∨ (fk b).1 = -2) : (decide ((fk a).1 = -2) && decide ((fk b).1 ≠ -2)) = lessB a b := by
  have ha := fk_ge a
  have hb := fk_ge b
  unfold lessB klt
  rw [← Bool.decide_and]
  apply decide_eq_decide.2
  omega

/-- a thing stands ahead of another one, by scores -/
def aheadB (S : Nat → Nat) (a b : Nat) : Bool := lessB (S b) (S a) || (!lessB (S a) (S b) && decide (a < b))

/-- an order as a heap needs it -/
structure Ord (A : Nat → Nat → Prop) : Prop where
  asym : ∀ {a b}, A a b → ¬ A b a
  neg : ∀ {a b c}, ¬ A b a → ¬ A c b → ¬ A c a
  irr : ∀ {a}, ¬ A a a
  tot : ∀ {a b}, a ≠ b → ¬ A a b → A b a

def ah (S : Nat → Nat) (a b : Nat) : Prop := aheadB S a b = true

theorem ah_iff (S : Nat → Nat) (a b : Nat) : ah S a b ↔ klt (fk (S b)) (fk (S a)) ∨ ¬ klt (fk (S a)) (fk (S b)) ∧ a < b := by
  simp [ah, aheadB, lessB]

theorem ah_ord (S : Nat → Nat) : Ord (ah S) := by
  constructor
  · intro a b h
    rw [ah_iff] at h ⊢
    unfold klt at *
    omega
  · intro a b c h h'
    rw [ah_iff] at h h' ⊢
    unfold klt at *
    omega
  · intro a
    rw [ah_iff]
    unfold klt
    omega
  · intro a b hne h
    rw [ah_iff] at h ⊢
    unfold klt at *
    omega

/-- two places change -/
def sw (T : Nat → Nat) (i k : Nat) : Nat → Nat := fun j => if j = i then T k else if j = k then T i else T j

def HeapOK (A : Nat → Nat → Prop) (T : Nat → Nat) (m : Nat) : Prop := ∀ j, 0 < j → j < m → ¬ A (T j) (T ((j - 1) / 2))

/-- all is right but for what touches place i, and what is below it is right with what is above it -/
structure Weak (A : Nat → Nat → Prop) (T : Nat → Nat) (m i : Nat) : Prop where
  off : ∀ j, 0 < j → j < m → j ≠ i → (j - 1) / 2 ≠ i → ¬ A (T j) (T ((j - 1) / 2))
  over : ∀ j, 0 < j → j < m → (j - 1) / 2 = i → 0 < i → ¬ A (T j) (T ((i - 1) / 2))

def UpOK (A : Nat → Nat → Prop) (T : Nat → Nat) (i : Nat) : Prop := 0 < i → ¬ A (T i) (T ((i - 1) / 2))
def DownOK (A : Nat → Nat → Prop) (T : Nat → Nat) (m i : Nat) : Prop := ∀ j, 0 < j → j < m → (j - 1) / 2 = i → ¬ A (T j) (T i)

theorem ok_of {A : Nat → Nat → Prop} {T : Nat → Nat} {m i : Nat} (h : Weak A T m i) (hu : UpOK A T i) (hd : DownOK A T m i) : HeapOK A T m := by
  intro j h0 hj
  by_cases e : j = i
  · subst e; exact hu h0
  · by_cases e2 : (j - 1) / 2 = i
    · rw [e2]; exact hd j h0 hj e2
    · exact h.off j h0 hj e e2

theorem Weak.of_ok {A : Nat → Nat → Prop} (hA : Ord A) {T : Nat → Nat} {m i : Nat} (h : HeapOK A T m) (hi : i < m) : Weak A T m i := by
  refine ⟨fun j h0 hj _ _ => h j h0 hj, fun j h0 hj hp hi0 => ?_⟩
  have h1 := h j h0 hj
  rw [hp] at h1
  exact hA.neg (h i hi0 hi) h1

theorem sw_l (T : Nat → Nat) (i k : Nat) : sw T i k i = T k := by simp [sw]
theorem sw_r (T : Nat → Nat) (i k : Nat) : sw T i k k = T i := by by_cases h : k = i <;> simp [sw, h]
theorem sw_o {T : Nat → Nat} {i k j : Nat} (h1 : j ≠ i) (h2 : j ≠ k) : sw T i k j = T j := by simp [sw, h1, h2]

theorem up_step {A : Nat → Nat → Prop} (hA : Ord A) {T : Nat → Nat} {m i p : Nat} (h : Weak A T m i) (hi0 : 0 < i) (hp : p = (i - 1) / 2) (hi : i < m) (ha : A (T i) (T p)) :
    Weak A (sw T i p) m p ∧ DownOK A (sw T i p) m p := by
  have hpi : p < i := by omega
  refine ⟨⟨fun j h0 hj hjp hpp => ?_, fun j h0 hj hpp hp0 => ?_⟩, fun j h0 hj hpp => ?_⟩
  · have hji : j ≠ i := fun e => hpp (by rw [e]; exact hp.symm)
    rw [sw_o hji hjp]
    by_cases e : (j - 1) / 2 = i
    · rw [e, sw_l, hp]; exact h.over j h0 hj e hi0
    · rw [sw_o e hpp]; exact h.off j h0 hj hji e
  · rw [sw_o (j := (p - 1) / 2) (by omega) (by omega)]
    have h1 : ¬ A (T p) (T ((p - 1) / 2)) := h.off p hp0 (by omega) (by omega) (by omega)
    by_cases e : j = i
    · subst e; rw [sw_l]; exact h1
    · rw [sw_o e (by omega)]
      have h2 := h.off j h0 hj e (by omega)
      rw [hpp] at h2
      exact hA.neg h1 h2
  · rw [sw_r]
    by_cases e : j = i
    · subst e; rw [sw_l]; exact hA.asym ha
    · rw [sw_o e (by omega)]
      have h2 := h.off j h0 hj e (by omega)
      rw [hpp] at h2
      exact hA.neg (hA.asym ha) h2

theorem down_step {A : Nat → Nat → Prop} (hA : Ord A) {T : Nat → Nat} {m i f : Nat} (h : Weak A T m i) (hf0 : 0 < f) (hf : f < m) (hp : (f - 1) / 2 = i) (ha : A (T f) (T i)) (hfirst : ∀ j, 0 < j → j < m → (j - 1) / 2 = i → ¬ A (T j) (T f)) :
    Weak A (sw T i f) m f ∧ UpOK A (sw T i f) f := by
  have hfi : i < f := by omega
  refine ⟨⟨fun j h0 hj hjf hpf => ?_, fun j h0 hj hpf _ => ?_⟩, fun _ => ?_⟩
  · by_cases e : j = i
    · subst e
      rw [sw_l, sw_o (by omega) (by omega)]
      exact h.over f hf0 hf hp h0
    · rw [sw_o e hjf]
      by_cases e2 : (j - 1) / 2 = i
      · rw [e2, sw_l]; exact hfirst j h0 hj e2
      · rw [sw_o e2 hpf]; exact h.off j h0 hj e e2
  · rw [hp, sw_l, sw_o (by omega) (by omega)]
    have := h.off j h0 hj (by omega) (by omega)
    rw [hpf] at this
    exact this
  · rw [hp, sw_l, sw_r]; exact hA.asym ha

theorem root_first {A : Nat → Nat → Prop} (hA : Ord A) {T : Nat → Nat} {m : Nat} (h : HeapOK A T m) : ∀ j, j < m → ¬ A (T j) (T 0) := by
  intro j
  induction j using Nat.strongRecOn with
  | _ j ih =>
    intro hj
    by_cases e : j = 0
    · subst e; exact hA.irr
    · exact hA.neg (ih ((j - 1) / 2) (by omega) (by omega)) (h j (by omega) hj)

theorem pop_weak {A : Nat → Nat → Prop} {T : Nat → Nat} {m : Nat} (h : HeapOK A T (m + 1)) : Weak A (sw T 0 m) m 0 ∧ UpOK A (sw T 0 m) 0 := by
  refine ⟨⟨fun j h0 hj h1 h2 => ?_, fun j _ _ _ h => by omega⟩, fun h => by omega⟩
  rw [sw_o (by omega) (by omega), sw_o h2 (by omega)]
  exact h j h0 (by omega)

/-- where things stand, and which stand there -/
structure Inv (n m : Nat) (T : Nat → Nat) (Q : Nat → Int) : Prop where
  here : ∀ i, i < m → T i < n ∧ Q (T i) = i
  there : ∀ x, x < n → Q x = -1 ∨ ∃ i, i < m ∧ Q x = i ∧ T i = x

def up1 {α : Type} (f : Nat → α) (i : Nat) (x : α) : Nat → α := fun j => if j = i then x else f j

theorem up1_at {α : Type} (f : Nat → α) (i : Nat) (x : α) : up1 f i x i = x := by simp [up1]
theorem up1_off {α : Type} (f : Nat → α) {i j : Nat} (x : α) (h : j ≠ i) : up1 f i x j = f j := by simp [up1, h]

theorem Inv.inj {n m : Nat} {T : Nat → Nat} {Q : Nat → Int} (h : Inv n m T Q) {i k : Nat} (hi : i < m) (hk : k < m) (e : T i = T k) : i = k := by
  have h1 := (h.here i hi).2
  have h2 := (h.here k hk).2
  rw [e] at h1
  omega

/-- the positions behind a change of two places -/
def swQ (T : Nat → Nat) (Q : Nat → Int) (i k : Nat) : Nat → Int := up1 (up1 Q (sw T i k i) (i : Int)) (sw T i k k) (k : Int)

theorem Inv.swap {n m : Nat} {T : Nat → Nat} {Q : Nat → Int} (h : Inv n m T Q) {i k : Nat} (hi : i < m) (hk : k < m) : Inv n m (sw T i k) (swQ T Q i k) := by
  unfold swQ
  rw [sw_l, sw_r]
  refine ⟨fun j hj => ?_, fun x hx => ?_⟩
  · by_cases e1 : j = k
    · subst e1; rw [sw_r, up1_at]; exact ⟨(h.here i hi).1, rfl⟩
    · by_cases e2 : j = i
      · subst e2
        rw [sw_l, up1_off _ _ (fun e => e1 (h.inj hj hk e.symm)), up1_at]
        exact ⟨(h.here k hk).1, rfl⟩
      · rw [sw_o e2 e1, up1_off _ _ (fun e => e2 (h.inj hj hi e)), up1_off _ _ (fun e => e1 (h.inj hj hk e))]
        exact h.here j hj
  · by_cases e1 : x = T i
    · subst e1; rw [up1_at]; exact .inr ⟨k, hk, rfl, sw_r ..⟩
    · rw [up1_off _ _ e1]
      by_cases e2 : x = T k
      · subst e2; rw [up1_at]; exact .inr ⟨i, hi, rfl, sw_l ..⟩
      · rw [up1_off _ _ e2]
        rcases h.there x hx with h1 | ⟨j, hj, h1, h2⟩
        · exact .inl h1
        · refine .inr ⟨j, hj, h1, ?_⟩
          rw [sw_o (fun e => e1 (by rw [← h2, e])) (fun e => e2 (by rw [← h2, e]))]
          exact h2

/-- one more at the end -/
theorem Inv.push {n m : Nat} {T : Nat → Nat} {Q : Nat → Int} (h : Inv n m T Q) {x : Nat} (hx : x < n) (hq : Q x < 0) : Inv n (m + 1) (up1 T m x) (up1 Q x (m : Int)) := by
  have hno : ∀ i, i < m → T i ≠ x := fun i hi e => by have := (h.here i hi).2; rw [e] at this; omega
  refine ⟨fun i hi => ?_, fun y hy => ?_⟩
  · by_cases e : i = m
    · subst e; rw [up1_at, up1_at]; exact ⟨hx, rfl⟩
    · rw [up1_off _ _ e, up1_off _ _ (hno i (by omega))]; exact h.here i (by omega)
  · by_cases e : y = x
    · subst e; rw [up1_at]; exact .inr ⟨m, by omega, rfl, up1_at ..⟩
    · rw [up1_off _ _ e]
      rcases h.there y hy with h1 | ⟨j, hj, h1, h2⟩
      · exact .inl h1
      · exact .inr ⟨j, by omega, h1, by rw [up1_off _ _ (by omega)]; exact h2⟩

/-- the last one is let go -/
theorem Inv.drop {n m : Nat} {T : Nat → Nat} {Q : Nat → Int} (h : Inv n (m + 1) T Q) : Inv n m T (up1 Q (T m) (-1)) := by
  refine ⟨fun i hi => ?_, fun y hy => ?_⟩
  · have hne : T i ≠ T m := fun e => by have := h.inj (show i < m + 1 by omega) (show m < m + 1 by omega) e; omega
    rw [up1_off _ _ hne]
    exact h.here i (by omega)
  · by_cases e : y = T m
    · subst e; rw [up1_at]; exact .inl rfl
    · rw [up1_off _ _ e]
      rcases h.there y hy with h1 | ⟨j, hj, h1, h2⟩
      · exact .inl h1
      · refine .inr ⟨j, ?_, h1, h2⟩
        have : j ≠ m := fun e2 => e (by rw [← h2, e2])
        omega

/-- all that stands in the one stands in the other -/
def Sub (T' : Nat → Nat) (m' : Nat) (T : Nat → Nat) (m : Nat) : Prop := ∀ j, j < m' → ∃ k, k < m ∧ T' j = T k

theorem Sub.refl (T : Nat → Nat) (m : Nat) : Sub T m T m := fun j h => ⟨j, h, rfl⟩
theorem Sub.trans {T1 T2 T3 : Nat → Nat} {a b c : Nat} (h : Sub T1 a T2 b) (h' : Sub T2 b T3 c) : Sub T1 a T3 c := fun j hj => by
  obtain ⟨k, hk, e⟩ := h j hj
  obtain ⟨l, hl, e'⟩ := h' k hk
  exact ⟨l, hl, e.trans e'⟩
theorem Sub.sw {T : Nat → Nat} {m i k : Nat} (hi : i < m) (hk : k < m) : Sub (sw T i k) m T m := fun j hj => by
  by_cases e1 : j = i
  · subst e1; exact ⟨k, hk, sw_l ..⟩
  · by_cases e2 : j = k
    · subst e2; exact ⟨i, hi, sw_r ..⟩
    · exact ⟨j, hj, sw_o e1 e2⟩

/-- another score of the thing at place i -/
theorem weak_set {n m : Nat} {S T : Nat → Nat} {Q : Nat → Int} (h : HeapOK (ah S) T m) (hI : Inv n m T Q) {i x : Nat} (hi : i < m) : Weak (ah (up1 S (T i) x)) T m i := by
  have hsame : ∀ a b, a ≠ T i → b ≠ T i → (ah (up1 S (T i) x) a b ↔ ah S a b) := by
    intro a b ha hb
    rw [ah_iff, ah_iff, up1_off _ _ ha, up1_off _ _ hb]
  have hne : ∀ j, j < m → j ≠ i → T j ≠ T i := fun j hj hn e => hn (hI.inj hj hi e)
  have hw := Weak.of_ok (ah_ord S) h hi
  refine ⟨fun j h0 hj h1 h2 => ?_, fun j h0 hj h1 h2 => ?_⟩
  · rw [hsame _ _ (hne j hj h1) (hne _ (by omega) h2)]; exact hw.off j h0 hj h1 h2
  · rw [hsame _ _ (hne j hj (by omega)) (hne _ (by omega) (by omega))]; exact hw.over j h0 hj h1 h2

/-- another score of a thing that stands nowhere -/
theorem ok_set_out {n m : Nat} {S T : Nat → Nat} {Q : Nat → Int} (h : HeapOK (ah S) T m) (hI : Inv n m T Q) {id x : Nat} (hq : Q id < 0) : HeapOK (ah (up1 S id x)) T m := by
  have hne : ∀ j, j < m → T j ≠ id := fun j hj e => by have := (hI.here j hj).2; rw [e] at this; omega
  intro j h0 hj
  rw [ah_iff, up1_off _ _ (hne j hj), up1_off _ _ (hne _ (by omega)), ← ah_iff]
  exact h j h0 hj

theorem push_weak {A : Nat → Nat → Prop} {T : Nat → Nat} {m x : Nat} (h : HeapOK A T m) : Weak A (up1 T m x) (m + 1) m ∧ DownOK A (up1 T m x) (m + 1) m := by
  refine ⟨⟨fun j h0 hj h1 h2 => ?_, fun j _ hj h1 h2 => by omega⟩, fun j _ hj h1 => by omega⟩
  rw [up1_off _ _ h1, up1_off _ _ h2]
  exact h j h0 (by omega)

end Go.Proofs.YtmjcpapcmbgkjaaDoor

/-
  A heap in memory; score.Less, ahead, swap.
-/
namespace Go.Proofs.YtmjcpapcmbgkjaaDoor
open Go.RowKit

def rowF (f : Nat → Value) (n : Nat) : List Value := (List.range n).map f

theorem rowF_length (f : Nat → Value) (n : Nat) : (rowF f n).length = n := by simp [rowF]
theorem rowF_at {f : Nat → Value} {n i : Nat} (h : i < n) : (rowF f n)[i]? = some (f i) := by simp [rowF, h]
theorem rowF_congr {f g : Nat → Value} {n : Nat} (h : ∀ j, j < n → f j = g j) : rowF f n = rowF g n := by
  unfold rowF; apply List.map_congr_left; intro j hj; exact h j (List.mem_range.1 hj)
theorem rowF_set (f : Nat → Value) (n i : Nat) (v : Value) : (rowF f n).set i v = rowF (up1 f i v) n := by
  apply List.ext_getElem?
  intro j
  by_cases hj : j < n
  · rw [rowF_at hj, List.getElem?_set]
    by_cases e : i = j
    · subst e; simp [rowF_length, hj, up1]
    · rw [if_neg e, rowF_at hj, up1_off _ _ (fun h => e h.symm)]
  · rw [List.getElem?_eq_none (by rw [List.length_set, rowF_length]; omega), List.getElem?_eq_none (by rw [rowF_length]; omega)]
theorem rowF_snoc (f : Nat → Value) (n : Nat) (v : Value) : rowF f n ++ [v] = rowF (up1 f n v) (n + 1) := by
  unfold rowF
  rw [List.range_succ, List.map_append]
  congr 1
  · apply List.map_congr_left; intro j hj; rw [up1_off _ _ (by have := List.mem_range.1 hj; omega)]
  · simp [up1]
theorem rowF_take (f : Nat → Value) {n m : Nat} (h : m ≤ n) : (rowF f n).take m = rowF f m := by
  unfold rowF
  rw [← List.map_take, List.take_range, Nat.min_eq_left h]

def nts (T : Nat → Nat) (m : Nat) : List Value := rowF (fun i => .int .i64 (T i : Int)) m
def zts (Q : Nat → Int) (n : Nat) : List Value := rowF (fun i => .int .i64 (Q i)) n
def fls (S : Nat → Nat) (n : Nat) : List Value := rowF (fun i => .float .f64 (S i)) n

theorem nts_length (T : Nat → Nat) (m : Nat) : (nts T m).length = m := rowF_length ..
theorem zts_length (T : Nat → Int) (m : Nat) : (zts T m).length = m := rowF_length ..
theorem fls_length (T : Nat → Nat) (m : Nat) : (fls T m).length = m := rowF_length ..
theorem nts_at {T : Nat → Nat} {m i : Nat} (h : i < m) : (nts T m)[i]? = some (.int .i64 (T i : Int)) := rowF_at h
theorem zts_at {T : Nat → Int} {m i : Nat} (h : i < m) : (zts T m)[i]? = some (.int .i64 (T i)) := rowF_at h
theorem fls_at {T : Nat → Nat} {m i : Nat} (h : i < m) : (fls T m)[i]? = some (.float .f64 (T i)) := rowF_at h
theorem nts_set (T : Nat → Nat) (m i x : Nat) : (nts T m).set i (.int .i64 (x : Int)) = nts (up1 T i x) m := by
  unfold nts; rw [rowF_set]; apply rowF_congr; intro j _; unfold up1; split <;> rfl
theorem zts_set (T : Nat → Int) (m i : Nat) (x : Int) : (zts T m).set i (.int .i64 x) = zts (up1 T i x) m := by
  unfold zts; rw [rowF_set]; apply rowF_congr; intro j _; unfold up1; split <;> rfl
theorem fls_set (T : Nat → Nat) (m i x : Nat) : (fls T m).set i (.float .f64 x) = fls (up1 T i x) m := by
  unfold fls; rw [rowF_set]; apply rowF_congr; intro j _; unfold up1; split <;> rfl
theorem nts_snoc (T : Nat → Nat) (m x : Nat) : nts T m ++ [.int .i64 (x : Int)] = nts (up1 T m x) (m + 1) := by
  unfold nts; rw [rowF_snoc]; apply rowF_congr; intro j _; unfold up1; split <;> rfl
theorem nts_congr {T T' : Nat → Nat} {m : Nat} (h : ∀ j, j < m → T j = T' j) : nts T m = nts T' m := rowF_congr fun j hj => by rw [h j hj]

theorem sw_up1 (T : Nat → Nat) (i k : Nat) : up1 (up1 T i (T k)) k (T i) = sw T i k := by
  funext j
  unfold up1 sw
  by_cases h1 : j = k
  · subst h1
    by_cases h2 : j = i
    · subst h2; simp
    · simp [h2]
  · by_cases h2 : j = i
    · subst h2; simp [h1]
    · simp [h1, h2]

/-- the heap at block h: its three lists, in blocks of their own -/
structure Hp (w : World) (base h : Nat) (vs vt va : Value) (n m : Nat) (S T : Nat → Nat) (Q : Nat → Int) : Prop where
  blk : Blk w h #[vs, vt, va] 101
  low : base ≤ h
  s : Own w base 114 vs (fls S n)
  t : Own w base 3 vt (nts T m)
  a : Own w base 3 va (zts Q n)
  hs : ∀ j, vs.ownBlock = some j → j ≠ h ∧ vt.ownBlock ≠ some j ∧ va.ownBlock ≠ some j
  ht : ∀ j, vt.ownBlock = some j → j ≠ h ∧ va.ownBlock ≠ some j
  ha : ∀ j, va.ownBlock = some j → j ≠ h

section
variable {w w' : World} {base h n m : Nat} {vs vt va : Value} {S T : Nat → Nat} {Q : Nat → Int}

theorem Hp.drewN (H : Hp w base h vs vt va n m S T Q) (k : Nat) : Hp (w.drewN k) base h vs vt va n m S T Q := ⟨H.blk, H.low, H.s, H.t, H.a, H.hs, H.ht, H.ha⟩
theorem Hp.drew (H : Hp w base h vs vt va n m S T Q) : Hp w.drew base h vs vt va n m S T Q := ⟨H.blk, H.low, H.s, H.t, H.a, H.hs, H.ht, H.ha⟩

theorem Hp.kp {X : Nat → Prop} (H : Hp w base h vs vt va n m S T Q) (k : Kp X w w') (hX : ∀ j, base ≤ j → j < w.heap.size → ¬ X j) : Hp w' base h vs vt va n m S T Q :=
  ⟨H.blk.kp k (hX h H.low H.blk.lt), H.low, H.s.kp k (fun j hj => hX j (H.s.lt j hj).1 (H.s.lt j hj).2), H.t.kp k (fun j hj => hX j (H.t.lt j hj).1 (H.t.lt j hj).2), H.a.kp k (fun j hj => hX j (H.a.lt j hj).1 (H.a.lt j hj).2), H.hs, H.ht, H.ha⟩

theorem Hp.setT {g c : Nat} (H : Hp w base h vs (.slice (some ⟨g, 0, none⟩) m c) va n m S T Q) (i x : Nat) : Hp (w.setCell ⟨g, i, none⟩ (.int .i64 (x : Int))) base h vs (.slice (some ⟨g, 0, none⟩) m c) va n m S (up1 T i x) Q := by
  refine ⟨H.blk.set_other (p := ⟨g, i, none⟩) (fun e => (H.ht g rfl).1 e.symm) _, H.low, H.s.set_other (p := ⟨g, i, none⟩) (fun j hj e => (H.hs j hj).2.1 (by rw [e]; rfl)) _, ?_, H.a.set_other (p := ⟨g, i, none⟩) (fun j hj e => (H.ht g rfl).2 (by rw [hj, e])) _, H.hs, H.ht, H.ha⟩
  rw [← nts_set]; exact H.t.set i _

theorem Hp.setA {g c k : Nat} (H : Hp w base h vs vt (.slice (some ⟨g, 0, none⟩) k c) n m S T Q) (i : Nat) (x : Int) : Hp (w.setCell ⟨g, i, none⟩ (.int .i64 x)) base h vs vt (.slice (some ⟨g, 0, none⟩) k c) n m S T (up1 Q i x) := by
  refine ⟨H.blk.set_other (p := ⟨g, i, none⟩) (fun e => H.ha g rfl e.symm) _, H.low, H.s.set_other (p := ⟨g, i, none⟩) (fun j hj e => (H.hs j hj).2.2 (by rw [e]; rfl)) _, H.t.set_other (p := ⟨g, i, none⟩) (fun j hj e => (H.ht j hj).2 (by rw [e]; rfl)) _, ?_, H.hs, H.ht, H.ha⟩
  rw [← zts_set]; exact H.a.set i _

theorem Hp.setS {g c k : Nat} (H : Hp w base h (.slice (some ⟨g, 0, none⟩) k c) vt va n m S T Q) (i x : Nat) : Hp (w.setCell ⟨g, i, none⟩ (.float .f64 x)) base h (.slice (some ⟨g, 0, none⟩) k c) vt va n m (up1 S i x) T Q := by
  refine ⟨H.blk.set_other (p := ⟨g, i, none⟩) (fun e => (H.hs g rfl).1 e.symm) _, H.low, ?_, H.t.set_other (p := ⟨g, i, none⟩) (fun j hj e => (H.hs g rfl).2.1 (by rw [hj, e])) _, H.a.set_other (p := ⟨g, i, none⟩) (fun j hj e => (H.hs g rfl).2.2 (by rw [hj, e])) _, H.hs, H.ht, H.ha⟩
  rw [← fls_set]; exact H.s.set i _
end

set_option maxHeartbeats 400000 in
theorem score_Less (a b : Nat) (w : World) :
    Calls Tryd.prog 64 #[.float .f64 a, .float .f64 b] w fun e w' => e = .returned (.bool (lessB a b)) ∧ w = w' := by
  have ha := self_order a
  have hb := self_order b
  have fa : FloatKind.f64.format = Ieee.double := rfl
  by_cases h1 : (fk a).1 = -2
  · have HO := Lib.hid (less_odd (.inl h1 : (fk a).1 = -2 ∨ (fk b).1 = -2))
    rw [h1] at ha
    have q1 : (FloatKind.f64.format.order a a != some .eq) = true := by rw [fa]; unfold bne; rw [ha]; simp
    obtain ⟨B, hB⟩ : ∃ B, (FloatKind.f64.format.order b b == some .eq) = B := ⟨_, rfl⟩
    rw [fa] at hB
    have HB := Lib.hid (show B = decide ((fk b).1 ≠ -2) by rw [← hB]; exact hb)
    have hB' : (FloatKind.f64.format.order b b == some .eq) = B := hB
    have H1 := Lib.hid h1
    clear ha hb h1 hB fa
    go_enter Tryd.func64, Tryd.ntmps64
    go_wp2
    go_ret
    rw [← HO.out, HB.out, H1.out]
    exact ⟨by simp, rfl⟩
  · by_cases h2 : (fk b).1 = -2
    · have HO := Lib.hid (less_odd (.inr h2 : (fk a).1 = -2 ∨ (fk b).1 = -2))
      have q1 : (FloatKind.f64.format.order a a != some .eq) = false := by rw [fa]; unfold bne; rw [ha]; simp [h1]
      have q2 : (FloatKind.f64.format.order b b != some .eq) = true := by rw [fa]; unfold bne; rw [hb]; simp [h2]
      have H1 := Lib.hid h1
      clear ha hb h1 fa h2
      go_enter Tryd.func64, Tryd.ntmps64
      go_wp2
      go_ret
      rw [← HO.out]
      exact ⟨by simp [H1.out], rfl⟩
    · have HO := Lib.hid (less_lt h1 h2)
      have q1 : (FloatKind.f64.format.order a a != some .eq) = false := by rw [fa]; unfold bne; rw [ha]; simp [h1]
      have q2 : (FloatKind.f64.format.order b b != some .eq) = false := by rw [fa]; unfold bne; rw [hb]; simp [h2]
      clear ha hb h1 fa h2
      go_enter Tryd.func64, Tryd.ntmps64
      go_wp2
      go_ret
      rw [← HO.out]
      exact ⟨rfl, rfl⟩

set_option maxHeartbeats 400000 in
theorem heap_ahead {w : World} {base h n m : Nat} {vs vt va : Value} {S T : Nat → Nat} {Q : Nat → Int} (H : Hp w base h vs vt va n m S T Q) (hn : n ≤ 1048576) {a b : Nat} (ha : a < n) (hb : b < n) :
    Calls Tryd.prog 58 #[.pointer (some ⟨h, 0, none⟩), .int .i64 a, .int .i64 b] w fun e w' => e = .returned (.bool (aheadB S a b)) ∧ ∃ q, w' = w.drewN q := by
  obtain ⟨g, c, rfl, _, _⟩ := H.s.leads (by rw [fls_length]; omega)
  have hS := H.s
  rw [fls_length] at hS
  have c0 : w.cell? ⟨h, 0, none⟩ = some (.slice (some ⟨g, 0, none⟩) n c) := by have := H.blk.cell (i := 0) rfl; rw [fls_length] at this; exact this
  have ca := hS.cell (fls_at ha)
  have cb := hS.cell (fls_at hb)
  have a1 : (a : Int) < (n : Int) := by omega
  have b1 : (b : Int) < (n : Int) := by omega
  have a0 : (0 : Int) ≤ (a : Int) := by omega
  have b0 : (0 : Int) ≤ (b : Int) := by omega
  have HE := Lib.hid (show aheadB S a b = (lessB (S b) (S a) || (!lessB (S a) (S b) && decide (a < b))) from rfl)
  obtain ⟨x, hx⟩ : ∃ x, S a = x := ⟨_, rfl⟩
  obtain ⟨y, hy⟩ : ∃ y, S b = y := ⟨_, rfl⟩
  rw [hx] at ca HE
  rw [hy] at cb HE
  clear hx hy hS H
  by_cases l1 : lessB y x = true
  · rw [l1] at HE
    go_enter Tryd.func58, Tryd.ntmps58
    go_wp2
    go_quiet (fail)
    go_wp2_with fail
    refine (score_Less _ _ _).mono ?_
    rintro e w' ⟨rfl, rfl⟩
    rw [l1]
    go_wp2_with fail
    go_ret
    rw [HE.out]
    exact ⟨rfl, _, rfl⟩
  · have l1' : lessB y x = false := by simpa using l1
    rw [l1'] at HE
    by_cases l2 : lessB x y = true
    · rw [l2] at HE
      go_enter Tryd.func58, Tryd.ntmps58
      go_wp2
      go_quiet (fail)
      go_wp2_with fail
      refine (score_Less _ _ _).mono ?_
      rintro e w' ⟨rfl, rfl⟩
      rw [l1']
      go_wp2_with fail
      refine (score_Less _ _ _).mono ?_
      rintro e w' ⟨rfl, rfl⟩
      rw [l2]
      go_wp2_with fail
      go_ret
      rw [HE.out]
      exact ⟨rfl, _, rfl⟩
    · have l2' : lessB x y = false := by simpa using l2
      rw [l2'] at HE
      go_enter Tryd.func58, Tryd.ntmps58
      go_wp2
      go_quiet (fail)
      go_wp2_with fail
      refine (score_Less _ _ _).mono ?_
      rintro e w' ⟨rfl, rfl⟩
      rw [l1']
      go_wp2_with fail
      refine (score_Less _ _ _).mono ?_
      rintro e w' ⟨rfl, rfl⟩
      rw [l2']
      go_wp2_with fail
      go_ret
      rw [HE.out]
      exact ⟨by simp, _, rfl⟩

end Go.Proofs.YtmjcpapcmbgkjaaDoor

/-
  heap.swap, with the heap's own blocks as the frame. (Printed by mkhf.py out of HeapSwap.)
-/
namespace Go.Proofs.YtmjcpapcmbgkjaaDoor
open Go.RowKit

theorem cell_after_set' {w : World} {p q : Addr} {v : Value} (x : Value) (h : w.cell? q = some v) : ∃ v', (w.setCell p x).cell? q = some v' := cell_after_set x h

/-- the heap's own blocks -/
def HB (h : Nat) (vs vt va : Value) (j : Nat) : Prop := j = h ∨ vs.ownBlock = some j ∨ vt.ownBlock = some j ∨ va.ownBlock = some j
theorem HB.h {h : Nat} {vs vt va : Value} : HB h vs vt va h := .inl rfl
theorem HB.t {h g n c : Nat} {vs va : Value} : HB h vs (.slice (some ⟨g, 0, none⟩) n c) va g := .inr (.inr (.inl rfl))
theorem HB.a {h g n c : Nat} {vs vt : Value} : HB h vs vt (.slice (some ⟨g, 0, none⟩) n c) g := .inr (.inr (.inr rfl))

/-- the same things stand in both -/
def Sub2 (T' T : Nat → Nat) (m : Nat) : Prop := Sub T' m T m ∧ Sub T m T' m
theorem Sub2.refl (T : Nat → Nat) (m : Nat) : Sub2 T T m := ⟨Sub.refl _ _, Sub.refl _ _⟩
theorem Sub2.trans {T1 T2 T3 : Nat → Nat} {m : Nat} (h : Sub2 T1 T2 m) (k : Sub2 T2 T3 m) : Sub2 T1 T3 m := ⟨h.1.trans k.1, k.2.trans h.2⟩
theorem sw_sw (T : Nat → Nat) (i k : Nat) : Go.Proofs.YtmjcpapcmbgkjaaDoor.sw (Go.Proofs.YtmjcpapcmbgkjaaDoor.sw T i k) i k = T := by
  funext j
  by_cases h1 : j = i
  · subst h1; rw [sw_l, sw_r]
  · by_cases h2 : j = k
    · subst h2; rw [sw_r, sw_l]
    · rw [sw_o h1 h2, sw_o h1 h2]
theorem Sub2.sw {T : Nat → Nat} {m i k : Nat} (hi : i < m) (hk : k < m) : Sub2 (Go.Proofs.YtmjcpapcmbgkjaaDoor.sw T i k) T m := ⟨Sub.sw hi hk, by
  have := Sub.sw (T := Go.Proofs.YtmjcpapcmbgkjaaDoor.sw T i k) hi hk
  rw [sw_sw] at this
  exact this⟩
theorem Sub2.iff {T' T : Nat → Nat} {m : Nat} (h : Sub2 T' T m) (x : Nat) : (∃ j, j < m ∧ T' j = x) ↔ ∃ j, j < m ∧ T j = x := by
  constructor
  · rintro ⟨j, hj, rfl⟩
    obtain ⟨k, hk, e⟩ := h.1 j hj
    exact ⟨k, hk, e.symm⟩
  · rintro ⟨j, hj, rfl⟩
    obtain ⟨k, hk, e⟩ := h.2 j hj
    exact ⟨k, hk, e.symm⟩

set_option maxRecDepth 100000 in
set_option maxHeartbeats 2000000 in
theorem hf_swap {w : World} {base h n m : Nat} {vs vt va : Value} {S T : Nat → Nat} {Q : Nat → Int} (H : Hp w base h vs vt va n m S T Q) (hI : Inv n m T Q) (hn : n ≤ 1048576) (hm : m ≤ 1048576) {i k : Nat} (hi : i < m) (hk : k < m) :
    Calls Tryd.prog 52 #[.pointer (some ⟨h, 0, none⟩), .int .i64 i, .int .i64 k] w fun e w' =>
      e = .returned (.tuple #[]) ∧ Hp w' base h vs vt va n m S (sw T i k) (swQ T Q i k) ∧ Kp (HB h vs vt va) w w' := by
  obtain ⟨gt, ct, rfl, hgt, _⟩ := H.t.leads (by rw [nts_length]; omega)
  have hTi := (hI.here i hi).1
  have hTk := (hI.here k hk).1
  obtain ⟨ga, ca, rfl, hga, _⟩ := H.a.leads (by rw [zts_length]; omega)
  rw [nts_length, zts_length] at *
  have c1 : w.cell? ⟨h, 1, none⟩ = some (.slice (some ⟨gt, 0, none⟩) m ct) := H.blk.cell (i := 1) rfl
  have hci := H.t.cell (nts_at hi)
  have hck := H.t.cell (nts_at hk)
  have hfi := H.t.free i
  have hfk := H.t.free k
  have i1 : (i : Int) < (m : Int) := by omega
  have k1 : (k : Int) < (m : Int) := by omega
  have i0 : (0 : Int) ≤ (i : Int) := by omega
  have k0 : (0 : Int) ≤ (k : Int) := by omega
  obtain ⟨v', hv'⟩ := cell_after_set (p := ⟨gt, i, none⟩) (.int .i64 (T k : Int)) hck
  have H1 : Hp ((w.setCell ⟨gt, i, none⟩ (.int .i64 (T k : Int))).setCell ⟨gt, k, none⟩ (.int .i64 (T i : Int))).drew base h vs (.slice (some ⟨gt, 0, none⟩) m ct) (.slice (some ⟨ga, 0, none⟩) n ca) n m S (sw T i k) Q := by
    rw [← sw_up1]; exact ((H.setT i (T k)).setT k (T i)).drew
  have hK1 : Kp (HB h vs (.slice (some ⟨gt, 0, none⟩) m ct) (.slice (some ⟨ga, 0, none⟩) n ca)) w ((w.setCell ⟨gt, i, none⟩ (.int .i64 (T k : Int))).setCell ⟨gt, k, none⟩ (.int .i64 (T i : Int))).drew :=
    (((Kp.refl (HB h vs (.slice (some ⟨gt, 0, none⟩) m ct) (.slice (some ⟨ga, 0, none⟩) n ca)) w).setCell (p := ⟨gt, i, none⟩) (fun _ => HB.t) _).setCell (p := ⟨gt, k, none⟩) (fun _ => HB.t) _).drew
  clear H
  have HI := Lib.hid hI; clear hI
  go_enter Tryd.func52, Tryd.ntmps52
  go_wp2
  go_region
  all_goals generalize ((w.setCell ⟨gt, i, none⟩ (.int .i64 (T k : Int))).setCell ⟨gt, k, none⟩ (.int .i64 (T i : Int))).drew = w1 at *
  have d1 : Hp (w1.setCell ⟨ga, T k, none⟩ (.int .i64 (i : Int))) base h vs (.slice (some ⟨gt, 0, none⟩) m ct) (.slice (some ⟨ga, 0, none⟩) n ca) n m S (sw T i k) (up1 Q (sw T i k i) (i : Int)) := by
    rw [sw_l]; exact H1.setA (T k) i
  have H2 : Hp ((w1.setCell ⟨ga, T k, none⟩ (.int .i64 (i : Int))).setCell ⟨ga, T i, none⟩ (.int .i64 (k : Int))).drew base h vs (.slice (some ⟨gt, 0, none⟩) m ct) (.slice (some ⟨ga, 0, none⟩) n ca) n m S (sw T i k) (swQ T Q i k) := by
    unfold swQ
    rw [sw_r]
    exact (d1.setA (T i) k).drew
  have hK2 : Kp (HB h vs (.slice (some ⟨gt, 0, none⟩) m ct) (.slice (some ⟨ga, 0, none⟩) n ca)) w ((w1.setCell ⟨ga, T k, none⟩ (.int .i64 (i : Int))).setCell ⟨ga, T i, none⟩ (.int .i64 (k : Int))).drew :=
    ((hK1.setCell (p := ⟨ga, T k, none⟩) (fun _ => HB.a) _).setCell (p := ⟨ga, T i, none⟩) (fun _ => HB.a) _).drew
  clear hck hci hfi hfk c1 hv'
  have c1 : w1.cell? ⟨h, 1, none⟩ = some (.slice (some ⟨gt, 0, none⟩) m ct) := H1.blk.cell (i := 1) rfl
  have c2 : w1.cell? ⟨h, 2, none⟩ = some (.slice (some ⟨ga, 0, none⟩) n ca) := H1.blk.cell (i := 2) rfl
  have hci := H1.t.cell (nts_at hi)
  have hck := H1.t.cell (nts_at hk)
  have hai := H1.a.cell (zts_at hTi)
  have hak := H1.a.cell (zts_at hTk)
  have hfi := H1.a.free (T i)
  have hfk := H1.a.free (T k)
  have e1 : (w1.setCell ⟨ga, T k, none⟩ (.int .i64 (i : Int))).drew.cell? ⟨h, 1, none⟩ = some (.slice (some ⟨gt, 0, none⟩) m ct) := d1.blk.cell (i := 1) rfl
  have e2 : (w1.setCell ⟨ga, T k, none⟩ (.int .i64 (i : Int))).drew.cell? ⟨h, 2, none⟩ = some (.slice (some ⟨ga, 0, none⟩) n ca) := d1.blk.cell (i := 2) rfl
  have e3 : (w1.setCell ⟨ga, T k, none⟩ (.int .i64 (i : Int))).drew.cell? ⟨gt, k, none⟩ = some (.int .i64 (T i : Int)) := by have := d1.t.cell (nts_at hk); rw [sw_r] at this; exact this
  have e5 : (w1.setCell ⟨ga, T k, none⟩ (.int .i64 (i : Int))).drew.cell? ⟨gt, i, none⟩ = some (.int .i64 (T k : Int)) := by have := d1.t.cell (nts_at hi); rw [sw_l] at this; exact this
  have f1 : ((w1.setCell ⟨ga, T k, none⟩ (.int .i64 (i : Int))).setCell ⟨ga, T i, none⟩ (.int .i64 (k : Int))).drew.cell? ⟨h, 1, none⟩ = some (.slice (some ⟨gt, 0, none⟩) m ct) := H2.blk.cell (i := 1) rfl
  have f2 : ((w1.setCell ⟨ga, T k, none⟩ (.int .i64 (i : Int))).setCell ⟨ga, T i, none⟩ (.int .i64 (k : Int))).drew.cell? ⟨h, 2, none⟩ = some (.slice (some ⟨ga, 0, none⟩) n ca) := H2.blk.cell (i := 2) rfl
  have f3 : ((w1.setCell ⟨ga, T k, none⟩ (.int .i64 (i : Int))).setCell ⟨ga, T i, none⟩ (.int .i64 (k : Int))).drew.cell? ⟨gt, k, none⟩ = some (.int .i64 (T i : Int)) := by have := H2.t.cell (nts_at hk); rw [sw_r] at this; exact this
  have f5 : ((w1.setCell ⟨ga, T k, none⟩ (.int .i64 (i : Int))).setCell ⟨ga, T i, none⟩ (.int .i64 (k : Int))).drew.cell? ⟨gt, i, none⟩ = some (.int .i64 (T k : Int)) := by have := H2.t.cell (nts_at hi); rw [sw_l] at this; exact this
  obtain ⟨u, e4⟩ := cell_after_set (p := ⟨ga, T k, none⟩) (.int .i64 (i : Int)) hai
  rw [sw_l] at hci
  rw [sw_r] at hck
  clear H1 hK1 d1 v'
  obtain ⟨x, hx⟩ : ∃ x, T i = x := ⟨_, rfl⟩
  obtain ⟨y, hy⟩ : ∃ y, T k = y := ⟨_, rfl⟩
  rw [hx] at hTi hck e3 e4 f1 f2 f3 f5 hfi hai H2 hK2
  rw [hy] at hTk hci e1 e2 e3 e4 e5 f1 f2 f3 f5 hfk hak H2 hK2
  have x1 : (x : Int) < (n : Int) := by omega
  have y1 : (y : Int) < (n : Int) := by omega
  have x0 : (0 : Int) ≤ (x : Int) := by omega
  have y0 : (0 : Int) ≤ (y : Int) := by omega
  rw [hx, hy]
  clear hx hy
  have HE := Lib.hid (And.intro e1 (And.intro e2 (And.intro e5 e3)))
  have HF := Lib.hid (And.intro f1 (And.intro f2 (And.intro f5 f3)))
  have HC := Lib.hid (And.intro c1 (And.intro c2 (And.intro hci hck)))
  have HEnd := Lib.hid (And.intro H2 hK2)
  clear e1 e2 e3 e5 f1 f2 f3 f5 H2 hK2 HI
  go_wp2
  go_region_held3 (fun u => u.cell? ⟨h, 1, none⟩ = some (.slice (some ⟨gt, 0, none⟩) m ct) ∧ u.cell? ⟨h, 2, none⟩ = some (.slice (some ⟨ga, 0, none⟩) n ca) ∧ u.cell? ⟨gt, i, none⟩ = some (.int .i64 (y : Int)) ∧ u.cell? ⟨gt, k, none⟩ = some (.int .i64 (x : Int))) (first | exact HC.out | exact HE.out | exact HF.out) (fail)
  all_goals go_wp2
  all_goals go_end0
  all_goals exact ⟨rfl, HEnd.out⟩

end Go.Proofs.YtmjcpapcmbgkjaaDoor

/-
  heap.up: a thing rises.
-/
namespace Go.Proofs.YtmjcpapcmbgkjaaDoor
open Go.RowKit

theorem quo2 (i : Nat) (h : 0 < i) : ((i : Int) - 1).tdiv 2 = (((i - 1) / 2 : Nat) : Int) := by
  rw [show (i : Int) - 1 = ((i - 1 : Nat) : Int) by omega]
  rw [Int.tdiv_eq_ediv_of_nonneg (by omega)]
  omega

set_option maxRecDepth 100000 in
set_option maxHeartbeats 2000000 in
theorem hf_up {w : World} {base h n m : Nat} {vs vt va : Value} {S T : Nat → Nat} {Q : Nat → Int} (H : Hp w base h vs vt va n m S T Q) (hI : Inv n m T Q) (hn : n ≤ 1048576) (hm : m ≤ 1048576) {i : Nat} (hi : i < m) (hW : Weak (ah S) T m i) :
    Calls Tryd.prog 50 #[.pointer (some ⟨h, 0, none⟩), .int .i64 i] w fun e w' =>
      e = .returned (.tuple #[]) ∧ ∃ (T' : Nat → Nat) (Q' : Nat → Int) (j : Nat), Hp w' base h vs vt va n m S T' Q' ∧ Inv n m T' Q' ∧ Sub2 T' T m ∧ j < m ∧ T' j = T i ∧ Weak (ah S) T' m j ∧ UpOK (ah S) T' j ∧ (DownOK (ah S) T m i → DownOK (ah S) T' m j) ∧ Kp (HB h vs vt va) w w' := by
  have HI0 := Lib.hid hI; clear hI
  have HW0 := Lib.hid hW; clear hW
  go_enter Tryd.func50, Tryd.ntmps50
  go_wp2_with fail
  go_loopw [1, 4] (fun v1 v4 wr => ∃ (k : Nat) (T1 : Nat → Nat) (Q1 : Nat → Int), v1 = .int .i64 k ∧ v4 = .int .i64 (((k : Int) - 1).tdiv 2) ∧ k < m ∧ Hp wr base h vs vt va n m S T1 Q1 ∧ Inv n m T1 Q1 ∧ Sub2 T1 T m ∧ T1 k = T i ∧ Weak (ah S) T1 m k ∧ (DownOK (ah S) T m i → DownOK (ah S) T1 m k) ∧ Kp (HB h vs vt va) w wr) (fun v1 _ _ => (intOf v1).toNat)
  case atStart => exact ⟨i, T, Q, rfl, rfl, hi, H, HI0.out, Sub2.refl _ _, rfl, HW0.out, id, Kp.refl _ _⟩
  case round =>
    clear H
    obtain ⟨k, T1, Q1, rfl, rfl, hk, H, hI, hSub, hTk, hW, hD, hK⟩ := hrel
    have HI := Lib.hid hI; clear hI
    have HX := Lib.hid (And.intro hSub (And.intro hTk (And.intro hW hD))); clear hSub hTk hW hD
    by_cases hp : 0 < k
    · obtain ⟨p, hpk, hpe⟩ : ∃ p, p = (k - 1) / 2 ∧ ((k : Int) - 1).tdiv 2 = ((p : Nat) : Int) := ⟨_, rfl, quo2 k hp⟩
      have hpm : p < m := by omega
      have HPK := Lib.hid hpk; clear hpk
      rw [hpe]
      clear hpe
      have hg : decide ((0 : Int) < (k : Int)) = true := by simp; omega
      obtain ⟨gt, ct, hvt, hgt, _⟩ := H.t.leads (by rw [nts_length]; omega)
      rw [nts_length] at hvt
      have HT := H.t
      rw [hvt] at HT
      have c1 : wr.cell? ⟨h, 1, none⟩ = some (.slice (some ⟨gt, 0, none⟩) m ct) := by rw [← hvt]; exact H.blk.cell (i := 1) rfl
      have hck := HT.cell (nts_at hk)
      have hcp := HT.cell (nts_at hpm)
      have k1 : (k : Int) < (m : Int) := by omega
      have k0 : (0 : Int) ≤ (k : Int) := by omega
      have p1 : (p : Int) < (m : Int) := by omega
      have p0 : (0 : Int) ≤ (p : Int) := by omega
      have ht1 := (HI.out.here k hk).1
      have ht2 := (HI.out.here p hpm).1
      have HH := Lib.hid H; clear H
      clear HT
      by_cases ha : aheadB S (T1 k) (T1 p) = true
      · go_wp2_with fail
        go_quiet ((go_at_call 58; exact Calls.quiet_of (heap_ahead (HH.out.drewN _) hn ht1 ht2)))
        rw [ha]
        go_wp2_with fail
        refine (hf_swap (HH.out.drewN _) HI.out hn hm hk hpm).mono ?_
        rintro e w2 ⟨rfl, H2, hK2⟩
        go_wp2_with fail
        obtain ⟨hw', hd'⟩ := up_step (ah_ord S) HX.out.2.2.1 hp HPK.out hk ha
        refine ⟨⟨p, _, _, rfl, rfl, hpm, H2, HI.out.swap hk hpm, Sub2.trans (Sub2.sw hk hpm) HX.out.1, by rw [sw_r]; exact HX.out.2.1, hw', fun _ => hd', (hK.drewN _).trans hK2 (fun _ _ h => h)⟩, ?_⟩
        have := HPK.out
        simp [intOf]; omega
      · have ha' : aheadB S (T1 k) (T1 p) = false := by simpa using ha
        go_wp2_with fail
        go_quiet ((go_at_call 58; exact Calls.quiet_of (heap_ahead (HH.out.drewN _) hn ht1 ht2)))
        rw [ha']
        go_wp2_with fail
        go_end0
        exact ⟨rfl, T1, Q1, k, HH.out.drewN _, HI.out, HX.out.1, hk, HX.out.2.1, HX.out.2.2.1, fun _ => by rw [← HPK.out]; exact ha, HX.out.2.2.2, hK.drewN _⟩
    · have hg : decide ((0 : Int) < (k : Int)) = false := by simp; omega
      have HH := Lib.hid H; clear H
      go_wp2_with fail
      go_quiet (fail)
      go_wp2_with fail
      go_end0
      exact ⟨rfl, T1, Q1, k, HH.out.drewN _, HI.out, HX.out.1, hk, HX.out.2.1, HX.out.2.2.1, fun h => absurd h hp, HX.out.2.2.2, hK.drewN _⟩

end Go.Proofs.YtmjcpapcmbgkjaaDoor

/-
  heap.down: a thing sinks.
-/
namespace Go.Proofs.YtmjcpapcmbgkjaaDoor
open Go.RowKit

theorem Ord.trans {A : Nat → Nat → Prop} (hA : Ord A) {a b c : Nat} (h1 : A a b) (h2 : A b c) : A a c := by
  apply Classical.byContradiction
  intro h
  exact hA.neg (hA.asym h2) h h1

/-- what the inner loop knows: f is the first of place i and those below it, ahead of k -/
structure Fst (A : Nat → Nat → Prop) (T : Nat → Nat) (m i f k : Nat) : Prop where
  lt : f < m
  at_ : f = i ∨ (0 < f ∧ (f - 1) / 2 = i ∧ A (T f) (T i))
  none : ∀ j, 0 < j → j < m → (j - 1) / 2 = i → j < k → ¬ A (T j) (T f)

theorem Fst.start {A : Nat → Nat → Prop} {T : Nat → Nat} {m i : Nat} (hi : i < m) : Fst A T m i i (2 * i + 1) :=
  ⟨hi, .inl rfl, fun j h0 hj h1 h2 => by omega⟩

theorem Fst.yes {A : Nat → Nat → Prop} (hA : Ord A) {T : Nat → Nat} {m i f k : Nat} (h : Fst A T m i f k) (hk : k < m) (hk1 : 2 * i + 1 ≤ k) (hk2 : k ≤ 2 * i + 2) (ha : A (T k) (T f)) : Fst A T m i k (k + 1) := by
  refine ⟨hk, .inr ⟨by omega, by omega, ?_⟩, fun j h0 hj h1 h2 => ?_⟩
  · rcases h.at_ with rfl | ⟨_, _, h3⟩
    · exact ha
    · exact hA.trans ha h3
  · by_cases e : j = k
    · subst e; exact hA.irr
    · exact hA.neg (hA.asym ha) (h.none j h0 hj h1 (by omega))

theorem Fst.no {A : Nat → Nat → Prop} {T : Nat → Nat} {m i f k : Nat} (h : Fst A T m i f k) (ha : ¬ A (T k) (T f)) : Fst A T m i f (k + 1) := by
  refine ⟨h.lt, h.at_, fun j h0 hj h1 h2 => ?_⟩
  by_cases e : j = k
  · subst e; exact ha
  · exact h.none j h0 hj h1 (by omega)

theorem Fst.end_ {A : Nat → Nat → Prop} {T : Nat → Nat} {m i f k : Nat} (h : Fst A T m i f k) (hk : m ≤ k ∨ 2 * i + 2 < k) : ∀ j, 0 < j → j < m → (j - 1) / 2 = i → ¬ A (T j) (T f) :=
  fun j h0 hj h1 => h.none j h0 hj h1 (by omega)

set_option maxRecDepth 100000 in
set_option maxHeartbeats 2000000 in
theorem hf_down {w : World} {base h n m : Nat} {vs vt va : Value} {S T : Nat → Nat} {Q : Nat → Int} (H : Hp w base h vs vt va n m S T Q) (hI : Inv n m T Q) (hn : n ≤ 1048576) (hm : m ≤ 1048576) {i : Nat} (hi : i < m) (hW : Weak (ah S) T m i) (hU : UpOK (ah S) T i) :
    Calls Tryd.prog 53 #[.pointer (some ⟨h, 0, none⟩), .int .i64 i] w fun e w' =>
      e = .returned (.tuple #[]) ∧ ∃ (T' : Nat → Nat) (Q' : Nat → Int), Hp w' base h vs vt va n m S T' Q' ∧ Inv n m T' Q' ∧ Sub2 T' T m ∧ HeapOK (ah S) T' m ∧ Kp (HB h vs vt va) w w' := by
  have HI0 := Lib.hid hI; clear hI
  have HW0 := Lib.hid (And.intro hW hU); clear hW hU
  go_enter Tryd.func53, Tryd.ntmps53
  go_wp2_with fail
  go_loopw [1] (fun v1 wr => ∃ (i : Nat) (T1 : Nat → Nat) (Q1 : Nat → Int), v1 = .int .i64 i ∧ i < m ∧ Hp wr base h vs vt va n m S T1 Q1 ∧ Inv n m T1 Q1 ∧ Sub2 T1 T m ∧ Weak (ah S) T1 m i ∧ UpOK (ah S) T1 i ∧ Kp (HB h vs vt va) w wr) (fun v1 _ => m - (intOf v1).toNat)
  case atStart => exact ⟨i, T, Q, rfl, hi, H, HI0.out, Sub2.refl _ _, HW0.out.1, HW0.out.2, Kp.refl _ _⟩
  case round =>
    clear H HI0 HW0 hi
    obtain ⟨i, T1, Q1, rfl, hi, H, hI, hSub, hW, hU, hK⟩ := hrel
    have HX := Lib.hid (And.intro hI (And.intro hSub (And.intro hW hU))); clear hI hSub hW hU
    have HH := Lib.hid H
    have HK := Lib.hid hK; clear hK
    obtain ⟨gt, ct, hvt, hgt, _⟩ := H.t.leads (by rw [nts_length]; omega)
    rw [nts_length] at hvt
    have HT := H.t
    rw [hvt] at HT
    have c1 : wr.cell? ⟨h, 1, none⟩ = some (.slice (some ⟨gt, 0, none⟩) m ct) := by rw [← hvt]; exact H.blk.cell (i := 1) rfl
    clear H
    have HC := Lib.hid (show ∀ k, k < m → wr.cell? ⟨gt, k, none⟩ = some (.int .i64 (T1 k : Int)) from fun k hk => HT.cell (nts_at hk))
    clear HT hvt hgt
    go_wp2_with fail
    obtain ⟨wo, rfl⟩ : ∃ wo : World, wo = wr := ⟨_, rfl⟩
    go_loopw [4, 5] (fun v4 v5 wr => ∃ f k q : Nat, v4 = .int .i64 f ∧ v5 = .int .i64 k ∧ 2 * i + 1 ≤ k ∧ k ≤ 2 * i + 3 ∧ Fst (ah S) T1 m i f k ∧ wr = wo.drewN q) (fun _ v5 _ => 2 * i + 3 - (intOf v5).toNat)
    case atStart => exact ⟨i, 2 * i + 1, 0, rfl, by simp, Nat.le_refl _, by omega, Fst.start hi, rfl⟩
    case round =>
      obtain ⟨f, k, q, rfl, rfl, hk1, hk3, hF, hwr⟩ := hrel
      have HHq := Lib.hid (show Hp wr base h vs vt va n m S T1 Q1 by rw [hwr]; exact HH.out.drewN q)
      have HKq := Lib.hid (show Kp (HB h vs vt va) w wr by rw [hwr]; exact HK.out.drewN q)
      have c1 : wr.cell? ⟨h, 1, none⟩ = some (.slice (some ⟨gt, 0, none⟩) m ct) := by rw [hwr]; exact c1
      have HC := Lib.hid (show ∀ k, k < m → wr.cell? ⟨gt, k, none⟩ = some (.int .i64 (T1 k : Int)) by rw [hwr]; exact HC.out)
      have HWR := Lib.hid hwr; clear hwr
      have hfm := hF.lt
      have HF := Lib.hid hF; clear hF
      by_cases h1 : k ≤ 2 * i + 2 ∧ k < m
      · have g1 : decide ((k : Int) ≤ 2 * (i : Int) + 2) = true := by simp; omega
        have g2 : decide ((k : Int) < (m : Int)) = true := by simp; omega
        obtain ⟨h1, h2⟩ := h1
        have hck := HC.out k h2
        have hcf := HC.out f hfm
        have k1 : (k : Int) < (m : Int) := by omega
        have k0 : (0 : Int) ≤ (k : Int) := by omega
        have f1 : (f : Int) < (m : Int) := by omega
        have f0 : (0 : Int) ≤ (f : Int) := by omega
        have ht1 := (HX.out.1.here k h2).1
        have ht2 := (HX.out.1.here f hfm).1
        by_cases ha : aheadB S (T1 k) (T1 f) = true
        · go_wp2_with fail
          go_quiet ((go_at_call 58; exact Calls.quiet_of (heap_ahead (HHq.out.drewN _) hn ht1 ht2)))
          rw [ha]
          go_wp2_with fail
          refine ⟨⟨k, k + 1, _, rfl, by simp, by omega, by omega, HF.out.yes (ah_ord S) h2 hk1 h1 ha, by rw [HWR.out]; exact World.drewN_drewN ..⟩, ?_⟩
          simp [intOf]; omega
        · have ha' : aheadB S (T1 k) (T1 f) = false := by simpa using ha
          go_wp2_with fail
          go_quiet ((go_at_call 58; exact Calls.quiet_of (heap_ahead (HHq.out.drewN _) hn ht1 ht2)))
          rw [ha']
          go_wp2_with fail
          refine ⟨⟨f, k + 1, _, rfl, by simp, by omega, by omega, HF.out.no ha, by rw [HWR.out]; exact World.drewN_drewN ..⟩, ?_⟩
          simp [intOf]; omega
      · have hE := HF.out.end_ (by omega)
        have HE := Lib.hid hE; clear hE
        have hg : decide ((k : Int) ≤ 2 * (i : Int) + 2) = false ∨ decide ((k : Int) ≤ 2 * (i : Int) + 2) = true ∧ decide (k < m) = false := by
          simp; omega
        by_cases e : f = i
        · subst e
          have q1 : ((f : Int) == (f : Int)) = true := by simp
          have hend : ∃ (T' : Nat → Nat) (Q' : Nat → Int), Hp wr base h vs vt va n m S T' Q' ∧ Inv n m T' Q' ∧ Sub2 T' T m ∧ HeapOK (ah S) T' m ∧ Kp (HB h vs vt va) w wr :=
            ⟨T1, Q1, HHq.out, HX.out.1, HX.out.2.1, ok_of HX.out.2.2.1 HX.out.2.2.2 HE.out, HKq.out⟩
          have HEnd := Lib.hid hend; clear hend
          rcases hg with g1 | ⟨g1, g2⟩
          · go_wp2_with fail
            refine bodyPost_ret (results_none rfl _ _ _) rfl ?_
            exact ⟨rfl, HEnd.out⟩
          · go_wp2_with fail
            refine bodyPost_ret (results_none rfl _ _ _) rfl ?_
            exact ⟨rfl, HEnd.out⟩
        · have q1 : ((f : Int) == (i : Int)) = false := by simp; omega
          obtain ⟨hf0, hfp, hfa⟩ := HF.out.at_.resolve_left e
          have HS := Lib.hid (down_step (ah_ord S) HX.out.2.2.1 hf0 hfm hfp hfa HE.out)
          have HSI := Lib.hid (HX.out.1.swap hi hfm)
          clear hfa
          rcases hg with g1 | ⟨g1, g2⟩
          · go_wp2_with fail
            refine (hf_swap HHq.out HX.out.1 hn hm hi hfm).mono ?_
            rintro e w2 ⟨rfl, H2, hK2⟩
            go_wp2_with fail
            refine ⟨⟨f, _, _, rfl, hfm, H2, HSI.out, Sub2.trans (Sub2.sw hi hfm) HX.out.2.1, HS.out.1, HS.out.2, HKq.out.trans hK2 (fun _ _ h => h)⟩, ?_⟩
            simp [intOf]; omega
          · go_wp2_with fail
            refine (hf_swap HHq.out HX.out.1 hn hm hi hfm).mono ?_
            rintro e w2 ⟨rfl, H2, hK2⟩
            go_wp2_with fail
            refine ⟨⟨f, _, _, rfl, hfm, H2, HSI.out, Sub2.trans (Sub2.sw hi hfm) HX.out.2.1, HS.out.1, HS.out.2, HKq.out.trans hK2 (fun _ _ h => h)⟩, ?_⟩
            simp [intOf]; omega

theorem hf_down0 {w : World} {base h n : Nat} {vs vt va : Value} {S T : Nat → Nat} {Q : Nat → Int} (H : Hp w base h vs vt va n 0 S T Q) :
    Calls Tryd.prog 53 #[.pointer (some ⟨h, 0, none⟩), .int .i64 0] w fun e w' => e = .returned (.tuple #[]) ∧ w = w' := by
  obtain ⟨a, c, e, _⟩ := H.t.form
  rw [nts_length] at e
  subst e
  have c1 : w.cell? ⟨h, 1, none⟩ = some (.slice a 0 c) := H.blk.cell (i := 1) rfl
  clear H
  go_enter Tryd.func53, Tryd.ntmps53
  go_wp2_with fail
  refine wp_loop_rounds 1 ?_
  rw [rounds_succ]
  go_wp2_with fail
  refine wp_loop_rounds 1 ?_
  rw [rounds_succ]
  go_wp2_with fail
  refine bodyPost_ret (results_none rfl _ _ _) rfl ?_
  exact ⟨rfl, rfl⟩

end Go.Proofs.YtmjcpapcmbgkjaaDoor

/-
  heap: what is asked of a heap without change, and of none; a score of bits.
-/
namespace Go.Proofs.YtmjcpapcmbgkjaaDoor
open Go.RowKit

section
variable {w : World} {base h n m : Nat} {vs vt va : Value} {S T : Nat → Nat} {Q : Nat → Int}

theorem Hp.sform (H : Hp w base h vs vt va n m S T Q) : ∃ a c, vs = .slice a n c := by
  obtain ⟨a, c, e, _⟩ := H.s.form
  rw [fls_length] at e
  exact ⟨a, c, e⟩
theorem Hp.tform (H : Hp w base h vs vt va n m S T Q) : ∃ a c, vt = .slice a m c := by
  obtain ⟨a, c, e, _⟩ := H.t.form
  rw [nts_length] at e
  exact ⟨a, c, e⟩
theorem Hp.aform (H : Hp w base h vs vt va n m S T Q) : ∃ a c, va = .slice a n c := by
  obtain ⟨a, c, e, _⟩ := H.a.form
  rw [zts_length] at e
  exact ⟨a, c, e⟩

theorem heap_known (H : Hp w base h vs vt va n m S T Q) {id : Nat} (hi : id < n) :
    Calls Tryd.prog 49 #[.pointer (some ⟨h, 0, none⟩), .int .i64 id] w fun e w' => e = .returned (.bool true) ∧ w = w' := by
  obtain ⟨a, c, rfl⟩ := H.aform
  have c2 : w.cell? ⟨h, 2, none⟩ = some (.slice a n c) := H.blk.cell (i := 2) rfl
  have g1 : decide ((0 : Int) ≤ (id : Int)) = true := by simp
  have g2 : decide (id < n) = true := by simp [hi]
  clear H
  go_enter Tryd.func49, Tryd.ntmps49
  go_wp2
  go_ret
  exact ⟨rfl, rfl⟩

theorem heap_Len (H : Hp w base h vs vt va n m S T Q) :
    Calls Tryd.prog 51 #[.pointer (some ⟨h, 0, none⟩)] w fun e w' => e = .returned (.int .i64 m) ∧ w = w' := by
  obtain ⟨a, c, rfl⟩ := H.tform
  have c2 : w.cell? ⟨h, 1, none⟩ = some (.slice a m c) := H.blk.cell (i := 1) rfl
  clear H
  go_enter Tryd.func51, Tryd.ntmps51
  go_wp2
  go_ret
  exact ⟨rfl, rfl⟩

end

theorem known_nil (id : Int) (w : World) :
    Calls Tryd.prog 49 #[.pointer none, .int .i64 id] w fun e w' => e = .returned (.bool false) ∧ w = w' := by
  go_enter Tryd.func49, Tryd.ntmps49
  go_wp2
  go_ret
  exact ⟨rfl, rfl⟩

theorem Len_nil (w : World) :
    Calls Tryd.prog 51 #[.pointer none] w fun e w' => e = .returned (.int .i64 0) ∧ w = w' := by
  go_enter Tryd.func51, Tryd.ntmps51
  go_wp2
  go_ret
  exact ⟨rfl, rfl⟩

theorem Push_nil (id : Int) (w : World) :
    Calls Tryd.prog 46 #[.pointer none, .int .i64 id] w fun e w' => e = .returned (.int .i64 1) ∧ w = w' := by
  go_enter Tryd.func46, Tryd.ntmps46
  go_wp2_with fail
  refine (known_nil _ _).mono ?_
  rintro e w' ⟨rfl, rfl⟩
  go_wp2_with fail
  go_ret
  exact ⟨rfl, rfl⟩

theorem Pop_nil (w : World) :
    Calls Tryd.prog 47 #[.pointer none] w fun e w' => e = .returned (.tuple #[.int .i64 0, .bool false]) ∧ w = w' := by
  go_enter Tryd.func47, Tryd.ntmps47
  go_wp2_with fail
  refine (Len_nil _).mono ?_
  rintro e w' ⟨rfl, rfl⟩
  go_wp2_with fail
  go_ret2
  exact ⟨rfl, rfl⟩

end Go.Proofs.YtmjcpapcmbgkjaaDoor

/-
  A score of bits; heap.New.
-/
namespace Go.Proofs.YtmjcpapcmbgkjaaDoor
open Go.RowKit

theorem own_made {w : World} {base g n : Nat} {e : TypeId} {f : Nat → Value} (hb : Blk w g (rowF f n).toArray e) (hg : base ≤ g) (hn : n ≤ maxLen) :
    Own w base e (.slice (some ⟨g, 0, none⟩) n n) (rowF f n) :=
  ⟨by simp, .inr ⟨g, n, _, by rw [rowF_length], hg, hb, by rw [rowF_length]; exact Nat.le_refl _, hn, by simp [rowF_length], by simp⟩⟩

theorem made_row (z : Value) (n : Nat) : madeCells #[z] n = (rowF (fun _ => z) n).toArray := by
  apply Array.ext
  · simp [madeCells, rowF]
  · intro i h1 h2
    simp [madeCells, rowF, Nat.mod_one]

theorem Hp.new {w : World} {base h gs ga n : Nat} (hb : Blk w h #[.slice (some ⟨gs, 0, none⟩) n n, .slice none 0 0, .slice (some ⟨ga, 0, none⟩) n n] 101)
    (hs : Blk w gs (madeCells #[.float .f64 0] n) 114) (ha : Blk w ga (madeCells #[.int .i64 0] n) 3) (h1 : base ≤ h) (h2 : base ≤ gs) (h3 : base ≤ ga) (e1 : gs ≠ h) (e2 : ga ≠ h) (e3 : gs ≠ ga) (hn : n ≤ 1048576) :
    Hp w base h (.slice (some ⟨gs, 0, none⟩) n n) (.slice none 0 0) (.slice (some ⟨ga, 0, none⟩) n n) n 0 (fun _ => 0) (fun _ => 0) (fun _ => 0) := by
  rw [made_row] at hs ha
  have hm : n ≤ maxLen := by unfold maxLen; omega
  refine ⟨hb, h1, own_made hs h2 hm, Own.nil _ _ _, own_made ha h3 hm, ?_, ?_, ?_⟩
  · intro j hj
    simp [Value.ownBlock] at hj ⊢
    subst hj
    exact ⟨e1, fun e => e3 e.symm⟩
  · intro j hj
    simp [Value.ownBlock] at hj
  · intro j hj
    simp [Value.ownBlock] at hj
    subst hj
    exact e2

theorem zts_congr {Q Q' : Nat → Int} {n : Nat} (h : ∀ j, j < n → Q j = Q' j) : zts Q n = zts Q' n := rowF_congr fun j hj => by rw [h j hj]

theorem Hp.congrQ {w : World} {base h n m : Nat} {vs vt va : Value} {S T : Nat → Nat} {Q Q' : Nat → Int} (H : Hp w base h vs vt va n m S T Q) (e : ∀ j, j < n → Q j = Q' j) : Hp w base h vs vt va n m S T Q' :=
  ⟨H.blk, H.low, H.s, H.t, by rw [← zts_congr e]; exact H.a, H.hs, H.ht, H.ha⟩

theorem new3 (w : World) (c0 c1 c2 : Array Value) (t0 t1 t2 : TypeId) :
    Blk (((w.alloc (.cells c0 t0)).alloc (.cells c1 t1)).alloc (.cells c2 t2)).drew w.heap.size c0 t0 ∧ Blk (((w.alloc (.cells c0 t0)).alloc (.cells c1 t1)).alloc (.cells c2 t2)).drew (w.heap.size + 1) c1 t1 ∧ Blk (((w.alloc (.cells c0 t0)).alloc (.cells c1 t1)).alloc (.cells c2 t2)).drew (w.heap.size + 1 + 1) c2 t2 := by
  refine ⟨(((Blk.new w c0 t0).alloc _).alloc _).drew, ?_, ?_⟩
  · have := ((Blk.new (w.alloc (.cells c0 t0)) c1 t1).alloc (.cells c2 t2)).drew
    simpa using this
  · have := (Blk.new ((w.alloc (.cells c0 t0)).alloc (.cells c1 t1)) c2 t2).drew
    simpa using this

/-- what New leaves -/
def NewPost (n : Nat) (w : World) (e : Ending) (w' : World) : Prop :=
  ∃ h vs va, e = .returned (.pointer (some ⟨h, 0, none⟩)) ∧ Hp w' w.heap.size h vs (.slice none 0 0) va n 0 (fun _ => 0) (fun _ => 0) (fun _ => -1) ∧ Kp (fun _ => False) w w'

set_option maxHeartbeats 1000000 in
theorem heap_New (n : Nat) (hn : n ≤ 1048576) (w : World) :
    Calls Tryd.prog 45 #[.int .i64 n] w (NewPost n w) := by
  obtain ⟨i0, hi, hz0, hz1, hz2⟩ := info_parts (show (Tryd.prog.info? 3).map (fun i => (i.zero, i.size, i.bytes)) = some (some (.int .i64 0), 1, 8) by kernel_rfl)
  have hmk : ∀ u : World, (Instr.makeSlice 22 (.int .i64 (n : Int)) (.int .i64 (n : Int))).run Tryd.prog u =
      .ok (.slice (some ⟨u.heap.size, 0, none⟩) n n) (u.alloc (.cells (madeCells #[.int .i64 0] n) 3)) := fun u => by
    have h := run_make (P := Tryd.prog) u 22 3 i0 (.int .i64 0) Tryd.underlying22 hi hz0 .i64 .i64 (n : Int) (n : Int) (by omega) (Int.le_refl _) (by rw [hz2]; omega) (by omega)
    simpa [hz1, Value.cells] using h
  clear hi hz0 hz1 hz2 i0
  obtain ⟨i0, hi, hz0, hz1, hz2⟩ := info_parts (show (Tryd.prog.info? 114).map (fun i => (i.zero, i.size, i.bytes)) = some (some (.float .f64 0), 1, 8) by kernel_rfl)
  have hmf : ∀ u : World, (Instr.makeSlice 99 (.int .i64 (n : Int)) (.int .i64 (n : Int))).run Tryd.prog u =
      .ok (.slice (some ⟨u.heap.size, 0, none⟩) n n) (u.alloc (.cells (madeCells #[.float .f64 0] n) 114)) := fun u => by
    have h := run_make (P := Tryd.prog) u 99 114 i0 (.float .f64 0) Tryd.underlying99 hi hz0 .i64 .i64 (n : Int) (n : Int) (by omega) (Int.le_refl _) (by rw [hz2]; omega) (by omega)
    simpa [hz1, Value.cells] using h
  clear hi hz0 hz1 hz2 i0
  have g1 : decide ((n : Int) < 0) = false := by simp
  have g2 : decide ((1048576 : Int) < (n : Int)) = false := by simp; omega
  go_enter Tryd.func45, Tryd.ntmps45
  go_wp2
  go_region
  all_goals go_wp2
  all_goals
    go_loopw [22] (fun v22 wr => ∃ (k gs ga : Nat) (Q : Nat → Int), k ≤ n ∧ v22 = .int .i64 k ∧ Hp wr w.heap.size (w.heap.size + 1 + 1) (.slice (some ⟨gs, 0, none⟩) n n) (.slice none 0 0) (.slice (some ⟨ga, 0, none⟩) n n) n 0 (fun _ => 0) (fun _ => 0) Q ∧ (∀ j, j < k → Q j = -1) ∧ Kp (fun _ => False) w wr) (fun v22 _ => n - (intOf v22).toNat)
    case atStart =>
      obtain ⟨b0, b1, b2⟩ := new3 w _ _ _ _ _ _
      first
      | exact ⟨0, w.heap.size, w.heap.size + 1, _, Nat.zero_le _, rfl, Hp.new b2 b0 b1 (by omega) (by omega) (by omega) (by omega) (by omega) (by omega) hn, (fun j hj => by omega), ((((Kp.refl _ w).alloc _).alloc _).alloc _).drew⟩
      | exact ⟨0, w.heap.size + 1, w.heap.size, _, Nat.zero_le _, rfl, Hp.new b2 b1 b0 (by omega) (by omega) (by omega) (by omega) (by omega) (by omega) hn, (fun j hj => by omega), ((((Kp.refl _ w).alloc _).alloc _).alloc _).drew⟩
    case round =>
      obtain ⟨k, gs, ga, Q, hk, rfl, H, hQ, hK⟩ := hrel
      have HQ := Lib.hid hQ; clear hQ
      have c2 : wr.cell? ⟨w.heap.size + 1 + 1, 2, none⟩ = some (.slice (some ⟨ga, 0, none⟩) n n) := H.blk.cell (i := 2) rfl
      by_cases hlt : k < n
      · have hc := H.a.cell (zts_at hlt)
        have hf := H.a.free k
        have k0 : (0 : Int) ≤ (k : Int) := by omega
        have k1 : (k : Int) < (n : Int) := by omega
        have hga := (H.a.lt ga rfl).1
        have HH := Lib.hid (H.setA k (-1)); clear H
        go_wp2
        go_roundw
        case rel =>
          refine ⟨k + 1, gs, ga, _, by omega, by go_num, HH.out, fun j hj => ?_, hK.setCell (fun h => by simp at h; omega) _⟩
          by_cases e : j = k
          · subst e; exact up1_at ..
          · rw [up1_off _ _ e]; exact HQ.out j (by omega)
        case measure => simp [intOf]; omega
      · go_wp2
        go_ret
        exact ⟨_, _, _, rfl, H.congrQ (fun j hj => HQ.out j (by omega)), hK⟩

end Go.Proofs.YtmjcpapcmbgkjaaDoor

/-
  heap.Push.
-/
namespace Go.Proofs.YtmjcpapcmbgkjaaDoor
open Go.RowKit

theorem Hp.pushT {w w' : World} {base h n m id : Nat} {vs vt vt' va : Value} {S T : Nat → Nat} {Q : Nat → Int} (H : Hp w base h vs vt va n m S T Q)
    (hO : Own w' base 3 vt' (nts T m ++ [.int .i64 (id : Int)])) (hg : w.grownBy w' vt.ownBlock) (hat : vt'.ownBlock = vt.ownBlock ∨ ∃ g, vt'.ownBlock = some g ∧ w.heap.size ≤ g) :
    Hp (w'.setCell ⟨h, 1, none⟩ vt') base h vs vt' va n (m + 1) S (up1 T m id) Q := by
  have hK : Kp (fun j => vt.ownBlock = some j) w w' := (Kp.refl _ w).grown hg (fun j hj _ => hj)
  have hh := H.blk.lt
  have hB := H.blk.kp hK (fun e => (H.ht h e).1 rfl)
  have hsame := hB.set_same 1 vt'
  have lift : ∀ j, vt'.ownBlock = some j → vt.ownBlock = some j ∨ w.heap.size ≤ j := by
    intro j hj
    rcases hat with e | ⟨g, e, hgl⟩
    · left; rw [← e]; exact hj
    · right; rw [e] at hj; have : g = j := by simpa using hj
      omega
  have hne : ∀ j, vt'.ownBlock = some j → j ≠ h := by
    intro j hj e
    rcases lift j hj with h1 | h1
    · exact (H.ht j h1).1 e
    · omega
  refine ⟨hsame, H.low, (H.s.kp hK (fun j hj e => (H.hs j hj).2.1 e)).set_other (p := ⟨h, 1, none⟩) (fun j hj => (H.hs j hj).1) _, ?_, (H.a.kp hK (fun j hj e => (H.ht j e).2 hj)).set_other (p := ⟨h, 1, none⟩) (fun j hj => H.ha j hj) _, ?_, ?_, H.ha⟩
  · rw [nts_snoc] at hO
    exact hO.set_other (p := ⟨h, 1, none⟩) hne _
  · intro j hj
    refine ⟨(H.hs j hj).1, fun e => ?_, (H.hs j hj).2.2⟩
    rcases lift j e with h1 | h1
    · exact (H.hs j hj).2.1 h1
    · have := (H.s.lt j hj).2; omega
  · intro j hj
    refine ⟨hne j hj, fun e => ?_⟩
    rcases lift j hj with h1 | h1
    · exact (H.ht j h1).2 e
    · have := (H.a.lt j e).2; omega

theorem Hp.alloc {w : World} {base h n m : Nat} {vs vt va : Value} {S T : Nat → Nat} {Q : Nat → Int} (H : Hp w base h vs vt va n m S T Q) (o : Obj) : Hp (w.alloc o) base h vs vt va n m S T Q :=
  H.kp ((Kp.refl (fun _ => False) w).alloc o) (fun _ _ _ h => h)

theorem int_info : (Tryd.prog.info? 3).map (fun i => (i.zero, i.size, i.bytes)) = some (some (.int .i64 0), 1, 8) := by kernel_rfl

/-- what Push leaves -/
def PushF (base h n m id : Nat) (vs vt va : Value) (S T : Nat → Nat) (w : World) (e : Ending) (w' : World) : Prop :=
  e = .returned (.int .i64 0) ∧ ∃ (vt' : Value) (T' : Nat → Nat) (Q' : Nat → Int), Hp w' base h vs vt' va n (m + 1) S T' Q' ∧ Inv n (m + 1) T' Q' ∧ HeapOK (ah S) T' (m + 1) ∧
    (vt'.ownBlock = vt.ownBlock ∨ ∃ g, vt'.ownBlock = some g ∧ w.heap.size ≤ g) ∧ Sub2 T' (up1 T m id) (m + 1) ∧ Kp (HB h vs vt va) w w'

set_option maxRecDepth 100000 in
set_option maxHeartbeats 2000000 in
theorem hf_Push {w : World} {base h n m : Nat} {vs vt va : Value} {S T : Nat → Nat} {Q : Nat → Int} (H : Hp w base h vs vt va n m S T Q) (hI : Inv n m T Q) (hok : HeapOK (ah S) T m) (hn : n ≤ 1048576) (hm : m < 1048576) {id : Nat} (hid : id < n) (hq : Q id < 0) :
    Calls Tryd.prog 46 #[.pointer (some ⟨h, 0, none⟩), .int .i64 id] w (PushF base h n m id vs vt va S T w) := by
  have HI := Lib.hid (hI.push hid hq)
  have HW := Lib.hid (push_weak (x := id) hok)
  clear hI hok
  obtain ⟨ga, ca, hva, hga, _⟩ := H.a.leads (by rw [zts_length]; omega)
  rw [zts_length] at hva
  subst hva
  obtain ⟨at_, ct, hvt⟩ := H.tform
  have hbl := H.blk.lt
  have hlow := H.low
  have c1 : w.cell? ⟨h, 1, none⟩ = some (.slice at_ m ct) := by rw [← hvt]; exact H.blk.cell (i := 1) rfl
  have c2 : w.cell? ⟨h, 2, none⟩ = some (.slice (some ⟨ga, 0, none⟩) n ca) := H.blk.cell (i := 2) rfl
  have ci := H.a.cell (zts_at hid)
  have fi := H.a.free id
  have i0 : (0 : Int) ≤ (id : Int) := by omega
  have i1 : (id : Int) < (n : Int) := by omega
  have g1 : decide ((0 : Int) ≤ Q id) = false := by simp; omega
  obtain ⟨qi, hqi⟩ : ∃ qi, Q id = qi := ⟨_, rfl⟩
  have H1 := Lib.hid (H.setA id (m : Int)).drew
  have HH := Lib.hid H
  have HVT := Lib.hid hvt
  have hK1 : Kp (HB h vs vt (.slice (some ⟨ga, 0, none⟩) n ca)) w (w.setCell ⟨ga, id, none⟩ (.int .i64 (m : Int))).drew := ((Kp.refl (HB h vs vt (.slice (some ⟨ga, 0, none⟩) n ca)) w).setCell (p := ⟨ga, id, none⟩) (fun _ => HB.a) _).drew
  have HK1 := Lib.hid hK1
  rw [hqi] at ci g1
  clear H hvt hK1 hqi hq
  go_enter Tryd.func46, Tryd.ntmps46
  go_wp2_with fail
  refine (heap_known HH.out hid).mono ?_
  rintro e w' ⟨rfl, rfl⟩
  go_wp2_with fail
  go_region
  clear c1 c2 ci fi
  all_goals generalize (w.setCell ⟨ga, id, none⟩ (.int .i64 (m : Int))).drew = w1 at *
  have c1 : w1.cell? ⟨h, 1, none⟩ = some (.slice at_ m ct) := by rw [← HVT.out]; exact H1.out.blk.cell (i := 1) rfl
  have hb1 := H1.out.blk.lt
  have hO := H1.out.t
  rw [HVT.out] at hO
  have HOw := Lib.hid hO; clear hO
  go_wp2_with (at_builtin; refine wpList_append1_at rfl _ _ 22 3 rfl Tryd.underlying22 int_info rfl (HOw.out.alloc _) rfl ⟨w1.heap.size, 0, none⟩ (.int .i64 id) rfl ?c1 rfl ?c2 ?c3 ?c4 ?_)
  case c1 => exact World.cell?_alloc_at _ _ _ _ rfl
  case c2 => rw [nts_length]; omega
  case c3 => rw [nts_length]; unfold maxLen; omega
  case c4 => simp; omega
  intro v' w2 hO2 hg2 hat2
  obtain ⟨av, cv, hav, _⟩ := hO2.form
  subst hav
  obtain ⟨lv, hlv⟩ : ∃ lv, lv = (nts T m ++ [Value.int .i64 (id : Int)]).length := ⟨_, rfl⟩
  rw [← hlv] at hO2 hat2 ⊢
  clear hlv
  obtain ⟨v', hv'⟩ : ∃ v', v' = Value.slice av lv cv := ⟨_, rfl⟩
  have HV := Lib.hid hv'
  rw [← hv'] at hO2 hat2
  clear hv'
  have HA := Lib.hid (H1.out.alloc (.cells #[.int .i64 (id : Int)] 3))
  have hP := Hp.pushT HA.out hO2 (by rw [HVT.out]; exact hg2) (by rw [HVT.out]; rcases hat2 with e | e; exact .inl e; exact .inr ⟨_, e, by simp⟩)
  have hK2 : Kp (HB h vs vt (.slice (some ⟨ga, 0, none⟩) n ca)) w w2 := (HK1.out.alloc _).grown hg2 (fun j hj _ => by rw [HVT.out]; exact .inr (.inr (.inl hj)))
  have hK3 : Kp (HB h vs vt (.slice (some ⟨ga, 0, none⟩) n ca)) w (w2.setCell ⟨h, 1, none⟩ v') := hK2.setCell (p := ⟨h, 1, none⟩) (fun _ => HB.h) _
  have hsz : w.heap.size ≤ w1.heap.size := HK1.out.size
  have hlift : v'.ownBlock = vt.ownBlock ∨ ∃ g, v'.ownBlock = some g ∧ w.heap.size ≤ g := by
    rcases hat2 with e | e
    · left; rw [HVT.out]; exact e
    · right; exact ⟨_, e, by (try simp); omega⟩
  have HLift := Lib.hid hlift
  clear hlift hsz
  have hKg : Kp (fun j => (Value.slice at_ m ct).ownBlock = some j) (w1.alloc (.cells #[.int .i64 (id : Int)] 3)) w2 := (Kp.refl _ _).grown hg2 (fun j hj _ => hj)
  have hb2 := HA.out.blk.kp hKg (fun e => (HA.out.ht h (by rw [HVT.out]; exact e)).1 rfl)
  have c1 : w2.cell? ⟨h, 1, none⟩ = some vt := hb2.cell (i := 1) rfl
  have f1 : w2.frozen? ⟨h, 1, none⟩ = false := hb2.free 1
  rw [HVT.out] at c1
  have HP := Lib.hid hP
  have HK3 := Lib.hid hK3
  rw [HV.out] at HP HK3 hP
  have c2 : (w2.setCell ⟨h, 1, none⟩ (.slice av lv cv)).cell? ⟨h, 2, none⟩ = some (.slice (some ⟨ga, 0, none⟩) n ca) := hP.blk.cell (i := 2) rfl
  have ci : (w2.setCell ⟨h, 1, none⟩ (.slice av lv cv)).cell? ⟨ga, id, none⟩ = some (.int .i64 (m : Int)) := by have := hP.a.cell (zts_at hid); rw [up1_at] at this; exact this
  clear hP hK2 hK3 hKg hb2 hO2 hg2 hat2
  go_wp2_with fail
  refine (hf_up HP.out HI.out hn (by omega) (i := m) (by omega) HW.out.1).mono ?_
  rintro e w3 ⟨rfl, T', Q', j, H4, hI4, hSub, hj, hTj, hW4, hU4, hD4, hK4⟩
  have hok4 := ok_of hW4 hU4 (hD4 HW.out.2)
  have hKe : Kp (HB h vs vt (.slice (some ⟨ga, 0, none⟩) n ca)) w w3 := HK3.out.trans hK4 (fun j hj hb => by
    rcases hb with e | e | e | e
    · exact .inl e
    · exact .inr (.inl e)
    · rw [← HV.out] at e
      rcases HLift.out with e2 | ⟨g, e2, hg⟩
      · exact .inr (.inr (.inl (e2 ▸ e)))
      · rw [e2] at e
        have : g = j := by simpa using e
        omega
    · exact .inr (.inr (.inr e)))
  have hL := HLift.out
  rw [HV.out] at hL
  have HEnd := Lib.hid (show ∃ (vt' : Value) (T' : Nat → Nat) (Q' : Nat → Int), Hp w3 base h vs vt' (.slice (some ⟨ga, 0, none⟩) n ca) n (m + 1) S T' Q' ∧ Inv n (m + 1) T' Q' ∧ HeapOK (ah S) T' (m + 1) ∧
      (vt'.ownBlock = vt.ownBlock ∨ ∃ g, vt'.ownBlock = some g ∧ w.heap.size ≤ g) ∧ Sub2 T' (up1 T m id) (m + 1) ∧ Kp (HB h vs vt (.slice (some ⟨ga, 0, none⟩) n ca)) w w3 from
    ⟨_, T', Q', H4, hI4, hok4, hL, hSub, hKe⟩)
  clear hok4 hKe hL
  clear H4 hI4 hSub hTj hW4 hU4 hD4 hK4
  go_wp2_with fail
  go_ret
  exact ⟨rfl, HEnd.out⟩

end Go.Proofs.YtmjcpapcmbgkjaaDoor

/-
  heap.Pop.
-/
namespace Go.Proofs.YtmjcpapcmbgkjaaDoor
open Go.RowKit

theorem Own.cut' {w : World} {base : Nat} {e : TypeId} {g n cap m : Nat} {cs : List Value} (h : Own w base e (.slice (some ⟨g, 0, none⟩) n cap) cs) (hm : m ≤ cs.length) :
    Own w base e (.slice (some ⟨g, 0, none⟩) m cap) (cs.take m) := by
  rcases h.2 with ⟨h3, _⟩ | ⟨g', cap', cur, hv, hb, hg, hnc, hcm, hcs, htake⟩
  · cases h3
  · simp only [Value.slice.injEq, Option.some.injEq, Addr.mk.injEq, and_true] at hv
    obtain ⟨rfl, rfl, rfl⟩ := hv
    have hl : (cs.take m).length = m := by simp; omega
    refine ⟨by simp, .inr ⟨g, cap, cur, by rw [hl], hb, hg, by rw [hl]; omega, hcm, hcs, ?_⟩⟩
    rw [hl, Nat.mul_one]
    rw [Nat.mul_one] at htake
    rw [← htake, List.take_take]
    congr 1
    omega

theorem Hp.cutT {w : World} {base h n m gt ct : Nat} {vs va : Value} {S T : Nat → Nat} {Q : Nat → Int} (H : Hp w base h vs (.slice (some ⟨gt, 0, none⟩) (m + 1) ct) va n (m + 1) S T Q) :
    Hp (w.setCell ⟨h, 1, none⟩ (.slice (some ⟨gt, 0, none⟩) m ct)) base h vs (.slice (some ⟨gt, 0, none⟩) m ct) va n m S T Q := by
  refine ⟨H.blk.set_same 1 _, H.low, H.s.set_other (p := ⟨h, 1, none⟩) (fun j hj => (H.hs j hj).1) _, ?_, H.a.set_other (p := ⟨h, 1, none⟩) (fun j hj => H.ha j hj) _, H.hs, H.ht, H.ha⟩
  have := H.t.cut' (m := m) (by rw [nts_length]; omega)
  unfold nts at this ⊢
  rw [rowF_take _ (by omega)] at this
  exact this.set_other (p := ⟨h, 1, none⟩) (fun j hj => (H.ht j hj).1) _

theorem pop_set {n m : Nat} {T : Nat → Nat} {Q : Nat → Int} (hI : Inv n (m + 1) T Q) (x : Nat) : (∃ j, j < m ∧ sw T 0 m j = x) ↔ x ≠ T 0 ∧ ∃ j, j < m + 1 ∧ T j = x := by
  constructor
  · rintro ⟨j, hj, rfl⟩
    by_cases e : j = 0
    · subst e
      rw [sw_l]
      exact ⟨fun e => by have := hI.inj (show m < m + 1 by omega) (show 0 < m + 1 by omega) e; omega, m, by omega, rfl⟩
    · rw [sw_o e (by omega)]
      exact ⟨fun e2 => e (hI.inj (show j < m + 1 by omega) (show 0 < m + 1 by omega) e2), j, by omega, rfl⟩
  · rintro ⟨hne, j, hj, rfl⟩
    have hj0 : j ≠ 0 := fun e => hne (by rw [e])
    by_cases e : j = m
    · subst e
      exact ⟨0, by omega, sw_l ..⟩
    · exact ⟨j, by omega, sw_o hj0 e⟩

/-- what Pop leaves -/
def PopF (base h n m : Nat) (vs vt va : Value) (S T : Nat → Nat) (w : World) (e : Ending) (w' : World) : Prop :=
  ∃ id : Nat, id < n ∧ e = .returned (.tuple #[.int .i64 id, .bool true]) ∧ (∃ j, j < m + 1 ∧ T j = id) ∧ (∀ j, j < m + 1 → ¬ ah S (T j) id) ∧ ∃ (vt' : Value) (T' : Nat → Nat) (Q' : Nat → Int), Hp w' base h vs vt' va n m S T' Q' ∧ Inv n m T' Q' ∧ HeapOK (ah S) T' m ∧
    vt'.ownBlock = vt.ownBlock ∧ (∀ x, (∃ j, j < m ∧ T' j = x) ↔ x ≠ id ∧ ∃ j, j < m + 1 ∧ T j = x) ∧ Kp (HB h vs vt va) w w'

theorem hf_Pop0 {w : World} {base h n : Nat} {vs vt va : Value} {S T : Nat → Nat} {Q : Nat → Int} (H : Hp w base h vs vt va n 0 S T Q) :
    Calls Tryd.prog 47 #[.pointer (some ⟨h, 0, none⟩)] w fun e w' => e = .returned (.tuple #[.int .i64 0, .bool false]) ∧ w = w' := by
  have HH := Lib.hid H; clear H
  go_enter Tryd.func47, Tryd.ntmps47
  go_wp2_with fail
  refine (heap_Len HH.out).mono ?_
  rintro e w' ⟨rfl, rfl⟩
  go_wp2_with fail
  go_ret2
  exact ⟨rfl, rfl⟩

set_option maxRecDepth 100000 in
set_option maxHeartbeats 2000000 in
theorem hf_Pop {w : World} {base h n m : Nat} {vs vt va : Value} {S T : Nat → Nat} {Q : Nat → Int} (H : Hp w base h vs vt va n (m + 1) S T Q) (hI : Inv n (m + 1) T Q) (hok : HeapOK (ah S) T (m + 1)) (hn : n ≤ 1048576) (hm : m < 1048576) :
    Calls Tryd.prog 47 #[.pointer (some ⟨h, 0, none⟩)] w (PopF base h n m vs vt va S T w) := by
  obtain ⟨gt, ct, hvt, hgt, _⟩ := H.t.leads (by rw [nts_length]; omega)
  rw [nts_length] at hvt
  subst hvt
  have hT0 := (hI.here 0 (by omega)).1
  obtain ⟨ga, ca, hva, hga, _⟩ := H.a.leads (by rw [zts_length]; omega)
  rw [zts_length] at hva
  subst hva
  have hct : m + 1 ≤ ct ∧ ct ≤ maxLen := by
    obtain ⟨a, c, e, h1, h2, _⟩ := H.t.form
    rw [nts_length] at e h1
    simp only [Value.slice.injEq] at e
    obtain ⟨_, _, rfl⟩ := e
    exact ⟨h1, h2⟩
  have hct2 : ct ≤ 9223372036854775807 := by have := hct.2; unfold maxLen at this; omega
  have hct1 : m + 1 ≤ ct := hct.1
  clear hct
  have hlow := H.low
  have c1 : w.cell? ⟨h, 1, none⟩ = some (.slice (some ⟨gt, 0, none⟩) (m + 1) ct) := H.blk.cell (i := 1) rfl
  have t0 := H.t.cell (nts_at (i := 0) (by omega))
  have z0 : (0 : Int) < ((m + 1 : Nat) : Int) := by omega
  have e0 : (((m + 1 : Nat) : Int) == 0) = false := by simp; omega
  have HH := Lib.hid H; clear H
  have HI := Lib.hid hI; clear hI
  have HOK := Lib.hid hok; clear hok
  obtain ⟨id, hid⟩ : ∃ id, T 0 = id := ⟨_, rfl⟩
  rw [hid] at t0 hT0
  have HID := Lib.hid hid; clear hid
  go_enter Tryd.func47, Tryd.ntmps47
  go_wp2_with fail
  refine (heap_Len HH.out).mono ?_
  rintro e w' ⟨rfl, rfl⟩
  go_wp2_with fail
  go_quiet (fail)
  have HK0 := (Kp.refl (HB h vs (.slice (some ⟨gt, 0, none⟩) (m + 1) ct) (.slice (some ⟨ga, 0, none⟩) n ca)) w).drewN nq
  go_wp2_with fail
  refine (hf_swap (i := 0) (k := m) (HH.out.drewN _) HI.out hn (by omega) (by omega) (by omega)).mono ?_
  rintro e w2 ⟨rfl, H2, hK2⟩
  have hI2 := HI.out.swap (i := 0) (k := m) (by omega) (by omega)
  have hsm : sw T 0 m m = id := by rw [sw_r]; exact HID.out
  have c1 : w2.cell? ⟨h, 1, none⟩ = some (.slice (some ⟨gt, 0, none⟩) (m + 1) ct) := H2.blk.cell (i := 1) rfl
  have f1 : w2.frozen? ⟨h, 1, none⟩ = false := H2.blk.free 1
  have c2 : w2.cell? ⟨h, 2, none⟩ = some (.slice (some ⟨ga, 0, none⟩) n ca) := H2.blk.cell (i := 2) rfl
  have ci := H2.a.cell (zts_at hT0)
  have fi := H2.a.free id
  have H3 := H2.cutT
  have ci3 := H3.a.cell (zts_at hT0)
  have fi3 := H3.a.free id
  have i0 : (0 : Int) ≤ (id : Int) := by omega
  have i1 : (id : Int) < (n : Int) := by omega
  have m0 : (0 : Int) ≤ (m : Int) := by omega
  have m1 : (m : Int) ≤ (ct : Int) := by omega
  obtain ⟨qv, hqv⟩ : ∃ qv, swQ T Q 0 m id = qv := ⟨_, rfl⟩
  rw [hqv] at ci ci3
  have H4 := Lib.hid (H3.setA id (-1)).drew
  have hID := hI2.drop
  rw [hsm] at hID
  have HI4 := Lib.hid hID
  have HK4 := Lib.hid ((((HK0 : Kp (HB h vs (.slice (some ⟨gt, 0, none⟩) (m + 1) ct) (.slice (some ⟨ga, 0, none⟩) n ca)) w (w.drewN nq)).trans hK2 (fun _ _ h => h)).setCell (p := ⟨h, 1, none⟩) (fun _ => HB.h) (.slice (some ⟨gt, 0, none⟩) m ct)).setCell (p := ⟨ga, id, none⟩) (fun _ => HB.a) (.int .i64 (-1))).drew
  clear hqv H2 H3 hI2 hID hK2 hsm t0
  go_wp2_with fail
  go_region
  clear c1 f1 c2 ci fi ci3 fi3
  have HPW := Lib.hid (pop_weak HOK.out)
  have HRF := Lib.hid (root_first (ah_ord S) HOK.out)
  by_cases hm0 : m = 0
  · subst hm0
    go_wp2_with fail
    refine (hf_down0 H4.out).mono ?_
    rintro e w4 ⟨rfl, rfl⟩
    go_wp2_with fail
    go_ret2
    exact ⟨id, hT0, rfl, ⟨0, by omega, HID.out⟩, fun j hj => by rw [← HID.out]; exact HRF.out j hj, _, _, _, H4.out, HI4.out, fun j _ hj => by omega, rfl, fun x => by rw [← HID.out]; exact pop_set HI.out x, HK4.out⟩
  · go_wp2_with fail
    refine (hf_down (i := 0) H4.out HI4.out hn (by omega) (by omega) HPW.out.1 HPW.out.2).mono ?_
    rintro e w4 ⟨rfl, T5, Q5, H5, hI5, hSub5, hok5, hK5⟩
    have hset : ∀ x, (∃ j, j < m ∧ T5 j = x) ↔ x ≠ id ∧ ∃ j, j < m + 1 ∧ T j = x := fun x => by
      rw [hSub5.iff x, ← HID.out]
      exact pop_set HI.out x
    have HSet := Lib.hid hset
    have HKz := Lib.hid (HK4.out.trans hK5 (fun _ _ h => h))
    have H5h := Lib.hid H5
    have HI5 := Lib.hid (And.intro hI5 hok5)
    clear H5 hI5 hSub5 hok5 hK5 hset
    go_wp2_with fail
    go_ret2
    exact ⟨id, hT0, rfl, ⟨0, by omega, HID.out⟩, fun j hj => by rw [← HID.out]; exact HRF.out j hj, _, T5, Q5, H5h.out, HI5.out.1, HI5.out.2, rfl, HSet.out, HKz.out⟩

end Go.Proofs.YtmjcpapcmbgkjaaDoor

/-
  A heap whose scores are all 0, as a set: what is popped is the least.
-/
namespace Go.Proofs.YtmjcpapcmbgkjaaDoor
open Go.RowKit

theorem ah_zero (a b : Nat) : ah (fun _ => 0) a b ↔ a < b := by
  rw [ah_iff]
  unfold klt
  omega

theorem Inv.room {n m : Nat} {T : Nat → Nat} {Q : Nat → Int} (h : Inv n m T Q) {id : Nat} (hid : id < n) (hq : Q id < 0) : m < n := by
  have hnd : ((List.range m).map T).Nodup := by
    rw [List.nodup_iff_pairwise_ne, List.pairwise_map]
    refine List.Pairwise.imp_of_mem ?_ (List.nodup_range (n := m))
    intro a b ha hb hne e
    exact hne (h.inj (List.mem_range.1 ha) (List.mem_range.1 hb) e)
  have := nodup_lt hnd (n := n) (i := id) (fun j hj => by
    obtain ⟨k, hk, rfl⟩ := List.mem_map.1 hj
    exact (h.here k (List.mem_range.1 hk)).1) hid (fun hm => by
    obtain ⟨k, hk, e⟩ := List.mem_map.1 hm
    have := (h.here k (List.mem_range.1 hk)).2
    rw [e] at this
    omega)
  simpa using this

theorem Inv.most {n m : Nat} {T : Nat → Nat} {Q : Nat → Int} (h : Inv n m T Q) : m ≤ n := by
  have hnd : ((List.range m).map T).Nodup := by
    rw [List.nodup_iff_pairwise_ne, List.pairwise_map]
    refine List.Pairwise.imp_of_mem ?_ (List.nodup_range (n := m))
    intro a b ha hb hne e
    exact hne (h.inj (List.mem_range.1 ha) (List.mem_range.1 hb) e)
  have := nodup_le n hnd (fun j hj => by
    obtain ⟨k, hk, rfl⟩ := List.mem_map.1 hj
    exact (h.here k (List.mem_range.1 hk)).1)
  simpa using this

/-- the heap at h holds just the things of M; its memory is the blocks of X, from base on -/
def HSet (w : World) (base h n : Nat) (X : Nat → Prop) (M : Nat → Prop) : Prop :=
  ∃ (vs vt va : Value) (m : Nat) (T : Nat → Nat) (Q : Nat → Int), Hp w base h vs vt va n m (fun _ => 0) T Q ∧ Inv n m T Q ∧ HeapOK (ah (fun _ => 0)) T m ∧ (∀ j, HB h vs vt va j ↔ X j) ∧ ∀ x, (∃ j, j < m ∧ T j = x) ↔ M x

section
variable {w w' : World} {base h n : Nat} {X M : Nat → Prop}

theorem Hp.own_lt {m : Nat} {vs vt va : Value} {S T : Nat → Nat} {Q : Nat → Int} (H : Hp w base h vs vt va n m S T Q) {j : Nat} (hj : HB h vs vt va j) : base ≤ j ∧ j < w.heap.size := by
  rcases hj with e | e | e | e
  · subst e; exact ⟨H.low, H.blk.lt⟩
  · exact H.s.lt j e
  · exact H.t.lt j e
  · exact H.a.lt j e

theorem HSet.lt (H : HSet w base h n X M) {j : Nat} (hj : X j) : base ≤ j ∧ j < w.heap.size := by
  obtain ⟨vs, vt, va, m, T, Q, H, _, _, hX, _⟩ := H
  exact H.own_lt ((hX j).2 hj)

theorem HSet.low (H : HSet w base h n X M) {b : Nat} (hb : b ≤ base) : HSet w b h n X M := by
  obtain ⟨vs, vt, va, m, T, Q, H, r⟩ := H
  exact ⟨vs, vt, va, m, T, Q, ⟨H.blk, Nat.le_trans hb H.low, H.s.mono hb, H.t.mono hb, H.a.mono hb, H.hs, H.ht, H.ha⟩, r⟩

theorem HSet.mem_lt (H : HSet w base h n X M) {x : Nat} (hx : M x) : x < n := by
  obtain ⟨vs, vt, va, m, T, Q, _, hI, _, _, hM⟩ := H
  obtain ⟨j, hj, rfl⟩ := (hM x).2 hx
  exact (hI.here j hj).1

theorem HSet.kp {S : Nat → Prop} (H : HSet w base h n X M) (k : Kp S w w') (hS : ∀ j, X j → ¬ S j) : HSet w' base h n X M := by
  obtain ⟨vs, vt, va, m, T, Q, H, hI, hok, hX, hM⟩ := H
  refine ⟨vs, vt, va, m, T, Q, ⟨H.blk.kp k (hS h ((hX h).1 HB.h)), H.low, H.s.kp k (fun j hj => hS j ((hX j).1 (.inr (.inl hj)))), H.t.kp k (fun j hj => hS j ((hX j).1 (.inr (.inr (.inl hj))))), H.a.kp k (fun j hj => hS j ((hX j).1 (.inr (.inr (.inr hj))))), H.hs, H.ht, H.ha⟩, hI, hok, hX, hM⟩

theorem HSet.same {M' : Nat → Prop} (H : HSet w base h n X M) (e : ∀ x, M x ↔ M' x) : HSet w base h n X M' := by
  obtain ⟨vs, vt, va, m, T, Q, H, hI, hok, hX, hM⟩ := H
  exact ⟨vs, vt, va, m, T, Q, H, hI, hok, hX, fun x => (hM x).trans (e x)⟩

theorem HSet.new (hn : n ≤ 1048576) (w : World) : Calls Tryd.prog 45 #[.int .i64 n] w fun e w' => ∃ h X, e = .returned (.pointer (some ⟨h, 0, none⟩)) ∧ HSet w' w.heap.size h n X (fun _ => False) ∧ Kp (fun _ => False) w w' :=
  (heap_New n hn w).mono (by
    rintro e w' ⟨h, vs, va, he, H, hK⟩
    refine ⟨h, _, he, ⟨vs, _, va, 0, _, _, H, ⟨fun i hi => by omega, fun x _ => .inl rfl⟩, fun j _ hj => by omega, fun _ => Iff.rfl, fun x => ?_⟩, hK⟩
    constructor
    · rintro ⟨j, hj, _⟩; omega
    · exact fun h => h.elim)

theorem HSet.push (H : HSet w base h n X M) (hn : n ≤ 1048576) {id : Nat} (hid : id < n) (hm : ¬ M id) :
    Calls Tryd.prog 46 #[.pointer (some ⟨h, 0, none⟩), .int .i64 id] w fun e w' => e = .returned (.int .i64 0) ∧ ∃ X', HSet w' base h n X' (fun x => M x ∨ x = id) ∧ (∀ j, X' j → X j ∨ w.heap.size ≤ j) ∧ Kp X w w' := by
  obtain ⟨vs, vt, va, m, T, Q, H, hI, hok, hX, hM⟩ := H
  have hq : Q id < 0 := by
    rcases hI.there id hid with e | ⟨i, hi, _, e⟩
    · omega
    · exact absurd ((hM id).1 ⟨i, hi, e⟩) hm
  have hroom := hI.room hid hq
  refine (hf_Push H hI hok hn (by omega) hid hq).mono ?_
  rintro e w' ⟨he, vt', T', Q', H', hI', hok', hat, hsub, hK⟩
  refine ⟨he, HB h vs vt' va, ⟨vs, vt', va, m + 1, T', Q', H', hI', hok', fun _ => Iff.rfl, fun x => ?_⟩, ?_, hK.mono (fun j _ hj => (hX j).1 hj)⟩
  · rw [hsub.iff x]
    constructor
    · rintro ⟨j, hj, e⟩
      by_cases ej : j = m
      · subst ej; rw [up1_at] at e; exact .inr e.symm
      · rw [up1_off _ _ ej] at e; exact .inl ((hM x).1 ⟨j, by omega, e⟩)
    · rintro (h | h)
      · obtain ⟨j, hj, e⟩ := (hM x).2 h
        exact ⟨j, by omega, by rw [up1_off _ _ (by omega)]; exact e⟩
      · exact ⟨m, by omega, by rw [up1_at]; exact h.symm⟩
  · intro j hj
    rcases hj with e | e | e | e
    · exact .inl ((hX j).1 (.inl e))
    · exact .inl ((hX j).1 (.inr (.inl e)))
    · rcases hat with e2 | ⟨g, e2, hg⟩
      · exact .inl ((hX j).1 (.inr (.inr (.inl (e2 ▸ e)))))
      · rw [e2] at e
        have : g = j := by simpa using e
        exact .inr (by omega)
    · exact .inl ((hX j).1 (.inr (.inr (.inr e))))

theorem HSet.pop (H : HSet w base h n X M) (hn : n ≤ 1048576) (hm : ∃ x, M x) :
    Calls Tryd.prog 47 #[.pointer (some ⟨h, 0, none⟩)] w fun e w' => ∃ id : Nat, id < n ∧ e = .returned (.tuple #[.int .i64 id, .bool true]) ∧ M id ∧ (∀ x, M x → id ≤ x) ∧ HSet w' base h n X (fun x => M x ∧ x ≠ id) ∧ Kp X w w' := by
  obtain ⟨vs, vt, va, m, T, Q, H, hI, hok, hX, hM⟩ := H
  obtain ⟨x, hx⟩ := hm
  obtain ⟨j0, hj0, _⟩ := (hM x).2 hx
  obtain ⟨m', rfl⟩ : ∃ m', m = m' + 1 := ⟨m - 1, by omega⟩
  have hmost := hI.most
  refine (hf_Pop H hI hok hn (by omega)).mono ?_
  rintro e w' ⟨id, hid, he, hmem, hleast, vt', T', Q', H', hI', hok', hat, hset, hK⟩
  refine ⟨id, hid, he, (hM id).1 hmem, fun x hx => ?_, ⟨vs, vt', va, m', T', Q', H', hI', hok', fun j => ?_, fun x => ?_⟩, hK.mono (fun j _ hj => (hX j).1 hj)⟩
  · obtain ⟨j, hj, rfl⟩ := (hM x).2 hx
    have := hleast j hj
    rw [ah_zero] at this
    omega
  · rw [← hX j]
    unfold HB
    rw [hat]
  · rw [hset x, hM x]
    exact And.comm

theorem HSet.pop0 (H : HSet w base h n X M) (hm : ∀ x, ¬ M x) :
    Calls Tryd.prog 47 #[.pointer (some ⟨h, 0, none⟩)] w fun e w' => e = .returned (.tuple #[.int .i64 0, .bool false]) ∧ w = w' := by
  obtain ⟨vs, vt, va, m, T, Q, H, hI, hok, hX, hM⟩ := H
  cases m with
  | zero => exact hf_Pop0 H
  | succ m => exact absurd ((hM (T 0)).1 ⟨0, by omega, rfl⟩) (hm _)
end

end Go.Proofs.YtmjcpapcmbgkjaaDoor

/-
  Maps of the call's own from numbers to truths, and to numbers.
-/
namespace Go.Proofs.YtmjcpapcmbgkjaaDoor
open Go.RowKit
open Go.Maps (Keyed)

theorem intk_keyed : Keyed Tryd.prog 3 := Maps.int_keyed Tryd.underlying3

def okInt (x : Int) : Prop := -9223372036854775808 ≤ x ∧ x ≤ 9223372036854775807
theorem okInt.wf {x : Int} (h : okInt x) : (Lit.int .i64 x).wf = true := by
  unfold okInt at h
  simp [Lit.wf, IntKind.min, IntKind.max, IntKind.signed, IntKind.bits]; omega
theorem intk_key {x : Int} (h : okInt x) : keyOf Tryd.prog 3 (.int .i64 x) = some (.int .i64 x) := Maps.keyOf_int_mk Tryd.underlying3 h.wf

theorem boolv_elem {H : Type} {P : Program} {e : TypeId} (he : P.underlying e = some .bool) {v : Value} {x : Bool} {ps : List MemPlace} (h : plainElem (H := H) P e v = some (.lit (.bool x), ps)) : v = .bool x := by
  unfold plainElem at h
  rw [he] at h
  cases v <;> simp at h
  rw [h.1]

/-- block b is a map in which F tells what stands by each number -/
def IMB (w : World) (b n : Nat) (F : Int → Bool) : Prop :=
  ∃ D : DataW Unit, w.ownsMap Tryd.prog 3 (plainElem Tryd.prog 4) b n D ∧ Maps.IsMap D ∧ ∀ x, okInt x → D.atKey (.int .i64 x) (.lit (.bool false)) = .lit (.bool (F x))

theorem IMB.made (w : World) : IMB (w.alloc (.map #[] 0)) w.heap.size 0 (fun _ => false) :=
  ⟨.map [], World.ownsMap_made _ _ _ _, Maps.isMap_empty, fun x _ => by simp [DataW.atKey]⟩

theorem IMB.lt {w : World} {b n : Nat} {F : Int → Bool} (h : IMB w b n F) : b < w.heap.size := by
  obtain ⟨D, h, _⟩ := h
  exact h.lt

theorem IMB.kp {S : Nat → Prop} {w w' : World} {b n : Nat} {F : Int → Bool} (h : IMB w b n F) (k : Kp S w w') (hS : ¬ S b) : IMB w' b n F := by
  have hb := h.lt
  obtain ⟨D, ⟨es, clock, h1, h2⟩, h3⟩ := h
  exact ⟨D, ⟨es, clock, (k.block b hb hS).trans h1, h2⟩, h3⟩

theorem IMB.look {w : World} {b n : Nat} {F : Int → Bool} (h : IMB w b n F) {x : Int} (hx : okInt x) :
    (Instr.lookup 79 (.map (some b)) (.int .i64 x) false).run Tryd.prog w = .ok (.bool (F x)) w := by
  obtain ⟨D, h1, _, h2⟩ := h
  obtain ⟨v, ps, hr, hv⟩ := h1.lookup intk_keyed Tryd.underlying79 (Tryd.zeroValue4 w) (plainElem_bool Tryd.underlying4 false) (intk_key hx)
  rw [h2 x hx] at hv
  rw [boolv_elem Tryd.underlying4 hv] at hr
  exact hr

theorem IMB.put {w : World} {b n : Nat} {F : Int → Bool} (h : IMB w b n F) (hn : n < maxLen) {x : Int} (hx : okInt x) (v : Bool) :
    ∃ w', (Instr.mapUpdate 79 (.map (some b)) (.int .i64 x) (.bool v)).run Tryd.prog w = .ok () w' ∧ IMB w' b (n + 1) (fun y => if y = x then v else F y) ∧ Kp (· = b) w w' := by
  obtain ⟨D, h1, hD, h2⟩ := h
  obtain ⟨w', hr, h3, hg⟩ := h1.update intk_keyed Tryd.underlying79 hn (intk_key hx) (plainElem_bool Tryd.underlying4 v)
  refine ⟨w', hr, ⟨_, h3, hD.put _ _, fun y hy => ?_⟩, (Kp.refl _ w).grown hg (fun j hj _ => by simpa using hj.symm)⟩
  show _ = DataW.lit (.bool (if y = x then v else F y))
  by_cases e : y = x
  · subst e
    rw [Maps.atKey_put_same hD (intk_keyed.key (intk_key hx)), if_pos rfl]
  · rw [if_neg e, Maps.atKey_put_other (fun h => e (by simpa using h)), h2 y hy]

/-- block b is a map in which F tells what stands by each number, if something does -/
def IMI (w : World) (b n : Nat) (F : Int → Option Int) : Prop :=
  ∃ D : DataW Unit, w.ownsMap Tryd.prog 3 (plainElem Tryd.prog 3) b n D ∧ Maps.IsMap D ∧ ∀ x, okInt x → D.atKey (.int .i64 x) (.lit (.int .i64 0)) = .lit (.int .i64 ((F x).getD 0)) ∧ Maps.has D (.int .i64 x) = (F x).isSome

theorem IMI.made (w : World) : IMI (w.alloc (.map #[] 0)) w.heap.size 0 (fun _ => none) :=
  ⟨.map [], World.ownsMap_made _ _ _ _, Maps.isMap_empty, fun x _ => ⟨by simp [DataW.atKey], rfl⟩⟩

theorem IMI.lt {w : World} {b n : Nat} {F : Int → Option Int} (h : IMI w b n F) : b < w.heap.size := by
  obtain ⟨D, h, _⟩ := h
  exact h.lt

theorem IMI.kp {S : Nat → Prop} {w w' : World} {b n : Nat} {F : Int → Option Int} (h : IMI w b n F) (k : Kp S w w') (hS : ¬ S b) : IMI w' b n F := by
  have hb := h.lt
  obtain ⟨D, ⟨es, clock, h1, h2⟩, h3⟩ := h
  exact ⟨D, ⟨es, clock, (k.block b hb hS).trans h1, h2⟩, h3⟩

theorem IMI.look {w : World} {b n : Nat} {F : Int → Option Int} (h : IMI w b n F) {x : Int} (hx : okInt x) :
    (Instr.lookup 92 (.map (some b)) (.int .i64 x) true).run Tryd.prog w = .ok (.tuple #[.int .i64 ((F x).getD 0), .bool (F x).isSome]) w := by
  obtain ⟨D, h1, _, h2⟩ := h
  obtain ⟨v, ps, hr, hv⟩ := h1.look_ok intk_keyed Tryd.underlying92 (Tryd.zeroValue3 w) (plainElem_int Tryd.underlying3 (q := .i64) (a := 0) (by decide)) (intk_key hx)
  rw [(h2 x hx).1] at hv
  obtain ⟨c, rfl, hc, _⟩ := plainElem_int_inv Tryd.underlying3 hv
  simp only [Prod.mk.injEq, DataW.lit.injEq, Lit.int.injEq, true_and] at hc
  rw [(h2 x hx).2, ← hc.1] at hr
  exact hr

theorem IMI.put {w : World} {b n : Nat} {F : Int → Option Int} (h : IMI w b n F) (hn : n < maxLen) {x : Int} (hx : okInt x) {v : Int} (hv : okInt v) :
    ∃ w', (Instr.mapUpdate 92 (.map (some b)) (.int .i64 x) (.int .i64 v)).run Tryd.prog w = .ok () w' ∧ IMI w' b (n + 1) (fun y => if y = x then some v else F y) ∧ Kp (· = b) w w' := by
  obtain ⟨D, h1, hD, h2⟩ := h
  obtain ⟨w', hr, h3, hg⟩ := h1.update intk_keyed Tryd.underlying92 hn (intk_key hx) (plainElem_int Tryd.underlying3 hv.wf)
  refine ⟨w', hr, ⟨_, h3, hD.put _ _, fun y hy => ?_⟩, (Kp.refl _ w).grown hg (fun j hj _ => by simpa using hj.symm)⟩
  show _ = DataW.lit (.int .i64 ((if y = x then some v else F y).getD 0)) ∧ _ = (if y = x then some v else F y).isSome
  by_cases e : y = x
  · subst e
    rw [Maps.atKey_put_same hD (intk_keyed.key (intk_key hx)), Maps.has_put_same hD (intk_keyed.key (intk_key hx)), if_pos rfl]
    exact ⟨rfl, rfl⟩
  · rw [if_neg e, Maps.atKey_put_other (fun h => e (by simpa using h)), Maps.has_put_other (fun h => e (by simpa using h))]
    exact h2 y hy

end Go.Proofs.YtmjcpapcmbgkjaaDoor

/-
  What circ.Order keeps in memory: the map of places, what is lacking, what is above, the heap, and the order so far.
-/
namespace Go.Proofs.YtmjcpapcmbgkjaaDoor
open Go.RowKit

def nv (l : List Nat) : List Value := l.map (fun (i : Nat) => Value.int .i64 (i : Int))
theorem nv_length (l : List Nat) : (nv l).length = l.length := List.length_map ..
theorem nv_snoc (l : List Nat) (i : Nat) : nv (l ++ [i]) = nv l ++ [.int .i64 (i : Int)] := by simp [nv]
def gn (l : List Nat) (k : Nat) : Nat := l[k]?.getD 0
theorem nv_at {l : List Nat} {k : Nat} (h : k < l.length) : (nv l)[k]? = some (.int .i64 (gn l k : Int)) := by
  unfold nv gn; rw [List.getElem?_map, List.getElem?_eq_getElem h]; rfl
theorem gn_mem {l : List Nat} {k : Nat} (h : k < l.length) : gn l k ∈ l := by
  unfold gn; rw [List.getElem?_eq_getElem h]; exact List.getElem_mem h

/-- the memory of circ.Order -/
structure OS (w : World) (bp gl ga h n np : Nat) (F : Int → Option Int) (L : Nat → Int) (R : Nat → Value) (A : Nat → List Nat) (X M : Nat → Prop) (vo : Value) (out : List Nat) (wr : World) : Prop where
  pl : IMI wr bp np F
  la : Blk wr gl (zts L n).toArray 3
  ab : Blk wr ga (rowF R n).toArray 22
  ow : ∀ k, k < n → Own wr w.heap.size 3 (R k) (nv (A k))
  hp : HSet wr w.heap.size h n X M
  oo : Own wr w.heap.size 3 vo (nv out)
  kp : Kp (fun _ => False) w wr
  lo : w.heap.size ≤ bp ∧ w.heap.size ≤ gl ∧ w.heap.size ≤ ga
  d1 : bp ≠ gl ∧ bp ≠ ga ∧ gl ≠ ga ∧ ¬ X bp ∧ ¬ X gl ∧ ¬ X ga
  d2 : ∀ k, k < n → ∀ j, (R k).ownBlock = some j → j ≠ bp ∧ j ≠ gl ∧ j ≠ ga ∧ ¬ X j
  d3 : ∀ k k', k < n → k' < n → k ≠ k' → ∀ j, (R k).ownBlock = some j → (R k').ownBlock ≠ some j
  d4 : ∀ j, vo.ownBlock = some j → j ≠ bp ∧ j ≠ gl ∧ j ≠ ga ∧ ¬ X j ∧ ∀ k, k < n → (R k).ownBlock ≠ some j

section
variable {w wr wr' : World} {bp gl ga h n np : Nat} {F : Int → Option Int} {L : Nat → Int} {R : Nat → Value} {A : Nat → List Nat} {X M : Nat → Prop} {vo : Value} {out : List Nat}

theorem OS.fresh (H : OS w bp gl ga h n np F L R A X M vo out wr) (k : Kp (fun _ => False) wr wr') : OS w bp gl ga h n np F L R A X M vo out wr' :=
  ⟨H.pl.kp k (fun h => h), H.la.kp k (fun h => h), H.ab.kp k (fun h => h), fun i hi => (H.ow i hi).kp k (fun _ _ h => h), H.hp.kp k (fun _ _ h => h), H.oo.kp k (fun _ _ h => h), H.kp.trans k (fun _ _ h => h), H.lo, H.d1, H.d2, H.d3, H.d4⟩

theorem OS.same {L' : Nat → Int} {A' : Nat → List Nat} {M' : Nat → Prop} (H : OS w bp gl ga h n np F L R A X M vo out wr) (h1 : ∀ k, k < n → L k = L' k) (h2 : ∀ k, k < n → A k = A' k) (h3 : ∀ x, M x ↔ M' x) : OS w bp gl ga h n np F L' R A' X M' vo out wr :=
  ⟨H.pl, by rw [← zts_congr h1]; exact H.la, H.ab, fun i hi => by rw [← h2 i hi]; exact H.ow i hi, H.hp.same h3, H.oo, H.kp, H.lo, H.d1, H.d2, H.d3, H.d4⟩

theorem OS.cellL (H : OS w bp gl ga h n np F L R A X M vo out wr) {k : Nat} (hk : k < n) : wr.cell? ⟨gl, k, none⟩ = some (.int .i64 (L k)) :=
  H.la.cell (by have := zts_at (T := L) hk; simpa using this)
theorem OS.freeL (H : OS w bp gl ga h n np F L R A X M vo out wr) (k : Nat) : wr.frozen? ⟨gl, k, none⟩ = false := H.la.free k
theorem OS.cellA (H : OS w bp gl ga h n np F L R A X M vo out wr) {k : Nat} (hk : k < n) : wr.cell? ⟨ga, k, none⟩ = some (R k) :=
  H.ab.cell (by have := rowF_at (f := R) hk; simpa using this)
theorem OS.freeA (H : OS w bp gl ga h n np F L R A X M vo out wr) (k : Nat) : wr.frozen? ⟨ga, k, none⟩ = false := H.ab.free k

theorem OS.setL (H : OS w bp gl ga h n np F L R A X M vo out wr) (k : Nat) (x : Int) : OS w bp gl ga h n np F (up1 L k x) R A X M vo out (wr.setCell ⟨gl, k, none⟩ (.int .i64 x)) := by
  have hK : Kp (fun j => j = gl) wr (wr.setCell ⟨gl, k, none⟩ (.int .i64 x)) := Kp.set wr ⟨gl, k, none⟩ _
  refine ⟨H.pl.kp hK H.d1.1, ?_, H.ab.kp hK (fun e => H.d1.2.2.1 e.symm), fun i hi => (H.ow i hi).kp hK (fun j hj e => (H.d2 i hi j hj).2.1 e), H.hp.kp hK (fun j hj e => H.d1.2.2.2.2.1 (e ▸ hj)), H.oo.kp hK (fun j hj e => (H.d4 j hj).2.1 e), H.kp.setCell (p := ⟨gl, k, none⟩) (fun hl => by have := H.lo.2.1; exact absurd hl (Nat.not_lt.2 this)) _, H.lo, H.d1, H.d2, H.d3, H.d4⟩
  have := H.la.set_same k (.int .i64 x)
  have e : (zts L n).toArray.setIfInBounds k (.int .i64 x) = ((zts L n).set k (.int .i64 x)).toArray := by simp
  rw [e, zts_set] at this
  exact this

/-- one more gate above gate k -/
theorem OS.snoc {w1 w2 : World} {v' : Value} {i k : Nat} (H : OS w bp gl ga h n np F L R A X M vo out wr) (hk : k < n) (hK : Kp (fun _ => False) wr w1)
    (hO : Own w2 w.heap.size 3 v' (nv (A k) ++ [.int .i64 (i : Int)])) (hg : w1.grownBy w2 (R k).ownBlock) (hat : v'.ownBlock = (R k).ownBlock ∨ v'.ownBlock = some w1.heap.size) :
    OS w bp gl ga h n np F L (up1 R k v') (up1 A k (A k ++ [i])) X M vo out (w2.setCell ⟨ga, k, none⟩ v') := by
  have H1 := H.fresh hK
  have hKg : Kp (fun j => (R k).ownBlock = some j) w1 w2 := (Kp.refl _ w1).grown hg (fun j hj _ => hj)
  have hsz := hKg.size
  have hKs : Kp (fun j => j = ga) w2 (w2.setCell ⟨ga, k, none⟩ v') := Kp.set w2 ⟨ga, k, none⟩ _
  have hKK : Kp (fun j => (R k).ownBlock = some j ∨ j = ga) w1 (w2.setCell ⟨ga, k, none⟩ v') := (hKg.mono (fun _ _ h => .inl h)).trans hKs (fun _ _ h => .inr h)
  have hv : ∀ j, v'.ownBlock = some j → (R k).ownBlock = some j ∨ w1.heap.size ≤ j := fun j hj => by
    rcases hat with e | e
    · exact .inl (e ▸ hj)
    · rw [e] at hj; right; have : w1.heap.size = j := by simpa using hj
      omega
  have hXlt : ∀ j, X j → j < w1.heap.size := fun j hj => (H1.hp.lt hj).2
  have hRlt : ∀ i, i < n → ∀ j, (R i).ownBlock = some j → j < w1.heap.size := fun i hi j hj => ((H1.ow i hi).lt j hj).2
  have hgl := H1.la.lt
  have hga := H1.ab.lt
  have hbp := H1.pl.lt
  have hne : ∀ j, v'.ownBlock = some j → j ≠ bp ∧ j ≠ gl ∧ j ≠ ga ∧ ¬ X j := fun j hj => by
    rcases hv j hj with e | e
    · exact H.d2 k hk j e
    · exact ⟨by omega, by omega, by omega, fun hx => by have := hXlt j hx; omega⟩
  refine ⟨H1.pl.kp hKK (fun e => ?_), H1.la.kp hKK (fun e => ?_), ?_, fun i' hi' => ?_, H1.hp.kp hKK (fun j hj e => ?_), H1.oo.kp hKK (fun j hj e => ?_), ?_, H.lo, H.d1, fun i' hi' j hj => ?_, fun a b ha hb hab j hj => ?_, fun j hj => ?_⟩
  · rcases e with e | e
    · exact (H.d2 k hk _ e).1 rfl
    · exact H.d1.2.1 e
  · rcases e with e | e
    · exact (H.d2 k hk _ e).2.1 rfl
    · exact H.d1.2.2.1 e
  · have hab : Blk w2 ga (rowF R n).toArray 22 := H1.ab.kp hKg (fun e => (H.d2 k hk _ e).2.2.1 rfl)
    have := hab.set_same k v'
    have e : (rowF R n).toArray.setIfInBounds k v' = ((rowF R n).set k v').toArray := by simp
    rw [e, rowF_set] at this
    exact this
  · by_cases e : i' = k
    · subst e
      rw [up1_at, up1_at, nv_snoc]
      exact hO.kp hKs (fun j hj e => (hne j hj).2.2.1 e)
    · rw [up1_off _ _ e, up1_off _ _ e]
      refine (H1.ow i' hi').kp hKK (fun j hj h => ?_)
      rcases h with h | h
      · exact H.d3 i' k hi' hk e j hj h
      · exact (H.d2 i' hi' j hj).2.2.1 h
  · rcases e with e | e
    · exact (H.d2 k hk _ e).2.2.2 hj
    · exact H.d1.2.2.2.2.2 (e ▸ hj)
  · rcases e with e | e
    · exact (H.d4 j hj).2.2.2.2 k hk e
    · exact (H.d4 j hj).2.2.1 e
  · exact (H1.kp.grown hg (fun j hj hl => by have := ((H.ow k hk).lt j hj).1; omega)).setCell (p := ⟨ga, k, none⟩) (fun hl => by have := H.lo.2.2; exact absurd hl (Nat.not_lt.2 this)) _
  · by_cases e : i' = k
    · subst e; rw [up1_at] at hj; exact hne j hj
    · rw [up1_off _ _ e] at hj; exact H.d2 i' hi' j hj
  · by_cases ea : a = k
    · subst ea
      rw [up1_at] at hj
      rw [up1_off _ _ (fun e => hab e.symm)]
      intro hb'
      rcases hv j hj with h | h
      · exact H.d3 a b ha hb hab j h hb'
      · have := hRlt b hb j hb'; omega
    · rw [up1_off _ _ ea] at hj
      by_cases eb : b = k
      · subst eb
        rw [up1_at]
        intro hb'
        rcases hv j hb' with h | h
        · exact H.d3 a b ha hb hab j hj h
        · have := hRlt a ha j hj; omega
      · rw [up1_off _ _ eb]; exact H.d3 a b ha hb hab j hj
  · obtain ⟨q1, q2, q3, q4, q5⟩ := H.d4 j hj
    refine ⟨q1, q2, q3, q4, fun i' hi' => ?_⟩
    by_cases e : i' = k
    · subst e
      rw [up1_at]
      intro hb
      rcases hv j hb with h | h
      · exact q5 i' hi' h
      · have := (H1.oo.lt j hj).2; omega
    · rw [up1_off _ _ e]; exact q5 i' hi'

/-- the order grows -/
theorem OS.outS {w1 w2 : World} {v' : Value} {i : Nat} (H : OS w bp gl ga h n np F L R A X M vo out wr) (hK : Kp (fun _ => False) wr w1)
    (hO : Own w2 w.heap.size 3 v' (nv out ++ [.int .i64 (i : Int)])) (hg : w1.grownBy w2 vo.ownBlock) (hat : v'.ownBlock = vo.ownBlock ∨ v'.ownBlock = some w1.heap.size) :
    OS w bp gl ga h n np F L R A X M v' (out ++ [i]) w2 := by
  have H1 := H.fresh hK
  have hKg : Kp (fun j => vo.ownBlock = some j) w1 w2 := (Kp.refl _ w1).grown hg (fun j hj _ => hj)
  have hXlt : ∀ j, X j → j < w1.heap.size := fun j hj => (H1.hp.lt hj).2
  have hRlt : ∀ i, i < n → ∀ j, (R i).ownBlock = some j → j < w1.heap.size := fun i hi j hj => ((H1.ow i hi).lt j hj).2
  have hgl := H1.la.lt
  have hga := H1.ab.lt
  have hbp := H1.pl.lt
  refine ⟨H1.pl.kp hKg (fun e => (H.d4 _ e).1 rfl), H1.la.kp hKg (fun e => (H.d4 _ e).2.1 rfl), H1.ab.kp hKg (fun e => (H.d4 _ e).2.2.1 rfl), fun k hk => (H1.ow k hk).kp hKg (fun j hj e => (H.d4 j e).2.2.2.2 k hk hj), H1.hp.kp hKg (fun j hj e => (H.d4 j e).2.2.2.1 hj), by rw [nv_snoc]; exact hO, H1.kp.grown hg (fun j hj hl => by have := (H.oo.lt j hj).1; omega), H.lo, H.d1, H.d2, H.d3, fun j hj => ?_⟩
  rcases hat with e | e
  · exact H.d4 j (e ▸ hj)
  · rw [e] at hj
    have hj' : w1.heap.size = j := by simpa using hj
    exact ⟨by omega, by omega, by omega, fun hx => by have := hXlt j hx; omega, fun k hk hb => by have := hRlt k hk j hb; omega⟩

theorem OS.push (H : OS w bp gl ga h n np F L R A X M vo out wr) (hn : n ≤ 1048576) {id : Nat} (hid : id < n) (hm : ¬ M id) :
    Calls Tryd.prog 46 #[.pointer (some ⟨h, 0, none⟩), .int .i64 id] wr fun e w' => e = .returned (.int .i64 0) ∧ ∃ X', OS w bp gl ga h n np F L R A X' (fun x => M x ∨ x = id) vo out w' :=
  (H.hp.push hn hid hm).mono (by
    rintro e w' ⟨he, X', hp', hX', hK⟩
    have hgl := H.la.lt
    have hga := H.ab.lt
    have hbp := H.pl.lt
    have no : ∀ j, j < wr.heap.size → ¬ X j → ¬ X' j := fun j hj hx h => by
      rcases hX' j h with h | h
      · exact hx h
      · omega
    exact ⟨he, X', H.pl.kp hK H.d1.2.2.2.1, H.la.kp hK H.d1.2.2.2.2.1, H.ab.kp hK H.d1.2.2.2.2.2, fun k hk => (H.ow k hk).kp hK (fun j hj => (H.d2 k hk j hj).2.2.2), hp', H.oo.kp hK (fun j hj => (H.d4 j hj).2.2.2.1), H.kp.trans hK (fun j hj hx => by have := (H.hp.lt hx).1; omega), H.lo,
      ⟨H.d1.1, H.d1.2.1, H.d1.2.2.1, no _ hbp H.d1.2.2.2.1, no _ hgl H.d1.2.2.2.2.1, no _ hga H.d1.2.2.2.2.2⟩,
      fun k hk j hj => ⟨(H.d2 k hk j hj).1, (H.d2 k hk j hj).2.1, (H.d2 k hk j hj).2.2.1, no j ((H.ow k hk).lt j hj).2 (H.d2 k hk j hj).2.2.2⟩, H.d3,
      fun j hj => ⟨(H.d4 j hj).1, (H.d4 j hj).2.1, (H.d4 j hj).2.2.1, no j (H.oo.lt j hj).2 (H.d4 j hj).2.2.2.1, (H.d4 j hj).2.2.2.2⟩⟩)

theorem OS.pop (H : OS w bp gl ga h n np F L R A X M vo out wr) (hn : n ≤ 1048576) (hm : ∃ x, M x) :
    Calls Tryd.prog 47 #[.pointer (some ⟨h, 0, none⟩)] wr fun e w' => ∃ id : Nat, id < n ∧ e = .returned (.tuple #[.int .i64 id, .bool true]) ∧ M id ∧ (∀ x, M x → id ≤ x) ∧ OS w bp gl ga h n np F L R A X (fun x => M x ∧ x ≠ id) vo out w' :=
  (H.hp.pop hn hm).mono (by
    rintro e w' ⟨id, hid, he, h1, h2, hp', hK⟩
    exact ⟨id, hid, he, h1, h2, H.pl.kp hK H.d1.2.2.2.1, H.la.kp hK H.d1.2.2.2.2.1, H.ab.kp hK H.d1.2.2.2.2.2, fun k hk => (H.ow k hk).kp hK (fun j hj => (H.d2 k hk j hj).2.2.2), hp', H.oo.kp hK (fun j hj => (H.d4 j hj).2.2.2.1), H.kp.trans hK (fun j hj hx => by have := (H.hp.lt hx).1; omega), H.lo, H.d1, H.d2, H.d3, H.d4⟩)

theorem OS.pop0 (H : OS w bp gl ga h n np F L R A X M vo out wr) (hm : ∀ x, ¬ M x) :
    Calls Tryd.prog 47 #[.pointer (some ⟨h, 0, none⟩)] wr fun e w' => e = .returned (.tuple #[.int .i64 0, .bool false]) ∧ wr = w' := H.hp.pop0 hm

end

/-- which gate a variable is, by the first k gates -/
def placeF (G : List (Int × Int × Int)) : Nat → Int → Option Int
  | 0 => fun _ => none
  | k + 1 => fun y => if y = (g3 G k).1 / 2 then some (k : Int) else placeF G k y

theorem placeF_some {G : List (Int × Int × Int)} : ∀ {n : Nat} {y v : Int}, placeF G n y = some v → ∃ k : Nat, v = k ∧ k < n ∧ (g3 G k).1 / 2 = y
  | 0, _, _, h => by simp [placeF] at h
  | n + 1, y, v, h => by
    unfold placeF at h
    by_cases e : y = (g3 G n).1 / 2
    · simp only [e, if_true, Option.some.injEq] at h
      exact ⟨n, h.symm, by omega, e.symm⟩
    · simp only [e, if_false] at h
      obtain ⟨k, h1, h2, h3⟩ := placeF_some h
      exact ⟨k, h1, by omega, h3⟩

theorem placeF_isSome {G : List (Int × Int × Int)} : ∀ {n : Nat} {y : Int}, (placeF G n y).isSome = true ↔ ∃ k, k < n ∧ (g3 G k).1 / 2 = y
  | 0, y => by simp [placeF]
  | n + 1, y => by
    unfold placeF
    by_cases e : y = (g3 G n).1 / 2
    · simp only [e, if_true, Option.isSome_some, true_iff]
      exact ⟨n, by omega, rfl⟩
    · simp only [e, if_false, placeF_isSome]
      constructor
      · rintro ⟨k, h1, h2⟩; exact ⟨k, by omega, h2⟩
      · rintro ⟨k, h1, h2⟩
        refine ⟨k, ?_, h2⟩
        have : k ≠ n := fun ek => e (by rw [← h2, ek])
        omega

theorem waits_nil {G : List (Int × Int × Int)} {l : Int} : waitsB G [] l = (placeF G G.length (l / 2)).isSome := by
  rw [Bool.eq_iff_iff, waitsB_iff, placeF_isSome]
  simp

/-- above and lacking while gate i's literals are gone through -/
def abvP (G : List (Int × Int × Int)) (i q k : Nat) : List Nat := aboveL G k i ++ (((pins G i).take q).filter (fun p => decide (p / 2 = (g3 G k).1 / 2))).map (fun _ => i)
def cntP (G : List (Int × Int × Int)) (i q : Nat) : Nat := (((pins G i).take q).filter (waitsB G [])).length
def lackP (G : List (Int × Int × Int)) (i q k : Nat) : Int := if k < i then (cntO G [] k : Int) else if k = i then (cntP G i q : Int) else 0

theorem aboveL_len (G : List (Int × Int × Int)) (k : Nat) : ∀ i, (aboveL G k i).length ≤ 2 * i
  | 0 => by simp [aboveL]
  | i + 1 => by
    unfold aboveL
    rw [List.length_append, List.length_map]
    have := aboveL_len G k i
    have := List.length_filter_le (fun p => decide (p / 2 = (g3 G k).1 / 2)) (pins G i)
    have : (pins G i).length = 2 := rfl
    omega
theorem abvP_len (G : List (Int × Int × Int)) (i q k : Nat) : (abvP G i q k).length ≤ 2 * i + 2 := by
  unfold abvP
  rw [List.length_append, List.length_map]
  have := aboveL_len G k i
  have := List.length_filter_le (fun p => decide (p / 2 = (g3 G k).1 / 2)) ((pins G i).take q)
  have : ((pins G i).take q).length ≤ 2 := by rw [List.length_take, show (pins G i).length = 2 from rfl]; omega
  omega

theorem abvP_zero (G : List (Int × Int × Int)) (i k : Nat) : abvP G i 0 k = aboveL G k i := by simp [abvP]
theorem abvP_two (G : List (Int × Int × Int)) (i k : Nat) : abvP G i 2 k = aboveL G k (i + 1) := by simp [abvP, aboveL, pins]
theorem lackP_two (G : List (Int × Int × Int)) (i k : Nat) : lackP G i 2 k = lackP G (i + 1) 0 k := by
  unfold lackP cntP
  by_cases h1 : k < i
  · rw [if_pos h1, if_pos (by omega)]
  · rw [if_neg h1]
    by_cases h2 : k = i
    · subst h2
      rw [if_pos rfl, if_pos (by omega)]
      simp [cntO, pins]
    · rw [if_neg h2, if_neg (by omega)]
      by_cases h3 : k = i + 1
      · rw [if_pos h3]; simp
      · rw [if_neg h3]

def gpin (G : List (Int × Int × Int)) (i q : Nat) : Int := gi (pins G i) q
theorem pins_take {G : List (Int × Int × Int)} {i q : Nat} (h : q < 2) : (pins G i).take (q + 1) = (pins G i).take q ++ [gpin G i q] := take_gi (by simpa [pins] using h)

theorem pin_hit {G : List (Int × Int × Int)} (hG : GoodG G) {i q k : Nat} (hq : q < 2) (hk : k < G.length) (hp : (g3 G k).1 / 2 = gpin G i q / 2) :
    (∀ x, x < G.length → up1 (abvP G i q) k (abvP G i q k ++ [i]) x = abvP G i (q + 1) x) ∧ (∀ x, up1 (lackP G i q) i (lackP G i q i + 1) x = lackP G i (q + 1) x) := by
  refine ⟨fun x hx => ?_, fun x => ?_⟩
  · by_cases e : x = k
    · subst e
      rw [up1_at]
      unfold abvP
      rw [pins_take hq, List.filter_append, List.map_append, ← List.append_assoc]
      congr 1
      simp [hp]
    · rw [up1_off _ _ e]
      unfold abvP
      rw [pins_take hq, List.filter_append, List.map_append]
      have : ¬ gpin G i q / 2 = (g3 G x).1 / 2 := fun h => e (hG x k hx hk (h.symm.trans hp.symm))
      simp [this]
  · have hw : waitsB G [] (gpin G i q) = true := waitsB_iff.2 ⟨k, hk, by simp, hp⟩
    by_cases e : x = i
    · subst e
      rw [up1_at]
      unfold lackP cntP
      rw [if_neg (by omega), if_pos rfl, if_neg (by omega), if_pos rfl, pins_take hq, List.filter_append, List.length_append]
      simp [hw]
    · rw [up1_off _ _ e]
      unfold lackP
      simp only [e, if_false]

theorem pin_miss {G : List (Int × Int × Int)} {i q : Nat} (hq : q < 2) (hp : waitsB G [] (gpin G i q) = false) :
    (∀ x, x < G.length → abvP G i q x = abvP G i (q + 1) x) ∧ (∀ x, lackP G i q x = lackP G i (q + 1) x) := by
  refine ⟨fun x hx => ?_, fun x => ?_⟩
  · unfold abvP
    rw [pins_take hq, List.filter_append, List.map_append]
    have : ¬ gpin G i q / 2 = (g3 G x).1 / 2 := fun h => by
      have : waitsB G [] (gpin G i q) = true := waitsB_iff.2 ⟨x, hx, by simp, h.symm⟩
      rw [hp] at this; cases this
    simp [this]
  · unfold lackP cntP
    rw [pins_take hq, List.filter_append]
    simp [hp]

/-- what is lacking while those above gate i are gone through -/
def lackQ (G : List (Int × Int × Int)) (out : List Nat) (i q k : Nat) : Int := (cntO G out k : Int) - (((aboveL G i G.length).take q).count k : Int)

theorem take_gn {l : List Nat} {q : Nat} (h : q < l.length) : l.take (q + 1) = l.take q ++ [gn l q] := by
  rw [List.take_succ_eq_append_getElem h]
  unfold gn
  rw [List.getElem?_eq_getElem h]
  rfl

theorem lackQ_zero (G : List (Int × Int × Int)) (out : List Nat) (i k : Nat) : lackQ G out i 0 k = (cntO G out k : Int) := by simp [lackQ]
theorem lackQ_step {G : List (Int × Int × Int)} {out : List Nat} {i q : Nat} (hq : q < (aboveL G i G.length).length) (x : Nat) :
    up1 (lackQ G out i q) (gn (aboveL G i G.length) q) (lackQ G out i q (gn (aboveL G i G.length) q) - 1) x = lackQ G out i (q + 1) x := by
  by_cases e : x = gn (aboveL G i G.length) q
  · subst e
    rw [up1_at]
    unfold lackQ
    rw [take_gn hq, List.count_append]
    simp
    omega
  · rw [up1_off _ _ e]
    unfold lackQ
    rw [take_gn hq, List.count_append]
    have : [gn (aboveL G i G.length) q].count x = 0 := by
      rw [List.count_eq_zero]; simpa using e
    rw [this]
    simp
theorem lackQ_at {G : List (Int × Int × Int)} (hG : GoodG G) {out : List Nat} (h : MidO G out) {i q : Nat} (hn : nextO G out = some i) (hq : q < (aboveL G i G.length).length) :
    gn (aboveL G i G.length) q < G.length ∧ 1 ≤ lackQ G out i q (gn (aboveL G i G.length) q) ∧ lackQ G out i q (gn (aboveL G i G.length) q) ≤ 2 ∧ gn (aboveL G i G.length) q ∉ out ++ [i] := by
  have e : aboveL G i G.length = (aboveL G i G.length).take q ++ gn (aboveL G i G.length) q :: (aboveL G i G.length).drop (q + 1) := by
    have h1 := List.take_append_drop (q + 1) (aboveL G i G.length)
    rw [take_gn hq] at h1
    simpa using h1.symm
  obtain ⟨h1, h2, h3⟩ := part_count hG h hn e
  refine ⟨h1, ?_, ?_, h3⟩
  · unfold lackQ; omega
  · unfold lackQ
    have : cntO G out (gn (aboveL G i G.length) q) ≤ 2 := by unfold cntO; exact Nat.le_trans (List.length_filter_le _ _) (by simp [pins])
    omega
theorem lackQ_end {G : List (Int × Int × Int)} (hG : GoodG G) {out : List Nat} {i : Nat} (hn : nextO G out = some i) {k : Nat} (hk : k < G.length) :
    lackQ G out i (aboveL G i G.length).length k = (cntO G (out ++ [i]) k : Int) := by
  obtain ⟨hi, hr⟩ := nextO_some hn
  have := cnt_step hG hi (ready_iff.1 hr).1 hk
  unfold lackQ
  rw [List.take_length]
  omega

/-- between two takings, what is popped lies in two slots -/
def OrdRel (w : World) (bp gl ga h n : Nat) (G : List (Int × Int × Int)) (v15 v16 v17 : Value) (wr : World) : Prop :=
  ∃ (out : List Nat) (R : Nat → Value) (X M : Nat → Prop), MidO G out ∧ OS w bp gl ga h n n (placeF G n) (fun k => (cntO G out k : Int)) R (fun k => aboveL G k n) X M v15 out wr ∧
    ((∃ i : Nat, v16 = .int .i64 i ∧ v17 = .bool true ∧ nextO G out = some i ∧ ∀ x, M x ↔ x < n ∧ x ∉ out ∧ cntO G out x = 0 ∧ x ≠ i) ∨ (v16 = .int .i64 0 ∧ v17 = .bool false ∧ nextO G out = none))

theorem pop_next {w wr : World} {bp gl ga h n : Nat} {G : List (Int × Int × Int)} (hn : G.length = n) (hn1 : n ≤ 1048576) {out : List Nat} {R : Nat → Value} {X M : Nat → Prop} {vo : Value} (hM : MidO G out)
    (H : OS w bp gl ga h n n (placeF G n) (fun k => (cntO G out k : Int)) R (fun k => aboveL G k n) X M vo out wr) (hm : ∀ x, M x ↔ x < n ∧ x ∉ out ∧ cntO G out x = 0) :
    Calls Tryd.prog 47 #[.pointer (some ⟨h, 0, none⟩)] wr fun e w' => ∃ v16 v17, e = .returned (.tuple #[v16, v17]) ∧ OrdRel w bp gl ga h n G vo v16 v17 w' := by
  by_cases hex : ∃ x, M x
  · refine (H.pop hn1 hex).mono ?_
    rintro e w' ⟨id, hid, he, h1, h2, H'⟩
    refine ⟨_, _, he, out, R, X, _, hM, H', .inl ⟨id, rfl, rfl, ?_, fun x => ?_⟩⟩
    · obtain ⟨q1, q2, q3⟩ := (hm id).1 h1
      refine next_of_least (by omega) q2 q3 (fun j hj hjm hz => ?_)
      have := h2 j ((hm j).2 ⟨by omega, hjm, hz⟩)
      omega
    · rw [hm x]
      constructor
      · rintro ⟨⟨a, b, c⟩, d⟩; exact ⟨a, b, c, d⟩
      · rintro ⟨a, b, c, d⟩; exact ⟨⟨a, b, c⟩, d⟩
  · refine (H.pop0 (fun x hx => hex ⟨x, hx⟩)).mono ?_
    rintro e w' ⟨he, rfl⟩
    refine ⟨_, _, he, out, R, X, M, hM, H, .inr ⟨rfl, rfl, next_none (fun j hj hjm hz => hex ⟨j, (hm j).2 ⟨by omega, hjm, hz⟩⟩)⟩⟩

def lenV : Value → Nat
  | .slice _ n _ => n
  | _ => 0

theorem OS.start {w wa w2 : World} {bp gl ga h n : Nat} {F : Int → Option Int} {X : Nat → Prop} (hp : IMI wa bp n F) (hl : Blk wa gl (zts (fun _ => 0) n).toArray 3) (ha : Blk wa ga (rowF (fun _ => .slice none 0 0) n).toArray 22)
    (hK : Kp (fun _ => False) w wa) (hH : HSet w2 wa.heap.size h n X (fun _ => False)) (hK2 : Kp (fun _ => False) wa w2) (lo : w.heap.size ≤ bp ∧ w.heap.size ≤ gl ∧ w.heap.size ≤ ga) (d : bp ≠ gl ∧ bp ≠ ga ∧ gl ≠ ga) :
    OS w bp gl ga h n n F (fun _ => 0) (fun _ => .slice none 0 0) (fun _ => []) X (fun _ => False) (.slice none 0 0) [] w2 := by
  have far : ∀ j, j < wa.heap.size → ¬ X j := fun j hj hx => by have := (hH.lt hx).1; omega
  refine ⟨hp.kp hK2 (fun h => h), hl.kp hK2 (fun h => h), ha.kp hK2 (fun h => h), fun k _ => Own.nil _ _ _, hH.low hK.size, Own.nil _ _ _, hK.trans hK2 (fun _ _ h => h), lo, ⟨d.1, d.2.1, d.2.2, far _ hp.lt, far _ hl.lt, far _ ha.lt⟩, fun k _ j hj => by simp [Value.ownBlock] at hj, fun a b _ _ _ j hj => by simp [Value.ownBlock] at hj, fun j hj => by simp [Value.ownBlock] at hj⟩

theorem lackP_nil (G : List (Int × Int × Int)) (k : Nat) : lackP G 0 0 k = 0 := by
  unfold lackP cntP
  simp

/-- the second loop, at gate i -/
def BuildRel (w : World) (bp gl ga h n : Nat) (G : List (Int × Int × Int)) (i : Nat) (wr : World) : Prop :=
  ∃ (R : Nat → Value) (X : Nat → Prop), OS w bp gl ga h n n (placeF G n) (lackP G i 0) R (fun k => aboveL G k i) X (fun x => x < i ∧ cntO G [] x = 0) (.slice none 0 0) [] wr

/-- in the round of gate i, at its literal q -/
def PinRel (w : World) (bp gl ga h n : Nat) (G : List (Int × Int × Int)) (i q bq : Nat) (x1 x2 : Int) (wr : World) : Prop :=
  ∃ (R : Nat → Value) (X : Nat → Prop), OS w bp gl ga h n n (placeF G n) (lackP G i q) R (abvP G i q) X (fun x => x < i ∧ cntO G [] x = 0) (.slice none 0 0) [] wr ∧
    Blk wr bq #[.int .i64 x1, .int .i64 x2] 3 ∧ bq ≠ gl ∧ bq ≠ ga ∧ ∀ k, k < n → (R k).ownBlock ≠ some bq

theorem OS.abG {w wr w1 w2 : World} {bp gl ga h n np : Nat} {F : Int → Option Int} {L : Nat → Int} {R : Nat → Value} {A : Nat → List Nat} {X M : Nat → Prop} {vo : Value} {out : List Nat} {k : Nat} (H : OS w bp gl ga h n np F L R A X M vo out wr) (hk : k < n) (hK : Kp (fun _ => False) wr w1) (hg : w1.grownBy w2 (R k).ownBlock) :
    Blk w2 ga (rowF R n).toArray 22 :=
  (H.ab.kp hK (fun h => h)).kp (S := fun j => (R k).ownBlock = some j) ((Kp.refl _ w1).grown hg (fun j hj _ => hj)) (fun e => (H.d2 k hk _ e).2.2.1 rfl)

theorem PinRel.hit {w w1 w1' w2 : World} {bp gl ga h n i q k bq : Nat} {x1 x2 c : Int} {G : List (Int × Int × Int)} {R : Nat → Value} {X : Nat → Prop} {v' : Value}
    (H : OS w bp gl ga h n n (placeF G n) (up1 (lackP G i q) i (c + 1)) R (abvP G i q) X (fun x => x < i ∧ cntO G [] x = 0) (.slice none 0 0) [] w1) (hn : G.length = n) (hc : lackP G i q i = c) (hk : k < n)
    (hh : (∀ x, x < G.length → up1 (abvP G i q) k (abvP G i q k ++ [i]) x = abvP G i (q + 1) x) ∧ ∀ x, up1 (lackP G i q) i (lackP G i q i + 1) x = lackP G i (q + 1) x)
    (hB : Blk w1 bq #[.int .i64 x1, .int .i64 x2] 3) (hq1 : bq ≠ gl) (hq2 : bq ≠ ga) (hq3 : ∀ k, k < n → (R k).ownBlock ≠ some bq) (hK : Kp (fun _ => False) w1 w1')
    (hO : Own w2 w.heap.size 3 v' (nv (abvP G i q k) ++ [.int .i64 (i : Int)])) (hg : w1'.grownBy w2 (R k).ownBlock) (hat : v'.ownBlock = (R k).ownBlock ∨ v'.ownBlock = some w1'.heap.size) :
    PinRel w bp gl ga h n G i (q + 1) bq x1 x2 (w2.setCell ⟨ga, k, none⟩ v') := by
  have H2 := H.snoc hk hK hO hg hat
  have hlt := hB.lt
  have hsz := hK.size
  have hKg : Kp (fun j => (R k).ownBlock = some j) w1' w2 := (Kp.refl _ w1').grown hg (fun j hj _ => hj)
  refine ⟨_, X, H2.same (fun x _ => ?_) (fun x hx => hh.1 x (by omega)) (fun _ => Iff.rfl), ((hB.kp hK (fun h => h)).kp hKg (fun e => hq3 k hk e)).set_other (p := ⟨ga, k, none⟩) hq2 _, hq1, hq2, fun k' hk' => ?_⟩
  · rw [← hh.2 x, hc]
  · by_cases e : k' = k
    · subst e
      rw [up1_at]
      intro hb
      rcases hat with e | e
      · exact hq3 k' hk' (e ▸ hb)
      · rw [e] at hb
        have : w1'.heap.size = bq := by simpa using hb
        omega
    · rw [up1_off _ _ e]; exact hq3 k' hk'

theorem BuildRel.push {w wr : World} {bp gl ga h n i : Nat} {G : List (Int × Int × Int)} {R : Nat → Value} {X : Nat → Prop} (hz : cntO G [] i = 0)
    (H : OS w bp gl ga h n n (placeF G n) (lackP G i 2) R (abvP G i 2) X (fun x => (x < i ∧ cntO G [] x = 0) ∨ x = i) (.slice none 0 0) [] wr) : BuildRel w bp gl ga h n G (i + 1) wr :=
  ⟨R, X, H.same (fun k _ => lackP_two G i k) (fun k _ => abvP_two G i k) (fun x => by
    constructor
    · rintro (⟨a, b⟩ | rfl)
      · exact ⟨by omega, b⟩
      · exact ⟨by omega, hz⟩
    · rintro ⟨a, b⟩
      by_cases e : x = i
      · exact .inr e
      · exact .inl ⟨by omega, b⟩)⟩

theorem BuildRel.skip {w wr : World} {bp gl ga h n i : Nat} {G : List (Int × Int × Int)} {R : Nat → Value} {X : Nat → Prop} (hz : cntO G [] i ≠ 0)
    (H : OS w bp gl ga h n n (placeF G n) (lackP G i 2) R (abvP G i 2) X (fun x => x < i ∧ cntO G [] x = 0) (.slice none 0 0) [] wr) : BuildRel w bp gl ga h n G (i + 1) wr :=
  ⟨R, X, H.same (fun k _ => lackP_two G i k) (fun k _ => abvP_two G i k) (fun x => by
    constructor
    · rintro ⟨a, b⟩; exact ⟨by omega, b⟩
    · rintro ⟨a, b⟩
      have : x ≠ i := fun e => hz (e ▸ b)
      exact ⟨by omega, b⟩)⟩

theorem lackP_self (G : List (Int × Int × Int)) (i : Nat) : lackP G i 2 i = (cntO G [] i : Int) := by
  unfold lackP
  rw [if_neg (by omega), if_pos rfl]
  rfl

/-- in the round of a gate that is taken, behind q of those above it -/
def LackRel (w : World) (bp gl ga h n : Nat) (G : List (Int × Int × Int)) (out : List Nat) (i q : Nat) (R : Nat → Value) (v : Value) (wr : World) : Prop :=
  ∃ (X M : Nat → Prop), OS w bp gl ga h n n (placeF G n) (lackQ G out i q) R (fun k => aboveL G k n) X M v (out ++ [i]) wr ∧ ∀ x, M x ↔ x < n ∧ x ∉ out ++ [i] ∧ lackQ G out i q x = 0

theorem LackRel.start {w wr : World} {bp gl ga h n : Nat} {G : List (Int × Int × Int)} {out : List Nat} {i : Nat} {R : Nat → Value} {X M : Nat → Prop} {v : Value}
    (H : OS w bp gl ga h n n (placeF G n) (fun k => (cntO G out k : Int)) R (fun k => aboveL G k n) X M v (out ++ [i]) wr) (hM : ∀ x, M x ↔ x < n ∧ x ∉ out ∧ cntO G out x = 0 ∧ x ≠ i) : LackRel w bp gl ga h n G out i 0 R v wr :=
  ⟨X, M, H.same (fun k _ => (lackQ_zero G out i k).symm) (fun _ _ => rfl) (fun _ => Iff.rfl), fun x => by
    rw [hM x, lackQ_zero]
    simp only [List.mem_append, List.mem_singleton]
    constructor
    · rintro ⟨a, b, c, d⟩; exact ⟨a, fun h => by rcases h with h | h; exact b h; exact d h, by omega⟩
    · rintro ⟨a, b, c⟩; exact ⟨a, fun h => b (.inl h), by omega, fun h => b (.inr h)⟩⟩

theorem LackRel.end_ {w wr : World} {bp gl ga h n : Nat} {G : List (Int × Int × Int)} (hn : G.length = n) (hG : GoodG G) {out : List Nat} {i : Nat} (hi : nextO G out = some i) {R : Nat → Value} {v : Value}
    (H : LackRel w bp gl ga h n G out i (aboveL G i n).length R v wr) : ∃ (X M : Nat → Prop), OS w bp gl ga h n n (placeF G n) (fun k => (cntO G (out ++ [i]) k : Int)) R (fun k => aboveL G k n) X M v (out ++ [i]) wr ∧ ∀ x, M x ↔ x < n ∧ x ∉ out ++ [i] ∧ cntO G (out ++ [i]) x = 0 := by
  obtain ⟨X, M, H, hM⟩ := H
  subst hn
  refine ⟨X, M, H.same (fun k hk => lackQ_end hG hi hk) (fun _ _ => rfl) (fun _ => Iff.rfl), fun x => ?_⟩
  rw [hM x]
  constructor
  · rintro ⟨a, b, c⟩; rw [lackQ_end hG hi a] at c; exact ⟨a, b, by omega⟩
  · rintro ⟨a, b, c⟩; exact ⟨a, b, by rw [lackQ_end hG hi a]; omega⟩

end Go.Proofs.YtmjcpapcmbgkjaaDoor
