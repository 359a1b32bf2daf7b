/-
  Numerals: a number's digits, and the number that digits stand for, there and back. No program in sight.
-/
import Derived.Test.YtpejimlmokfppaaDoorTailPlain
import Derived.Lib.ItoaNum
namespace Go.Proofs.YtpejimlmokfppaaDoor
open Go.RowKit

theorem dd_one {u : Nat} (h : u < 10) : Lib.decDigits u = [UInt8.ofNat (48 + u)] := Lib.decDigits_one h
theorem dd_more {u : Nat} (h : ¬ u < 10) : Lib.decDigits u = Lib.decDigits (u / 10) ++ [UInt8.ofNat (48 + u % 10)] := by
  conv => lhs; rw [Lib.decDigits, dif_neg h]

theorem dd_byte {d : Nat} (h : d < 10) : (UInt8.ofNat (48 + d)).toNat = 48 + d := by
  rw [UInt8.toNat_ofNat']; omega

theorem dd_digit : ∀ (u : Nat), ∀ b ∈ Lib.decDigits u, 48 ≤ b.toNat ∧ b.toNat ≤ 57 := by
  intro u
  induction u using Nat.strongRecOn with
  | _ u ih =>
    intro b hb
    by_cases h : u < 10
    · rw [dd_one h] at hb
      simp only [List.mem_singleton] at hb
      subst hb
      rw [dd_byte h]; omega
    · rw [dd_more h] at hb
      rcases List.mem_append.1 hb with hb | hb
      · exact ih (u / 10) (by omega) b hb
      · simp only [List.mem_singleton] at hb
        subst hb
        rw [dd_byte (by omega)]; omega

theorem dd_pos (u : Nat) : 0 < (Lib.decDigits u).length := by
  by_cases h : u < 10
  · rw [dd_one h]; simp
  · rw [dd_more h]; simp

theorem dd_head : ∀ (u : Nat), 0 < u → ∃ b r, Lib.decDigits u = b :: r ∧ b.toNat ≠ 48 := by
  intro u
  induction u using Nat.strongRecOn with
  | _ u ih =>
    intro h0
    by_cases h : u < 10
    · exact ⟨_, [], dd_one h, by rw [dd_byte h]; omega⟩
    · obtain ⟨b, r, e, hb⟩ := ih (u / 10) (by omega) (by omega)
      exact ⟨b, r ++ [UInt8.ofNat (48 + u % 10)], by rw [dd_more h, e]; rfl, hb⟩

theorem dd_len : ∀ (k u : Nat), u < 10 ^ (k + 1) → (Lib.decDigits u).length ≤ k + 1
  | 0, u, h => by rw [dd_one (by simpa using h)]; simp
  | k + 1, u, h => by
    by_cases hu : u < 10
    · rw [dd_one hu]; simp
    · rw [dd_more hu]
      have := dd_len k (u / 10) (by rw [Nat.pow_succ] at h; omega)
      simp; omega

theorem decFrom_snoc : ∀ (l : List UInt8) (acc : Nat) (b : UInt8), Lib.decFrom acc (l ++ [b]) = match Lib.decFrom acc l with
    | some n => match Lib.digitVal b with
      | some d => some (n * 10 + d)
      | none => none
    | none => none
  | [], acc, b => by
    simp only [List.nil_append, Lib.decFrom]
    cases Lib.digitVal b <;> rfl
  | c :: l, acc, b => by
    rw [List.cons_append]
    simp only [Lib.decFrom]
    cases Lib.digitVal c with
    | none => rfl
    | some d => exact decFrom_snoc l _ b

theorem digitVal_of {d : Nat} (h : d < 10) : Lib.digitVal (UInt8.ofNat (48 + d)) = some d := by
  unfold Lib.digitVal
  rw [dd_byte h, if_pos ⟨by omega, by omega⟩, show 48 + d - 48 = d by omega]

theorem dd_from : ∀ (u : Nat), Lib.decFrom 0 (Lib.decDigits u) = some u := by
  intro u
  induction u using Nat.strongRecOn with
  | _ u ih =>
    by_cases h : u < 10
    · rw [dd_one h]
      simp only [Lib.decFrom, digitVal_of h]
      simp
    · rw [dd_more h, decFrom_snoc, ih (u / 10) (by omega), digitVal_of (by omega)]
      simp only [Option.some.injEq]; omega

theorem dd_inj {u v : Nat} (h : Lib.decDigits u = Lib.decDigits v) : u = v := by
  have := dd_from u
  rw [h, dd_from v] at this
  exact (Option.some.inj this).symm

/-- digits without a nought ahead are their number's numeral -/
theorem numb_dd {s : ByteArray} {i : Nat} : ∀ (k : Nat), i + (k + 1) ≤ s.size → (∀ j, j < k + 1 → isDig s (i + j)) → (k = 0 ∨ bt s i ≠ 48) →
    (s.data.toList.drop i).take (k + 1) = Lib.decDigits (numb s i (k + 1)) ∧ (bt s i ≠ 48 → 0 < numb s i (k + 1))
  | 0, hs, hd, _ => by
    have h := hd 0 (by omega)
    unfold isDig at h
    rw [Nat.add_zero] at h
    obtain ⟨b, hb, hb2⟩ := byte_at (s := s) (i := i) (by omega)
    simp only [numb, Nat.mul_zero, Nat.zero_add, Nat.add_zero]
    refine ⟨?_, fun h48 => by omega⟩
    rw [dd_one (by omega), show 48 + (bt s i - 48) = b.toNat by omega]
    obtain ⟨hi, hb3⟩ := List.getElem?_eq_some_iff.1 hb
    rw [List.drop_eq_getElem_cons hi, hb3]
    simp
  | k + 1, hs, hd, hz => by
    have h48 : bt s i ≠ 48 := by rcases hz with h | h; omega; exact h
    obtain ⟨h1, h2⟩ := numb_dd k (by omega) (fun j hj => hd j (by omega)) (.inr h48)
    have h2 := h2 h48
    have h := hd (k + 1) (by omega)
    unfold isDig at h
    obtain ⟨b, hb, hb2⟩ := byte_at (s := s) (i := i + (k + 1)) (by omega)
    have e : numb s i (k + 1 + 1) = 10 * numb s i (k + 1) + (bt s (i + (k + 1)) - 48) := rfl
    refine ⟨?_, fun _ => by omega⟩
    have hl : (s.data.toList.drop i)[k + 1]? = some b := by rw [List.getElem?_drop]; exact hb
    obtain ⟨hi, hb3⟩ := List.getElem?_eq_some_iff.1 hl
    rw [List.take_succ_eq_append_getElem hi, hb3, h1, dd_more (u := numb s i (k + 1 + 1)) (by omega), e,
      show (10 * numb s i (k + 1) + (bt s (i + (k + 1)) - 48)) / 10 = numb s i (k + 1) by omega,
      show 48 + (10 * numb s i (k + 1) + (bt s (i + (k + 1)) - 48)) % 10 = b.toNat by omega]
    simp

theorem endOf_dig {s : ByteArray} {i j : Nat} (h : j < endOf s i - i) : isDig s (i + j) := by
  have : j < runL s (s.size - i) i := by unfold endOf at h; omega
  exact runL_dig s _ i j this

/-- a number that is read is the digits' numeral -/
theorem dec_natN {s : ByteArray} {p v q : Nat} (hp : p ≤ s.size) (h : natN s p = (v, q, 0)) : p < q ∧ q ≤ s.size ∧ v < 1000000000 ∧ (s.data.toList.drop p).take (q - p) = Lib.decDigits v := by
  have h0 := natN_end hp (by rw [h])
  rw [h] at h0
  simp only at h0
  refine ⟨h0.1, h0.2.1, h0.2.2, ?_⟩
  unfold natN at h
  by_cases c1 : p = s.size
  · rw [if_pos c1] at h; simp at h
  rw [if_neg c1] at h
  by_cases c2 : endOf s p = p ∨ bt s p = 48 ∧ p + 1 < endOf s p
  · rw [if_pos c2] at h; simp at h
  rw [if_neg c2] at h
  by_cases c3 : 9 < endOf s p - p
  · rw [if_pos c3] at h; simp at h
  rw [if_neg c3] at h
  simp only [Prod.mk.injEq, and_true] at h
  obtain ⟨h1, h2⟩ := h
  rw [h2] at h1 c2
  have hd : ∀ j, j < q - p → isDig s (p + j) := fun j hj => endOf_dig (by rw [h2]; exact hj)
  obtain ⟨k, hk⟩ : ∃ k, q - p = k + 1 := ⟨q - p - 1, by omega⟩
  rw [hk] at h1 hd ⊢
  rw [← h1]
  exact (numb_dd k (by omega) hd (by omega)).1

/-- a numeral is read as its number -/
theorem natN_dec {s : ByteArray} {p u : Nat} (hu : u < 1000000000) (hp : p + (Lib.decDigits u).length ≤ s.size)
    (hs : (s.data.toList.drop p).take (Lib.decDigits u).length = Lib.decDigits u) (he : p + (Lib.decDigits u).length = s.size ∨ ¬ isDig s (p + (Lib.decDigits u).length)) :
    natN s p = (u, p + (Lib.decDigits u).length, 0) := by
  have hpos := dd_pos u
  have hlen : (Lib.decDigits u).length ≤ 9 := dd_len 8 u (by omega)
  obtain ⟨n, hn⟩ : ∃ n, (Lib.decDigits u).length = n := ⟨_, rfl⟩
  rw [hn] at hpos hlen hp hs he ⊢
  have hbyte : ∀ j b, (Lib.decDigits u)[j]? = some b → bt s (p + j) = b.toNat := by
    intro j b hb
    have hj : j < n := by rw [← hn]; exact (List.getElem?_eq_some_iff.1 hb).1
    rw [← hs, List.getElem?_take, if_pos hj, List.getElem?_drop] at hb
    obtain ⟨c, hc, hc2⟩ := byte_at (s := s) (i := p + j) (by omega)
    rw [hb] at hc
    rw [← hc2, Option.some.inj hc]
  have hd : ∀ j, j < n → isDig s (p + j) := by
    intro j hj
    have hj' : j < (Lib.decDigits u).length := by omega
    have := dd_digit u _ (List.getElem_mem hj')
    have hb := hbyte j _ (List.getElem?_eq_getElem hj')
    unfold isDig
    rw [hb]; exact this
  have hend : endOf s p = p + n := endOf_is (by omega) hp (fun k h1 h2 => by have := hd (k - p) (by omega); rwa [show p + (k - p) = k by omega] at this) he
  unfold natN
  rw [if_neg (by omega), hend, if_neg ?_, if_neg (by omega), show p + n - p = n by omega]
  · have h1 := word_dec (s := s) (i := p) n hp hd
    rw [hs, dd_from] at h1
    rw [← Option.some.inj h1]
  · rintro (h | ⟨h1, h2⟩)
    · omega
    · have hu10 : ¬ u < 10 := by intro h; rw [dd_one h] at hn; simp at hn; omega
      obtain ⟨b, r, e, hb⟩ := dd_head u (by omega)
      have := hbyte 0 b (by rw [e]; rfl)
      rw [Nat.add_zero] at this
      omega

theorem itoa_nat (u : Nat) : Lib.itoa (u : Int) = Lib.decDigits u := by unfold Lib.itoa; rw [if_neg (by omega), Int.toNat_natCast]

end Go.Proofs.YtpejimlmokfppaaDoor
