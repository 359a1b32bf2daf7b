/-
  wit.prop, wit.row, and strings.Index of "012".
-/
import Derived.Test.YtpejimlmokfppaaDoorWitLines
import Derived.Test.YtpejimlmokfppaaDoorOctBits2
namespace Go.Proofs.YtpejimlmokfppaaDoor
open Go.RowKit

theorem one_of_size {t : ByteArray} (h : t.size = 1) : ∃ c, t = ⟨#[c]⟩ ∧ bt t 0 = c.toNat := by
  obtain ⟨⟨l⟩⟩ := t
  have h1 : l.length = 1 := by simpa [ByteArray.size] using h
  obtain ⟨c, rfl⟩ := List.length_eq_one_iff.1 h1
  exact ⟨c, rfl, rfl⟩

theorem index_012 (c : UInt8) : ((48 ≤ c.toNat ∧ c.toNat ≤ 50) → Lib.indexByte [48, 49, 50] c = (c.toNat : Int) - 48) ∧ (¬ (48 ≤ c.toNat ∧ c.toNat ≤ 50) → Lib.indexByte [48, 49, 50] c < 0) := by
  by_cases e0 : c = 48
  · subst e0; decide
  by_cases e1 : c = 49
  · subst e1; decide
  by_cases e2 : c = 50
  · subst e2; decide
  have n0 : c.toNat ≠ 48 := fun h => e0 (UInt8.toNat_inj.1 h)
  have n1 : c.toNat ≠ 49 := fun h => e1 (UInt8.toNat_inj.1 h)
  have n2 : c.toNat ≠ 50 := fun h => e2 (UInt8.toNat_inj.1 h)
  have hi : Lib.indexByte [48, 49, 50] c = -1 := by
    simp [Lib.indexByte, Ne.symm e0, Ne.symm e1, Ne.symm e2]
  rw [hi]
  exact ⟨fun h => by omega, fun _ => by omega⟩

theorem wit_index (t : ByteArray) (w : World) (hm : ML w) :
    Calls Tryd.prog 13 #[.string ⟨#[48, 49, 50]⟩, .string t] w fun e w' => (∃ i : Int, e = .returned (.int .i64 i) ∧ (t.size = 1 → ((48 ≤ bt t 0 ∧ bt t 0 ≤ 50) → i = (bt t 0 : Int) - 48) ∧ (¬ (48 ≤ bt t 0 ∧ bt t 0 ≤ 50) → i < 0))) ∧ w = w' := by
  by_cases h1 : t.size = 1
  · obtain ⟨c, rfl, hb⟩ := one_of_size h1
    refine (Tryd.strings_Index_one ⟨#[48, 49, 50]⟩ c w).mono ?_
    rintro e w' ⟨rfl, rfl⟩
    refine ⟨⟨_, rfl, fun _ => ?_⟩, rfl⟩
    rw [hb]
    exact index_012 c
  · obtain ⟨m, hm⟩ := hm
    refine (Tryd.strings_Index ⟨#[48, 49, 50]⟩ t m w (by decide) hm).mono ?_
    rintro e w' ⟨rfl, rfl⟩
    exact ⟨⟨_, rfl, fun h => absurd h h1⟩, rfl⟩

theorem rest_data {s : ByteArray} {c : UInt8} {r : List UInt8} (h : s.data.toList = c :: r) : (⟨r.toArray⟩ : ByteArray) = s.extract 1 s.size ∧ 0 < s.size ∧ bt s 0 = c.toNat := by
  have hp : 0 < s.size := by
    have : s.size = s.data.toList.length := by simp
    rw [this, h]; simp
  refine ⟨?_, hp, ?_⟩
  · apply ByteArray.ext
    apply Array.toList_inj.1
    rw [Lib.extract_to_end, h]; rfl
  · obtain ⟨b, hb, hb2⟩ := byte_at hp
    rw [h] at hb
    rw [← hb2, ← Option.some.inj hb]

set_option maxRecDepth 100000 in
set_option maxHeartbeats 2000000 in
theorem wit_prop (t : ByteArray) (w : World) (hs : t.size ≤ 9223372036854775000) :
    Calls Tryd.prog 14 #[.string t] w fun e w' => (∃ n : Nat, e = .returned (.tuple #[.int .i64 n, .bool (propR t).isSome]) ∧ (∀ m, propR t = some m → n = m)) ∧ Kp (fun _ => False) w w' := by
  have HC := Lib.hid (fun u => Tryd.strings_CutPrefix t ⟨#[98]⟩ u)
  rw [show (⟨#[98]⟩ : ByteArray).data.toList = [98] from rfl] at HC
  have HN := Lib.hid (fun (d : ByteArray) (u : World) (h : d.size ≤ 9223372036854775000) => octet_Nat_in d 0 u h (Nat.zero_le _))
  by_cases hb : ∃ r, t.data.toList = 98 :: r
  · obtain ⟨r, hr⟩ := hb
    obtain ⟨hd, hp, hb0⟩ := rest_data hr
    rw [trim_one hr, (has_one t 98).2 ⟨r, hr⟩, hd] at HC
    have HP := Lib.hid (show propR t = if (natN (t.extract 1 t.size) 0).2.2 = 0 ∧ (natN (t.extract 1 t.size) 0).2.1 = (t.extract 1 t.size).size then some (natN (t.extract 1 t.size) 0).1 else none by
      unfold propR
      simp [hp, hb0])
    have hsz : (t.extract 1 t.size).size ≤ 9223372036854775000 := by rw [ByteArray.size_extract]; omega
    clear hd hp hb0 hr
    obtain ⟨d, hD⟩ : ∃ d, t.extract 1 t.size = d := ⟨_, rfl⟩
    rw [hD] at HC HP hsz
    clear hD
    go_enter Tryd.func14, Tryd.ntmps14
    go_wp2_with fail
    refine (HC.out _).mono ?_
    rintro e w' ⟨rfl, hw⟩
    have hw' := hw.symm; clear hw; subst hw'
    have HN1 := Lib.hid (HN.out d w hsz)
    rw [show (((0 : Nat) : Int)) = 0 from rfl] at HN1
    go_wp2_with fail
    refine HN1.out.mono ?_
    rintro e w1 ⟨rfl, hK⟩
    have HK := Lib.hid hK
    clear hK HN1
    obtain ⟨n, en, er, hT⟩ : ∃ n en er, natN d 0 = (n, en, er) := ⟨_, _, _, rfl⟩
    rw [hT] at HP ⊢
    simp only at HP
    clear hT
    by_cases c0 : er = 0
    · have g0 : ((er : Int) == 0) = true := by simp [c0]
      by_cases c1 : en = d.size
      · have g1 : ((en : Int) == (d.size : Int)) = true := by simp [c1]
        have HP2 := Lib.hid (HP.out.trans (if_pos ⟨c0, c1⟩))
        clear c0 c1 HP
        unfold tripI
        go_wp2_with fail
        go_ret2
        rw [HP2.out]
        exact ⟨⟨n, rfl, fun m h => Option.some.inj h⟩, HK.out⟩
      · have g1 : ((en : Int) == (d.size : Int)) = false := by simp; omega
        have HP2 := Lib.hid (HP.out.trans (if_neg (fun h => c1 h.2)))
        clear c0 c1 HP
        unfold tripI
        go_wp2_with fail
        go_ret2
        rw [HP2.out]
        exact ⟨⟨n, rfl, fun m h => by cases h⟩, HK.out⟩
    · have g0 : ((er : Int) == 0) = false := by simp [c0]
      have HP2 := Lib.hid (HP.out.trans (if_neg (fun h => c0 h.1)))
      clear c0 HP
      unfold tripI
      go_wp2_with fail
      go_ret2
      rw [HP2.out]
      exact ⟨⟨n, rfl, fun m h => by cases h⟩, HK.out⟩
  · rw [has_not hb] at HC
    have HP2 : Hid (propR t = none) := by
      show _ = _
      unfold propR
      refine if_neg ?_
      rintro ⟨h1, h2, _⟩
      refine hb ?_
      obtain ⟨b, hb1, hb2⟩ := byte_at h1
      cases hl : t.data.toList with
      | nil => rw [hl] at hb1; cases hb1
      | cons x r =>
        rw [hl] at hb1
        have hx : x = b := Option.some.inj hb1
        exact ⟨r, by rw [hx, UInt8.toNat_inj.1 (show b.toNat = (98 : UInt8).toNat from hb2.trans h2)]⟩
    have hdz : (⟨(Lib.trimPrefix t.data.toList [98]).toArray⟩ : ByteArray).size ≤ 9223372036854775000 := by
      have h1 : (Lib.trimPrefix t.data.toList [98]).length ≤ t.data.toList.length := by
        unfold Lib.trimPrefix
        split <;> simp
      have h2 : t.data.toList.length = t.size := by simp
      simp only [ByteArray.size, List.size_toArray]
      omega
    clear hb
    obtain ⟨d, hD⟩ : ∃ d, (⟨(Lib.trimPrefix t.data.toList [98]).toArray⟩ : ByteArray) = d := ⟨_, rfl⟩
    rw [hD] at HC hdz
    clear hD
    go_enter Tryd.func14, Tryd.ntmps14
    go_wp2_with fail
    refine (HC.out _).mono ?_
    rintro e w' ⟨rfl, hw⟩
    have hw' := hw.symm; clear hw; subst hw'
    have HN1 := Lib.hid (HN.out d w hdz)
    rw [show (((0 : Nat) : Int)) = 0 from rfl] at HN1
    go_wp2_with fail
    refine HN1.out.mono ?_
    rintro e w1 ⟨rfl, hK⟩
    have HK := Lib.hid hK
    clear hK HN1
    unfold tripI
    go_wp2_with fail
    go_ret2
    rw [HP2.out]
    exact ⟨⟨_, rfl, fun m h => by cases h⟩, HK.out⟩

set_option maxRecDepth 100000 in
set_option maxHeartbeats 2000000 in
theorem wit_row (t : ByteArray) (many : Int) (w : World) (hs : t.size ≤ 100000) :
    Calls Tryd.prog 15 #[.string t, .int .i64 many] w fun e w' => (∃ v, e = .returned (.tuple #[v, .bool (rowR t many).isSome]) ∧ Own w' w.heap.size 4 v ((bitsR t).map Value.bool)) ∧ Kp (fun _ => False) w w' := by
  have HB := Lib.hid (octet_Bits t w hs)
  have hlen := Lib.hid (show (bitsR t).length ≤ t.size by
    unfold bitsR
    split
    · rw [bitsL_length]; omega
    · simp)
  go_enter Tryd.func15, Tryd.ntmps15
  go_wp2_with fail
  refine HB.out.mono ?_
  rintro e w1 ⟨v, rfl, hO, hK⟩
  obtain ⟨a, cap, rfl, h1, h2, _, _⟩ := hO.form
  have HO := Lib.hid hO
  have HK := Lib.hid hK
  have HH := Lib.hid h1
  clear hO hK h1 h2
  by_cases c0 : bitsC t = 0
  · have hb : (((bitsC t : Nat) : Int) == 0) = true := by simp [c0]
    by_cases c1 : ((bitsR t).length : Int) = many
    · have HR : Hid ((rowR t many).isSome = true) := by show _ = _; unfold rowR; rw [if_pos ⟨c0, c1⟩]; rfl
      have hb2 : ((((bitsR t).length : Nat) : Int) == many) = true := by simp [c1]
      clear c0 c1
      simp only [List.length_map]
      go_wp2_with fail
      go_ret2
      rw [HR.out]
      exact ⟨⟨_, rfl, by simpa using HO.out⟩, HK.out⟩
    · have HR : Hid ((rowR t many).isSome = false) := by show _ = _; unfold rowR; rw [if_neg (fun h => c1 h.2)]; rfl
      have hb2 : ((((bitsR t).length : Nat) : Int) == many) = false := by simp [c1]
      clear c0 c1
      simp only [List.length_map]
      go_wp2_with fail
      go_ret2
      rw [HR.out]
      exact ⟨⟨_, rfl, by simpa using HO.out⟩, HK.out⟩
  · have hb : (((bitsC t : Nat) : Int) == 0) = false := by simp [c0]
    have HR : Hid ((rowR t many).isSome = false) := by show _ = _; unfold rowR; rw [if_neg (fun h => c0 h.1)]; rfl
    clear c0
    go_wp2_with fail
    go_ret2
    rw [HR.out]
    exact ⟨⟨_, rfl, by simpa using HO.out⟩, HK.out⟩

end Go.Proofs.YtpejimlmokfppaaDoor
