/-
  lit.Read and the reference's: the literal of a text.
-/
import Derived.Test.YtcpgbgbhfkpehaaDoorDerivText
import Derived.Test.YtcpgbgbhfkpehaaDoorOctNatWalk
namespace Go.Proofs.YtcpgbgbhfkpehaaDoor
open Go.RowKit

theorem has33 (s : ByteArray) : Lib.hasPrefix s.data.toList [33] = negW s := by
  rw [Bool.eq_iff_iff, negW_iff]
  unfold Lib.hasPrefix
  cases s.data.toList with
  | nil => simp [List.isPrefixOf]
  | cons c r =>
    simp only [List.isPrefixOf_cons_cons, List.isPrefixOf_nil_left, Bool.and_true, beq_iff_eq, List.cons.injEq]
    constructor
    · rintro rfl; exact ⟨r, rfl, rfl⟩
    · rintro ⟨_, rfl, _⟩; rfl

theorem trim33 (s : ByteArray) : (⟨(Lib.trimPrefix s.data.toList [33]).toArray⟩ : ByteArray) = digW s := by
  apply ba_ext
  unfold Lib.trimPrefix
  rw [has33]
  by_cases h : negW s = true
  · obtain ⟨r, hr⟩ := (negW_iff s).1 h
    rw [if_pos h, digW_pos hr, hr]; rfl
  · rw [if_neg h, digW_neg h]

theorem digW_size (s : ByteArray) : (digW s).size ≤ s.size := by
  unfold digW
  split
  · rw [ByteArray.size_extract]; omega
  · exact Nat.le_refl _

theorem natT_zero (s : ByteArray) : natT s 0 = natN s 0 := by unfold natT; rw [if_neg (by omega)]; rfl

/-- a variable's literal -/
def ofL (v : Nat) (ng : Bool) : Int := if 16777216 < v then -1 else if ng then 2 * v + 1 else 2 * v

def litV : Option Nat → Value
  | some x => .tuple #[.int .i64 (x : Int), .int .i64 0]
  | none => .tuple #[.int .i64 0, .int .i64 2]

theorem lit_Of (v : Nat) (ng : Bool) (w : World) (hv : v < 1000000000) :
    Calls Tryd.prog 212 #[.int .i64 v, .bool ng] w fun e w' => e = .returned (.int .i64 (ofL v ng)) ∧ w = w' := by
  by_cases h : 16777216 < v
  · have HG := Lib.hid (show ofL v ng = -1 by simp [ofL, h])
    have d1 : decide ((16777216 : Int) < (v : Int)) = true := by simp; omega
    clear h
    go_enter Tryd.func212, Tryd.ntmps212
    go_wp2
    go_ret
    rw [HG.out]
    exact ⟨rfl, rfl⟩
  · have d1 : decide ((16777216 : Int) < (v : Int)) = false := by simp; omega
    cases ng
    · have HG := Lib.hid (show ofL v false = 2 * v by simp [ofL, h])
      clear h
      go_enter Tryd.func212, Tryd.ntmps212
      go_wp2
      go_ret
      rw [HG.out]
      exact ⟨rfl, rfl⟩
    · have HG := Lib.hid (show ofL v true = 2 * v + 1 by simp [ofL, h])
      clear h
      go_enter Tryd.func212, Tryd.ntmps212
      go_wp2
      go_ret
      rw [HG.out]
      exact ⟨rfl, rfl⟩

theorem ref02_Of (v : Nat) (ng : Bool) (w : World) (hv : v ≤ 16777216) :
    Calls Tryd.prog 187 #[.int .i64 v, .bool ng] w fun e w' => e = .returned (.int .i64 (ofL v ng)) ∧ w = w' := by
  have d1 : decide ((16777216 : Int) < (v : Int)) = false := by simp; omega
  cases ng
  · have HG := Lib.hid (show ofL v false = 2 * v by simp [ofL]; omega)
    go_enter Tryd.func187, Tryd.ntmps187
    go_wp2
    go_ret
    rw [HG.out]
    exact ⟨rfl, rfl⟩
  · have HG := Lib.hid (show ofL v true = 2 * v + 1 by simp [ofL]; omega)
    go_enter Tryd.func187, Tryd.ntmps187
    go_wp2
    go_ret
    rw [HG.out]
    exact ⟨rfl, rfl⟩

theorem litR_is {s : ByteArray} {v en er : Nat} (hN : natN (digW s) 0 = (v, en, er)) : litR s = if er = 0 ∧ en = (digW s).size ∧ v ≤ 16777216 then some (2 * v + (if negW s then 1 else 0)) else none := by
  unfold litR; rw [hN]

theorem natN_small {s : ByteArray} {p v en er : Nat} (hp : p ≤ s.size) (hN : natN s p = (v, en, er)) : v < 1000000000 ∧ en ≤ s.size := by
  by_cases he : er = 0
  · subst he
    obtain ⟨_, h2, h3, _⟩ := dec_natN hp hN
    exact ⟨h3, h2⟩
  · unfold natN at hN
    split at hN
    · simp only [Prod.mk.injEq] at hN; omega
    split at hN
    · simp only [Prod.mk.injEq] at hN; omega
    split at hN
    · simp only [Prod.mk.injEq] at hN; omega
    · simp only [Prod.mk.injEq] at hN; omega

set_option maxRecDepth 100000 in
set_option maxHeartbeats 1000000 in
theorem lit_Read (s : ByteArray) (w : World) (hs : s.size ≤ 2000000) :
    Calls Tryd.prog 186 #[.string s] w fun e w' => e = .returned (litV (litR s)) ∧ Kp (fun _ => False) w w' := by
  have hd := digW_size s
  have HNat := Lib.hid (fun u => octet_Nat (digW s) 0 u (by omega))
  rw [natT_zero] at HNat
  obtain ⟨v, en, er, hN⟩ : ∃ v en er, natN (digW s) 0 = (v, en, er) := ⟨_, _, _, rfl⟩
  rw [hN] at HNat
  unfold tripI at HNat
  simp only at HNat
  obtain ⟨hv, hen⟩ := natN_small (Nat.zero_le _) hN
  have HR := Lib.hid (litR_is hN)
  have HC := Lib.hid (fun u => Tryd.strings_CutPrefix s ⟨#[33]⟩ u)
  rw [show (⟨#[33]⟩ : ByteArray).data.toList = [33] from rfl, trim33, has33] at HC
  obtain ⟨ng, hng⟩ : ∃ b, negW s = b := ⟨_, rfl⟩
  rw [hng] at HC HR
  clear hN hng
  obtain ⟨D, hD⟩ : ∃ D, digW s = D := ⟨_, rfl⟩
  rw [hD] at HNat HR HC hd hen
  clear hD
  have HOf := Lib.hid (fun u => lit_Of v ng u hv)
  have z0 : ∀ p : Prop, (litR s = none → p) → (¬ (er = 0 ∧ en = D.size ∧ v ≤ 16777216) → p) := fun p h hn => h (by rw [HR.out, if_neg hn])
  by_cases c0 : er = 0
  · subst c0
    by_cases c1 : en = D.size
    · subst c1
      have b1 : ((D.size : Int) == (D.size : Int)) = true := by simp
      by_cases c2 : v ≤ 16777216
      · have HX := Lib.hid (show litR s = some (2 * v + (if ng then 1 else 0)) by rw [HR.out, if_pos ⟨rfl, rfl, c2⟩])
        have HY := Lib.hid (show ofL v ng = ((2 * v + (if ng then 1 else 0) : Nat) : Int) by unfold ofL; rw [if_neg (by omega)]; cases ng <;> simp)
        obtain ⟨x, hx⟩ : ∃ x, 2 * v + (if ng then 1 else 0) = x := ⟨_, rfl⟩
        rw [hx] at HX HY
        rw [HY.out] at HOf
        clear hx z0 HR HY c2
        go_enter Tryd.func186, Tryd.ntmps186
        go_wp2_with fail
        refine (HC.out _).mono ?_
        rintro e w' ⟨rfl, hw⟩
        have hw' := hw.symm; clear hw; subst hw'
        go_wp2_with fail
        refine (HNat.out _).mono ?_
        rintro e w1 ⟨rfl, hK⟩
        go_wp2_with fail
        refine (HOf.out _).mono ?_
        rintro e w' ⟨rfl, rfl⟩
        go_wp2_with fail
        go_ret2
        rw [HX.out]
        exact ⟨rfl, hK⟩
      · have HX := Lib.hid (z0 _ id (fun h => c2 h.2.2))
        have HY := Lib.hid (show ofL v ng = -1 by unfold ofL; rw [if_pos (by omega)])
        rw [HY.out] at HOf
        clear z0 HR HY c2
        go_enter Tryd.func186, Tryd.ntmps186
        go_wp2_with fail
        refine (HC.out _).mono ?_
        rintro e w' ⟨rfl, hw⟩
        have hw' := hw.symm; clear hw; subst hw'
        go_wp2_with fail
        refine (HNat.out _).mono ?_
        rintro e w1 ⟨rfl, hK⟩
        go_wp2_with fail
        refine (HOf.out _).mono ?_
        rintro e w' ⟨rfl, rfl⟩
        go_wp2_with fail
        go_ret2
        rw [HX.out]
        exact ⟨rfl, hK⟩
    · have b1 : ((en : Int) == (D.size : Int)) = false := by simp; omega
      have HX := Lib.hid (z0 _ id (fun h => c1 h.2.1))
      clear z0 HR c1
      obtain ⟨y, hy⟩ : ∃ y, ofL v ng = y := ⟨_, rfl⟩
      rw [hy] at HOf
      clear hy
      go_enter Tryd.func186, Tryd.ntmps186
      go_wp2_with fail
      refine (HC.out _).mono ?_
      rintro e w' ⟨rfl, hw⟩
      have hw' := hw.symm; clear hw; subst hw'
      go_wp2_with fail
      refine (HNat.out _).mono ?_
      rintro e w1 ⟨rfl, hK⟩
      go_wp2_with fail
      refine (HOf.out _).mono ?_
      rintro e w' ⟨rfl, rfl⟩
      go_wp2_with fail
      go_ret2
      rw [HX.out]
      exact ⟨rfl, hK⟩
  · have b1 : ((er : Int) == 0) = false := by simp; omega
    have HX := Lib.hid (z0 _ id (fun h => c0 h.1))
    clear z0 HR c0
    obtain ⟨y, hy⟩ : ∃ y, ofL v ng = y := ⟨_, rfl⟩
    rw [hy] at HOf
    clear hy
    go_enter Tryd.func186, Tryd.ntmps186
    go_wp2_with fail
    refine (HC.out _).mono ?_
    rintro e w' ⟨rfl, hw⟩
    have hw' := hw.symm; clear hw; subst hw'
    go_wp2_with fail
    refine (HNat.out _).mono ?_
    rintro e w1 ⟨rfl, hK⟩
    go_wp2_with fail
    refine (HOf.out _).mono ?_
    rintro e w' ⟨rfl, rfl⟩
    go_wp2_with fail
    go_ret2
    rw [HX.out]
    exact ⟨rfl, hK⟩

end Go.Proofs.YtcpgbgbhfkpehaaDoor
