/-
  latchetref28.Write, latchetlaw28.Few.
-/
import Derived.Test.YtcpgbgbhfkpehaaDoorDerivOwn
namespace Go.Proofs.YtcpgbgbhfkpehaaDoor
open Go.RowKit

/-- lines are few, and clauses short -/
def few (L : List (Bool × List Int)) : Bool := (L.all (fun x => decide (x.2.length ≤ 30))) && decide (L.length ≤ 60)

theorem li_mem {L : List (Bool × List Int)} {k : Nat} (h : k < L.length) : li L k ∈ L := List.mem_of_getElem? (li_at h)

set_option maxRecDepth 100000 in
set_option maxHeartbeats 2000000 in
theorem law28_Few (a : Option Addr) (cap : Nat) (L : List (Bool × List Int)) (n : Nat) (w : World) (hr : LnsAt w a L) (hln : L.length = n) (hn : n ≤ 9223372036854775807) :
    Calls Tryd.prog 47 #[.slice a n cap, .int .i64 60] w fun e w' => e = .returned (.bool (few L)) ∧ w = w' := by
  have HLN := Lib.hid hln; clear hln
  have HR := Lib.hid hr; clear hr
  go_enter Tryd.func47, Tryd.ntmps47
  go_wp2_with fail
  go_loop [5] (fun v5 => ∃ k : Nat, k ≤ n ∧ v5 = .int .i64 k ∧ ∀ j, j < k → (li L j).2.length ≤ 30) (fun v5 => n - (intOf v5).toNat)
  case atStart => exact ⟨0, Nat.zero_le _, rfl, fun j hj => by omega⟩
  case round =>
    obtain ⟨k, hk, rfl, hJ⟩ := hrel
    have HJ := Lib.hid hJ; clear hJ
    by_cases hlt : k < n
    · have hlt' : k < L.length := by rw [HLN.out]; exact hlt
      obtain ⟨b, off, v, rfl, c0, c1, hv⟩ := HR.out.line hlt'
      have HX := Lib.hid (show ∀ j, j < k + 1 → (li L k).2.length ≤ 30 → (li L j).2.length ≤ 30 from fun j hj h => by
        by_cases e : j = k
        · subst e; exact h
        · exact HJ.out j (by omega))
      have HF := Lib.hid (show ¬ (li L k).2.length ≤ 30 → few L = false from fun h => by
        unfold few
        rw [show L.all (fun x => decide (x.2.length ≤ 30)) = false by
          rw [List.all_eq_false]
          exact ⟨li L k, li_mem hlt', by simpa using h⟩]
        rfl)
      obtain ⟨⟨f, c⟩, hx⟩ : ∃ x, li L k = x := ⟨_, rfl⟩
      rw [hx] at c0 hv HX HF
      simp only at c0 hv HX HF
      clear hx
      obtain ⟨av, cv, rfl, hcv, hcm, _, _⟩ := hv
      obtain ⟨m, hm⟩ : ∃ m, c.length = m := ⟨_, rfl⟩
      rw [hm] at c1 HX HF hcv
      clear hm
      unfold maxLen at hcm
      have hm9 : m ≤ 9223372036854775807 := by omega
      clear hcv hcm
      have i0 : (0 : Int) ≤ (k : Int) := by omega
      have i1 : (k : Int) < (n : Int) := by omega
      have d : decide ((k : Int) < (n : Int)) = true := by simp; omega
      by_cases h30 : m ≤ 30
      · have d2 : decide ((30 : Int) < (m : Int)) = false := by simp; omega
        have HY := Lib.hid (fun j hj => HX.out j hj h30)
        clear h30
        go_wp2_with fail
        go_round
        case rel => exact ⟨k + 1, by omega, by go_num, HY.out⟩
        case measure => simp [intOf]; omega
      · have d2 : decide ((30 : Int) < (m : Int)) = true := by simp; omega
        have HY := Lib.hid (HF.out h30)
        clear h30
        go_wp2_with fail
        go_ret
        rw [HY.out]
        exact ⟨rfl, rfl⟩
    · have d : decide ((k : Int) < (n : Int)) = false := by simp; omega
      have HY : Hid (few L = decide ((n : Int) ≤ 60)) := by
        show _ = _
        unfold few
        rw [show L.all (fun x => decide (x.2.length ≤ 30)) = true by
          rw [List.all_eq_true]
          intro x hx
          obtain ⟨j, hj⟩ := List.mem_iff_getElem?.1 hx
          have hjl := (List.getElem?_eq_some_iff.1 hj).1
          rw [li_at hjl] at hj
          have := HJ.out j (by rw [HLN.out] at hjl; omega)
          rw [Option.some.inj hj] at this
          simpa using this]
        rw [HLN.out, Bool.true_and]
        simp
        omega
      go_wp2_with fail
      go_ret
      rw [HY.out]
      exact ⟨by simp, rfl⟩

theorem flat_take {c : List Int} {j : Nat} (h : j < c.length) : (c.take (j + 1)).flatMap (fun x => 32 :: litText x) = (c.take j).flatMap (fun x => 32 :: litText x) ++ 32 :: litText (gi c j) := by
  rw [List.take_succ_eq_append_getElem h, List.flatMap_append]
  simp [gi, List.getElem?_eq_getElem h]

theorem flat_take_le (c : List Int) (j : Nat) : ((c.take j).flatMap (fun x => 32 :: litText x)).length ≤ (c.flatMap (fun x => 32 :: litText x)).length := by
  conv => rhs; rw [← List.take_append_drop j c]
  rw [List.flatMap_append, List.length_append]; omega

theorem cat_str (P Q : List UInt8) : (⟨P.toArray⟩ : ByteArray) ++ ⟨Q.toArray⟩ = ⟨(P ++ Q).toArray⟩ := cat_bytes P Q

set_option maxRecDepth 100000 in
set_option maxHeartbeats 4000000 in
theorem ref28_Write (a : Option Addr) (cap : Nat) (L : List (Bool × List Int)) (n : Nat) (w : World) (hr : LnsAt w a L) (hln : L.length = n) (hn : n ≤ 1000000) (hbig : (linesText (lti L)).length ≤ 10000000) (hcl : ∀ x ∈ L, x.2.length ≤ 100000) :
    Calls Tryd.prog 49 #[.slice a n cap] w fun e w' => e = .returned (.string ⟨(linesText (lti L)).toArray⟩) ∧ Kp (fun _ => False) w w' := by
  have HLN := Lib.hid hln; clear hln
  have HR := Lib.hid hr; clear hr
  have HBig := Lib.hid hbig; clear hbig
  have HCL := Lib.hid hcl; clear hcl
  go_enter Tryd.func49, Tryd.ntmps49
  go_wp2_with fail
  go_loopw [3, 4] (fun v3 v4 wr => ∃ (k : Nat) (P : List UInt8), k ≤ n ∧ v4 = .int .i64 k ∧ v3 = .string ⟨P.toArray⟩ ∧ P = linesText (lti (L.take k)) ∧ Kp (fun _ => False) w wr) (fun _ v4 _ => n - (intOf v4).toNat)
  case atStart => exact ⟨0, [], Nat.zero_le _, rfl, rfl, rfl, Kp.refl _ _⟩
  case round =>
    obtain ⟨k, P, hk, rfl, rfl, hP, hK⟩ := hrel
    by_cases hlt : k < n
    · have hlt' : k < L.length := by rw [HLN.out]; exact hlt
      have HP := Lib.hid hP; clear hP
      obtain ⟨b, off, v, rfl, c0w, c1w, hv⟩ := HR.out.line hlt'
      have HStep := Lib.hid (linesText_take hlt')
      have hle := linesText_take_le L (k + 1)
      rw [HStep.out] at hle
      have hcl := HCL.out (li L k) (li_mem hlt')
      obtain ⟨⟨f, c⟩, hx⟩ : ∃ x, li L k = x := ⟨_, rfl⟩
      rw [hx] at c0w hv HStep hle hcl
      simp only at c0w hv HStep hle hcl
      clear hx
      obtain ⟨av, cv, rfl, _, _, _, hv4⟩ := hv
      have HV := Lib.hid hv4; clear hv4
      obtain ⟨m, hm⟩ : ∃ m, c.length = m := ⟨_, rfl⟩
      rw [hm] at c1w hcl
      have HM := Lib.hid hm; clear hm
      rw [← HP.out] at HStep hle
      have hbd : P.length + (c.flatMap (fun x => 32 :: litText x)).length + 2 ≤ 10000000 := by
        have h1 := HBig.out
        rw [List.length_append, List.length_append] at hle
        unfold lineText at hle
        rw [List.flatMap_map] at hle
        simp only [List.length_cons, List.length_nil] at hle
        omega
      have HBd := Lib.hid hbd
      have hPl : P.length ≤ 10000000 := by omega
      clear hle hbd
      have HC0 := Lib.hid c0w
      have HC1 := Lib.hid c1w
      have c0 := hK.cellAt c0w
      have c1 := hK.cellAt c1w
      clear c0w c1w
      have i0 : (0 : Int) ≤ (k : Int) := by omega
      have i1 : (k : Int) < (n : Int) := by omega
      have d : decide ((k : Int) < (n : Int)) = true := by simp; omega
      have s1 : ¬ 9223372036854775807 < P.length + 1 := by omega
      obtain ⟨Q, hQ⟩ : ∃ Q, P ++ [sgb f] = Q := ⟨_, rfl⟩
      have HE43 := Lib.hid (show f = false → (⟨P.toArray⟩ : ByteArray) ++ ⟨#[43]⟩ = ⟨Q.toArray⟩ from fun h => by rw [← hQ, h]; exact cat_str P [43])
      have HE45 := Lib.hid (show f = true → (⟨P.toArray⟩ : ByteArray) ++ ⟨#[45]⟩ = ⟨Q.toArray⟩ from fun h => by rw [← hQ, h]; exact cat_str P [45])
      have HStep2 : Hid (linesText (lti (L.take (k + 1))) = (Q ++ c.flatMap (fun x => 32 :: litText x)) ++ [10]) := by
        show _ = _
        rw [HStep.out, ← hQ]
        unfold lineText
        rw [List.flatMap_map]
        simp [sgb]
      have HQl : Hid (Q.length + (c.flatMap (fun x => 32 :: litText x)).length + 1 ≤ 10000000) := by
        show _ ≤ _
        have := HBd.out
        rw [← hQ, List.length_append]
        simp only [List.length_cons, List.length_nil]; omega
      clear hQ
      obtain ⟨wo, hwo⟩ : ∃ wo : World, wo = wr := ⟨_, rfl⟩
      have HKo := Lib.hid hK
      have HC : Hid (∀ wz, Kp (fun _ => False) w wz → wz.cell? ⟨b, off + k * 2 + 1, none⟩ = some (.slice av m cv)) := fun wz h => h.cellAt HC1.out
      clear hK HC1
      cases f
      all_goals
        go_wp2_with fail
        first | rw [HE43.out trivial] | rw [HE45.out trivial]
        clear c0 c1 HC0 s1 HStep
        go_loopw [3, 5] (fun v3 v5 wz => ∃ (j : Nat) (T : List UInt8), j ≤ m ∧ v5 = .int .i64 j ∧ v3 = .string ⟨T.toArray⟩ ∧ T = Q ++ (c.take j).flatMap (fun x => 32 :: litText x) ∧ Kp (fun _ => False) w wz) (fun _ v5 _ => m - (intOf v5).toNat)
        case atStart => exact ⟨0, Q, Nat.zero_le _, rfl, rfl, by simp, HKo.out⟩
        case round =>
          obtain ⟨j, T, hj, rfl, rfl, hT, hK⟩ := hrel
          have HT := Lib.hid hT; clear hT
          have c1 := HC.out _ hK
          by_cases hjm : j < m
          · have hjm' : j < c.length := by rw [HM.out]; exact hjm
            have hfl := flat_take hjm'
            have hfle := flat_take_le c (j + 1)
            rw [hfl, List.length_append] at hfle
            have hTl : T.length + (litText (gi c j)).length + 2 ≤ 10000001 := by
              have := HQl.out
              rw [HT.out, List.length_append]
              simp only [List.length_cons] at hfle
              omega
            obtain ⟨b', off', rfl, hc⟩ := (show IntsAt _ av c from HV.out.kp hK (fun _ _ h => h)).get hjm'
            have HFl := Lib.hid hfl
            clear hfl hfle
            obtain ⟨x, hx⟩ : ∃ x, gi c j = x := ⟨_, rfl⟩
            rw [hx] at hc hTl HFl
            clear hx
            have HTx := Lib.hid (fun u => ref02_Text x u)
            obtain ⟨X, hX⟩ : ∃ X, litText x = X := ⟨_, rfl⟩
            rw [hX] at HTx hTl HFl
            clear hX
            have j0 : (0 : Int) ≤ (j : Int) := by omega
            have j1 : (j : Int) < (m : Int) := by omega
            have d2 : decide ((j : Int) < (m : Int)) = true := by simp; omega
            have s1 : ¬ 9223372036854775807 < T.length + 1 := by omega
            have s2 : ¬ 9223372036854775807 < T.length + 1 + X.length := by omega
            go_wp2_with fail
            refine (HTx.out _).mono ?_
            rintro e w3 ⟨rfl, hK3⟩
            have hK4 := hK.trans hK3 (fun _ _ h => h)
            go_wp2_with fail
            go_roundw
            case rel => exact ⟨j + 1, T ++ 32 :: X, by omega, by go_num, by
              rw [show (⟨#[32]⟩ : ByteArray) = ⟨[32].toArray⟩ from rfl, cat_str, cat_str, List.append_assoc]; rfl, by rw [HFl.out, HT.out, List.append_assoc], hK4⟩
            case measure => simp [intOf]; omega
          · have d2 : decide ((j : Int) < (m : Int)) = false := by simp; omega
            have HT2 : Hid (T ++ [10] = linesText (lti (L.take (k + 1)))) := by
              show _ = _
              rw [HStep2.out, HT.out, List.take_of_length_le (by rw [HM.out]; omega)]
            have hTl : T.length ≤ 10000000 := by
              have h1 := HQl.out
              have h2 := flat_take_le c j
              rw [HT.out, List.length_append]; omega
            have s1 : ¬ 9223372036854775807 < T.length + 1 := by omega
            go_wp2_with fail
            go_roundw
            case rel => exact ⟨k + 1, T ++ [10], by omega, by go_num, congrArg Value.string (cat_str T [10]), HT2.out, hK⟩
            case measure => simp [intOf]; omega
    · have d : decide ((k : Int) < (n : Int)) = false := by simp; omega
      have e : L.take k = L := List.take_of_length_le (by rw [HLN.out]; omega)
      rw [e] at hP
      subst hP
      clear e
      go_wp2_with fail
      go_ret
      exact ⟨rfl, hK⟩

end Go.Proofs.YtcpgbgbhfkpehaaDoor
