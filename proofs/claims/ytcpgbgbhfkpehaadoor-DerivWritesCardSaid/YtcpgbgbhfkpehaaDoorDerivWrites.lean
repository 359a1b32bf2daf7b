/-
  latchetlaw28.DerivWrites: its walk.
-/
import Derived.Test.YtcpgbgbhfkpehaaDoorDerivCut
import Derived.Test.YtcpgbgbhfkpehaaDoorDerivReads
import Derived.Deep.RegionWith
namespace Go.Proofs.YtcpgbgbhfkpehaaDoor
open Go.RowKit

theorem LnsAt.drew {w : World} {a : Option Addr} {L : List (Bool × List Int)} (h : LnsAt w a L) : LnsAt w.drew a L := h.kp ((Kp.refl _ _).drew)

theorem LnsSl.kp {w w' : World} {v : Value} {L : List (Bool × List Int)} (h : LnsSl w v L) (k : Kp (fun _ => False) w w') : LnsSl w' v L := by
  obtain ⟨a, cap, e, h1, h2, h3, h4⟩ := h
  exact ⟨a, cap, e, h1, h2, h3, h4.kp k⟩

theorem law28_OwnS (a : Option Addr) (cap : Nat) (L : List (Bool × List Int)) (n : Nat) (w : World) (hr : LnsAt w a L) (hln : L.length = n) (hn : n ≤ 100000) (hcl : ∀ x ∈ L, x.2.length ≤ 100000) :
    Calls Tryd.prog 48 #[.slice a n cap] w fun e w' => ∃ v, e = .returned v ∧ LnsSl w' v L ∧ Kp (fun _ => False) w w' := by
  refine (law28_Own a cap L n w hr hln hn hcl).mono ?_
  rintro e w' ⟨v, rs, rfl, hO, hL, hK⟩
  refine ⟨v, rfl, ?_, hK⟩
  obtain ⟨a', c', e, h1, h2, h3, _, hr⟩ := hO.form
  have hlen : (lrows rs).length = L.length := by simp [lrows, hL.1]
  rw [hlen] at e h1
  refine ⟨a', c', e, h1, h2, h3, rs, hr, hL.1, ?_⟩
  intro k r x hk hx
  obtain ⟨e1, hOw⟩ := hL.2 k r x hk hx
  refine ⟨e1, ?_⟩
  rcases hOw.2 with ⟨hv, h0⟩ | hO2
  · have : x.2 = [] := by
      rw [List.length_map] at h0
      exact List.eq_nil_of_length_eq_zero h0
    rw [hv, this]
    exact ⟨none, 0, rfl, Nat.le_refl _, Nat.zero_le _, fun _ => rfl, RowAt.nil _ _⟩
  · obtain ⟨a2, c2, e2, h4, h5, h6, hr2⟩ := hOw.form
    refine ⟨a2, c2, by rw [e2, List.length_map], by rw [List.length_map] at h4; exact h4, h5, ?_, hr2⟩
    intro ha
    obtain ⟨g, cap, cur, hv, _⟩ := hO2
    rw [hv, ha] at e2
    simp at e2

/-- whether all literals are good ones -/
def goodB (L : List (Bool × List Int)) : Bool := L.all (fun x => x.2.all gl)

theorem goodB_take {L : List (Bool × List Int)} {k : Nat} (h : k < L.length) : goodB (L.take (k + 1)) = (goodB (L.take k) && (li L k).2.all gl) := by
  rw [take_li h]; unfold goodB; rw [List.all_append]; simp

theorem all_take {c : List Int} {j : Nat} (h : j < c.length) : (c.take (j + 1)).all gl = ((c.take j).all gl && gl (gi c j)) := by
  rw [List.take_succ_eq_append_getElem h, List.all_append]
  simp [gi, List.getElem?_eq_getElem h]

/-- where lines are cut off, as far as is seen -/
def CutP (L : List (Bool × List Int)) (n k x : Nat) : Prop := (x = n ∧ ∀ j, j < k → isE (li L j) = false) ∨ ∃ j, j < k ∧ x = j + 1 ∧ (∀ i, i < j → isE (li L i) = false) ∧ isE (li L j) = true

theorem CutP.le {L : List (Bool × List Int)} {n k x : Nat} (h : CutP L n k x) (hk : k ≤ n) : x ≤ n := by
  rcases h with ⟨rfl, _⟩ | ⟨j, hj, rfl, _⟩ <;> omega

theorem CutP.keep {L : List (Bool × List Int)} {n k x : Nat} (h : CutP L n k x) (he : isE (li L k) = false) : CutP L n (k + 1) x := by
  rcases h with ⟨rfl, hn⟩ | ⟨j, hj, rfl, h1, h2⟩
  · refine .inl ⟨rfl, fun j hj => ?_⟩
    by_cases e : j = k
    · subst e; exact he
    · exact hn j (by omega)
  · exact .inr ⟨j, by omega, rfl, h1, h2⟩

theorem CutP.past {L : List (Bool × List Int)} {n k x : Nat} (h : CutP L n k x) (hx : x ≠ n) : CutP L n (k + 1) x := by
  rcases h with ⟨rfl, hn⟩ | ⟨j, hj, rfl, h1, h2⟩
  · exact absurd rfl hx
  · exact .inr ⟨j, by omega, rfl, h1, h2⟩

theorem CutP.here {L : List (Bool × List Int)} {n k x : Nat} (h : CutP L n k x) (hk : k < n) (hx : x = n) (he : isE (li L k) = true) : CutP L n (k + 1) (k + 1) := by
  rcases h with ⟨_, hn⟩ | ⟨j, hj, rfl, h1, h2⟩
  · exact .inr ⟨k, by omega, rfl, hn, he⟩
  · omega

theorem CutP.done {L : List (Bool × List Int)} {x : Nat} (h : CutP L L.length L.length x) : L.take x = cutL L ∧ (cutL L).length = x := by
  rcases h with ⟨rfl, hn⟩ | ⟨j, hj, rfl, h1, h2⟩
  · rw [cutL_none L hn]; simp
  · have := cutL_some L j hj h1 h2
    rw [← this]
    refine ⟨rfl, ?_⟩
    rw [List.length_take]; omega

theorem isE_iff (f : Bool) (c : List Int) (m : Nat) (h : c.length = m) : isE (f, c) = (!f && decide (m = 0)) := by unfold isE; rw [h]

/-- good lines are lines of numbers -/
theorem good_nat : ∀ {L : List (Bool × List Int)}, goodB L = true → ∃ M : List (Bool × List Nat), L = toI M ∧ ∀ x ∈ M, goodL x.2
  | [], _ => ⟨[], rfl, fun x h => by cases h⟩
  | (f, c) :: r, h => by
    unfold goodB at h
    rw [List.all_cons, Bool.and_eq_true] at h
    obtain ⟨M, hM, hg⟩ := good_nat (L := r) h.2
    have hc := h.1
    simp only [List.all_eq_true] at hc
    refine ⟨(f, c.map Int.toNat) :: M, ?_, ?_⟩
    · rw [hM]
      unfold toI
      rw [List.map_cons, List.map_map]
      congr 2
      conv => lhs; rw [← List.map_id c]
      apply List.map_congr_left
      intro x hx
      have := hc x hx
      simp [gl] at this
      simp; omega
    · intro x hx
      rcases List.mem_cons.1 hx with rfl | hx
      · intro y hy
        obtain ⟨z, hz, rfl⟩ := List.mem_map.1 hy
        have := hc z hz
        simp [gl] at this
        omega
      · exact hg x hx

theorem few_len {L : List (Bool × List Int)} (h : few L = true) : L.length ≤ 60 ∧ ∀ x ∈ L, x.2.length ≤ 30 := by
  unfold few at h
  simp only [Bool.and_eq_true, List.all_eq_true, decide_eq_true_eq] at h
  exact ⟨h.2, h.1⟩

theorem litTexts_len (c : List Int) : (c.flatMap (fun x => 32 :: litText x)).length ≤ 24 * c.length := by
  induction c with
  | nil => simp
  | cons x c ih =>
    have := litSize x
    rw [List.flatMap_cons, List.length_append, List.length_cons, List.length_cons]; omega

theorem few_text {L : List (Bool × List Int)} (h : ∀ x ∈ L, x.2.length ≤ 30) : (linesText (lti L)).length ≤ 722 * L.length := by
  induction L with
  | nil => simp [linesText, lti]
  | cons x L ih =>
    have h1 := ih (fun y hy => h y (by simp [hy]))
    have h2 := h x (by simp)
    have h3 := litTexts_len x.2
    have e : (linesText (lti (x :: L))).length = (x.2.flatMap (fun y => 32 :: litText y)).length + 2 + (linesText (lti L)).length := by
      unfold lti
      rw [List.map_cons]
      unfold linesText
      rw [List.flatMap_cons, List.length_append, List.length_append]
      unfold lineText
      rw [List.flatMap_map]
      simp
    rw [e, List.length_cons]; omega

/-- lines of nets that are not few -/
theorem derivWrites_much (a : Option Addr) (cap : Nat) (L : List (Bool × List Int)) (n : Nat) (w : World) (hr : LnsAt w a L) (hln : L.length = n) (hn : n ≤ 9223372036854775807) (hf : few L = false) (ht : Tab w) (hm : ML w) :
    Calls Tryd.prog 10 #[.slice a n cap] w fun e w' => e = .returned (.bool true) ∧ Below w.heap.size w w' := by
  have HF := Lib.hid (law28_Few a cap L n w hr hln hn)
  rw [hf] at HF
  have HL := Lib.hid (deriv_lives w ht hm)
  clear hf ht hm hr hln
  go_enter Tryd.func10, Tryd.ntmps10
  go_wp2_with fail
  refine HF.out.mono ?_
  rintro e w' ⟨rfl, rfl⟩
  go_wp2_with fail
  refine HL.out.mono ?_
  rintro e w2 ⟨rfl, hK⟩
  have hend := hK.below (Nat.le_refl _) (fun _ _ h => h)
  go_wp2_with fail
  go_ret
  exact ⟨rfl, hend⟩


set_option maxRecDepth 100000 in
set_option maxHeartbeats 8000000 in
theorem derivWrites_few (a : Option Addr) (cap : Nat) (L : List (Bool × List Int)) (n : Nat) (w : World) (hr : LnsAt w a L) (hln : L.length = n) (hc : n ≤ cap) (hcm : cap ≤ maxLen) (_hnil : a = none → cap = 0) (hf : few L = true) (ht : Tab w) (hm : ML w) :
    Calls Tryd.prog 10 #[.slice a n cap] w fun e w' => e = .returned (.bool true) ∧ Below w.heap.size w w' := by
  obtain ⟨hl60, hl30⟩ := few_len hf
  have hn60 : n ≤ 60 := by omega
  have hbig := few_text hl30
  have HFew := Lib.hid (law28_Few a cap L n w hr hln (by omega))
  rw [hf] at HFew
  have HLv : Hid (∀ u, Kp (fun _ => False) w u → Calls Tryd.prog 46 #[] u fun e w' => e = .returned (.bool true) ∧ Kp (fun _ => False) u w') := fun u k => deriv_lives u (ht.kp k) (hm.kp k)
  have HOwn : Hid (∀ u, Kp (fun _ => False) w u → Calls Tryd.prog 48 #[.slice a n cap] u fun e w' => ∃ v, e = .returned v ∧ LnsSl w' v L ∧ Kp (fun _ => False) u w') :=
    fun u k => law28_OwnS a cap L n u (hr.kp k) hln (by omega) (fun x hx => by have := hl30 x hx; omega)
  have HWr : Hid (∀ a' c' u, Kp (fun _ => False) w u → LnsAt u a' L → Calls Tryd.prog 45 #[.slice a' n c'] u fun e w' => e = .returned (.string ⟨(linesText (lti L)).toArray⟩) ∧ Kp (fun _ => False) u w') :=
    fun a' c' u k h => deriv_Write a' c' L n u h hln (by omega) (by omega) (fun x hx => by have := hl30 x hx; omega) (ht.kp k)
  have HRw : Hid (∀ u, Kp (fun _ => False) w u → Calls Tryd.prog 49 #[.slice a n cap] u fun e w' => e = .returned (.string ⟨(linesText (lti L)).toArray⟩) ∧ Kp (fun _ => False) u w') :=
    fun u k => ref28_Write a cap L n u (hr.kp k) hln (by omega) (by omega) (fun x hx => by have := hl30 x hx; omega)
  have hTz : (⟨(linesText (lti L)).toArray⟩ : ByteArray).size ≤ 50000 := by rw [← list_size]; simp only; omega
  have hsame : goodB L = true → ∃ M, L = toI M ∧ derivT ⟨(linesText (lti L)).toArray⟩ = ⟨M, 0, 0⟩ := by
    intro hg
    obtain ⟨M, hM, hMg⟩ := good_nat hg
    refine ⟨M, hM, text_derivT hMg (by rw [hM, lti_toI hMg]) (by omega)⟩
  obtain ⟨S, hS⟩ : ∃ S, (⟨(linesText (lti L)).toArray⟩ : ByteArray) = S := ⟨_, rfl⟩
  rw [hS] at HWr HRw hTz hsame
  have HRd : Hid (∀ u, Kp (fun _ => False) w u → Calls Tryd.prog 42 #[.string S] u (DReadP (derivT S) u)) :=
    fun u k => deriv_Read_in S u (by omega) (fun p hp => Nat.le_trans (lineT_size hp) (by omega)) (hm.kp k)
  have HSame := Lib.hid hsame
  have HLe : Hid (∀ a' c' u, LnsAt u a' L → Calls Tryd.prog 51 #[.slice a' n c'] u fun e w' => e = .returned (.int .i64 (learnt L : Int)) ∧ Kp (fun _ => False) u w') :=
    fun a' c' u h => deriv_Learned a' c' L n u h hln (by omega)
  have HCt : Hid (∀ a' c' u, LnsAt u a' L → n ≤ c' → c' ≤ maxLen → (a' = none → c' = 0) → Calls Tryd.prog 52 #[.slice a' n c'] u fun e w' => ∃ v, e = .returned v ∧ LnsSl w' v (cutL L) ∧ Kp (fun _ => False) u w') :=
    fun a' c' u h h1 h2 h3 => deriv_Cut a' c' L n u h hln (by omega) h1 h2 h3
  have HSm : Hid (∀ a1 c1 a2 c2 u (M : List (Bool × List Int)), M.length ≤ 1000 → LnsAt u a1 M → LnsAt u a2 M → Calls Tryd.prog 44 #[.slice a1 M.length c1, .slice a2 M.length c2] u fun e w' => e = .returned (.bool true) ∧ ∃ q, w' = u.drewN q) :=
    fun a1 c1 a2 c2 u M hM h1 h2 => ref28_Same a1 a2 c1 c2 M M.length u h1 h2 rfl (by omega)
  have HLN := Lib.hid hln; clear hln
  have HR := Lib.hid hr; clear hr
  have hss : (S.toList == S.toList) = true := by simp
  have hss2 : (!(S.toList == S.toList)) = false := by simp
  clear hS hbig hl60 hl30 hf ht hm hsame
  unfold maxLen at hcm
  go_enter Tryd.func10, Tryd.ntmps10
  go_wp2_with fail
  refine HFew.out.mono ?_
  rintro e w' ⟨rfl, rfl⟩
  go_wp2_with fail
  refine (HOwn.out _ (Kp.refl _ _)).mono ?_
  rintro e w2 ⟨v, rfl, ⟨a1, c1, rfl, _, _, _, hA1⟩, hK1⟩
  rw [HLN.out]
  go_wp2_with fail
  refine (HWr.out _ _ _ hK1 hA1).mono ?_
  rintro e w3 ⟨rfl, hK2⟩
  have hK3 := hK1.trans hK2 (fun _ _ h => h)
  clear hA1 hK1 hK2
  go_wp2_with fail
  refine (HRw.out _ hK3).mono ?_
  rintro e w4 ⟨rfl, hK4⟩
  have hK5 := hK3.trans hK4 (fun _ _ h => h)
  have HR4 := Lib.hid (HR.out.kp hK5)
  have HK5 := Lib.hid hK5
  clear hK3 hK4 hK5
  go_wp2_with fail
  go_loop [4, 5, 6, 7] (fun v4 v5 v6 v7 => ∃ k x t : Nat, ∃ G : Bool, k ≤ n ∧ v7 = .int .i64 k ∧ v4 = .bool G ∧ G = goodB (L.take k) ∧ v5 = .int .i64 t ∧ t = learnt (L.take k) ∧ v6 = .int .i64 x ∧ CutP L n k x) (fun _ _ _ v7 => n - (intOf v7).toNat)
  case atStart => exact ⟨0, n, 0, true, Nat.zero_le _, rfl, rfl, rfl, rfl, rfl, rfl, .inl ⟨rfl, fun j hj => by omega⟩⟩
  case round =>
    obtain ⟨k, x, t, G, hk, rfl, rfl, hG, rfl, ht, rfl, hP⟩ := hrel
    have HG := Lib.hid hG; clear hG
    have HTl := Lib.hid ht; clear ht
    have hx := hP.le hk
    have HP := Lib.hid hP; clear hP
    have htl : t ≤ 60 := by
      have h1 := learnt_le (L.take k)
      have h2 : (L.take k).length ≤ k := List.length_take_le _ _
      rw [HTl.out]; omega
    by_cases hlt : k < n
    · have hlt' : k < L.length := by rw [HLN.out]; exact hlt
      obtain ⟨b, off, v, rfl, c0, c1', hv⟩ := HR4.out.line hlt'
      have HStep := Lib.hid (learnt_take hlt')
      have HGs := Lib.hid (goodB_take hlt')
      obtain ⟨⟨f, c⟩, hxx⟩ : ∃ y, li L k = y := ⟨_, rfl⟩
      rw [hxx] at c0 hv HStep HGs
      simp only at c0 hv HStep HGs
      have HLi := Lib.hid hxx; clear hxx
      obtain ⟨av, cv, rfl, hcv, hcm2, _, hv4⟩ := hv
      have HV := Lib.hid hv4; clear hv4
      unfold maxLen at hcm2
      obtain ⟨m, hmm⟩ : ∃ m, c.length = m := ⟨_, rfl⟩
      rw [hmm] at c1' hcv
      have HM := Lib.hid hmm; clear hmm
      have hm9 : m ≤ 9223372036854775807 := by omega
      clear hcm2
      have i0 : (0 : Int) ≤ (k : Int) := by omega
      have i1 : (k : Int) < (n : Int) := by omega
      have d : decide ((k : Int) < (n : Int)) = true := by simp; omega
      go_wp2_with fail
      go_loop [4, 8] (fun v4 v8 => ∃ (j : Nat) (H : Bool), j ≤ m ∧ v8 = .int .i64 j ∧ v4 = .bool H ∧ H = (G && (c.take j).all gl)) (fun _ v8 => m - (intOf v8).toNat)
      case atStart => exact ⟨0, G, Nat.zero_le _, rfl, rfl, by simp⟩
      case round =>
        obtain ⟨j, H, hj, rfl, rfl, hH⟩ := hrel
        have HH := Lib.hid hH; clear hH
        by_cases hjm : j < m
        · have hjm' : j < c.length := by rw [HM.out]; exact hjm
          obtain ⟨b', off', rfl, hcj⟩ := HV.out.get hjm'
          have HA := Lib.hid (all_take hjm')
          obtain ⟨y, hy⟩ : ∃ y, gi c j = y := ⟨_, rfl⟩
          rw [hy] at hcj HA
          clear hy
          have HGd := Lib.hid (fun u => ref02_Good y u)
          obtain ⟨q, hq⟩ : ∃ q, gl y = q := ⟨_, rfl⟩
          rw [hq] at HGd HA
          clear hq
          have j0 : (0 : Int) ≤ (j : Int) := by omega
          have j1 : (j : Int) < (m : Int) := by omega
          have d2 : decide ((j : Int) < (m : Int)) = true := by simp; omega
          cases H
          · go_wp2_with fail
            go_round
            case rel => exact ⟨j + 1, false, by omega, by go_num, rfl, by rw [HA.out, ← Bool.and_assoc, ← HH.out]; rfl⟩
            case measure => simp [intOf]; omega
          · go_wp2_with fail
            refine (HGd.out _).mono ?_
            rintro e w' ⟨rfl, rfl⟩
            go_wp2_with fail
            go_round
            case rel => exact ⟨j + 1, q, by omega, by go_num, rfl, by rw [HA.out, ← Bool.and_assoc, ← HH.out]; rfl⟩
            case measure => simp [intOf]; omega
        · have d2 : decide ((j : Int) < (m : Int)) = false := by simp; omega
          have HG2 := Lib.hid (show H = goodB (L.take (k + 1)) by rw [HGs.out, HH.out, HG.out, List.take_of_length_le (l := c) (show c.length ≤ j by rw [HM.out]; omega)])
          clear HH HG HGs
          cases f
          · have HT2 := Lib.hid (show t + 1 = learnt (L.take (k + 1)) by rw [HStep.out, ← HTl.out]; rfl)
            by_cases hm0 : m = 0
            · have dm : ((m : Int) == 0) = true := by simp [hm0]
              have hE : isE (li L k) = true := by rw [HLi.out, isE_iff false c m HM.out, hm0]; rfl
              by_cases hxn : x = n
              · have dx : ((x : Int) == (n : Int)) = true := by simp [hxn]
                have HP2 := Lib.hid (HP.out.here hlt hxn hE)
                clear hm0 hxn hE
                go_wp2_with fail
                go_round
                case rel => exact ⟨k + 1, k + 1, t + 1, H, by omega, by go_num, rfl, HG2.out, by go_num, HT2.out, by go_num, HP2.out⟩
                case measure => simp [intOf]; omega
              · have dx : ((x : Int) == (n : Int)) = false := by simp; omega
                have HP2 := Lib.hid (HP.out.past hxn)
                clear hm0 hxn hE
                go_wp2_with fail
                go_round
                case rel => exact ⟨k + 1, x, t + 1, H, by omega, by go_num, rfl, HG2.out, by go_num, HT2.out, rfl, HP2.out⟩
                case measure => simp [intOf]; omega
            · have dm : ((m : Int) == 0) = false := by simp; omega
              have HP2 := Lib.hid (HP.out.keep (show isE (li L k) = false by rw [HLi.out, isE_iff false c m HM.out]; simp; omega))
              clear hm0
              go_wp2_with fail
              go_round
              case rel => exact ⟨k + 1, x, t + 1, H, by omega, by go_num, rfl, HG2.out, by go_num, HT2.out, rfl, HP2.out⟩
              case measure => simp [intOf]; omega
          · have HT2 := Lib.hid (show t = learnt (L.take (k + 1)) by rw [HStep.out, ← HTl.out]; rfl)
            have HP2 := Lib.hid (HP.out.keep (show isE (li L k) = false by rw [HLi.out]; rfl))
            go_wp2_with fail
            go_round
            case rel => exact ⟨k + 1, x, t, H, by omega, by go_num, rfl, HG2.out, rfl, HT2.out, rfl, HP2.out⟩
            case measure => simp [intOf]; omega
    · have d : decide ((k : Int) < (n : Int)) = false := by simp; omega
      have hkn : k = L.length := by rw [HLN.out]; omega
      have eT : L.take k = L := List.take_of_length_le (by omega)
      rw [eT] at HG HTl
      have hP : CutP L L.length L.length x := by
        have h := HP.out
        rw [← HLN.out, hkn] at h
        exact h
      have HX := Lib.hid (CutP.done hP)
      have hxc : x ≤ cap := by omega
      rw [← HTl.out] at HLe
      have HSc : Hid (∀ a1 c1 u, Kp (fun _ => False) w u → LnsAt u a1 (cutL L) → Calls Tryd.prog 44 #[.slice a1 x c1, .slice a x cap] u fun e w' => e = .returned (.bool true) ∧ ∃ q, w' = u.drewN q) := by
        intro a1 c1 u hk h1
        have h2 := HSm.out a1 c1 a cap u (cutL L) (by rw [HX.out.2]; omega) h1 (by rw [← HX.out.1]; exact (HR.out.kp hk).take x)
        rw [HX.out.2] at h2
        exact h2
      have HOwn2 : Hid (∀ u, Kp (fun _ => False) w u → Calls Tryd.prog 48 #[.slice a n cap] u fun e w' => ∃ a' c', e = .returned (.slice a' n c') ∧ (LnsAt w' a' L ∧ n ≤ c' ∧ c' ≤ maxLen ∧ (a' = none → c' = 0)) ∧ Kp (fun _ => False) w w') := by
        intro u hk
        refine (HOwn.out u hk).mono ?_
        rintro e w' ⟨v, rfl, ⟨a', c', rfl, g1, g2, g3, g4⟩, hK⟩
        rw [HLN.out] at g1 ⊢
        exact ⟨a', c', rfl, ⟨g4, g1, g2, g3⟩, hk.trans hK (fun _ _ h => h)⟩
      have HCt2 : Hid (∀ a' c' u, Kp (fun _ => False) w u → (LnsAt u a' L ∧ n ≤ c' ∧ c' ≤ maxLen ∧ (a' = none → c' = 0)) → Calls Tryd.prog 52 #[.slice a' n c'] u fun e w' => ∃ a2 c2, e = .returned (.slice a2 x c2) ∧ LnsAt w' a2 (cutL L) ∧ Kp (fun _ => False) w w') := by
        intro a' c' u hk h
        refine (HCt.out a' c' u h.1 h.2.1 h.2.2.1 h.2.2.2).mono ?_
        rintro e w' ⟨v, rfl, ⟨a2, c2, rfl, _, _, _, g4⟩, hK⟩
        rw [HX.out.2]
        exact ⟨a2, c2, rfl, g4, hk.trans hK (fun _ _ h => h)⟩
      have x0 : (0 : Int) ≤ (x : Int) := by omega
      have x1 : (x : Int) ≤ (cap : Int) := by omega
      have x2 : (x : Int) ≤ (n : Int) := by omega
      have tt : ((t : Int) == (t : Int)) = true := by simp
      clear hkn eT hP
      cases G
      · go_wp2_with fail
        refine (HRd.out _ HK5.out).mono ?_
        rintro e w5 ⟨v, rs, rfl, hO, hLn, hK6⟩
        obtain ⟨a2, c2, rfl, _⟩ := hO.form
        have HKz := Lib.hid (HK5.out.trans hK6 (fun _ _ h => h))
        clear hO hLn hK6
        go_wp2_with fail
        go_region_with (first
          | (go_at_call 48; refine (HOwn2.out _ (by first | exact HKb.out | exact HKz.out | exact HKz.out.drew)).mono ?_; rintro e wa ⟨aa, ca, rfl, hSa, hKa⟩; have HSa := Lib.hid hSa; have HKa := Lib.hid hKa; clear hSa hKa)
          | (go_at_call 51; refine (HLe.out _ _ _ HSa.out.1).mono ?_; rintro e wb ⟨rfl, hKb⟩; have HKb := Lib.hid (HKa.out.trans hKb (fun _ _ h => h)); clear hKb)
          | (go_at_call 52; refine (HCt2.out _ _ _ HKa.out HSa.out).mono ?_; rintro e wc ⟨ac, cc, rfl, hAc, hKc⟩; have HAc := Lib.hid hAc; have HKc := Lib.hid hKc; clear hAc hKc)
          | (go_at_call 44; refine (HSc.out _ _ _ HKc.out HAc.out).mono ?_; rintro e wd ⟨rfl, q, rfl⟩; have HKd := Lib.hid (HKc.out.drewN q))
          | (go_at_call 46; refine (HLv.out _ HKd.out).mono ?_; rintro e we ⟨rfl, hKe⟩; have hend := (HKd.out.trans hKe (fun _ _ h => h)).below (Nat.le_refl _) (fun _ _ h => h)))
        all_goals go_wp2_with fail
        all_goals go_ret
        all_goals exact ⟨rfl, hend⟩
      · obtain ⟨M, hM, hT⟩ := HSame.out HG.out.symm
        rw [hT] at HRd
        clear hT
        go_wp2_with fail
        refine (HRd.out _ HK5.out).mono ?_
        rintro e w5 ⟨v, rs, rfl, hO, hLn, hK6⟩
        obtain ⟨a2, c2, rfl, _⟩ := hO.form
        obtain ⟨hA, hmm⟩ := LnsAt.of hO hLn
        simp only at hA hmm
        rw [← hM] at hA hmm
        rw [hmm, HLN.out]
        have HKy := Lib.hid (HK5.out.trans hK6 (fun _ _ h => h))
        have HS1 := HSm.out a2 c2 a cap w5 L (by rw [HLN.out]; omega) hA (HR.out.kp HKy.out)
        rw [HLN.out] at HS1
        have HS2 := Lib.hid HS1
        clear HS1 hO hLn hK6 hA hmm hM
        go_wp2_with fail
        refine HS2.out.mono ?_
        rintro e w6 ⟨rfl, q6, rfl⟩
        have HKz := Lib.hid (HKy.out.drewN q6)
        go_wp2_with fail
        go_region_with (first
          | (go_at_call 48; refine (HOwn2.out _ (by first | exact HKb.out | exact HKz.out | exact HKz.out.drew)).mono ?_; rintro e wa ⟨aa, ca, rfl, hSa, hKa⟩; have HSa := Lib.hid hSa; have HKa := Lib.hid hKa; clear hSa hKa)
          | (go_at_call 51; refine (HLe.out _ _ _ HSa.out.1).mono ?_; rintro e wb ⟨rfl, hKb⟩; have HKb := Lib.hid (HKa.out.trans hKb (fun _ _ h => h)); clear hKb)
          | (go_at_call 52; refine (HCt2.out _ _ _ HKa.out HSa.out).mono ?_; rintro e wc ⟨ac, cc, rfl, hAc, hKc⟩; have HAc := Lib.hid hAc; have HKc := Lib.hid hKc; clear hAc hKc)
          | (go_at_call 44; refine (HSc.out _ _ _ HKc.out HAc.out).mono ?_; rintro e wd ⟨rfl, q, rfl⟩; have HKd := Lib.hid (HKc.out.drewN q))
          | (go_at_call 46; refine (HLv.out _ HKd.out).mono ?_; rintro e we ⟨rfl, hKe⟩; have hend := (HKd.out.trans hKe (fun _ _ h => h)).below (Nat.le_refl _) (fun _ _ h => h)))
        all_goals go_wp2_with fail
        all_goals go_ret
        all_goals exact ⟨rfl, hend⟩

/-- lines that came in -/
def LnsArg (w : World) (v : Value) : Prop := ∃ L, LnsSl w v L

theorem derivWrites_walk (w : World) (v : Value) (hv : LnsArg w v) (ht : Tab w) (hm : ML w) :
    Calls Tryd.prog 10 #[v] w fun e w' => e = .returned (.bool true) ∧ Below w.heap.size w w' := by
  obtain ⟨L, a, cap, rfl, h1, h2, h3, h4⟩ := hv
  cases hf : few L
  · exact derivWrites_much a cap L L.length w h4 rfl (by unfold maxLen at h2; omega) hf ht hm
  · exact derivWrites_few a cap L L.length w h4 rfl h1 h2 h3 hf ht hm

end Go.Proofs.YtcpgbgbhfkpehaaDoor
