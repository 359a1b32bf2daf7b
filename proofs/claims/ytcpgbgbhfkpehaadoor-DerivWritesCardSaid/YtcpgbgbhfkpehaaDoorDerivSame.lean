/-
  latchetref28.Same, deriv.Learned; what is read, as rows of lines.
-/
import Derived.Test.YtcpgbgbhfkpehaaDoorDerivWr
import Derived.Test.YtcpgbgbhfkpehaaDoorInts
import Derived.Deep.QuietTactic
import Derived.BigQuiet
namespace Go.Proofs.YtcpgbgbhfkpehaaDoor
open Go.RowKit

theorem LnsAt.drewN {w : World} {a : Option Addr} {L : List (Bool × List Int)} (h : LnsAt w a L) (q : Nat) : LnsAt (w.drewN q) a L := h.kp ((Kp.refl _ _).drewN q)

set_option maxRecDepth 100000 in
set_option maxHeartbeats 4000000 in
theorem ref28_Same (a a' : Option Addr) (cap cap' : Nat) (L : List (Bool × List Int)) (n : Nat) (w : World) (hr : LnsAt w a L) (hr' : LnsAt w a' L) (hln : L.length = n) (hn : n ≤ 10000000) :
    Calls Tryd.prog 44 #[.slice a n cap, .slice a' n cap'] w fun e w' => e = .returned (.bool true) ∧ ∃ q, w' = w.drewN q := by
  have HLN := Lib.hid hln; clear hln
  have HR := Lib.hid hr; clear hr
  have HR' := Lib.hid hr'; clear hr'
  have b1 : ((n : Int) != (n : Int)) = false := by simp
  go_enter Tryd.func44, Tryd.ntmps44
  go_wp2_with fail
  go_loopw [5] (fun v5 wr => ∃ k q : Nat, k ≤ n ∧ v5 = .int .i64 k ∧ wr = w.drewN q) (fun v5 _ => n - (intOf v5).toNat)
  case atStart => exact ⟨0, 0, Nat.zero_le _, rfl, rfl⟩
  case round =>
    obtain ⟨k, q, hk, rfl, hw⟩ := hrel
    by_cases hlt : k < n
    · have hlt' : k < L.length := by rw [HLN.out]; exact hlt
      have hR : LnsAt wr a L := by rw [hw]; exact HR.out.drewN q
      have hR' : LnsAt wr a' L := by rw [hw]; exact HR'.out.drewN q
      have HW := Lib.hid hw; clear hw
      obtain ⟨b, off, v, rfl, c0, c1, hv⟩ := hR.line hlt'
      obtain ⟨b', off', v', rfl, c0', c1', hv'⟩ := hR'.line hlt'
      clear hR hR'
      obtain ⟨⟨f, c⟩, hx⟩ : ∃ x, li L k = x := ⟨_, rfl⟩
      rw [hx] at c0 hv c0' hv'
      simp only at c0 hv c0' hv'
      clear hx
      obtain ⟨av, cv, rfl, _, hcm, _, hv4⟩ := hv
      obtain ⟨av', cv', rfl, hcm', hcm2, _, hv4'⟩ := hv'
      have HI := Lib.hid (fun (j : Nat) => ref_Ints av av' c.length c.length cv cv' c c (wr.drewN j) (show IntsAt (wr.drewN j) av c from hv4) (show IntsAt (wr.drewN j) av' c from hv4') rfl rfl (by unfold maxLen at hcm2; omega))
      rw [show (c == c) = true by simp] at HI
      obtain ⟨m, hm⟩ : ∃ m, c.length = m := ⟨_, rfl⟩
      rw [hm] at HI c1 c1'
      clear hv4 hv4' hcm hm hcm' hcm2
      have b2 : (f != f) = false := by simp
      have i0 : (0 : Int) ≤ (k : Int) := by omega
      have i1 : (k : Int) < (n : Int) := by omega
      have d : decide ((k : Int) < (n : Int)) = true := by simp; omega
      go_wp2_with fail
      go_quiet ((go_at_call 104; exact Calls.quiet_of (HI.out _)))
      go_wp2_with fail
      go_roundw
      case rel => exact ⟨k + 1, _, by omega, by go_num, by rw [HW.out, World.drewN_drewN]⟩
      case measure => simp [intOf]; omega
    · have HW := Lib.hid hw; clear hw
      go_wp2_with fail
      go_ret
      exact ⟨rfl, q, HW.out⟩

/-- how many lines are learned -/
def learnt (L : List (Bool × List Int)) : Nat := (L.filter (fun x => !x.1)).length

theorem learnt_take {L : List (Bool × List Int)} {k : Nat} (h : k < L.length) : learnt (L.take (k + 1)) = learnt (L.take k) + (if (li L k).1 then 0 else 1) := by
  have e : L.take (k + 1) = L.take k ++ [li L k] := by
    rw [List.take_succ_eq_append_getElem h]
    congr 2
    unfold li; rw [List.getElem?_eq_getElem h]; rfl
  rw [e]
  unfold learnt
  rw [List.filter_append, List.length_append]
  congr 1
  cases h : (li L k).1 <;> simp [h]

theorem learnt_le (L : List (Bool × List Int)) : learnt L ≤ L.length := List.length_filter_le _ _

set_option maxRecDepth 100000 in
set_option maxHeartbeats 2000000 in
theorem deriv_Learned (a : Option Addr) (cap : Nat) (L : List (Bool × List Int)) (n : Nat) (w : World) (hr : LnsAt w a L) (hln : L.length = n) (hn : n ≤ 10000000) :
    Calls Tryd.prog 51 #[.slice a n cap] w fun e w' => e = .returned (.int .i64 (learnt L : Int)) ∧ Kp (fun _ => False) w w' := by
  have HLN := Lib.hid hln; clear hln
  have HR := Lib.hid hr; clear hr
  go_enter Tryd.func51, Tryd.ntmps51
  go_wp2_with fail
  go_loopw [3, 8] (fun v3 v8 wr => ∃ k : Nat, k ≤ n ∧ v8 = .int .i64 k ∧ v3 = .int .i64 (learnt (L.take k) : Int) ∧ Kp (fun _ => False) w wr) (fun _ v8 _ => n - (intOf v8).toNat)
  case atStart => exact ⟨0, Nat.zero_le _, rfl, rfl, Kp.refl _ _⟩
  case round =>
    obtain ⟨k, hk, rfl, rfl, hK⟩ := hrel
    by_cases hlt : k < n
    · have hlt' : k < L.length := by rw [HLN.out]; exact hlt
      obtain ⟨b, off, v, rfl, c0, c1, hv⟩ := (HR.out.kp hK).line hlt'
      have HS := Lib.hid (learnt_take hlt')
      have hle := learnt_le (L.take k)
      have hle2 : (L.take k).length ≤ k := List.length_take_le _ _
      obtain ⟨T, hT⟩ : ∃ T, learnt (L.take k) = T := ⟨_, rfl⟩
      rw [hT] at HS hle ⊢
      clear hT
      have hT2 : T ≤ 10000000 := by omega
      clear hle hle2
      obtain ⟨⟨f, c⟩, hx⟩ : ∃ x, li L k = x := ⟨_, rfl⟩
      rw [hx] at c0 hv HS
      simp only at c0 hv HS
      clear hx
      obtain ⟨av, cv, rfl, _, _, _, _⟩ := hv
      have i0 : (0 : Int) ≤ (k : Int) := by omega
      have i1 : (k : Int) < (n : Int) := by omega
      have d : decide ((k : Int) < (n : Int)) = true := by simp; omega
      have hK2 := hK.alloc (.cells #[.bool f, .slice av c.length cv] 86)
      have hf1 := (Blk.new wr #[.bool f, .slice av c.length cv] 86).cell (i := 0) rfl
      cases f
      · go_wp2_with fail
        go_roundw
        case rel => exact ⟨k + 1, by omega, by go_num, by rw [HS.out]; go_num, hK2⟩
        case measure => simp [intOf]; omega
      · go_wp2_with fail
        go_roundw
        case rel => exact ⟨k + 1, by omega, by go_num, by rw [HS.out]; go_num, hK2⟩
        case measure => simp [intOf]; omega
    · have d : decide ((k : Int) < (n : Int)) = false := by simp; omega
      have e : L.take k = L := List.take_of_length_le (by rw [HLN.out]; omega)
      rw [e]
      clear e
      go_wp2_with fail
      go_ret
      exact ⟨rfl, hK⟩

/-- lines of numbers, as lines of ints -/
def toI (L : List (Bool × List Nat)) : List (Bool × List Int) := L.map (fun x => (x.1, x.2.map (fun (n : Nat) => (n : Int))))

theorem litText_lt {x : Nat} (h : x ≤ 33554433) : litText (x : Int) = lt x := by
  unfold litText lt
  rw [if_pos (by simp [gl]; omega)]
  by_cases ho : x % 2 = 1
  · rw [if_pos (by omega), if_pos ho, show (x : Int) / 2 = ((x / 2 : Nat) : Int) by omega, itoa_nat]
  · rw [if_neg (by omega), if_neg ho, show (x : Int) / 2 = ((x / 2 : Nat) : Int) by omega, itoa_nat]

theorem lti_toI {L : List (Bool × List Nat)} (hg : ∀ x ∈ L, goodL x.2) : lti (toI L) = ltl L := by
  unfold lti toI ltl
  rw [List.map_map]
  apply List.map_congr_left
  intro x hx
  simp only [Function.comp_apply, List.map_map, Prod.mk.injEq, true_and]
  apply List.map_congr_left
  intro y hy
  exact litText_lt (hg x hx y hy)

theorem LnsAt.of {w : World} {base m c : Nat} {a : Option Addr} {rs : List (Bool × Value)} {L : List (Bool × List Nat)} (h : OwnK w base 86 2 (.slice a m c) (lrows rs)) (hl : Lns w base rs L) : LnsAt w a (toI L) ∧ m = (toI L).length := by
  obtain ⟨a', c', e, h1, h2, h3, _, hr⟩ := h.form
  simp only [Value.slice.injEq] at e
  obtain ⟨rfl, rfl, rfl⟩ := e
  refine ⟨⟨rs, hr, by rw [hl.1]; simp [toI], ?_⟩, by rw [show (lrows rs).length = rs.length by simp [lrows], hl.1]; simp [toI]⟩
  intro k r x hk hx
  have hkl : k < L.length := by rw [← hl.1]; exact (List.getElem?_eq_some_iff.1 hk).1
  have hL : L[k]? = some L[k] := List.getElem?_eq_getElem hkl
  have hx2 : x = (L[k].1, L[k].2.map (fun (n : Nat) => (n : Int))) := by
    unfold toI at hx
    rw [List.getElem?_map, hL] at hx
    simpa using hx.symm
  obtain ⟨e1, hO⟩ := hl.2 k r _ hk hL
  subst hx2
  refine ⟨e1, ?_⟩
  rcases hO.2 with ⟨hv, h0⟩ | hO2
  · have : L[k].2 = [] := by
      rw [nums_length] at h0
      exact List.eq_nil_of_length_eq_zero h0
    rw [hv, this]
    exact ⟨none, 0, rfl, Nat.le_refl _, Nat.zero_le _, fun _ => rfl, RowAt.nil _ _⟩
  · obtain ⟨a2, c2, e2, h4, h5, h6, hr2⟩ := hO.form
    refine ⟨a2, c2, by rw [e2, nums_length]; simp, by rw [nums_length] at h4; simpa using h4, h5, ?_, ?_⟩
    · intro ha
      obtain ⟨g, cap, cur, hv, _⟩ := hO2
      rw [hv, ha] at e2
      simp at e2
    · unfold IntsAt
      rw [List.map_map]
      exact hr2

end Go.Proofs.YtcpgbgbhfkpehaaDoor
