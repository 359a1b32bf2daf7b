/-
  deriv.Cut: lines up to the first empty clause.
-/
import Derived.Test.YtcpgbgbhfkpehaaDoorDerivRefW
namespace Go.Proofs.YtcpgbgbhfkpehaaDoor
open Go.RowKit

/-- a line that says that nothing is left -/
def isE (x : Bool × List Int) : Bool := !x.1 && decide (x.2.length = 0)

def cutL : List (Bool × List Int) → List (Bool × List Int)
  | [] => []
  | x :: r => if isE x then [x] else x :: cutL r

theorem li_succ (x : Bool × List Int) (r : List (Bool × List Int)) (j : Nat) : li (x :: r) (j + 1) = li r j := by simp [li]
theorem li_zero (x : Bool × List Int) (r : List (Bool × List Int)) : li (x :: r) 0 = x := by simp [li]

theorem cutL_some : ∀ (L : List (Bool × List Int)) (k : Nat), k < L.length → (∀ j, j < k → isE (li L j) = false) → isE (li L k) = true → L.take (k + 1) = cutL L
  | [], k, h, _, _ => by simp at h
  | x :: r, 0, _, _, h => by
    rw [li_zero] at h
    simp [cutL, h]
  | x :: r, k + 1, h, hn, he => by
    have h0 := hn 0 (by omega)
    rw [li_zero] at h0
    rw [li_succ] at he
    have := cutL_some r k (by simpa using h) (fun j hj => by have := hn (j + 1) (by omega); rwa [li_succ] at this) he
    rw [List.take_succ_cons, this]
    simp [cutL, h0]

theorem cutL_none : ∀ (L : List (Bool × List Int)), (∀ j, j < L.length → isE (li L j) = false) → cutL L = L
  | [], _ => rfl
  | x :: r, hn => by
    have h0 := hn 0 (by simp)
    rw [li_zero] at h0
    simp [cutL, h0]
    exact cutL_none r (fun j hj => by have := hn (j + 1) (by simpa using hj); rwa [li_succ] at this)

theorem cut_test (f : Bool) (av : Option Addr) (c : List Int) (m cv : Nat) (w : World) (hm : c.length = m) :
    Calls Tryd.prog 113 #[.agg #[.bool f, .slice av m cv]] w fun e w' => e = .returned (.bool (isE (f, c))) ∧ Kp (fun _ => False) w w' := by
  have hB := Blk.new w #[.bool f, .slice av m cv] 86
  have b0 := hB.cell (i := 0) rfl
  have b1 := hB.cell (i := 1) rfl
  clear hB
  cases f
  · by_cases h0 : m = 0
    · have HE := Lib.hid (show isE (false, c) = true by simp [isE, hm, h0])
      have d : ((m : Int) == 0) = true := by simp [h0]
      clear hm h0
      go_enter Tryd.func113, Tryd.ntmps113
      go_wp2
      go_ret
      rw [HE.out]
      exact ⟨rfl, (Kp.refl _ _).alloc _⟩
    · have HE := Lib.hid (show isE (false, c) = false by unfold isE; simp only [Bool.not_false, Bool.true_and, decide_eq_false_iff_not]; omega)
      have d : ((m : Int) == 0) = false := by simp; omega
      clear hm h0
      go_enter Tryd.func113, Tryd.ntmps113
      go_wp2
      go_ret
      rw [HE.out]
      exact ⟨rfl, (Kp.refl _ _).alloc _⟩
  · have HE := Lib.hid (show isE (true, c) = false by simp [isE])
    clear hm
    go_enter Tryd.func113, Tryd.ntmps113
    go_wp2
    go_ret
    rw [HE.out]
    exact ⟨rfl, (Kp.refl _ _).alloc _⟩

/-- where the first such line stands -/
def FirstE (L : List (Bool × List Int)) (x : Int) : Prop := (x = -1 ∧ ∀ j, j < L.length → isE (li L j) = false) ∨ ∃ k : Nat, x = k ∧ k < L.length ∧ (∀ j, j < k → isE (li L j) = false) ∧ isE (li L k) = true
def IdxP (L : List (Bool × List Int)) (w : World) (e : Ending) (w' : World) : Prop := ∃ x : Int, e = .returned (.int .i64 x) ∧ FirstE L x ∧ Kp (fun _ => False) w w'

set_option maxRecDepth 100000 in
set_option maxHeartbeats 2000000 in
theorem cut_index (a : Option Addr) (cap : Nat) (L : List (Bool × List Int)) (n : Nat) (w : World) (hr : LnsAt w a L) (hln : L.length = n) (hn : n ≤ 100000) :
    Calls Tryd.prog 112 #[.slice a n cap, .func (.func 113) #[] #[]] w (IdxP L w) := by
  have HLN := Lib.hid hln; clear hln
  have HR := Lib.hid hr; clear hr
  go_enter Tryd.func112, Tryd.ntmps112
  go_wp2_with fail
  go_loopw [8] (fun v8 wr => ∃ k : Nat, k ≤ n ∧ v8 = .int .i64 k ∧ (∀ j, j < k → isE (li L j) = false) ∧ Kp (fun _ => False) w wr) (fun v8 _ => n - (intOf v8).toNat)
  case atStart => exact ⟨0, Nat.zero_le _, rfl, fun j hj => by omega, Kp.refl _ _⟩
  case round =>
    obtain ⟨k, hk, rfl, hJ, hK⟩ := hrel
    have HJ := Lib.hid hJ; clear hJ
    by_cases hlt : k < n
    · have hlt' : k < L.length := by rw [HLN.out]; exact hlt
      obtain ⟨b, off, v, rfl, c0, c1, hv⟩ := (HR.out.kp hK).line hlt'
      have HY := Lib.hid (show isE (li L k) = true → FirstE L (k : Int) from fun h => .inr ⟨k, rfl, hlt', HJ.out, h⟩)
      have HN := Lib.hid (show isE (li L k) = false → ∀ j, j < k + 1 → isE (li L j) = false from fun h j hj => by
        by_cases e : j = k
        · subst e; exact h
        · exact HJ.out j (by omega))
      obtain ⟨⟨f, c⟩, hx⟩ : ∃ x, li L k = x := ⟨_, rfl⟩
      rw [hx] at c0 hv HY HN
      simp only at c0 hv
      clear hx
      obtain ⟨av, cv, rfl, hcv, hcm, _, _⟩ := hv
      obtain ⟨m, hm⟩ : ∃ m, c.length = m := ⟨_, rfl⟩
      have HCt := Lib.hid (fun u => cut_test f av c m cv u hm)
      rw [hm] at c1
      clear hm hcv hcm
      have i0 : (0 : Int) ≤ (k : Int) := by omega
      have i1 : (k : Int) < (n : Int) := by omega
      have d : decide ((k : Int) < (n : Int)) = true := by simp; omega
      cases he : isE (f, c)
      · have HN2 := Lib.hid (HN.out he)
        rw [he] at HCt
        clear he
        go_wp2_with fail
        refine (HCt.out _).mono ?_
        rintro e w2 ⟨rfl, hK2⟩
        have hK3 := hK.trans hK2 (fun _ _ h => h)
        go_wp2_with fail
        go_roundw
        case rel => exact ⟨k + 1, by omega, by go_num, HN2.out, hK3⟩
        case measure => simp [intOf]; omega
      · have HY2 := Lib.hid (HY.out he)
        rw [he] at HCt
        clear he
        go_wp2_with fail
        refine (HCt.out _).mono ?_
        rintro e w2 ⟨rfl, hK2⟩
        have hK3 := hK.trans hK2 (fun _ _ h => h)
        go_wp2_with fail
        go_ret
        exact ⟨_, rfl, HY2.out, hK3⟩
    · have d : decide ((k : Int) < (n : Int)) = false := by simp; omega
      have HY := Lib.hid (show FirstE L (-1) from .inl ⟨rfl, fun j hj => HJ.out j (by rw [HLN.out] at hj; omega)⟩)
      go_wp2_with fail
      go_ret
      exact ⟨_, rfl, HY.out, hK⟩

/-- a slice of lines with its place -/
def LnsSl (w : World) (v : Value) (L : List (Bool × List Int)) : Prop := ∃ a cap, v = .slice a L.length cap ∧ L.length ≤ cap ∧ cap ≤ maxLen ∧ (a = none → cap = 0) ∧ LnsAt w a L

theorem LnsAt.rows {w : World} {a : Option Addr} {L : List (Bool × List Int)} (h : LnsAt w a L) : ∃ rs : List (Bool × Value), RowAt w a (lrows rs).flatten ∧ rs.length = L.length ∧ (∀ (k : Nat) (r : Bool × Value) (x : Bool × List Int), rs[k]? = some r → L[k]? = some x → r.1 = x.1 ∧ IntsSl w r.2 x.2) ∧ (∀ u ∈ (lrows rs).flatten, u.oneCell' = true) := by
  obtain ⟨rs, h1, h2, h3⟩ := h
  refine ⟨rs, h1, h2, h3, ?_⟩
  intro u hu
  obtain ⟨r, hr, hu⟩ := List.mem_flatten.1 hu
  obtain ⟨x, hx, rfl⟩ := List.mem_map.1 hr
  obtain ⟨k, hk⟩ := List.mem_iff_getElem?.1 hx
  have hkl := (List.getElem?_eq_some_iff.1 hk).1
  obtain ⟨_, a', c', e, _⟩ := h3 k x _ hk (li_at (by rw [← h2]; exact hkl))
  simp at hu
  rcases hu with rfl | rfl
  · rfl
  · rw [e]; rfl

theorem LnsAt.take {w : World} {a : Option Addr} {L : List (Bool × List Int)} (h : LnsAt w a L) (m : Nat) : LnsAt w a (L.take m) := by
  obtain ⟨rs, h1, h2, h3⟩ := h
  refine ⟨rs.take m, ?_, by rw [List.length_take, List.length_take, h2], ?_⟩
  · have e : (lrows rs).flatten = (lrows (rs.take m)).flatten ++ (lrows (rs.drop m)).flatten := by
      rw [← List.flatten_append]
      unfold lrows
      rw [← List.map_append, List.take_append_drop]
    intro j u hu
    refine h1 j u ?_
    rw [e, List.getElem?_append_left (List.getElem?_eq_some_iff.1 hu).1]
    exact hu
  · intro k r x hr hx
    rw [List.getElem?_take] at hr hx
    split at hr
    · rename_i hk
      rw [if_pos hk] at hx
      exact h3 k r x hr hx
    · cases hr

set_option maxRecDepth 100000 in
set_option maxHeartbeats 2000000 in
theorem cut_clone (a : Option Addr) (cap : Nat) (L : List (Bool × List Int)) (n : Nat) (w : World) (hr : LnsAt w a L) (hln : L.length = n) (hn : n ≤ 100000) (hc : n ≤ cap) (hnil : a = none → cap = 0) :
    Calls Tryd.prog 114 #[.slice a n cap] w fun e w' => ∃ v, e = .returned v ∧ LnsSl w' v L ∧ Kp (fun _ => False) w w' := by
  cases a with
  | none =>
    have hc0 := hnil rfl
    subst hc0
    obtain rfl : n = 0 := by omega
    have hL : L = [] := List.eq_nil_of_length_eq_zero hln
    subst hL
    have hq := fun (u : World) => Lib.run_eql_slice_nil (P := Tryd.prog) u 73 86 none 0 0 0 0 Tryd.underlying73
    go_enter Tryd.func114, Tryd.ntmps114
    go_wp2_with fail
    go_ret
    exact ⟨_, rfl, ⟨none, 0, rfl, Nat.le_refl _, Nat.zero_le _, fun _ => rfl, hr⟩, Kp.refl _ _⟩
  | some ad =>
    obtain ⟨rs, h1, h2, h3, h4⟩ := hr.rows
    have HRs := Lib.hid h3; clear h3
    have HO := Lib.hid (ownK_empty (k := 2) (base := w.heap.size) (Blk.new w #[] 86) (Nat.le_refl _))
    have hrow := Lib.hid (h1.kp ((Kp.refl (fun _ => False) w).alloc (.cells #[] 86)) (fun _ _ h => h))
    have hlen := Lib.hid (lrows_len rs)
    have H4 := Lib.hid h4
    have hm := Lib.hid (show (lrows rs).length = n by simp [lrows, h2, hln])
    have hsz : w.heap.size ≤ (w.alloc (.cells #[] 86)).heap.size := by simp
    clear h1 h4 hr hnil
    have hq := fun (u : World) => Lib.run_eql_slice_nil (P := Tryd.prog) u 73 86 (some ad) n cap 0 0 Tryd.underlying73
    go_enter Tryd.func114, Tryd.ntmps114
    go_wp2_with (at_builtin; refine wpList_appendAllK rfl _ _ 73 86 rfl Tryd.underlying73 lineInfo rfl (by decide) HO.out rfl (some ad) n cap (lrows rs) rfl hlen.out hm.out hrow.out (fun h => by cases h) H4.out ?c1 ?c2 hsz ?_)
    case c1 => simp; omega
    case c2 => simp; unfold maxLen; omega
    intro v' w' hO hg _
    have hK : Kp (fun _ => False) w w' := ((Kp.refl _ w).alloc _).grown hg (fun j hj hl => by simp [Value.ownBlock] at hj; omega)
    have HEnd : Hid (LnsSl w' v' L) := by
      obtain ⟨a', c', e, g1, g2, g3, _, g4⟩ := hO.form
      rw [hm.out, ← hln] at e g1
      exact ⟨a', c', e, g1, g2, g3, rs, g4, h2, fun k r x hr hx => ⟨(HRs.out k r x hr hx).1, (HRs.out k r x hr hx).2.kp hK⟩⟩
    have HK := Lib.hid hK
    clear hO hg hK h2 hln
    go_wp2_with fail
    go_ret
    exact ⟨_, rfl, HEnd.out, HK.out⟩

set_option maxRecDepth 100000 in
set_option maxHeartbeats 2000000 in
theorem deriv_Cut (a : Option Addr) (cap : Nat) (L : List (Bool × List Int)) (n : Nat) (w : World) (hr : LnsAt w a L) (hln : L.length = n) (hn : n ≤ 100000) (hc : n ≤ cap) (hcm : cap ≤ maxLen) (hnil : a = none → cap = 0) :
    Calls Tryd.prog 52 #[.slice a n cap] w fun e w' => ∃ v, e = .returned v ∧ LnsSl w' v (cutL L) ∧ Kp (fun _ => False) w w' := by
  have HI := Lib.hid (cut_index a cap L n w hr hln hn)
  have HR := Lib.hid hr; clear hr
  have HLN := Lib.hid hln; clear hln
  have HNil := Lib.hid hnil; clear hnil
  unfold maxLen at hcm
  go_enter Tryd.func52, Tryd.ntmps52
  go_wp2_with fail
  refine HI.out.mono ?_
  rintro e w2 ⟨x, rfl, hF, hK⟩
  rcases hF with ⟨rfl, hN⟩ | ⟨k, rfl, hk, hJ, hE⟩
  · have HC := Lib.hid (cut_clone a cap L n w2 (HR.out.kp hK) HLN.out hn hc HNil.out)
    have HE := Lib.hid (cutL_none L hN)
    clear hN
    go_wp2_with fail
    refine HC.out.mono ?_
    rintro e w3 ⟨v, rfl, hS, hK3⟩
    have hK4 := hK.trans hK3 (fun _ _ h => h)
    go_wp2_with fail
    go_ret
    rw [HE.out]
    exact ⟨_, rfl, hS, hK4⟩
  · have HE := Lib.hid (cutL_some L k hk hJ hE)
    have hk2 : k < n := by rw [HLN.out] at hk; exact hk
    have HC := Lib.hid (cut_clone a cap (L.take (k + 1)) (k + 1) w2 ((HR.out.kp hK).take _) (by rw [List.length_take]; omega) (by omega) (by omega) HNil.out)
    have d : decide ((k : Int) < 0) = false := by simp
    have i0 : (0 : Int) ≤ (k : Int) + 1 := by omega
    have i1 : (k : Int) + 1 ≤ (cap : Int) := by omega
    have i2 : ((k : Int) + 1).toNat = k + 1 := by omega
    clear hk hJ hE
    go_wp2_with fail
    refine HC.out.mono ?_
    rintro e w3 ⟨v, rfl, hS, hK3⟩
    have hK4 := hK.trans hK3 (fun _ _ h => h)
    go_wp2_with fail
    go_ret
    rw [← HE.out]
    exact ⟨_, rfl, hS, hK4⟩

end Go.Proofs.YtcpgbgbhfkpehaaDoor
