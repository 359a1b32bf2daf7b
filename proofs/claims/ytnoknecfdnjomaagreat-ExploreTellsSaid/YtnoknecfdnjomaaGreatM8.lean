/-
  latchetref02.Ints: whether two lists of ints are one.
-/
import Derived.Test.YtnoknecfdnjomaaGreatRows
import Derived.Test.YtnoknecfdnjomaaGreatM1
import Derived.Deep.QuietTactic
import Derived.BigQuiet
import Derived.Test.YtnoknecfdnjomaaGreatM6
import Derived.Test.YtnoknecfdnjomaaGreatM7
import Derived.Test.YtnoknecfdnjomaaGreatM4
import Derived.Test.YtnoknecfdnjomaaGreatM3
import Derived.Test.YtnoknecfdnjomaaGreatM5
import Derived.Test.YtnoknecfdnjomaaGreatM2
set_option linter.unusedVariables false
set_option linter.unusedSimpArgs false
namespace Go.Proofs.YtnoknecfdnjomaaGreat
open Go.RowKit

theorem ints_ext {l l' : List Int} (hl : l.length = l'.length) (h : ∀ j, j < l.length → gi l j = gi l' j) : l = l' := by
 apply List.ext_getElem?
 intro j
 by_cases hj : j < l.length
 ·have := h j hj
  unfold gi at this
  rw [List.getElem?_eq_getElem hj, List.getElem?_eq_getElem (by omega)] at this ⊢
  simpa using this
 ·rw [List.getElem?_eq_none (by omega), List.getElem?_eq_none (by omega)]

set_option maxHeartbeats 400000 in
theorem ref_Ints (a a' : Option Addr) (n n' cap cap' : Nat) (l l' : List Int) (w : World) (ha : IntsAt w a l) (ha' : IntsAt w a' l') (hl : l.length = n) (hl' : l'.length = n') (hn : n ≤ 9223372036854775807) :
  Calls Tryz.prog 19 #[.slice a n cap, .slice a' n' cap'] w fun e w' => e = .returned (.bool (l == l')) ∧ ∃ n, w' = w.drewN n := by
 have HL := Lib.hid hl; clear hl
 have HL' := Lib.hid hl'; clear hl'
 by_cases hne : n = n'
 ·subst hne
  have b1 : ((n : Int) != (n : Int)) = false := by simp
  go_enter Tryz.func19, Tryz.ntmps19
  go_wp2
  go_loopw [5] (fun i wr => ∃ k m : Nat, k ≤ n ∧ i = .int .i64 k ∧ (∀ j, j < k → gi l j = gi l' j) ∧ wr = w.drewN m) (fun i _ => n - (intOf i).toNat)
  case atStart => exact ⟨0, 0, Nat.zero_le _, rfl, fun j hj => by omega, rfl⟩
  case round =>
   obtain ⟨k, m, hk, rfl, he, rfl⟩ := hrel
   have HE := Lib.hid he
   clear he
   by_cases hlt : k < n
   ·obtain ⟨b, off, rfl, hc⟩ := ha.get (j := k) (by rw [HL.out]; exact hlt)
    obtain ⟨b', off', rfl, hc'⟩ := ha'.get (j := k) (by rw [HL'.out]; exact hlt)
    have i1 : (0 : Int) ≤ (k : Int) := by omega
    have i2 : (k : Int) < (n : Int) := by omega
    by_cases hq : gi l k = gi l' k
    ·have q1 : (gi l k != gi l' k) = false := by simp [hq]
     have HQ := Lib.hid hq
     clear hq
     go_wp2
     go_quiet (fail)
     go_wp2
     go_roundw
     case rel =>
      refine ⟨k + 1, _, by omega, by go_num, fun j hj => ?_, rfl⟩
      by_cases e : j = k
      ·subst e; exact HQ.out
      ·exact HE.out j (by omega)
     case measure => simp [intOf]; omega
    ·have q1 : (gi l k != gi l' k) = true := by simp [hq]
     have HQ := Lib.hid hq
     clear hq
     go_wp2
     go_quiet (fail)
     go_wp2
     go_ret
     have e : (l == l') = false := by
      rw [beq_eq_false_iff_ne]
      intro e
      exact HQ.out (by rw [e])
     rw [e]
     exact ⟨rfl, _, World.drewN_drewN ..⟩
   ·go_wp2
    go_ret
    have e : (l == l') = true := by
     rw [beq_iff_eq]
     exact ints_ext (by rw [HL.out, HL'.out]) (fun j hj => HE.out j (by rw [HL.out] at hj; omega))
    rw [e]
    exact ⟨rfl, _, rfl⟩
 ·have b1 : ((n : Int) != (n' : Int)) = true := by simp; omega
  have e : Hid ((l == l') = false) := by
   show _ = _
   rw [beq_eq_false_iff_ne]
   intro e
   exact hne (by rw [← HL.out, ← HL'.out, e])
  clear hne
  go_enter Tryz.func19, Tryz.ntmps19
  go_wp2
  go_ret
  rw [e.out]
  exact ⟨rfl, 0, rfl⟩

end Go.Proofs.YtnoknecfdnjomaaGreat

/-
  latchetlaw43.lives.
-/
namespace Go.Proofs.YtnoknecfdnjomaaGreat
open Go.RowKit Go.Sort

section
variable {w : World} {C : Circ} {pr : Int} {sp : Nat}
theorem sp_States (h : SpcAt w C pr sp) : Calls Tryz.prog 14 #[.pointer (some ⟨sp, 0, none⟩)] w fun e w' => e = .returned (.int .i64 (nS C : Int)) ∧ w = w' := by
 obtain ⟨V, p, g, cg, mb, a4, a5, c4, c5, -, -, hs1, -⟩ := h
 exact ex_States hs1
theorem sp_Reached (h : SpcAt w C pr sp) (t : Int) : Calls Tryz.prog 17 #[.pointer (some ⟨sp, 0, none⟩), .int .i64 t] w fun e w' => e = .returned (.int .i64 (atS (nS C) (rchS C) t)) ∧ w = w' := by
 obtain ⟨V, p, g, cg, mb, a4, a5, c4, c5, -, -, hs1, hR⟩ := h
 exact ex_Reached hs1 hR t
theorem sp_Distance (h : SpcAt w C pr sp) (t : Int) : Calls Tryz.prog 18 #[.pointer (some ⟨sp, 0, none⟩), .int .i64 t] w fun e w' => e = .returned (.int .i64 (atS (nS C) (dstS C pr) t)) ∧ w = w' := by
 obtain ⟨V, p, g, cg, mb, a4, a5, c4, c5, -, -, hs1, hR⟩ := h
 exact ex_Distance hs1 hR t
theorem nS_le {C : Circ} (hl : C.lats.length ≤ 10) : nS C ≤ 1024 := Nat.pow_le_pow_right (n := 2) (by decide) hl
theorem sp_First (h : SpcAt w C pr sp) (hl : C.lats.length ≤ 10) : Calls Tryz.prog 15 #[.pointer (some ⟨sp, 0, none⟩)] w fun e w' => e = .returned (.int .i64 (atS (nS C) (dstS C pr) (beg (nS C) (rchS C) (dstS C pr)))) ∧ Kp (fun _ => False) w w' := by
 obtain ⟨V, p, g, cg, mb, a4, a5, c4, c5, -, -, hs1, hR⟩ := h
 exact ex_First hs1 hR (nS_le hl)
theorem sp_Step (h : SpcAt w C pr sp) (hl : C.lats.length ≤ 10) (t : Int) : Calls Tryz.prog 20 #[.pointer (some ⟨sp, 0, none⟩), .int .i64 t] w fun e w' => ∃ a c, e = .returned (.slice a (stepS (nS C) (rowF2 C) t).length c) ∧ IntsAt w' a (stepS (nS C) (rowF2 C) t) ∧ Kp (fun _ => False) w w' := by
 obtain ⟨V, p, g, cg, mb, a4, a5, c4, c5, -, -, hs1, hR⟩ := h
 refine (ex_Step hs1 hR (fun t _ u i h => rowF2_lt h) (nS_le hl) t).mono ?_
 rintro e w' ⟨v, rfl, hO, hK⟩
 obtain ⟨a, c, e, -, -, -, hr⟩ := hO.form
 rw [List.length_map] at e
 exact ⟨a, c, by rw [e], hr, hK⟩
end

def exT : Circ := ⟨1, [], [(2, 3, 0)], [], [2], [], []⟩
theorem exT_code : ckCode exT = 0 := by decide +kernel
theorem exT_few : CFew exT 1000000 := ⟨by decide, by decide, by decide, by decide, by decide, by decide⟩
theorem exT_n : nS exT = 2 := by decide +kernel
theorem exT_step : stepS 2 (rowF2 exT) 0 = [1] := by decide +kernel
theorem exT_first : atS 2 (dstS exT 0) (beg 2 (rchS exT) (dstS exT 0)) = 1 := by decide +kernel
def exTV (n : Nat) : CV := ⟨none, 0, some ⟨n, 0, none⟩, 1, none, 0, some ⟨n + 1, 0, none⟩, 1, none, 0, none, 0, none, 0, 0, ⟨#[]⟩⟩
theorem exTV_at {w : World} {n : Nat} (h : Blk w n #[.int .i64 2, .int .i64 3, .int .i64 0] 64) (h' : Blk w (n + 1) #[.int .i64 2] 3) : CAt w (exTV n) exT := by
 have hb : IntsAt w (some ⟨n + 1, 0, none⟩) [2] := by
  intro j v hj
  match j, hj with
  |0, hj => exact ⟨n + 1, 0, rfl, by rw [← hj]; exact h'.cell (i := 0) rfl⟩
  |j + 1, hj => cases hj
 have hl : RowAt w (some ⟨n, 0, none⟩) ([((2 : Int), (3 : Int), (0 : Int))].map tri).flatten := by
  intro j v hj
  match j, hj with
  |0, hj => exact ⟨n, 0, rfl, by rw [← hj]; exact h.cell (i := 0) rfl⟩
  |1, hj => exact ⟨n, 0, rfl, by rw [← hj]; exact h.cell (i := 1) rfl⟩
  |2, hj => exact ⟨n, 0, rfl, by rw [← hj]; exact h.cell (i := 2) rfl⟩
  |j + 3, hj => cases hj
 exact ⟨RowAt.nil _ _, hl, RowAt.nil _ _, hb, RowAt.nil _ _, RowAt.nil _ _,
  ⟨[], RowAt.nil _ _, rfl, (fun r h => by cases h), (fun r h => by cases h)⟩,
  ⟨Nat.le_refl _, (by simp [exTV, maxLen]), fun _ => rfl⟩, ⟨Nat.le_refl _, (by simp [exTV, maxLen]), (fun h => by cases h)⟩, ⟨Nat.le_refl _, (by simp [exTV, maxLen]), fun _ => rfl⟩, ⟨Nat.le_refl _, (by simp [exTV, maxLen]), (fun h => by cases h)⟩, ⟨Nat.le_refl _, (by simp [exTV, maxLen]), fun _ => rfl⟩, ⟨Nat.le_refl _, (by simp [exTV, maxLen]), fun _ => rfl⟩, ⟨Nat.le_refl _, (by simp [exTV, maxLen]), fun _ => rfl⟩⟩
def cxT (n : Nat) : Array Value := #[.int .i64 1, .slice none 0 0, .slice (some ⟨n, 0, none⟩) 1 1, .slice none 0 0, .slice (some ⟨n + 1, 0, none⟩) 1 1, .slice none 0 0, .slice none 0 0, .slice none 0 0, .string ⟨#[]⟩]
theorem cxT_eq (n : Nat) : cvals (exTV n) exT = cxT n := rfl

set_option maxRecDepth 100000 in
set_option maxHeartbeats 8000000 in
theorem law43_lives (w : World) : Calls Tryz.prog 6 #[] w fun e w' => e = .returned (.bool true) ∧ Kp (fun _ => False) w w' := by
 obtain ⟨wz, hwz⟩ : ∃ wz : World, wz = ((w.alloc (.cells #[.int .i64 2, .int .i64 3, .int .i64 0] 64)).alloc (.cells #[.int .i64 2] 3)) := ⟨_, rfl⟩
 have HK0 := Lib.hid (show Kp (fun _ => False) w wz by rw [hwz]; exact ((Kp.refl _ w).alloc _).alloc _)
 have hA : CAt wz (exTV w.heap.size) exT := exTV_at (by rw [hwz]; exact (Blk.new w _ _).alloc _) (by rw [hwz]; exact two_blk w _ _ _ _)
 have HN := Lib.hid (ex_New (exTV w.heap.size) exT wz hA exT_few (show 0 ≤ 1000000 by decide) (GoodC.of exT_code) (by decide) (by decide) 0)
 rw [cxT_eq] at HN
 unfold cxT at HN
 have HZ := Lib.hid hwz
 clear hwz hA
 go_enter Tryz.func6, Tryz.ntmps6
 go_upto_region 1 with fail
 go_upto_region 2 with (first
  |(rw [← HZ.out]; go_at_call 8; with_reducible refine Calls.mono HN.out ?_; rintro e w1 ⟨sp, rfl, hS, hK⟩; have HS := Lib.hid hS; have HK := Lib.hid (HK0.out.trans hK (fun _ _ h => h)); clear hS hK)
  |(go_at_call 8; with_reducible refine Calls.mono HN.out ?_; rintro e w1 ⟨sp, rfl, hS, hK⟩; have HS := Lib.hid hS; have HK := Lib.hid (HK0.out.trans hK (fun _ _ h => h)); clear hS hK))
 have HSt := Lib.hid (sp_States HS.out)
 have HSp := Lib.hid (sp_Step HS.out (by decide) 0)
 have HFi := Lib.hid (fun u (hu : Kp (fun _ => False) w1 u) => sp_First (HS.out.kp hu) (by decide))
 rw [exT_n] at HSt HSp HFi
 rw [exT_step] at HSp
 rw [exT_first] at HFi
 clear HN HZ
 go_wp2_with (first
  |(go_at_call 14; refine Calls.mono HSt.out ?_; rintro e w2 ⟨rfl, rfl⟩)
  |(go_at_call 20; refine Calls.mono HSp.out ?_; rintro e w3 ⟨a, c, rfl, hr, hK3⟩; have HK3 := Lib.hid hK3; have HR := Lib.hid hr; clear hr hK3)
  |(go_at_call 19; refine Calls.mono (ref_Ints _ _ _ _ _ _ [1] [1] _ (RowAt.kp HR.out ((Kp.refl (fun _ => False) w3).alloc _) (fun _ _ h => h)) ((Blk.new w3 #[.int .i64 1] 3).rowAt (n := 1) rfl) rfl rfl (by decide)) ?_; rintro e w4 ⟨rfl, q, rfl⟩; have HF4 := Lib.hid (HFi.out _ ((HK3.out.alloc (.cells #[.int .i64 1] 3)).drewN q)))
  |(go_at_call 15; refine Calls.mono HF4.out ?_; rintro e w5 ⟨rfl, hK5⟩; have HK5 := Lib.hid hK5; clear hK5))
 go_ret
 exact ⟨rfl, (HK.out.trans ((HK3.out.alloc _).drewN q) (fun _ _ h => h)).trans HK5.out (fun _ _ h => h)⟩

end Go.Proofs.YtnoknecfdnjomaaGreat

/-
  cube.Has and latchetref32.Has: whether a state is in a cube.
-/
namespace Go.Proofs.YtnoknecfdnjomaaGreat
open Go.RowKit

def failC (s : List Bool) (x : Int) : Bool := decide (x < 0) || decide ((s.length : Int) ≤ x / 2) || (vb s (x / 2).toNat == decide (x % 2 = 1))
def hasC (c : List Int) (s : List Bool) : Bool := c.all (fun x => !failC s x)
theorem hasC_fail {c : List Int} {s : List Bool} {i : Nat} (hi : i < c.length) (h : failC s (gi c i) = true) : hasC c s = false := by
 unfold hasC
 rw [← Bool.not_eq_true]
 intro q
 have := List.all_eq_true.1 q _ (gi_mem hi)
 rw [h] at this
 cases this
theorem hasC_all {c : List Int} {s : List Bool} (h : ∀ i, i < c.length → failC s (gi c i) = false) : hasC c s = true := by
 unfold hasC
 rw [List.all_eq_true]
 intro x hx
 obtain ⟨i, hi⟩ := List.mem_iff_getElem?.1 hx
 have hil : i < c.length := (List.getElem?_eq_some_iff.1 hi).1
 have := h i hil
 have e : gi c i = x := by unfold gi; rw [hi]; rfl
 rw [e] at this
 rw [this]; rfl
theorem failC_neg {s : List Bool} {x : Int} (h : x < 0) : failC s x = true := by unfold failC; rw [decide_eq_true h]; rfl
theorem failC_out {s : List Bool} {x : Int} (h : (s.length : Int) ≤ x / 2) : failC s x = true := by unfold failC; rw [decide_eq_true h, Bool.or_true]; rfl
theorem failC_in {s : List Bool} {x : Int} (h0 : ¬ x < 0) (h1 : ¬ (s.length : Int) ≤ x / 2) : failC s x = (vb s (x / 2).toNat == decide (x % 2 = 1)) := by
 unfold failC; rw [decide_eq_false h0, decide_eq_false h1]; rfl

set_option maxRecDepth 100000 in
set_option maxHeartbeats 2000000 in
theorem cube_Has (a : Option Addr) (n cap : Nat) (c : List Int) (sa : Option Addr) (m sc : Nat) (s : List Bool) (w : World) (hc : IntsAt w a c) (hn : c.length = n) (hn9 : n ≤ maxLen) (hok : ∀ x ∈ c, okInt x) (hs : RowAt w sa (bv s)) (hm : s.length = m) (hm9 : m ≤ 1000000) :
  Calls Tryz.prog 51 #[.slice a n cap, .slice sa m sc] w fun e w' => e = .returned (.bool (hasC c s)) ∧ w = w' := by
 have HF := Lib.hid (fun i (hi : i < n) (h : failC s (gi c i) = true) => hasC_fail (hn ▸ hi) h)
 have HA := Lib.hid (fun (h : ∀ i, i < n → failC s (gi c i) = false) => hasC_all (c := c) (s := s) (fun i hi => h i (hn ▸ hi)))
 have HC := Lib.hid (fun i (hi : i < n) => hc.get (j := i) (hn ▸ hi))
 have HO := Lib.hid (fun i (hi : i < n) => hok _ (gi_mem (l := c) (k := i) (hn ▸ hi)))
 have HS := Lib.hid (fun i (hi : i < m) => hs i _ (bv_at (hm ▸ hi)))
 have HN := Lib.hid (fun x (h : x < 0) => failC_neg (s := s) h)
 have HU := Lib.hid (fun x (h : (m : Int) ≤ x / 2) => failC_out (s := s) (x := x) (by rw [hm]; exact h))
 have HI := Lib.hid (fun x (h : ¬ x < 0) (h1 : ¬ (m : Int) ≤ x / 2) => failC_in (s := s) (x := x) h (by rw [hm]; exact h1))
 unfold maxLen at hn9
 obtain ⟨H, hH⟩ : ∃ H, hasC c s = H := ⟨_, rfl⟩
 rw [hH] at HF HA ⊢
 clear hc hok hs hm hn hH
 go_enter Tryz.func51, Tryz.ntmps51
 go_wp2_with fail
 go_loopw [9] (fun v9 wr => ∃ i : Nat, v9 = .int .i64 (i : Int) ∧ i ≤ n ∧ (∀ j, j < i → failC s (gi c j) = false) ∧ wr = w) (fun v9 _ => n - (intOf v9).toNat)
 case atStart => exact ⟨0, rfl, Nat.zero_le _, fun j hj => absurd hj (Nat.not_lt_zero j), rfl⟩
 case round =>
  obtain ⟨i, rfl, hi, hall, rfl⟩ := hrel
  have HAll := Lib.hid hall
  clear hall
  by_cases hlt : i < n
  ·have i0 : (0 : Int) ≤ (i : Int) := by omega
   have i1 : (i : Int) < (n : Int) := by omega
   obtain ⟨b, off, rfl, c0⟩ := HC.out i hlt
   have hok := HO.out i hlt
   have HF1 := Lib.hid (HF.out i hlt)
   obtain ⟨x, hx⟩ : ∃ x, gi c i = x := ⟨_, rfl⟩
   have HX := Lib.hid hx
   rw [hx] at c0 hok HF1
   clear hx
   unfold okInt at hok
   by_cases h0 : x < 0
   ·have HE := Lib.hid (HF1.out (HN.out x h0))
    go_wp2_with fail
    go_ret
    exact ⟨by rw [HE.out]; rfl, rfl⟩
   ·have x0 : 0 ≤ x := by omega
    have ta : bits .and .i64 x 1 = x % 2 := i64_and1 x x0 (by omega)
    obtain ⟨q, hq⟩ : ∃ q : Nat, x / 2 = (q : Int) := ⟨(x / 2).toNat, by omega⟩
    have tq : x.tdiv 2 = (q : Int) := by rw [Int.tdiv_eq_ediv_of_nonneg x0]; exact hq
    have hqb : (q : Int) ≤ 4611686018427387903 := by omega
    have HIx := Lib.hid (HI.out x (by omega))
    have HUx := Lib.hid (HU.out x)
    rw [hq] at HIx HUx
    by_cases h1 : m ≤ q
    ·have h1' : (q : Int) ≥ (m : Int) := by omega
     have HE := Lib.hid (HF1.out (HUx.out (by omega)))
     clear hq ta
     go_wp2_with fail
     go_ret
     exact ⟨by rw [HE.out]; rfl, rfl⟩
    ·have h1' : ¬ (q : Int) ≥ (m : Int) := by omega
     have q0 : (0 : Int) ≤ (q : Int) := by omega
     have q1 : (q : Int) < (m : Int) := by omega
     obtain ⟨b2, off2, rfl, c2⟩ := HS.out q (by omega)
     have HE1 := Lib.hid (HIx.out (by omega))
     have HE2 := Lib.hid (show (q : Int).toNat = q by omega)
     rw [HE2.out] at HE1
     obtain ⟨v, hv⟩ : ∃ v, vb s q = v := ⟨_, rfl⟩
     rw [hv] at c2 HE1
     obtain ⟨r, hr⟩ : ∃ r : Int, x % 2 = r := ⟨_, rfl⟩
     have hr2 : r = 0 ∨ r = 1 := by omega
     rw [hr] at ta HE1
     clear hv hr hq HE2 HIx HUx h1
     rcases hr2 with rfl | rfl <;> cases v
     ·have HE := Lib.hid (HF1.out HE1.out)
      go_wp2_with fail
      go_ret
      exact ⟨by rw [HE.out]; rfl, rfl⟩
     ·go_wp2_with fail
      go_roundw
      case rel =>
       refine ⟨i + 1, by go_num, by omega, fun j hj => ?_, trivial⟩
       by_cases e : j = i
       ·rw [e, HX.out, HE1.out]; rfl
       ·exact HAll.out j (by omega)
      case measure => simp [intOf]; omega
     ·go_wp2_with fail
      go_roundw
      case rel =>
       refine ⟨i + 1, by go_num, by omega, fun j hj => ?_, trivial⟩
       by_cases e : j = i
       ·rw [e, HX.out, HE1.out]; rfl
       ·exact HAll.out j (by omega)
      case measure => simp [intOf]; omega
     ·have HE := Lib.hid (HF1.out HE1.out)
      go_wp2_with fail
      go_ret
      exact ⟨by rw [HE.out]; rfl, rfl⟩
  ·obtain rfl : i = n := by omega
   have HE := Lib.hid (HA.out HAll.out)
   go_wp2_with fail
   go_ret
   exact ⟨by rw [HE.out]; rfl, rfl⟩

set_option maxRecDepth 100000 in
set_option maxHeartbeats 4000000 in
theorem ref32_Has (a : Option Addr) (n cap : Nat) (c : List Int) (sa : Option Addr) (m sc : Nat) (s : List Bool) (w : World) (hc : IntsAt w a c) (hn : c.length = n) (hn9 : n ≤ maxLen) (hok : ∀ x ∈ c, okInt x) (hs : RowAt w sa (bv s)) (hm : s.length = m) (hm9 : m ≤ 1000000) :
  Calls Tryz.prog 22 #[.slice a n cap, .slice sa m sc] w fun e w' => e = .returned (.bool (hasC c s)) ∧ Kp (fun _ => False) w w' := by
 have HF := Lib.hid (fun i (hi : i < n) (h : failC s (gi c i) = true) => hasC_fail (hn ▸ hi) h)
 have HA := Lib.hid (fun (h : ∀ i, i < n → failC s (gi c i) = false) => hasC_all (c := c) (s := s) (fun i hi => h i (hn ▸ hi)))
 have HC := Lib.hid (fun u (hu : Kp (fun _ => False) w u) i (hi : i < n) => (show IntsAt u a c from RowAt.kp hc hu (fun _ _ h => h)).get (j := i) (hn ▸ hi))
 have HO := Lib.hid (fun i (hi : i < n) => hok _ (gi_mem (l := c) (k := i) (hn ▸ hi)))
 have HS := Lib.hid (fun u (hu : Kp (fun _ => False) w u) i (hi : i < m) => (hs.kp hu (fun _ _ h => h)) i _ (bv_at (hm ▸ hi)))
 have HN := Lib.hid (fun x (h : x < 0) => failC_neg (s := s) h)
 have HU := Lib.hid (fun x (h : (m : Int) ≤ x / 2) => failC_out (s := s) (x := x) (by rw [hm]; exact h))
 have HI := Lib.hid (fun x (h : ¬ x < 0) (h1 : ¬ (m : Int) ≤ x / 2) => failC_in (s := s) (x := x) h (by rw [hm]; exact h1))
 unfold maxLen at hn9
 obtain ⟨H, hH⟩ : ∃ H, hasC c s = H := ⟨_, rfl⟩
 rw [hH] at HF HA ⊢
 clear hc hok hs hm hn hH
 go_enter Tryz.func22, Tryz.ntmps22
 go_wp2_with fail
 go_loopw [5] (fun v5 wr => ∃ i : Nat, v5 = .int .i64 (i : Int) ∧ i ≤ n ∧ (∀ j, j < i → failC s (gi c j) = false) ∧ Kp (fun _ => False) w wr) (fun v5 _ => n - (intOf v5).toNat)
 case atStart => exact ⟨0, rfl, Nat.zero_le _, fun j hj => absurd hj (Nat.not_lt_zero j), Kp.refl _ _⟩
 case round =>
  obtain ⟨i, rfl, hi, hall, hK⟩ := hrel
  have HAll := Lib.hid hall
  have HK := Lib.hid hK
  clear hall
  by_cases hlt : i < n
  ·have i0 : (0 : Int) ≤ (i : Int) := by omega
   have i1 : (i : Int) < (n : Int) := by omega
   obtain ⟨b, off, rfl, c0⟩ := HC.out wr hK i hlt
   have hok := HO.out i hlt
   have HF1 := Lib.hid (HF.out i hlt)
   obtain ⟨x, hx⟩ : ∃ x, gi c i = x := ⟨_, rfl⟩
   have HX := Lib.hid hx
   rw [hx] at c0 hok HF1
   clear hx
   unfold okInt at hok
   by_cases h0 : x < 0
   ·have HE := Lib.hid (HF1.out (HN.out x h0))
    have g0 : decide (x < 0) = true := decide_eq_true h0
    clear hK
    go_upto_region 4 with fail
    go_quiet (fail)
    go_wp2_with fail
    go_ret
    exact ⟨by rw [HE.out]; rfl, by first | exact HK.out | exact HK.out.drewN _⟩
   ·have x0 : 0 ≤ x := by omega
    have g0 : decide (x < 0) = false := decide_eq_false h0
    have ta : x.tmod 2 = x % 2 := Int.tmod_eq_emod_of_nonneg x0
    obtain ⟨q, hq⟩ : ∃ q : Nat, x / 2 = (q : Int) := ⟨(x / 2).toNat, by omega⟩
    have tq : x.tdiv 2 = (q : Int) := by rw [Int.tdiv_eq_ediv_of_nonneg x0]; exact hq
    have hqb : (q : Int) ≤ 4611686018427387903 := by omega
    have HIx := Lib.hid (HI.out x (by omega))
    have HUx := Lib.hid (HU.out x)
    rw [hq] at HIx HUx
    by_cases h1 : m ≤ q
    ·have h1' : (q : Int) ≥ (m : Int) := by omega
     have g1 : decide ((q : Int) ≥ (m : Int)) = true := decide_eq_true h1'
     have HE := Lib.hid (HF1.out (HUx.out (by omega)))
     clear hq ta hK
     go_upto_region 4 with fail
     go_quiet (fail)
     go_wp2_with fail
     go_ret
     exact ⟨by rw [HE.out]; rfl, by first | exact HK.out | exact HK.out.drewN _⟩
    ·have h1' : ¬ (q : Int) ≥ (m : Int) := by omega
     have g1 : decide ((q : Int) ≥ (m : Int)) = false := decide_eq_false h1'
     have q0 : (0 : Int) ≤ (q : Int) := by omega
     have q1 : (q : Int) < (m : Int) := by omega
     obtain ⟨b2, off2, rfl, c2⟩ := HS.out wr hK q (by omega)
     have HE1 := Lib.hid (HIx.out (by omega))
     have HE2 := Lib.hid (show (q : Int).toNat = q by omega)
     rw [HE2.out] at HE1
     obtain ⟨v, hv⟩ : ∃ v, vb s q = v := ⟨_, rfl⟩
     rw [hv] at c2 HE1
     obtain ⟨r, hr⟩ : ∃ r : Int, x % 2 = r := ⟨_, rfl⟩
     have hr2 : r = 0 ∨ r = 1 := by omega
     rw [hr] at ta HE1
     clear hv hr hq HE2 HIx HUx h1 hK
     rcases hr2 with rfl | rfl <;> cases v
     ·have HE := Lib.hid (HF1.out HE1.out)
      go_upto_region 4 with fail
      go_quiet (fail)
      go_wp2_with fail
      go_ret
      exact ⟨by rw [HE.out]; rfl, by first | exact HK.out | exact HK.out.drewN _⟩
     ·go_upto_region 4 with fail
      go_quiet (fail)
      go_wp2_with fail
      go_roundw
      case rel =>
       refine ⟨i + 1, by go_num, by omega, fun j hj => ?_, by first | exact HK.out | exact HK.out.drewN _⟩
       by_cases e : j = i
       ·rw [e, HX.out, HE1.out]; rfl
       ·exact HAll.out j (by omega)
      case measure => simp [intOf]; omega
     ·go_upto_region 4 with fail
      go_quiet (fail)
      go_wp2_with fail
      go_roundw
      case rel =>
       refine ⟨i + 1, by go_num, by omega, fun j hj => ?_, by first | exact HK.out | exact HK.out.drewN _⟩
       by_cases e : j = i
       ·rw [e, HX.out, HE1.out]; rfl
       ·exact HAll.out j (by omega)
      case measure => simp [intOf]; omega
     ·have HE := Lib.hid (HF1.out HE1.out)
      go_upto_region 4 with fail
      go_quiet (fail)
      go_wp2_with fail
      go_ret
      exact ⟨by rw [HE.out]; rfl, by first | exact HK.out | exact HK.out.drewN _⟩
  ·obtain rfl : i = n := by omega
   have HE := Lib.hid (HA.out HAll.out)
   go_wp2_with fail
   go_ret
   exact ⟨by rw [HE.out]; rfl, HK.out⟩

end Go.Proofs.YtnoknecfdnjomaaGreat

/-
  explore.Invariant; and what a nil space tells.
-/
namespace Go.Proofs.YtnoknecfdnjomaaGreat
open Go.RowKit

def invG (c : List Int) (S : Nat → List Bool) (R : Nat → Int) (k : Nat) : Bool := (List.range k).all (fun t => !(decide (R t ≠ -1) && hasC c (S t)))
theorem invG_bad {c : List Int} {S : Nat → List Bool} {R : Nat → Int} {k n : Nat} (hk : k < n) (h1 : R k ≠ -1) (h2 : hasC c (S k) = true) : invG c S R n = false := by
 unfold invG
 rw [← Bool.not_eq_true]
 intro q
 have := List.all_eq_true.1 q k (List.mem_range.2 hk)
 rw [decide_eq_true h1, h2] at this
 cases this
theorem invG_ok {c : List Int} {S : Nat → List Bool} {R : Nat → Int} {n : Nat} (h : ∀ t, t < n → R t = -1 ∨ hasC c (S t) = false) : invG c S R n = true := by
 unfold invG
 rw [List.all_eq_true]
 intro t ht
 rcases h t (List.mem_range.1 ht) with e | e
 ·rw [decide_eq_false (by rw [e]; decide)]; rfl
 ·rw [e, Bool.and_false]; rfl

set_option maxRecDepth 100000 in
set_option maxHeartbeats 4000000 in
theorem ex_Invariant {w : World} {C : Circ} {pr : Int} {sp : Nat} (h : SpcAt w C pr sp) (hf : CFew C 1000000) (hl : C.lats.length ≤ 10) (a : Option Addr) (m cap : Nat) (c : List Int) (hc : IntsAt w a c) (hm : c.length = m) (hm9 : m ≤ maxLen) (hok : ∀ x ∈ c, okInt x) :
  Calls Tryz.prog 24 #[.pointer (some ⟨sp, 0, none⟩), .slice a m cap] w fun e w' => e = .returned (.bool (invG c (stN C) (rchS C) (nS C))) ∧ Kp (fun _ => False) w w' := by
 obtain ⟨V, p, g, cg, mb, a4, a5, c4, c5, hM, hs0, hs1, hR⟩ := h
 have hn9 : nS C ≤ 1024 := Nat.pow_le_pow_right (n := 2) (by decide) hl
 have HSp1 := Lib.hid (fun u (hu : Kp (fun _ => False) w u) => hu.cellAt2 hs1)
 have HSt := Lib.hid (ex_States hs1)
 have HR := Lib.hid (fun u (hu : Kp (fun _ => False) w u) => hR.kp hu)
 have HSta := Lib.hid (fun u (hu : Kp (fun _ => False) w u) t (ht : t < nS C) => ex_state (hM.kp hu) hf (hu.cellAt2 hs0) hl t ht)
 have HHas := Lib.hid (fun u (hu : Kp (fun _ => False) w u) t (v : Value) (hv : Own u w.heap.size 4 v (bv (stN C t))) => show ∃ sa sc, v = .slice sa C.lats.length sc ∧ Calls Tryz.prog 51 #[.slice a m cap, .slice sa C.lats.length sc] u (fun e w' => e = .returned (.bool (hasC c (stN C t))) ∧ u = w') from by
  obtain ⟨sa, sc, e, -, -, -, hr⟩ := hv.form
  rw [bv_length, show (stN C t).length = C.lats.length from bitsP_len _ _] at e
  exact ⟨sa, sc, e, cube_Has a m cap c sa _ sc (stN C t) u (RowAt.kp hc hu (fun _ _ h => h)) hm hm9 hok hr (bitsP_len _ _) (by omega)⟩)
 have HBad := Lib.hid (fun k (hk : k < nS C) (h1 : rchS C k ≠ -1) (h2 : hasC c (stN C k) = true) => invG_bad (c := c) (S := stN C) (R := rchS C) hk h1 h2)
 have HOk := Lib.hid (fun (h : ∀ t, t < nS C → rchS C t = -1 ∨ hasC c (stN C t) = false) => invG_ok (c := c) (S := stN C) (R := rchS C) h)
 obtain ⟨I, hI⟩ : ∃ I, invG c (stN C) (rchS C) (nS C) = I := ⟨_, rfl⟩
 rw [hI] at HBad HOk ⊢
 obtain ⟨n, hn⟩ : ∃ n, nS C = n := ⟨_, rfl⟩
 simp only [hn] at HSp1 HSt HR HSta HBad HOk
 rw [hn] at hn9
 obtain ⟨R, hRr⟩ : ∃ R, rchS C = R := ⟨_, rfl⟩
 simp only [hRr] at HR HBad HOk
 obtain ⟨nl, hnl⟩ : ∃ n, C.lats.length = n := ⟨_, rfl⟩
 simp only [hnl] at HHas
 clear hM hs0 hs1 hR hc hm hm9 hok hI hn hRr hnl hf hl
 go_enter Tryz.func24, Tryz.ntmps24
 go_wp2_with (go_at_call 14; refine Calls.mono HSt.out ?_; rintro e w2 ⟨rfl, rfl⟩)
 go_loopw [8] (fun v8 wr => ∃ k : Nat, v8 = .int .i64 (k : Int) ∧ k ≤ n ∧ (∀ t, t < k → R t = -1 ∨ hasC c (stN C t) = false) ∧ Kp (fun _ => False) w wr) (fun v8 _ => n - (intOf v8).toNat)
 case atStart => exact ⟨0, rfl, Nat.zero_le _, fun t ht => absurd ht (Nat.not_lt_zero t), Kp.refl _ _⟩
 case round =>
  obtain ⟨k, rfl, hk, hall, hK⟩ := hrel
  have HAll := Lib.hid hall
  have HK := Lib.hid hK
  have d1 := HSp1.out wr hK
  clear hall
  by_cases hlt : k < n
  ·have k0 : (0 : Int) ≤ (k : Int) := by omega
   have k1 : (k : Int) < (n : Int) := by omega
   have c2 := (HR.out wr hK).cell2 hlt
   have HStk := Lib.hid (HSta.out wr hK k hlt)
   have HBk := Lib.hid (HBad.out k hlt)
   obtain ⟨x, hx⟩ : ∃ x, R k = x := ⟨_, rfl⟩
   rw [hx] at c2 HBk
   have HX := Lib.hid hx
   clear hx hK
   by_cases h0 : x = -1
   ·subst h0
    go_wp2_with fail
    go_roundw
    case rel =>
     refine ⟨k + 1, by go_num, by omega, fun t ht => ?_, HK.out⟩
     by_cases e : t = k
     ·rw [e]; exact .inl HX.out
     ·exact HAll.out t (by omega)
    case measure => simp [intOf]; omega
   ·have HB2 := Lib.hid (HBk.out h0)
    obtain ⟨y, hy⟩ : ∃ y, hasC c (stN C k) = y := ⟨_, rfl⟩
    have HHk := Lib.hid (fun u hu v hv => HHas.out u hu k v hv)
    rw [hy] at HHk HB2
    have HY := Lib.hid hy
    clear hy
    cases y
    ·go_wp2_with (first
      |(go_at_call 52; refine Calls.mono HStk.out ?_; rintro e w3 ⟨v, rfl, hO, hK3⟩; have HK3 := Lib.hid (HK.out.trans hK3 (fun _ _ h => h)); obtain ⟨sa, sc, rfl, hC⟩ := HHk.out w3 HK3.out v (hO.mono HK.out.size); have HC := Lib.hid hC; clear hO hK3 hC)
      |(go_at_call 51; refine Calls.mono HC.out ?_; rintro e w4 ⟨rfl, rfl⟩))
     go_roundw
     case rel =>
      refine ⟨k + 1, by go_num, by omega, fun t ht => ?_, HK3.out⟩
      by_cases e : t = k
      ·rw [e]; exact .inr HY.out
      ·exact HAll.out t (by omega)
     case measure => simp [intOf]; omega
    ·have HE := Lib.hid (HB2.out rfl)
     go_wp2_with (first
      |(go_at_call 52; refine Calls.mono HStk.out ?_; rintro e w3 ⟨v, rfl, hO, hK3⟩; have HK3 := Lib.hid (HK.out.trans hK3 (fun _ _ h => h)); obtain ⟨sa, sc, rfl, hC⟩ := HHk.out w3 HK3.out v (hO.mono HK.out.size); have HC := Lib.hid hC; clear hO hK3 hC)
      |(go_at_call 51; refine Calls.mono HC.out ?_; rintro e w4 ⟨rfl, rfl⟩))
     go_ret
     exact ⟨by rw [HE.out]; rfl, HK3.out⟩
  ·obtain rfl : k = n := by omega
   have HE := Lib.hid (HOk.out HAll.out)
   clear hK
   go_wp2_with fail
   go_ret
   exact ⟨by rw [HE.out]; rfl, HK.out⟩

end Go.Proofs.YtnoknecfdnjomaaGreat

/-
  latchetref17.All in memory, and numbers by states.
-/
namespace Go.Proofs.YtnoknecfdnjomaaGreat
open Go.RowKit

def natV (l : List Nat) : List Int := l.map (fun (s : Nat) => (s : Int))
theorem natV_len (l : List Nat) : (natV l).length = l.length := by simp [natV]
theorem natV_gi {l : List Nat} {i t : Nat} (h : l[i]? = some t) : gi (natV l) i = (t : Int) := by unfold gi natV; rw [List.getElem?_map, h]; rfl

structure AllR (w : World) (a b d n : Nat) (st bd : Nat → Bool) (nx : Nat → List Nat) : Prop where
  sts : ∀ t, t < n → w.cell? ⟨a, t, none⟩ = some (.bool (st t))
  bds : ∀ t, t < n → w.cell? ⟨b, t, none⟩ = some (.bool (bd t))
  nxs : ∀ t, t < n → ∃ e c, w.cell? ⟨d, t, none⟩ = some (.slice e (nx t).length c) ∧ IntsAt w e (natV (nx t))
def allV (a b d n ca cb cd : Nat) : Array Value := #[.slice (some ⟨a, 0, none⟩) n ca, .slice (some ⟨b, 0, none⟩) n cb, .slice (some ⟨d, 0, none⟩) n cd]

structure NxOk (n : Nat) (nx : Nat → List Nat) : Prop where
  n9 : n ≤ 1024
  lt : ∀ s, s < n → ∀ t, t ∈ nx s → t < n
  few : ∀ s, s < n → (nx s).length ≤ 256

section
variable {w w' : World} {a b d n : Nat} {st bd : Nat → Bool} {nx : Nat → List Nat}
theorem AllR.kp (h : AllR w a b d n st bd nx) (k : Kp (fun _ => False) w w') : AllR w' a b d n st bd nx :=
 ⟨fun t ht => k.cellAt2 (h.sts t ht), fun t ht => k.cellAt2 (h.bds t ht), fun t ht => by
  obtain ⟨e, c, h1, h2⟩ := h.nxs t ht
  exact ⟨e, c, k.cellAt2 h1, RowAt.kp h2 k (fun _ _ h => h)⟩⟩
end

theorem zts_up (Q : Nat → Int) (u n : Nat) (x : Int) : rowF (up1 (fun i => Value.int .i64 (Q i)) u (.int .i64 x)) n = zts (upI Q u x) n :=
 rowF_congr fun j _ => by
  unfold up1 upI
  by_cases e : j = u
  ·rw [if_pos e, if_pos e]
  ·rw [if_neg e, if_neg e]

def NumB (w : World) (g n : Nat) (Q : Nat → Int) : Prop := Blk w g (zts Q n).toArray 3
theorem NumB.at {w : World} {g n : Nat} {Q : Nat → Int} (h : NumB w g n Q) {i : Nat} (hi : i < n) : w.cell? ⟨g, i, none⟩ = some (.int .i64 (Q i)) :=
 Blk.cell h (by have := rowF_at (f := fun i => Value.int .i64 (Q i)) hi; simpa [zts] using this)
theorem NumB.set {w : World} {g n : Nat} {Q : Nat → Int} (h : NumB w g n Q) (i : Nat) (x : Int) : NumB (w.setCell ⟨g, i, none⟩ (.int .i64 x)) g n (upI Q i x) := by
 have := Blk.set_same h i (.int .i64 x)
 unfold NumB
 have e : (zts Q n).toArray.setIfInBounds i (.int .i64 x) = (zts (upI Q i x) n).toArray := by
  rw [List.setIfInBounds_toArray, show zts Q n = rowF (fun i => Value.int .i64 (Q i)) n from rfl, rowF_set, zts_up]
 rw [e] at this
 exact this
theorem NumB.kp {w w' : World} {g n : Nat} {Q : Nat → Int} {S : Nat → Prop} (h : NumB w g n Q) (k : Kp S w w') (hg : ¬ S g) : NumB w' g n Q := Blk.kp h k hg
theorem NumB.congr {w : World} {g n : Nat} {Q Q' : Nat → Int} (h : NumB w g n Q) (e : ∀ t, t < n → Q t = Q' t) : NumB w g n Q' := by
 unfold NumB
 rw [← zts_congr e]
 exact h

def upB (f : Nat → Bool) (t : Nat) (x : Bool) : Nat → Bool := fun s => if s = t then x else f s
def BolB (w : World) (g n : Nat) (f : Nat → Bool) : Prop := Blk w g (rowF (fun i => Value.bool (f i)) n).toArray 4
theorem BolB.at {w : World} {g n : Nat} {f : Nat → Bool} (h : BolB w g n f) {i : Nat} (hi : i < n) : w.cell? ⟨g, i, none⟩ = some (.bool (f i)) :=
 Blk.cell h (by have := rowF_at (f := fun i => Value.bool (f i)) hi; simpa using this)
theorem BolB.set {w : World} {g n : Nat} {f : Nat → Bool} (h : BolB w g n f) (i : Nat) (x : Bool) : BolB (w.setCell ⟨g, i, none⟩ (.bool x)) g n (upB f i x) := by
 have := Blk.set_same h i (.bool x)
 unfold BolB
 have e : (rowF (fun i => Value.bool (f i)) n).toArray.setIfInBounds i (.bool x) = (rowF (fun j => Value.bool (upB f i x j)) n).toArray := by
  rw [List.setIfInBounds_toArray, rowF_set]
  congr 1
  refine rowF_congr fun j _ => ?_
  unfold up1 upB
  by_cases e : j = i
  ·rw [if_pos e, if_pos e]
  ·rw [if_neg e, if_neg e]
 rw [e] at this
 exact this
theorem BolB.kp {w w' : World} {g n : Nat} {f : Nat → Bool} {S : Nat → Prop} (h : BolB w g n f) (k : Kp S w w') (hg : ¬ S g) : BolB w' g n f := Blk.kp h k hg
theorem BolB.congr {w : World} {g n : Nat} {f f' : Nat → Bool} (h : BolB w g n f) (e : ∀ t, t < n → f t = f' t) : BolB w g n f' := by
 have q : rowF (fun i => Value.bool (f i)) n = rowF (fun i => Value.bool (f' i)) n := rowF_congr (fun t ht => by rw [e t ht])
 unfold BolB
 rw [← q]
 exact h

theorem make_ints (n : Nat) (hn : n ≤ 1024) (u : World) : (Instr.makeSlice 22 (.int .i64 (n : Int)) (.int .i64 (n : Int))).run Tryz.prog u =
  .ok (.slice (some ⟨u.heap.size, 0, none⟩) n n) (u.alloc (.cells (madeCells #[.int .i64 0] n) 3)) := by
 obtain ⟨i0, hi, hz0, hz1, hz2⟩ := info_parts (show (Tryz.prog.info? 3).map (fun i => (i.zero, i.size, i.bytes)) = some (some (.int .i64 0), 1, 8) by kernel_rfl)
 have h := run_make (P := Tryz.prog) u 22 3 i0 (.int .i64 0) Tryz.underlying22 hi hz0 .i64 .i64 (n : Int) (n : Int) (by omega) (Int.le_refl _) (by rw [hz2]; omega) (by omega)
 simpa [hz1, Value.cells] using h
theorem make_bools (n : Nat) (hn : n ≤ 1024) (u : World) : (Instr.makeSlice 38 (.int .i64 (n : Int)) (.int .i64 (n : Int))).run Tryz.prog u =
  .ok (.slice (some ⟨u.heap.size, 0, none⟩) n n) (u.alloc (.cells (madeCells #[.bool false] n) 4)) := by
 obtain ⟨i0, hi, hz0, hz1, hz2⟩ := info_parts (show (Tryz.prog.info? 4).map (fun i => (i.zero, i.size, i.bytes)) = some (some (.bool false), 1, 1) by kernel_rfl)
 have h := run_make (P := Tryz.prog) u 38 4 i0 (.bool false) Tryz.underlying38 hi hz0 .i64 .i64 (n : Int) (n : Int) (by omega) (Int.le_refl _) (by rw [hz2]; omega) (by omega)
 simpa [hz1, Value.cells] using h
theorem NumB.made (w : World) (n : Nat) : NumB (w.alloc (.cells (madeCells #[.int .i64 0] n) 3)) w.heap.size n (fun _ => 0) := by
 unfold NumB zts
 rw [← made_row]; exact Blk.new _ _ _
theorem BolB.made (w : World) (n : Nat) : BolB (w.alloc (.cells (madeCells #[.bool false] n) 4)) w.heap.size n (fun _ => false) := by
 unfold BolB
 rw [← made_row]; exact Blk.new _ _ _

end Go.Proofs.YtnoknecfdnjomaaGreat

/-
  latchetref43.Reached.
-/
namespace Go.Proofs.YtnoknecfdnjomaaGreat
open Go.RowKit

set_option maxRecDepth 100000 in
set_option maxHeartbeats 4000000 in
theorem ref43_Reached {w : World} {a b d n ca cb cd : Nat} {st bd : Nat → Bool} {nx : Nat → List Nat} (hA : AllR w a b d n st bd nx) (hN : NxOk n nx) :
  Calls Tryz.prog 12 #[.agg (allV a b d n ca cb cd)] w fun e w' => ∃ g, e = .returned (.slice (some ⟨g, 0, none⟩) n n) ∧ NumB w' g n (distG n st (fun s t => decide (t ∈ nx s)) n) ∧ Kp (fun _ => False) w w' := by
 obtain ⟨wz, hwz⟩ : ∃ wz : World, wz = w.alloc (.cells (allV a b d n ca cb cd) 41) := ⟨_, rfl⟩
 have HK0 := Lib.hid (show Kp (fun _ => False) w wz by rw [hwz]; exact (Kp.refl _ w).alloc _)
 have HB := Lib.hid (fun u (hu : Kp (fun _ => False) wz u) => (show Blk wz w.heap.size (allV a b d n ca cb cd) 41 by rw [hwz]; exact Blk.new _ _ _).kp hu (fun h => h))
 have HA := Lib.hid (fun u (hu : Kp (fun _ => False) wz u) => hA.kp (HK0.out.trans hu (fun _ _ h => h)))
 have hn9 := hN.n9
 have HN := Lib.hid hN
 have HZ := Lib.hid hwz
 obtain ⟨G, hG⟩ : ∃ G, st = G := ⟨_, rfl⟩
 rw [hG] at HA ⊢
 obtain ⟨E, hE⟩ : ∃ E, (fun s t => decide (t ∈ nx s)) = E := ⟨_, rfl⟩
 have HE := Lib.hid (fun s t => show E s t = decide (t ∈ nx s) from (congrFun (congrFun hE s) t).symm)
 rw [hE]
 obtain ⟨g, hg⟩ : ∃ g, wz.heap.size = g := ⟨_, rfl⟩
 obtain ⟨wy, hwy⟩ : ∃ wy : World, wy = wz.alloc (.cells (madeCells #[.int .i64 0] n) 3) := ⟨_, rfl⟩
 have HY := Lib.hid (show NumB wy g n (fun _ => 0) by rw [hwy, ← hg]; exact NumB.made _ _)
 have HKy := Lib.hid (show Kp (fun j => j = g) wz wy by rw [hwy]; exact (Kp.refl _ wz).alloc _)
 have HGz := Lib.hid hg
 have HF := Lib.hid (fun u (hu : Kp (fun j => j = g) wz u) => show Kp (fun _ => False) wz u from (Kp.refl _ wz).trans hu (fun j h1 h2 => by omega))
 have hmk := make_ints n hn9 wz
 rw [hg, ← hwy] at hmk
 have d0 := (HB.out wz (Kp.refl _ _)).cell (i := 0) (v := .slice (some ⟨a, 0, none⟩) n ca) rfl
 clear hwz hA hN hE hG hg hwy
 unfold allV at HZ HB ⊢
 go_enter Tryz.func12, Tryz.ntmps12
 go_upto_region 1 with fail
 rw [← HZ.out]
 clear HZ
 go_wp2_with fail
 clear hmk d0
 go_loopw [4] (fun v wr => ∃ (s : Nat) (f : Nat → Int), v = .int .i64 (s : Int) ∧ s ≤ n ∧ NumB wr g n f ∧ (∀ t, t < s → f t = distG n G E 0 t) ∧ Kp (fun j => j = g) wz wr) (fun v _ => n - (intOf v).toNat)
 case atStart => exact ⟨0, _, rfl, Nat.zero_le _, HY.out, fun t ht => absurd ht (Nat.not_lt_zero t), HKy.out⟩
 case round =>
  clear HY HKy
  obtain ⟨s, f, rfl, hs, hf, hd, hK⟩ := hrel
  have HNb := Lib.hid hf
  have HD := Lib.hid hd
  have HK := Lib.hid hK
  have c0 := (HB.out wr (HF.out wr hK)).cell (i := 0) (v := .slice (some ⟨a, 0, none⟩) n ca) rfl
  clear hf hd hK
  by_cases hlt : s < n
  ·have s0 : (0 : Int) ≤ (s : Int) := by omega
   have s1 : (s : Int) < (n : Int) := by omega
   have e0 := HNb.out.at hlt
   have f0 := HNb.out.free s
   obtain ⟨w1, hw1⟩ : ∃ w1, w1 = wr.setCell ⟨g, s, none⟩ (.int .i64 (-1)) := ⟨_, rfl⟩
   have HN1 := Lib.hid (show NumB w1 g n (upI f s (-1)) by rw [hw1]; exact HNb.out.set s (-1))
   have HK1 := Lib.hid (show Kp (fun j => j = g) wz w1 by rw [hw1]; exact HK.out.trans (Kp.set wr ⟨g, s, none⟩ _) (fun _ _ h => h))
   go_upto_region 6 with fail
   rw [← hw1]
   clear hw1 c0 e0 f0
   have c0 := (HB.out w1 (HF.out w1 HK1.out)).cell (i := 0) (v := .slice (some ⟨a, 0, none⟩) n ca) rfl
   have b0 := (HA.out w1 (HF.out w1 HK1.out)).sts s hlt
   have e0 := HN1.out.at hlt
   have f0 := HN1.out.free s
   obtain ⟨x, hx⟩ : ∃ x, G s = x := ⟨_, rfl⟩
   rw [hx] at b0
   have HX := Lib.hid (show distG n G E 0 s = if x = true then 0 else -1 by rw [← hx]; rfl)
   clear hx
   cases x
   ·go_wp2_with fail
    go_roundw
    case rel =>
     refine ⟨s + 1, _, by go_num, by omega, HN1.out, fun t ht => ?_, HK1.out⟩
     unfold upI
     by_cases e : t = s
     ·rw [if_pos e, e, HX.out]; rfl
     ·rw [if_neg e]; exact HD.out t (by omega)
    case measure => simp [intOf]; omega
   ·go_wp2_with fail
    go_roundw
    case rel =>
     refine ⟨s + 1, _, by go_num, by omega, HN1.out.set s 0, fun t ht => ?_, HK1.out.trans (Kp.set w1 ⟨g, s, none⟩ _) (fun _ _ h => h)⟩
     unfold upI
     by_cases e : t = s
     ·rw [if_pos e, e, HX.out]; rfl
     ·rw [if_neg e, if_neg e]; exact HD.out t (by omega)
    case measure => simp [intOf]; omega
  ·obtain rfl : s = n := by omega
   clear c0
   go_wp2_with fail
   go_loopw [5] (fun v wr => ∃ (m : Nat) (f : Nat → Int), v = .int .i64 ((m : Int) + 1) ∧ m ≤ s ∧ NumB wr g s f ∧ (∀ t, t < s → f t = distG s G E m t) ∧ Kp (fun j => j = g) wz wr) (fun v _ => s + 1 - (intOf v).toNat)
   case atStart => exact ⟨0, f, rfl, Nat.zero_le _, HNb.out, HD.out, HK.out⟩
   case round =>
    clear HNb HD HK
    obtain ⟨m, f, rfl, hm, hf, hd, hK⟩ := hrel
    have HNb := Lib.hid hf
    have HD := Lib.hid hd
    have HK := Lib.hid hK
    clear hf hd hK
    obtain ⟨n, rfl⟩ : ∃ n, n = s := ⟨_, rfl⟩
    by_cases hlm : m < n
    ·have m1 : (m : Int) + 1 ≤ (n : Int) := by omega
     go_upto_region 11 with fail
     go_wp2_with fail
     go_loopw [6] (fun v wr => ∃ (s : Nat) (f : Nat → Int) (N : List Nat), v = .int .i64 (s : Int) ∧ s ≤ n ∧ NumB wr g n f ∧ MidG n G E m (fun t => (∃ s', s' < s ∧ distG n G E m s' = m ∧ E s' t = true)) f N ∧ Kp (fun j => j = g) wz wr) (fun v _ => n - (intOf v).toNat)
     case atStart => exact ⟨0, f, [], rfl, Nat.zero_le _, HNb.out, (MidG.start HD.out).congr (fun t _ => ⟨fun h => h.elim, fun ⟨s, h, _⟩ => absurd h (Nat.not_lt_zero s)⟩), HK.out⟩
     case round =>
      clear HNb HD HK
      obtain ⟨s, f, N, rfl, hs, hf, hM, hK⟩ := hrel
      have HNb := Lib.hid hf
      have HM := Lib.hid hM
      have HK := Lib.hid hK
      clear hf hM hK
      by_cases hlt : s < n
      ·have s0 : (0 : Int) ≤ (s : Int) := by omega
       have s1 : (s : Int) < (n : Int) := by omega
       have HLt := Lib.hid (HN.out.lt s hlt)
       have hfw := HN.out.few s hlt
       go_wp2_with fail
       go_loopw [7] (fun v wr => ∃ (i : Nat) (f : Nat → Int) (N : List Nat), v = .int .i64 (i : Int) ∧ i ≤ (nx s).length ∧ NumB wr g n f ∧ MidG n G E m (fun t => (∃ s', s' < s ∧ distG n G E m s' = m ∧ E s' t = true) ∨ distG n G E m s = m ∧ t ∈ (nx s).take i) f N ∧ Kp (fun j => j = g) wz wr) (fun v _ => (nx s).length - (intOf v).toNat)
       case atStart => exact ⟨0, f, N, rfl, Nat.zero_le _, HNb.out, HM.out.congr (fun t _ => ⟨fun h => .inl h, fun h => h.elim (fun h => h) (fun h => by have := h.2; simp at this)⟩), HK.out⟩
       case round =>
        clear HNb HM HK
        obtain ⟨i, f, N, rfl, hi, hf, hM, hK⟩ := hrel
        have HNb := Lib.hid hf
        have HM := Lib.hid hM
        have HK := Lib.hid hK
        have c2 := (HB.out wr (HF.out wr hK)).cell (i := 2) (v := .slice (some ⟨d, 0, none⟩) n cd) rfl
        obtain ⟨e, ce, n0, hE⟩ := (HA.out wr (HF.out wr hK)).nxs s hlt
        have e0 := HNb.out.at hlt
        -- what stands by s: it was reached in just m steps, or not
        have hsm : f s = m ↔ distG n G E m s = m := by
         by_cases e : distG n G E m s = -1
         ·by_cases q : (∃ s', s' < s ∧ distG n G E m s' = m ∧ E s' s = true) ∨ distG n G E m s = m ∧ s ∈ (nx s).take i
          ·have := HM.out.new s hlt e q; omega
          ·have := HM.out.none s hlt e q; omega
         ·rw [HM.out.old s hlt e]
        have HSm := Lib.hid hsm
        clear hf hM hK hsm
        obtain ⟨x, hx⟩ : ∃ x, f s = x := ⟨_, rfl⟩
        have HX := Lib.hid hx
        rw [hx] at e0
        clear hx
        obtain ⟨l, hl⟩ : ∃ l, (nx s).length = l := ⟨_, rfl⟩
        rw [hl] at hi n0 hfw ⊢
        have HL := Lib.hid hl
        clear hl
        by_cases hil : i < l
        ·have i0 : (0 : Int) ≤ (i : Int) := by omega
         have i1 : (i : Int) < (l : Int) := by omega
         by_cases hxm : x = (m : Int)
         ·subst hxm
          have hdm := HSm.out.1 HX.out
          obtain ⟨t, ht⟩ : ∃ t, (nx s)[i]? = some t := ⟨(nx s)[i]'(by rw [HL.out]; exact hil), List.getElem?_eq_getElem _⟩
          have htn : t < n := HLt.out t (List.mem_of_getElem? ht)
          obtain ⟨be, oe, rfl, ct⟩ := hE.get (j := i) (by rw [natV_len, HL.out]; exact hil)
          rw [natV_gi ht] at ct
          have t0 : (0 : Int) ≤ (t : Int) := by omega
          have t1 : (t : Int) < (n : Int) := by omega
          have et := HNb.out.at htn
          have ft := HNb.out.free t
          have HTk := Lib.hid (show (nx s).take (i + 1) = (nx s).take i ++ [t] by rw [List.take_add_one, ht]; rfl)
          have HDm := Lib.hid hdm
          have hlow : f t = -1 ∨ 0 ≤ f t := by
           by_cases e : distG n G E m t = -1
           ·by_cases q : (∃ s', s' < s ∧ distG n G E m s' = m ∧ E s' t = true) ∨ distG n G E m s = m ∧ t ∈ (nx s).take i
            ·have := HM.out.new t htn e q; omega
            ·have := HM.out.none t htn e q; omega
           ·rw [HM.out.old t htn e]
            rcases distG_cases (n := n) (st := G) (E := E) m t with ⟨_, q⟩ | ⟨_, q, _⟩
            ·exact absurd q e
            ·exact .inr q
          have HCg := Lib.hid (fun (q : Nat) => show (((∃ s', s' < s ∧ distG n G E m s' = m ∧ E s' q = true) ∨ distG n G E m s = m ∧ q ∈ (nx s).take i) ∨ q = t) ↔ ((∃ s', s' < s ∧ distG n G E m s' = m ∧ E s' q = true) ∨ distG n G E m s = m ∧ q ∈ (nx s).take (i + 1)) by
           rw [HTk.out, List.mem_append, List.mem_singleton]
           constructor
           ·rintro ((h | h) | h)
            ·exact .inl h
            ·exact .inr ⟨h.1, .inl h.2⟩
            ·exact .inr ⟨HDm.out, .inr h⟩
           ·rintro (h | ⟨h, h1 | h1⟩)
            ·exact .inl (.inl h)
            ·exact .inl (.inr ⟨h, h1⟩)
            ·exact .inr h1)
          obtain ⟨y, hy⟩ : ∃ y, f t = y := ⟨_, rfl⟩
          have HYt := Lib.hid hy
          rw [hy] at et hlow
          have m0 : wrap64 ((m : Int) + 1 - 1) = (m : Int) := by unfold wrap64; omega
          clear hy ht hdm hE
          rcases hlow with rfl | hy0
          ·go_wp2_with fail
           go_roundw
           case rel => exact ⟨i + 1, _, _, by go_num, by omega, HNb.out.set t _, (HM.out.put htn HYt.out).congr (fun q _ => HCg.out q), HK.out.trans (Kp.set wr ⟨g, t, none⟩ _) (fun _ _ h => h)⟩
           case measure => simp [intOf]; omega
          ·have y0 : ¬ y < 0 := by omega
           go_wp2_with fail
           go_roundw
           case rel => exact ⟨i + 1, _, _, by go_num, by omega, HNb.out, (HM.out.skip htn (by rw [HYt.out]; omega)).congr (fun q _ => HCg.out q), HK.out⟩
           case measure => simp [intOf]; omega
         ·have m0 : wrap64 ((m : Int) + 1 - 1) = (m : Int) := by unfold wrap64; omega
          have hnd : ¬ distG n G E m s = m := fun q => hxm ((HSm.out.2 q) ▸ HX.out.symm)
          have HNd := Lib.hid hnd
          clear hnd hE
          go_wp2_with fail
          go_roundw
          case rel =>
           refine ⟨s + 1, f, N, by go_num, by omega, HNb.out, HM.out.congr (fun t _ => ⟨fun h => ?_, fun ⟨s', h1, h2, h3⟩ => ?_⟩), HK.out⟩
           ·rcases h with ⟨s', h1, h2, h3⟩ | h
            ·exact ⟨s', by omega, h2, h3⟩
            ·exact absurd h.1 HNd.out
           ·by_cases e : s' = s
            ·subst e; exact absurd h2 HNd.out
            ·exact .inl ⟨s', by omega, h2, h3⟩
          case measure => simp [intOf]; omega
        ·obtain rfl : i = l := by omega
         have HTa := Lib.hid (show (nx s).take i = nx s by rw [← HL.out]; exact List.take_length)
         clear hE
         go_wp2_with fail
         go_roundw
         case rel =>
          refine ⟨s + 1, f, N, by go_num, by omega, HNb.out, HM.out.congr (fun t _ => ⟨fun h => ?_, fun ⟨s', h1, h2, h3⟩ => ?_⟩), HK.out⟩
          ·rcases h with ⟨s', h1, h2, h3⟩ | ⟨h1, h2⟩
           ·exact ⟨s', by omega, h2, h3⟩
           ·rw [HTa.out] at h2
            exact ⟨s, by omega, h1, by rw [HE.out]; exact decide_eq_true h2⟩
          ·by_cases e : s' = s
           ·subst e
            rw [HE.out, decide_eq_true_eq] at h3
            exact .inr ⟨h2, by rw [HTa.out]; exact h3⟩
           ·exact .inl ⟨s', by omega, h2, h3⟩
         case measure => simp [intOf]; omega
      ·obtain rfl : s = n := by omega
       go_wp2_with fail
       go_roundw
       case rel => exact ⟨m + 1, f, by go_num, by omega, HNb.out, (HM.out).fin.1, HK.out⟩
       case measure => simp [intOf]; omega
    ·obtain rfl : m = n := by omega
     go_wp2_with fail
     go_ret
     exact ⟨g, rfl, HNb.out.congr HD.out, HK0.out.trans (HF.out _ HK.out) (fun _ _ h => h)⟩

end Go.Proofs.YtnoknecfdnjomaaGreat

/-
  latchetref35.Distances.
-/
namespace Go.Proofs.YtnoknecfdnjomaaGreat
open Go.RowKit

set_option maxRecDepth 100000 in
set_option maxHeartbeats 4000000 in
theorem ref35_Distances {w : World} {a b d n ca cb cd : Nat} {st bd : Nat → Bool} {nx : Nat → List Nat} (hA : AllR w a b d n st bd nx) (hN : NxOk n nx) (K : Nat) (hK9 : K ≤ 1000) :
  Calls Tryz.prog 13 #[.agg (allV a b d n ca cb cd), .int .i64 (K : Int)] w fun e w' => ∃ g, e = .returned (.slice (some ⟨g, 0, none⟩) n n) ∧ NumB w' g n (distG n bd (revG (fun s t => decide (t ∈ nx s))) K) ∧ Kp (fun _ => False) w w' := by
 obtain ⟨wz, hwz⟩ : ∃ wz : World, wz = w.alloc (.cells (allV a b d n ca cb cd) 41) := ⟨_, rfl⟩
 have HK0 := Lib.hid (show Kp (fun _ => False) w wz by rw [hwz]; exact (Kp.refl _ w).alloc _)
 have HB := Lib.hid (fun u (hu : Kp (fun _ => False) wz u) => (show Blk wz w.heap.size (allV a b d n ca cb cd) 41 by rw [hwz]; exact Blk.new _ _ _).kp hu (fun h => h))
 have HA := Lib.hid (fun u (hu : Kp (fun _ => False) wz u) => hA.kp (HK0.out.trans hu (fun _ _ h => h)))
 have hn9 := hN.n9
 have HN := Lib.hid hN
 have HZ := Lib.hid hwz
 obtain ⟨G, hG⟩ : ∃ G, bd = G := ⟨_, rfl⟩
 rw [hG] at HA ⊢
 obtain ⟨E, hE⟩ : ∃ E, (revG (fun s t => decide (t ∈ nx s))) = E := ⟨_, rfl⟩
 have HE := Lib.hid (fun s t => show E s t = decide (s ∈ nx t) from (congrFun (congrFun hE s) t).symm)
 rw [hE]
 obtain ⟨g, hg⟩ : ∃ g, wz.heap.size = g := ⟨_, rfl⟩
 obtain ⟨wy, hwy⟩ : ∃ wy : World, wy = wz.alloc (.cells (madeCells #[.int .i64 0] n) 3) := ⟨_, rfl⟩
 have HY := Lib.hid (show NumB wy g n (fun _ => 0) by rw [hwy, ← hg]; exact NumB.made _ _)
 have HKy := Lib.hid (show Kp (fun j => j = g) wz wy by rw [hwy]; exact (Kp.refl _ wz).alloc _)
 have HGz := Lib.hid hg
 have HF := Lib.hid (fun u (hu : Kp (fun j => j = g) wz u) => show Kp (fun _ => False) wz u from (Kp.refl _ wz).trans hu (fun j h1 h2 => by omega))
 have hmk := make_ints n hn9 wz
 rw [hg, ← hwy] at hmk
 have d1 := (HB.out wz (Kp.refl _ _)).cell (i := 1) (v := .slice (some ⟨b, 0, none⟩) n cb) rfl
 clear hwz hA hN hE hG hg hwy
 unfold allV at HZ HB ⊢
 go_enter Tryz.func13, Tryz.ntmps13
 go_upto_region 1 with fail
 rw [← HZ.out]
 clear HZ
 go_wp2_with fail
 clear hmk d1
 go_loopw [6] (fun v wr => ∃ (s : Nat) (f : Nat → Int), v = .int .i64 (s : Int) ∧ s ≤ n ∧ NumB wr g n f ∧ (∀ t, t < s → f t = distG n G E 0 t) ∧ Kp (fun j => j = g) wz wr) (fun v _ => n - (intOf v).toNat)
 case atStart => exact ⟨0, _, rfl, Nat.zero_le _, HY.out, fun t ht => absurd ht (Nat.not_lt_zero t), HKy.out⟩
 case round =>
  clear HY HKy
  obtain ⟨s, f, rfl, hs, hf, hd, hK⟩ := hrel
  have HNb := Lib.hid hf
  have HD := Lib.hid hd
  have HK := Lib.hid hK
  have c1 := (HB.out wr (HF.out wr hK)).cell (i := 1) (v := .slice (some ⟨b, 0, none⟩) n cb) rfl
  clear hf hd hK
  by_cases hlt : s < n
  ·have s0 : (0 : Int) ≤ (s : Int) := by omega
   have s1 : (s : Int) < (n : Int) := by omega
   have e0 := HNb.out.at hlt
   have f0 := HNb.out.free s
   obtain ⟨w1, hw1⟩ : ∃ w1, w1 = wr.setCell ⟨g, s, none⟩ (.int .i64 (-1)) := ⟨_, rfl⟩
   have HN1 := Lib.hid (show NumB w1 g n (upI f s (-1)) by rw [hw1]; exact HNb.out.set s (-1))
   have HK1 := Lib.hid (show Kp (fun j => j = g) wz w1 by rw [hw1]; exact HK.out.trans (Kp.set wr ⟨g, s, none⟩ _) (fun _ _ h => h))
   go_upto_region 6 with fail
   rw [← hw1]
   clear hw1 c1 e0 f0
   have c1 := (HB.out w1 (HF.out w1 HK1.out)).cell (i := 1) (v := .slice (some ⟨b, 0, none⟩) n cb) rfl
   have b0 := (HA.out w1 (HF.out w1 HK1.out)).bds s hlt
   have e0 := HN1.out.at hlt
   have f0 := HN1.out.free s
   obtain ⟨x, hx⟩ : ∃ x, G s = x := ⟨_, rfl⟩
   rw [hx] at b0
   have HX := Lib.hid (show distG n G E 0 s = if x = true then 0 else -1 by rw [← hx]; rfl)
   clear hx
   cases x
   ·go_wp2_with fail
    go_roundw
    case rel =>
     refine ⟨s + 1, _, by go_num, by omega, HN1.out, fun t ht => ?_, HK1.out⟩
     unfold upI
     by_cases e : t = s
     ·rw [if_pos e, e, HX.out]; rfl
     ·rw [if_neg e]; exact HD.out t (by omega)
    case measure => simp [intOf]; omega
   ·go_wp2_with fail
    go_roundw
    case rel =>
     refine ⟨s + 1, _, by go_num, by omega, HN1.out.set s 0, fun t ht => ?_, HK1.out.trans (Kp.set w1 ⟨g, s, none⟩ _) (fun _ _ h => h)⟩
     unfold upI
     by_cases e : t = s
     ·rw [if_pos e, e, HX.out]; rfl
     ·rw [if_neg e, if_neg e]; exact HD.out t (by omega)
    case measure => simp [intOf]; omega
  ·obtain rfl : s = n := by omega
   clear c1
   go_wp2_with fail
   go_loopw [7] (fun v wr => ∃ (m : Nat) (f : Nat → Int), v = .int .i64 ((m : Int) + 1) ∧ m ≤ K ∧ NumB wr g s f ∧ (∀ t, t < s → f t = distG s G E m t) ∧ Kp (fun j => j = g) wz wr) (fun v _ => K + 1 - (intOf v).toNat)
   case atStart => exact ⟨0, f, rfl, Nat.zero_le _, HNb.out, HD.out, HK.out⟩
   case round =>
    clear HNb HD HK
    obtain ⟨m, f, rfl, hm, hf, hd, hK⟩ := hrel
    have HNb := Lib.hid hf
    have HD := Lib.hid hd
    have HK := Lib.hid hK
    clear hf hd hK
    obtain ⟨n, rfl⟩ : ∃ n, n = s := ⟨_, rfl⟩
    by_cases hlm : m < K
    ·have m1 : (m : Int) + 1 ≤ (K : Int) := by omega
     go_upto_region 11 with fail
     go_wp2_with fail
     go_loopw [8] (fun v wr => ∃ (s : Nat) (f : Nat → Int) (N : List Nat), v = .int .i64 (s : Int) ∧ s ≤ n ∧ NumB wr g n f ∧ MidG n G E m (fun t => t < s ∧ ∃ u, u < n ∧ distG n G E m u = m ∧ E u t = true) f N ∧ Kp (fun j => j = g) wz wr) (fun v _ => n - (intOf v).toNat)
     case atStart => exact ⟨0, f, [], rfl, Nat.zero_le _, HNb.out, (MidG.start HD.out).congr (fun t _ => ⟨fun h => h.elim, fun h => absurd h.1 (Nat.not_lt_zero t)⟩), HK.out⟩
     case round =>
      clear HNb HD HK
      obtain ⟨s, f, N, rfl, hs, hf, hM, hK⟩ := hrel
      have HNb := Lib.hid hf
      have HM := Lib.hid hM
      have HK := Lib.hid hK
      clear hf hM hK
      by_cases hlt : s < n
      ·have s0 : (0 : Int) ≤ (s : Int) := by omega
       have s1 : (s : Int) < (n : Int) := by omega
       have HLt := Lib.hid (HN.out.lt s hlt)
       have hfw := HN.out.few s hlt
       go_wp2_with fail
       go_loopw [9] (fun v wr => ∃ (i : Nat) (f : Nat → Int) (N : List Nat), v = .int .i64 (i : Int) ∧ i ≤ (nx s).length ∧ NumB wr g n f ∧ (MidG n G E m (fun t => t < s ∧ ∃ u, u < n ∧ distG n G E m u = m ∧ E u t = true) f N ∧ (∀ u, u ∈ (nx s).take i → distG n G E m u ≠ m) ∨ MidG n G E m (fun t => t < s + 1 ∧ ∃ u, u < n ∧ distG n G E m u = m ∧ E u t = true) f N ∧ 0 ≤ f s) ∧ Kp (fun j => j = g) wz wr) (fun v _ => (nx s).length - (intOf v).toNat)
       case atStart => exact ⟨0, f, N, rfl, Nat.zero_le _, HNb.out, .inl ⟨HM.out, fun u h => by simp at h⟩, HK.out⟩
       case round =>
        clear HNb HM HK
        obtain ⟨i, f, N, rfl, hi, hf, hM, hK⟩ := hrel
        have HNb := Lib.hid hf
        have HM := Lib.hid hM
        have HK := Lib.hid hK
        have c2 := (HB.out wr (HF.out wr hK)).cell (i := 2) (v := .slice (some ⟨d, 0, none⟩) n cd) rfl
        obtain ⟨e, ce, n0, hE⟩ := (HA.out wr (HF.out wr hK)).nxs s hlt
        have e0 := HNb.out.at hlt
        have f0 := HNb.out.free s
        -- in either form: numbers are so
        have hlo : ∀ t, t < n → (f t = -1 ∨ 0 ≤ f t) ∧ (f t = m ↔ distG n G E m t = m) := fun t ht => by
         have key : ∀ Q : Nat → Prop, MidG n G E m Q f N → (f t = -1 ∨ 0 ≤ f t) ∧ (f t = m ↔ distG n G E m t = m) := fun Q hQ => by
          by_cases e : distG n G E m t = -1
          ·by_cases q : Q t
           ·have := hQ.new t ht e q; omega
           ·have := hQ.none t ht e q; omega
          ·rw [hQ.old t ht e]
           rcases distG_cases (n := n) (st := G) (E := E) m t with ⟨_, q⟩ | ⟨_, q, _⟩
           ·exact absurd q e
           ·exact ⟨.inr q, Iff.rfl⟩
         rcases hM with h | h
         ·exact key _ h.1
         ·exact key _ h.1
        have HLo := Lib.hid hlo
        clear hf hM hK hlo
        have hx0 := (HLo.out s hlt).1
        obtain ⟨x, hx⟩ : ∃ x, f s = x := ⟨_, rfl⟩
        have HX := Lib.hid hx
        rw [hx] at e0 hx0
        clear hx
        obtain ⟨l, hl⟩ : ∃ l, (nx s).length = l := ⟨_, rfl⟩
        rw [hl] at hi n0 hfw ⊢
        have HL := Lib.hid hl
        clear hl
        -- at the end of the round of s
        have HEnd := Lib.hid (show (i = l ∨ 0 ≤ x) → MidG n G E m (fun t => t < s + 1 ∧ ∃ u, u < n ∧ distG n G E m u = m ∧ E u t = true) f N from fun hq => by
         rcases HM.out with ⟨h1, h2⟩ | ⟨h1, -⟩
         ·rcases hq with rfl | hq
          ·refine h1.congr (fun t _ => ⟨fun h => ⟨by omega, h.2⟩, fun ⟨h3, u, h4, h5, h6⟩ => ⟨?_, u, h4, h5, h6⟩⟩)
           refine Classical.byContradiction fun z => ?_
           obtain rfl : t = s := by omega
           rw [HE.out, decide_eq_true_eq] at h6
           exact h2 u (by rw [← HL.out, List.take_length]; exact h6) h5
          ·by_cases e : distG n G E m s = -1
           ·by_cases q : s < s ∧ ∃ u, u < n ∧ distG n G E m u = m ∧ E u s = true
            ·omega
            ·have := h1.none s hlt e q
             rw [HX.out] at this
             omega
           ·by_cases q : ∃ u, u < n ∧ distG n G E m u = m ∧ E u s = true
            ·refine (h1.skip hlt (by rw [HX.out]; omega)).congr (fun t _ => ⟨fun h => ?_, fun h => ?_⟩)
             ·rcases h with h | rfl
              ·exact ⟨by omega, h.2⟩
              ·exact ⟨by omega, q⟩
             ·by_cases z : t = s
              ·exact .inr z
              ·exact .inl ⟨by omega, h.2⟩
            ·refine h1.congr (fun t _ => ⟨fun h => ⟨by omega, h.2⟩, fun h => ⟨?_, h.2⟩⟩)
             refine Classical.byContradiction fun z => ?_
             obtain rfl : t = s := by omega
             exact q h.2
         ·exact h1)
        by_cases hil : i < l
        ·have i0 : (0 : Int) ≤ (i : Int) := by omega
         have i1 : (i : Int) < (l : Int) := by omega
         rcases hx0 with rfl | hx0
         ·obtain ⟨t, ht⟩ : ∃ t, (nx s)[i]? = some t := ⟨(nx s)[i]'(by rw [HL.out]; exact hil), List.getElem?_eq_getElem _⟩
          have htn : t < n := HLt.out t (List.mem_of_getElem? ht)
          obtain ⟨be, oe, rfl, ct⟩ := hE.get (j := i) (by rw [natV_len, HL.out]; exact hil)
          rw [natV_gi ht] at ct
          have t0 : (0 : Int) ≤ (t : Int) := by omega
          have t1 : (t : Int) < (n : Int) := by omega
          have et := HNb.out.at htn
          have hst := HM.out.resolve_right (fun h => by have := h.2; rw [HX.out] at this; omega)
          have HSt := Lib.hid hst
          have HTk := Lib.hid (show (nx s).take (i + 1) = (nx s).take i ++ [t] by rw [List.take_add_one, ht]; rfl)
          have HTm := Lib.hid (List.mem_of_getElem? ht)
          have hym := (HLo.out t htn).2
          obtain ⟨y, hy⟩ : ∃ y, f t = y := ⟨_, rfl⟩
          rw [hy] at et hym
          have HYm := Lib.hid hym
          have m0 : wrap64 ((m : Int) + 1 - 1) = (m : Int) := by unfold wrap64; omega
          clear hy ht hE hst hym
          by_cases hy : y = (m : Int)
          ·subst hy
           go_wp2_with fail
           go_roundw
           case rel =>
            refine ⟨i + 1, _, _, by go_num, by omega, HNb.out.set s _, .inr ⟨(HSt.out.1.put hlt HX.out).congr (fun q hq => ⟨fun h => ?_, fun h => ?_⟩), ?_⟩, HK.out.trans (Kp.set wr ⟨g, s, none⟩ _) (fun _ _ h => h)⟩
            ·rcases h with h | rfl
             ·exact ⟨by omega, h.2⟩
             ·exact ⟨by omega, t, htn, HYm.out.1 rfl, by rw [HE.out]; exact decide_eq_true HTm.out⟩
            ·by_cases z : q = s
             ·exact .inr z
             ·exact .inl ⟨by omega, h.2⟩
            ·unfold upI; rw [if_pos rfl]; omega
           case measure => simp [intOf]; omega
          ·go_wp2_with fail
           go_roundw
           case rel =>
            refine ⟨i + 1, _, _, by go_num, by omega, HNb.out, .inl ⟨HSt.out.1, fun u hu => ?_⟩, HK.out⟩
            rw [HTk.out, List.mem_append, List.mem_singleton] at hu
            rcases hu with hu | rfl
            ·exact HSt.out.2 u hu
            ·exact fun q => hy (HYm.out.2 q)
           case measure => simp [intOf]; omega
         ·have x0 : ¬ x < 0 := by omega
          clear hE
          go_wp2_with fail
          go_roundw
          case rel => exact ⟨s + 1, f, N, by go_num, by omega, HNb.out, HEnd.out (.inr hx0), HK.out⟩
          case measure => simp [intOf]; omega
        ·have hie : i = l := by omega
         have i1 : ¬ (i : Int) < (l : Int) := by omega
         clear hE
         go_wp2_with fail
         go_roundw
         case rel => exact ⟨s + 1, f, N, by go_num, by omega, HNb.out, HEnd.out (.inl hie), HK.out⟩
         case measure => simp [intOf]; omega
      ·obtain rfl : s = n := by omega
       go_wp2_with fail
       go_roundw
       case rel => exact ⟨m + 1, f, by go_num, by omega, HNb.out, (HM.out.congr (fun t ht => ⟨fun h => h.2, fun h => ⟨ht, h⟩⟩)).fin.1, HK.out⟩
       case measure => simp [intOf]; omega
    ·obtain rfl : m = K := by omega
     go_wp2_with fail
     go_ret
     exact ⟨g, rfl, HNb.out.congr HD.out, HK0.out.trans (HF.out _ HK.out) (fun _ _ h => h)⟩

end Go.Proofs.YtnoknecfdnjomaaGreat

/-
  latchetref17's Steps: after how many steps something bad can come first.
-/
namespace Go.Proofs.YtnoknecfdnjomaaGreat
open Go.RowKit

def NowB (w : World) (h n : Nat) (f : Nat → Bool) : Prop := ∀ t, t < n → w.cell? ⟨h, t, none⟩ = some (.bool (f t))
theorem NowB.kp {w w' : World} {h n : Nat} {f : Nat → Bool} {S : Nat → Prop} (hh : NowB w h n f) (k : Kp S w w') (hl : h < w.heap.size) (hS : ¬ S h) : NowB w' h n f := fun t ht =>
 (World.cell?_of_block (w := w) (w' := w') (a := ⟨h, t, none⟩) (k.block h hl hS)).trans (hh t ht)
theorem exG_succ {n : Nat} {st : Nat → Bool} {E : Nat → Nat → Bool} {k t : Nat} : exG n st E (k + 1) t = decide (∃ s, s < n ∧ exG n st E k s = true ∧ E s t = true) := by
 show (List.range n).any (fun s => exG n st E k s && E s t) = _
 rw [Bool.eq_iff_iff, List.any_eq_true, decide_eq_true_eq]
 constructor
 ·rintro ⟨s, hs, h⟩
  rw [Bool.and_eq_true] at h
  exact ⟨s, List.mem_range.1 hs, h.1, h.2⟩
 ·rintro ⟨s, hs, h1, h2⟩
  exact ⟨s, List.mem_range.2 hs, by rw [h1, h2]; rfl⟩
theorem canG_no {n : Nat} {st bad : Nat → Bool} {E : Nat → Nat → Bool} {k : Nat} (h : ∀ s, s < n → ¬ (exG n st E k s = true ∧ bad s = true)) : canG n st bad E k = false := by
 unfold canG
 rw [← Bool.not_eq_true, List.any_eq_true]
 rintro ⟨s, hs, q⟩
 rw [Bool.and_eq_true] at q
 exact h s (List.mem_range.1 hs) q
theorem canG_yes {n : Nat} {st bad : Nat → Bool} {E : Nat → Nat → Bool} {k s : Nat} (hs : s < n) (h1 : exG n st E k s = true) (h2 : bad s = true) : canG n st bad E k = true := by
 unfold canG
 rw [List.any_eq_true]
 exact ⟨s, List.mem_range.2 hs, by rw [h1, h2]; rfl⟩

set_option maxRecDepth 100000 in
set_option maxHeartbeats 4000000 in
theorem ref17_Steps {w : World} {a b d n ca cb cd : Nat} {st bd : Nat → Bool} {nx : Nat → List Nat} (hA : AllR w a b d n st bd nx) (hN : NxOk n nx) (hn1 : 0 < n) (K : Nat) (hK9 : K ≤ 1000) :
  Calls Tryz.prog 16 #[.agg (allV a b d n ca cb cd), .slice (some ⟨a, 0, none⟩) n ca, .int .i64 (K : Int)] w fun e w' => e = .returned (.int .i64 (leastG (canG n st bd (fun s t => decide (t ∈ nx s))) K)) ∧ Kp (fun _ => False) w w' := by
 obtain ⟨wz, hwz⟩ : ∃ wz : World, wz = w.alloc (.cells (allV a b d n ca cb cd) 41) := ⟨_, rfl⟩
 have HK0 := Lib.hid (show Kp (fun _ => False) w wz by rw [hwz]; exact (Kp.refl _ w).alloc _)
 have HB := Lib.hid (fun u (hu : Kp (fun _ => False) wz u) => (show Blk wz w.heap.size (allV a b d n ca cb cd) 41 by rw [hwz]; exact Blk.new _ _ _).kp hu (fun h => h))
 have HA := Lib.hid (fun u (hu : Kp (fun _ => False) wz u) => hA.kp (HK0.out.trans hu (fun _ _ h => h)))
 have HI := Lib.hid (show (Tryz.prog.info? 4).map (fun i => (i.zero, i.size, i.bytes)) = some (some (.bool false), 1, 1) by kernel_rfl)
 have hn9 := hN.n9
 have HN := Lib.hid hN
 have HMk := Lib.hid (fun u => make_bools n hn9 u)
 have HZ := Lib.hid hwz
 obtain ⟨E, hE⟩ : ∃ E : Nat → Nat → Bool, (fun s t => decide (t ∈ nx s)) = E := ⟨_, rfl⟩
 have HE := Lib.hid (fun s t => show E s t = decide (t ∈ nx s) from (congrFun (congrFun hE s) t).symm)
 rw [hE]
 have HXs := Lib.hid (fun k t => exG_succ (n := n) (st := st) (E := E) (k := k) (t := t))
 have HX0 := Lib.hid (fun t => show exG n st E 0 t = st t from rfl)
 have HCn := Lib.hid (fun k h => canG_no (n := n) (st := st) (bad := bd) (E := E) (k := k) h)
 have HCy := Lib.hid (fun k s hs h1 h2 => canG_yes (n := n) (st := st) (bad := bd) (E := E) (k := k) (s := s) hs h1 h2)
 have HLe := Lib.hid (fun k hk h hl => leastG_eq (P := canG n st bd E) (m := K) (k := k) hk h hl)
 have HLn := Lib.hid (fun h => leastG_none (P := canG n st bd E) (m := K) h)
 obtain ⟨cg, hcg⟩ : ∃ cg, canG n st bd E = cg := ⟨_, rfl⟩
 rw [hcg] at HLe HLn HCn HCy ⊢
 obtain ⟨lg, hlg⟩ : ∃ lg, leastG cg K = lg := ⟨_, rfl⟩
 rw [hlg] at HLe HLn ⊢
 obtain ⟨X, hX⟩ : ∃ X, exG n st E = X := ⟨_, rfl⟩
 simp only [hX] at HXs HX0 HCn HCy
 clear hwz hA hN hE hcg hlg hX
 unfold allV at HZ HB ⊢
 go_enter Tryz.func16, Tryz.ntmps16
 go_upto_region 1 with fail
 rw [← HZ.out]
 clear HZ
 have HRow := Lib.hid (show RowAt (wz.alloc (.cells #[] 4)) (some ⟨a, 0, none⟩) ((List.range n).map (fun t => Value.bool (st t))) from by
  have hA1 := (HA.out wz (Kp.refl _ _)).kp ((Kp.refl (fun _ => False) wz).alloc (.cells #[] 4))
  intro j u hj
  have hjn : j < n := by
   have := (List.getElem?_eq_some_iff.1 hj).1
   simpa using this
  rw [List.getElem?_map, List.getElem?_range hjn] at hj
  cases hj
  exact ⟨a, 0, rfl, by rw [Nat.zero_add]; exact hA1.sts j hjn⟩)
 have HO0 := Lib.hid (show Own (wz.alloc (.cells #[] 4)) wz.heap.size 4 (.slice (some ⟨wz.heap.size, 0, none⟩) 0 0) [] from own_made (f := fun _ => .bool false) (n := 0) (Blk.new wz #[] 4) (Nat.le_refl _) (Nat.zero_le _))
 go_wp2_with (at_builtin; refine wpList_appendAll rfl _ _ 38 4 rfl Tryz.underlying38 HI.out rfl HO0.out rfl (some ⟨a, 0, none⟩) n ca ((List.range n).map (fun t => Value.bool (st t))) rfl (by simp) HRow.out (fun h => by cases h) (fun u hu => by obtain ⟨x, _, rfl⟩ := List.mem_map.1 hu; rfl) ?c1 ?c2 ?c3 ?_)
 case c1 => simp; omega
 case c2 => unfold maxLen; simp; omega
 case c3 => simp
 intro v7 w2 hO2 hg2
 have hK2 : Kp (fun _ => False) wz w2 := (((Kp.refl (fun _ => False) wz).alloc _).grown hg2 (fun j hj h => by simp [Value.ownBlock] at hj; omega))
 have HK2 := Lib.hid hK2
 obtain ⟨h0, c0, rfl, -, hl0⟩ := hO2.leads (by simp; omega)
 have hNw : NowB w2 h0 n (X 0) := fun t ht => by
  rw [HX0.out]
  exact hO2.cell (by rw [List.getElem?_map, List.getElem?_range ht]; rfl)
 have HNw := Lib.hid hNw
 have HL0 := Lib.hid hl0
 simp only [List.length_map, List.length_range]
 clear HRow HO0 hO2 hg2 hK2 hNw hl0
 go_wp2_with fail
 go_loopw [7, 8] (fun v7 v8 wr => ∃ k h c : Nat, v8 = .int .i64 (k : Int) ∧ k ≤ K + 1 ∧ v7 = .slice (some ⟨h, 0, none⟩) n c ∧ NowB wr h n (X k) ∧ h < wr.heap.size ∧ (∀ j, j < k → cg j = false) ∧ Kp (fun _ => False) wz wr) (fun _ v8 _ => K + 1 - (intOf v8).toNat)
 case atStart => exact ⟨0, h0, c0, rfl, Nat.zero_le _, rfl, HNw.out, HL0.out, fun j hj => absurd hj (Nat.not_lt_zero j), HK2.out⟩
 case round =>
  clear HNw HL0 HK2
  obtain ⟨k, h, c, rfl, hk, rfl, hNw, hl, hno, hK⟩ := hrel
  have HNw := Lib.hid hNw
  have HHl := Lib.hid hl
  have HNo := Lib.hid hno
  have HK := Lib.hid hK
  clear hNw hl hno hK
  by_cases hle : k ≤ K
  ·have k1 : (k : Int) ≤ (K : Int) := by omega
   have hmk := HMk.out wr
   obtain ⟨w5, hw5⟩ : ∃ w5 : World, w5 = wr.alloc (.cells (madeCells #[.bool false] n) 4) := ⟨_, rfl⟩
   obtain ⟨g, hg⟩ : ∃ g, wr.heap.size = g := ⟨_, rfl⟩
   have HF5 := Lib.hid (show BolB w5 g n (fun _ => false) by rw [hw5, ← hg]; exact BolB.made _ _)
   have HK5 := Lib.hid (show Kp (fun _ => False) wz w5 by rw [hw5]; exact HK.out.alloc _)
   have HN5 := Lib.hid (show NowB w5 h n (X k) from HNw.out.kp (show Kp (fun _ => False) wr w5 by rw [hw5]; exact (Kp.refl _ wr).alloc _) HHl.out (fun h => h))
   have HSp := Lib.hid (show h < g ∧ g < w5.heap.size ∧ wz.heap.size ≤ g from ⟨by have := HHl.out; omega, HF5.out.lt, by have := HK.out.size; omega⟩)
   rw [hg, ← hw5] at hmk
   clear hw5 hg
   go_upto_region 6 with fail
   clear hmk
   go_wp2_with fail
   go_loopw [10] (fun v wr => ∃ (s : Nat) (f : Nat → Bool), v = .int .i64 (s : Int) ∧ s ≤ n ∧ BolB wr g n f ∧ (∀ t, t < n → f t = decide (∃ s', s' < s ∧ X k s' = true ∧ E s' t = true)) ∧ (∀ s', s' < s → ¬ (X k s' = true ∧ bd s' = true)) ∧ Kp (fun j => j = g) w5 wr) (fun v _ => n - (intOf v).toNat)
   case atStart => exact ⟨0, _, rfl, Nat.zero_le _, HF5.out, fun t ht => by symm; rw [decide_eq_false_iff_not]; rintro ⟨s, hs, _⟩; exact absurd hs (Nat.not_lt_zero s), fun s hs => absurd hs (Nat.not_lt_zero s), Kp.refl _ _⟩
   case round =>
    clear HF5
    obtain ⟨s, f, rfl, hs, hF, hf, hno, hK⟩ := hrel
    have HF := Lib.hid hF
    have HFe := Lib.hid hf
    have HNs := Lib.hid hno
    have HK6 := Lib.hid hK
    obtain ⟨w6, rfl⟩ : ∃ w6 : World, w6 = wr := ⟨_, rfl⟩
    have HKz := Lib.hid (HK5.out.trans hK (fun j h1 e => by have := HSp.out.2.2; omega))
    have HNw6 := Lib.hid (HN5.out.kp hK (by have := HSp.out; omega) (fun e => by have := HSp.out.1; omega))
    clear hF hf hno hK
    by_cases hlt : s < n
    ·have s0 : (0 : Int) ≤ (s : Int) := by omega
     have s1 : (s : Int) < (n : Int) := by omega
     have n0 := HNw6.out s hlt
     have d1 := (HB.out w6 HKz.out).cell (i := 1) (v := .slice (some ⟨b, 0, none⟩) n cb) rfl
     have b0 := (HA.out w6 HKz.out).bds s hlt
     obtain ⟨x, hx⟩ : ∃ x, X k s = x := ⟨_, rfl⟩
     have HXx := Lib.hid hx
     obtain ⟨y, hy⟩ : ∃ y, bd s = y := ⟨_, rfl⟩
     have HYy := Lib.hid hy
     rw [hx] at n0
     rw [hy] at b0
     have hfw := HN.out.few s hlt
     have HLt := Lib.hid (HN.out.lt s hlt)
     clear hx hy
     by_cases hxy : x = true ∧ y = true
     ·obtain ⟨rfl, rfl⟩ := hxy
      have HE2 := Lib.hid (HLe.out k hle (HCy.out k s hlt HXx.out HYy.out) HNo.out)
      go_wp2_with fail
      go_ret
      exact ⟨by rw [HE2.out]; rfl, HK0.out.trans HKz.out (fun _ _ h => h)⟩
     ·have HXY := Lib.hid hxy
      have hxy2 : (if x = true then y else false) = false := by cases x <;> cases y <;> simp_all
      clear hxy
      rcases Classical.em (x = true) with hx | hx
      ·obtain rfl := hx
       have hyf : y = false := by
        cases y
        ·rfl
        ·exact absurd ⟨rfl, rfl⟩ HXY.out
       subst hyf
       clear hxy2
       go_upto_region 11 with fail
       go_wp2_with fail
       clear n0 d1 b0
       go_loopw [11] (fun v wr => ∃ (i : Nat) (f : Nat → Bool), v = .int .i64 (i : Int) ∧ i ≤ (nx s).length ∧ BolB wr g n f ∧ (∀ t, t < n → f t = decide ((∃ s', s' < s ∧ X k s' = true ∧ E s' t = true) ∨ t ∈ (nx s).take i)) ∧ Kp (fun j => j = g) w5 wr) (fun v _ => (nx s).length - (intOf v).toNat)
       case atStart => exact ⟨0, f, rfl, Nat.zero_le _, HF.out, fun t ht => by rw [HFe.out t ht]; congr 1; simp, HK6.out⟩
       case round =>
        clear HF HFe HK6 HKz HNw6
        obtain ⟨i, f, rfl, hi, hF, hf, hK⟩ := hrel
        have HF := Lib.hid hF
        have HFe := Lib.hid hf
        have HK6 := Lib.hid hK
        obtain ⟨w7, rfl⟩ : ∃ w7 : World, w7 = wr := ⟨_, rfl⟩
        have HKz := Lib.hid (HK5.out.trans hK (fun j h1 e => by have := HSp.out.2.2; omega))
        have n0 := (HN5.out.kp hK (by have := HSp.out; omega) (fun e => by have := HSp.out.1; omega)) s hlt
        rw [HXx.out] at n0
        have d2 := (HB.out w7 HKz.out).cell (i := 2) (v := .slice (some ⟨d, 0, none⟩) n cd) rfl
        obtain ⟨e, ce, e0, hE⟩ := (HA.out w7 HKz.out).nxs s hlt
        clear hF hf hK
        obtain ⟨l, hl⟩ : ∃ l, (nx s).length = l := ⟨_, rfl⟩
        rw [hl] at hi e0 hfw ⊢
        have HL := Lib.hid hl
        clear hl
        by_cases hil : i < l
        ·have i0 : (0 : Int) ≤ (i : Int) := by omega
         have i1 : (i : Int) < (l : Int) := by omega
         obtain ⟨t, ht⟩ : ∃ t, (nx s)[i]? = some t := ⟨(nx s)[i]'(by rw [HL.out]; exact hil), List.getElem?_eq_getElem _⟩
         have htn : t < n := HLt.out t (List.mem_of_getElem? ht)
         obtain ⟨be, oe, rfl, ct⟩ := hE.get (j := i) (by rw [natV_len, HL.out]; exact hil)
         rw [natV_gi ht] at ct
         have t0 : (0 : Int) ≤ (t : Int) := by omega
         have t1 : (t : Int) < (n : Int) := by omega
         have et := HF.out.at htn
         have ft := HF.out.free t
         have HTk := Lib.hid (show (nx s).take (i + 1) = (nx s).take i ++ [t] by rw [List.take_add_one, ht]; rfl)
         clear ht hE
         go_wp2_with fail
         go_roundw
         case rel =>
          refine ⟨i + 1, _, by go_num, by omega, HF.out.set t true, fun q hq => ?_, HK6.out.trans (Kp.set w7 ⟨g, t, none⟩ _) (fun _ _ h => h)⟩
          unfold upB
          rw [HTk.out]
          by_cases e : q = t
          ·rw [if_pos e]; symm; rw [decide_eq_true_eq]; right; rw [List.mem_append]; right; simp [e]
          ·rw [if_neg e, HFe.out q hq]
           congr 1
           rw [List.mem_append, List.mem_singleton]
           simp [e]
         case measure => simp [intOf]; omega
        ·obtain rfl : i = l := by omega
         have HTa := Lib.hid (show (nx s).take i = nx s by rw [← HL.out]; exact List.take_length)
         clear hE
         go_wp2_with fail
         go_roundw
         case rel =>
          refine ⟨s + 1, f, by go_num, by omega, HF.out, fun t ht => ?_, fun s' hs' => ?_, HK6.out⟩
          ·rw [HFe.out t ht, HTa.out]
           rw [Bool.eq_iff_iff, decide_eq_true_eq, decide_eq_true_eq]
           constructor
           ·rintro (⟨s', h1, h2⟩ | h)
            ·exact ⟨s', by omega, h2⟩
            ·exact ⟨s, by omega, HXx.out, by rw [HE.out]; exact decide_eq_true h⟩
           ·rintro ⟨s', h1, h2, h3⟩
            by_cases e : s' = s
            ·subst e
             rw [HE.out, decide_eq_true_eq] at h3
             exact .inr h3
            ·exact .inl ⟨s', by omega, h2, h3⟩
          ·by_cases e : s' = s
           ·subst e; rw [HYy.out]; exact fun q => by cases q.2
           ·exact HNs.out s' (by omega)
         case measure => simp [intOf]; omega
      ·obtain rfl : x = false := by cases x <;> simp_all
       go_upto_region 11 with fail
       go_wp2_with fail
       have d2 := (HB.out w6 HKz.out).cell (i := 2) (v := .slice (some ⟨d, 0, none⟩) n cd) rfl
       obtain ⟨e, ce, e0, hE⟩ := (HA.out w6 HKz.out).nxs s hlt
       obtain ⟨l, hl⟩ : ∃ l, (nx s).length = l := ⟨_, rfl⟩
       rw [hl] at e0 hfw
       clear hl hE d1 b0 hxy2
       go_loopw [11] (fun v wr => v = .int .i64 0 ∧ wr = w6) (fun _ _ => 0)
       case atStart => exact ⟨rfl, rfl⟩
       case round =>
        obtain ⟨rfl, rfl⟩ := hrel
        have key : ∀ t, t < n → f t = decide (∃ s', s' < s + 1 ∧ X k s' = true ∧ E s' t = true) := fun t ht => by
         rw [HFe.out t ht, Bool.eq_iff_iff, decide_eq_true_eq, decide_eq_true_eq]
         constructor
         ·rintro ⟨s', h1, h2⟩; exact ⟨s', by omega, h2⟩
         ·rintro ⟨s', h1, h2, h3⟩
          by_cases e : s' = s
          ·subst e; rw [HXx.out] at h2; cases h2
          ·exact ⟨s', by omega, h2, h3⟩
        have HKey := Lib.hid key
        have HNs2 := Lib.hid (show ∀ s', s' < s + 1 → ¬ (X k s' = true ∧ bd s' = true) from fun s' hs' => by
         by_cases e : s' = s
         ·subst e; rw [HXx.out]; exact fun q => by cases q.1
         ·exact HNs.out s' (by omega))
        clear key
        by_cases hl0 : 0 < l
        ·have l1 : (0 : Int) < (l : Int) := by omega
         go_wp2_with fail
         go_roundw
         case rel => exact ⟨s + 1, f, by go_num, by omega, HF.out, HKey.out, HNs2.out, HK6.out⟩
         case measure => simp [intOf]; omega
        ·have l1 : ¬ (0 : Int) < (l : Int) := by omega
         go_wp2_with fail
         go_roundw
         case rel => exact ⟨s + 1, f, by go_num, by omega, HF.out, HKey.out, HNs2.out, HK6.out⟩
         case measure => simp [intOf]; omega
    ·obtain rfl : s = n := by omega
     have HC0 := Lib.hid (HCn.out k HNs.out)
     go_wp2_with fail
     go_roundw
     case rel =>
      refine ⟨k + 1, g, _, by go_num, by omega, rfl, fun t ht => ?_, by have := HKz.out.size; have := HSp.out.2.1; have := HK6.out.size; omega, fun j hj => ?_, HKz.out⟩
      ·rw [HXs.out, ← HFe.out t ht]
       exact HF.out.at ht
      ·by_cases e : j = k
       ·rw [e]; exact HC0.out
       ·exact HNo.out j (by omega)
     case measure => simp [intOf]; omega
  ·have HE2 := Lib.hid (HLn.out (fun j hj => HNo.out j (by omega)))
   go_wp2_with fail
   go_ret
   exact ⟨by rw [HE2.out]; rfl, HK0.out.trans HK.out (fun _ _ h => h)⟩

end Go.Proofs.YtnoknecfdnjomaaGreat

/-
  latchetref43.Behind, latchetref17.Bits.
-/
namespace Go.Proofs.YtnoknecfdnjomaaGreat
open Go.RowKit

def behN (n : Nat) (L : List Nat) : List Nat := (List.range n).filter (fun t => decide (t ∈ L))
theorem behN_put {n : Nat} {L : List Nat} (h : n ∈ L) : behN (n + 1) L = behN n L ++ [n] := by
 unfold behN; rw [List.range_succ, List.filter_append]; simp [h]
theorem behN_skip {n : Nat} {L : List Nat} (h : n ∉ L) : behN (n + 1) L = behN n L := by
 unfold behN; rw [List.range_succ, List.filter_append]; simp [h]
theorem behN_len {n : Nat} {L : List Nat} : (behN n L).length ≤ n := by
 have := List.length_filter_le (fun t => decide (t ∈ L)) (List.range n)
 rw [List.length_range] at this
 exact this
theorem natV_snoc (l : List Nat) (s : Nat) : iv (natV (l ++ [s])) = iv (natV l) ++ [.int .i64 (s : Int)] := by simp [natV, iv]
theorem iv_natV_len (l : List Nat) : (iv (natV l)).length = l.length := by rw [iv_length, natV_len]

set_option maxRecDepth 100000 in
set_option maxHeartbeats 4000000 in
theorem ref43_Behind {w : World} {a b d n ca cb cd : Nat} {st bd : Nat → Bool} {nx : Nat → List Nat} (hA : AllR w a b d n st bd nx) (hN : NxOk n nx) (s : Nat) (hs : s < n) :
  Calls Tryz.prog 21 #[.agg (allV a b d n ca cb cd), .int .i64 (s : Int)] w fun e w' => ∃ v, e = .returned v ∧ Own w' w.heap.size 3 v (iv (natV (behN n (nx s)))) ∧ Kp (fun _ => False) w w' := by
 obtain ⟨wz, hwz⟩ : ∃ wz : World, wz = w.alloc (.cells (allV a b d n ca cb cd) 41) := ⟨_, rfl⟩
 have HK0 := Lib.hid (show Kp (fun _ => False) w wz by rw [hwz]; exact (Kp.refl _ w).alloc _)
 have HB := Lib.hid (fun u (hu : Kp (fun _ => False) wz u) => (show Blk wz w.heap.size (allV a b d n ca cb cd) 41 by rw [hwz]; exact Blk.new _ _ _).kp hu (fun h => h))
 have HA := Lib.hid (fun u (hu : Kp (fun _ => False) wz u) => hA.kp (HK0.out.trans hu (fun _ _ h => h)))
 have HI := Lib.hid (show (Tryz.prog.info? 3).map (fun i => (i.zero, i.size, i.bytes)) = some (some (.int .i64 0), 1, 8) by kernel_rfl)
 have hn9 := hN.n9
 have hfw := hN.few s hs
 have HZ := Lib.hid hwz
 have HBp := Lib.hid (fun t (h : t ∈ nx s) => behN_put (n := t) (L := nx s) h)
 have HBs := Lib.hid (fun t (h : t ∉ nx s) => behN_skip (n := t) (L := nx s) h)
 have HBl := Lib.hid (fun t => behN_len (n := t) (L := nx s))
 have HB0 := Lib.hid (show behN 0 (nx s) = [] from rfl)
 obtain ⟨be, hbe⟩ : ∃ be : Nat → List Nat, (fun t => behN t (nx s)) = be := ⟨_, rfl⟩
 have e : ∀ t, behN t (nx s) = be t := fun t => congrFun hbe t
 simp only [e] at HBp HBs HBl HB0 ⊢
 obtain ⟨B0, hB0⟩ : ∃ B0, w.heap.size = B0 := ⟨_, rfl⟩
 have s0 : (0 : Int) ≤ (s : Int) := by omega
 have s1 : (s : Int) < (n : Int) := by omega
 have HSz := Lib.hid (show B0 ≤ wz.heap.size by rw [← hB0]; exact HK0.out.size)
 rw [hB0] at HB
 clear hwz hA hN hbe e
 unfold allV at HZ HB ⊢
 go_enter Tryz.func21, Tryz.ntmps21
 go_upto_region 1 with fail
 rw [← HZ.out]
 clear HZ
 go_wp2_with fail
 have HO0 := Lib.hid (show Own (wz.alloc (.cells #[] 3)) wz.heap.size 3 (.slice (some ⟨wz.heap.size, 0, none⟩) 0 0) (iv (natV (be 0))) by
  rw [HB0.out]
  exact own_made (f := fun _ => .int .i64 0) (n := 0) (Blk.new wz #[] 3) (Nat.le_refl _) (Nat.zero_le _))
 have HK1 := Lib.hid ((Kp.refl (fun _ => False) wz).alloc (.cells #[] 3))
 go_loopw [5, 6] (fun v5 v6 wr => ∃ t : Nat, v6 = .int .i64 (t : Int) ∧ t ≤ n ∧ Own wr wz.heap.size 3 v5 (iv (natV (be t))) ∧ Kp (fun _ => False) wz wr) (fun _ v6 _ => n - (intOf v6).toNat)
 case atStart => exact ⟨0, rfl, Nat.zero_le _, HO0.out, HK1.out⟩
 case round =>
  clear HO0 HK1
  obtain ⟨t, rfl, ht, hO, hK⟩ := hrel
  have HO := Lib.hid hO
  have HK := Lib.hid hK
  have d2 := (HB.out wr hK).cell (i := 2) (v := .slice (some ⟨d, 0, none⟩) n cd) rfl
  obtain ⟨e, ce, e0, hE⟩ := (HA.out wr hK).nxs s hs
  have HE := Lib.hid hE
  clear hO hK hE
  obtain ⟨l, hl⟩ : ∃ l, (nx s).length = l := ⟨_, rfl⟩
  rw [hl] at e0 hfw
  have HL := Lib.hid hl
  clear hl
  by_cases hlt : t < n
  ·have t0 : (0 : Int) ≤ (t : Int) := by omega
   have t1 : (t : Int) < (n : Int) := by omega
   obtain ⟨wp, rfl⟩ : ∃ wp : World, wp = wr := ⟨_, rfl⟩
   go_upto_region 7 with fail
   go_wp2_with fail
   go_loopw [7, 8] (fun v7 v8 wr => ∃ i : Nat, v8 = .int .i64 (i : Int) ∧ i ≤ l ∧ v7 = .bool (decide (t ∈ (nx s).take i)) ∧ wr = wp) (fun _ v8 _ => l - (intOf v8).toNat)
   case atStart => exact ⟨0, rfl, Nat.zero_le _, rfl, rfl⟩
   case round =>
    obtain ⟨i, rfl, hi, rfl, rfl⟩ := hrel
    by_cases hil : i < l
    ·have i0 : (0 : Int) ≤ (i : Int) := by omega
     have i1 : (i : Int) < (l : Int) := by omega
     obtain ⟨u, hu⟩ : ∃ u, (nx s)[i]? = some u := ⟨(nx s)[i]'(by rw [HL.out]; exact hil), List.getElem?_eq_getElem _⟩
     obtain ⟨be2, oe, rfl, ct⟩ := HE.out.get (j := i) (by rw [natV_len, HL.out]; exact hil)
     rw [natV_gi hu] at ct
     have HTk := Lib.hid (show decide (t ∈ (nx s).take (i + 1)) = (decide (t ∈ (nx s).take i) || decide (u = t)) by
      rw [List.take_add_one, hu, Bool.eq_iff_iff]
      simp only [List.mem_append, decide_eq_true_eq, Bool.or_eq_true, Option.toList_some, List.mem_singleton]
      exact or_congr Iff.rfl ⟨fun h => h.symm, fun h => h.symm⟩)
     obtain ⟨x, hx⟩ : ∃ x, decide (t ∈ (nx s).take i) = x := ⟨_, rfl⟩
     rw [hx] at HTk ⊢
     clear hx hu
     cases x
     ·by_cases hut : u = t
      ·subst hut
       go_wp2_with fail
       go_roundw
       case rel => exact ⟨i + 1, by go_num, by omega, by rw [HTk.out]; simp, trivial⟩
       case measure => simp [intOf]; omega
      ·have b0 : ((u : Int) == (t : Int)) = false := by simp; omega
       have b1 : ¬ ((u : Int) = (t : Int)) := by omega
       have HTf := Lib.hid (show decide (t ∈ (nx s).take (i + 1)) = false by rw [HTk.out, decide_eq_false hut]; rfl)
       clear hut
       go_wp2_with fail
       go_roundw
       case rel => exact ⟨i + 1, by go_num, by omega, by rw [HTf.out], trivial⟩
       case measure => simp [intOf]; omega
     ·go_wp2_with fail
      go_roundw
      case rel => exact ⟨i + 1, by go_num, by omega, by rw [HTk.out]; rfl, trivial⟩
      case measure => simp [intOf]; omega
    ·obtain rfl : i = l := by omega
     have hTa : (nx s).take i = nx s := by rw [← HL.out]; exact List.take_length
     rw [hTa]
     by_cases hm : t ∈ nx s
     ·have HBt := Lib.hid (HBp.out t hm)
      have hbl := HBl.out t
      rw [decide_eq_true hm]
      clear hm hTa
      go_wp2_with (at_builtin; refine wpList_append1_at rfl _ _ 22 3 rfl Tryz.underlying22 HI.out rfl (HO.out.alloc _) rfl ⟨wr.heap.size, 0, none⟩ (.int .i64 (t : Int)) rfl ?c1 rfl ?c2 ?c3 ?c4 ?_)
      case c1 => exact World.cell?_alloc_at _ _ _ _ rfl
      case c2 => rw [iv_natV_len]; omega
      case c3 => rw [iv_natV_len]; unfold maxLen; omega
      case c4 => have := HK.out.size; simp; omega
      intro v' w5 hO5 hg5 _
      have hK5 : Kp (fun _ => False) wz w5 := (HK.out.alloc _).grown hg5 (fun j hj h => by
       have h1 := (HO.out.lt j hj).1
       omega)
      have HO5 := Lib.hid hO5
      have HK5 := Lib.hid hK5
      clear hO5 hg5 hK5
      go_wp2_with fail
      go_roundw
      case rel => exact ⟨t + 1, by go_num, by omega, by rw [HBt.out, natV_snoc]; exact HO5.out, HK5.out⟩
      case measure => simp [intOf]; omega
     ·have HBt := Lib.hid (HBs.out t hm)
      rw [decide_eq_false hm]
      clear hm hTa
      go_wp2_with fail
      go_roundw
      case rel => exact ⟨t + 1, by go_num, by omega, by rw [HBt.out]; exact HO.out, HK.out⟩
      case measure => simp [intOf]; omega
  ·obtain rfl : t = n := by omega
   go_wp2_with fail
   go_ret
   exact ⟨_, rfl, HO.out.mono HK0.out.size, HK0.out.trans HK.out (fun _ _ h => h)⟩

set_option maxRecDepth 100000 in
theorem ref17_Bits (n m : Nat) (hn : n ≤ 1000000) (hm : m ≤ 1000) (w : World) :
  Calls Tryz.prog 23 #[.int .i64 n, .int .i64 m] w fun e w' => ∃ v, e = .returned v ∧ Own w' w.heap.size 4 v (bv (bitsP n m)) ∧ Kp (fun _ => False) w w' := by
 have HB := Lib.hid (ref17_bits n m hn hm w)
 go_enter Tryz.func23, Tryz.ntmps23
 go_wp2_with (go_at_call 41; refine HB.out.mono ?_; rintro e w' ⟨v, rfl, hO, hK⟩; have HO := Lib.hid hO; have HK := Lib.hid hK; clear hO hK)
 go_ret
 exact ⟨_, rfl, HO.out, HK.out⟩

end Go.Proofs.YtnoknecfdnjomaaGreat

/-
  The run that is told breaks the property.
-/
namespace Go.Proofs.YtnoknecfdnjomaaGreat
open Go.RowKit

theorem stN_len (C : Circ) (t : Nat) : (stN C t).length = C.lats.length := bitsP_len _ _
theorem inN2_len (C : Circ) (t : Nat) : (inN2 C t).length = C.ins.length := bitsP_len _ _
theorem rch_zero {C : Circ} {t : Nat} : decide (rchS C t = 0) = stS C t := by
 unfold rchS
 have h0 : distG (nS C) (stS C) (edS C) 0 t = if stS C t = true then 0 else -1 := rfl
 by_cases h : stS C t = true
 ·rw [distG_le (m := 0) (k := nS C) (by rw [h0, if_pos h]; decide) (Nat.zero_le _), h0, if_pos h, h]; rfl
 ·have e : ¬ distG (nS C) (stS C) (edS C) (nS C) t = 0 := fun q => by
   have := distG_at (k := 0) (m := nS C) q (Nat.zero_le _)
   rw [h0, if_neg h] at this
   exact absurd this (by decide)
  rw [decide_eq_false e]
  cases h2 : stS C t
  ·rfl
  ·exact absurd h2 h

end Go.Proofs.YtnoknecfdnjomaaGreat

/-
  The law of loose regions once more, where the last operations wait for the others by longer ways.
-/
namespace Go.Proofs.YtnoknecfdnjomaaGreat
open Go Go.RowKit

structure LooseOKD (ops : Array Oper) (p : Nat → Bool) (N : Nat) : Prop where
  ng : ∀ (i : Nat) (o : Oper), ops[i]? = some o → o.guard = none
  low : ∀ (i : Nat) (o : Oper), ops[i]? = some o → p i = true → ∀ e ∈ o.after, Region.binds .any e = true → e.on < i ∧ p e.on = true
  dst : ∀ (i : Nat) (o : Oper), ops[i]? = some o → p i = true → ∃ d, o.dst = some d ∧ d < N
  inj : ∀ (i j : Nat) (o o' : Oper), ops[i]? = some o → ops[j]? = some o' → p i = true → p j = true → o.dst = o'.dst → i = j
  bar : ∀ (i : Nat) (o : Oper), ops[i]? = some o → p i = false → ∀ j, j < ops.size → p j = true → j ∈ clo ops 16 (edgesOf ops i)

def looseBD (ops : Array Oper) (p : Nat → Bool) (N : Nat) : Bool :=
  (List.range ops.size).all fun i => match ops[i]? with
    | none => true
    | some o => o.guard.isNone && (if p i then
        o.after.all (fun e => !Region.binds .any e || (decide (e.on < i) && p e.on)) &&
          (match o.dst with
            | none => false
            | some d => decide (d < N) && (List.range ops.size).all (fun j => !p j || decide (j = i) || (match ops[j]? with | none => true | some o' => decide (o'.dst ≠ some d))))
      else (List.range ops.size).all (fun j => !p j || (clo ops 16 (edgesOf ops i)).contains j))

theorem looseB_specD {ops : Array Oper} {p : Nat → Bool} {N : Nat} (h : looseBD ops p N = true) : LooseOKD ops p N := by
 unfold looseBD at h
 rw [List.all_eq_true] at h
 have get : ∀ (i : Nat) (o : Oper), ops[i]? = some o → o.guard.isNone = true ∧ (if p i then
    o.after.all (fun e => !Region.binds .any e || (decide (e.on < i) && p e.on)) &&
     (match o.dst with
      |none => false
      |some d => decide (d < N) && (List.range ops.size).all (fun j => !p j || decide (j = i) || (match ops[j]? with | none => true | some o' => decide (o'.dst ≠ some d))))
   else (List.range ops.size).all (fun j => !p j || (clo ops 16 (edgesOf ops i)).contains j)) = true := fun i o ho => by
  have hi : i < ops.size := (Array.getElem?_eq_some_iff.1 ho).1
  have := h i (List.mem_range.2 hi)
  simp only [ho, Bool.and_eq_true] at this
  exact this
 refine ⟨fun i o ho => ?_, fun i o ho hp e he hb => ?_, fun i o ho hp => ?_, fun i j o o' ho ho' hp hp' hd => ?_, fun i o ho hp j hj hpj => ?_⟩
 ·have := (get i o ho).1
  simpa using this
 ·have := (get i o ho).2
  rw [if_pos hp, Bool.and_eq_true] at this
  have h1 := this.1
  rw [Array.all_eq_true_iff_forall_mem] at h1
  have h2 := h1 e he
  rw [hb] at h2
  simpa using h2
 ·have := (get i o ho).2
  rw [if_pos hp, Bool.and_eq_true] at this
  have h1 := this.2
  cases hd : o.dst with
  |none => rw [hd] at h1; cases h1
  |some d =>
   rw [hd] at h1
   simp only [Bool.and_eq_true, decide_eq_true_eq] at h1
   exact ⟨d, rfl, h1.1⟩
 ·have := (get i o ho).2
  rw [if_pos hp, Bool.and_eq_true] at this
  have h1 := this.2
  cases hdd : o.dst with
  |none => rw [hdd] at h1; cases h1
  |some d =>
   rw [hdd] at h1
   simp only [Bool.and_eq_true] at h1
   have h2 := h1.2
   rw [List.all_eq_true] at h2
   have h3 := h2 j (List.mem_range.2 (Array.getElem?_eq_some_iff.1 ho').1)
   rw [hp', ho'] at h3
   simp only [Bool.not_true, Bool.false_or, Bool.or_eq_true, decide_eq_true_eq] at h3
   rcases h3 with h3 | h3
   ·exact h3.symm
   ·exact absurd (hd.symm.trans hdd) h3
 ·have := (get i o ho).2
  rw [if_neg (by simp [hp]), List.all_eq_true] at this
  have h1 := this j (List.mem_range.2 hj)
  rw [hpj, Bool.not_true, Bool.false_or] at h1
  simpa using h1


theorem wpAny_looseD {P : Program} {ops : Array Oper} {Q : Exit → Act → World → Prop} {p : Nat → Bool} {V : Nat → World → Value → Prop} {w0 : World} {a0 : Act} {LP : Array Bool} (L : LooseOKD ops p a0.tmps.size)
  (stable : ∀ i u u' v, Kp (fun _ => False) u u' → V i u v → V i u' v)
  (hstep : ∀ (i : Nat) (o : Oper), ops[i]? = some o → p i = true → ∀ a u, Kp (fun _ => False) w0 u →
   (∀ s, (∀ (j : Nat) (oj : Oper), ops[j]? = some oj → p j = true → oj.dst ≠ some s) → a.tmps.getD s undef = a0.tmps.getD s undef) →
   (∀ e ∈ o.after, Region.binds .any e = true → ∀ (oj : Oper) (d : Nat), ops[e.on]? = some oj → oj.dst = some d → V e.on u (a.tmps.getD d undef)) →
   o.wp P a u (fun a' u' => ∃ v, a' = a.put o.dst v ∧ Kp (fun _ => False) u u' ∧ V i u' v) Q)
  (hLs : LP.size = ops.size) (hLP : ∀ i, i < ops.size → LP.getD i false = p i)
  (hend : ∀ a u, LInv ops V w0 a0 (fun i => p i = true) a u → wpAny P .any ops Q (cntU ops.size LP) LP a u) :
  ∀ (fuel : Nat) (listed : Array Bool) (a : Act) (u : World), listed.size = ops.size → fuel = cntU ops.size listed → (∀ i, i < ops.size → listed.getD i false = true → p i = true) → (∀ j, listed.getD j false = true → ∀ k, k ∈ edgesOf ops j → listed.getD k false = true) →
   LInv ops V w0 a0 (fun i => listed.getD i false = true) a u → wpAny P .any ops Q fuel listed a u := by
 intro fuel
 induction fuel with
 |zero =>
  intro listed a u hs hf hl hcl hI
  have hall : ∀ i, i < ops.size → listed.getD i false = true := fun i hi => by
   by_cases h : listed.getD i false = true
   ·exact h
   ·have := cntU_set (listed := listed) (by omega) (by simpa using h) ops.size hi
    omega
  have e : listed = LP := listed_ext (by omega) (fun i hi => by
   rw [hall i (by omega), hLP i (by omega)]
   exact (hl i (by omega) (hall i (by omega))).symm)
  subst e
  have := hend a u ⟨hI.kp, fun i o d ho _ hd => hI.val i o d ho (hall i (Array.getElem?_eq_some_iff.1 ho).1) hd, fun s hs' => hI.off s (fun i o ho hi => hs' i o ho (hl i (Array.getElem?_eq_some_iff.1 ho).1 hi)), hI.size, hI.defers⟩
  rwa [← hf] at this
 |succ fuel ih =>
  intro listed a u hs hf hl hcl hI
  by_cases hall : ∀ i, i < ops.size → p i = true → listed.getD i false = true
  ·have e : listed = LP := listed_ext (by omega) (fun i hi => by
    rw [hLP i (by omega)]
    by_cases h : p i = true
    ·rw [h, hall i (by omega) h]
    ·by_cases h2 : listed.getD i false = true
     ·exact absurd (hl i (by omega) h2) h
     ·have h3 : p i = false := by simpa using h
      have h4 : listed.getD i false = false := by simpa using h2
      rw [h3, h4])
   subst e
   have := hend a u ⟨hI.kp, fun i o d ho hp hd => hI.val i o d ho (hall i (Array.getElem?_eq_some_iff.1 ho).1 hp) hd, fun s hs' => hI.off s (fun i o ho hi => hs' i o ho (hl i (Array.getElem?_eq_some_iff.1 ho).1 hi)), hI.size, hI.defers⟩
   rwa [← hf] at this
  ·obtain ⟨i0, ⟨hi0, hp0, hu0⟩, hmin⟩ := least_of (R := fun i => i < ops.size ∧ p i = true ∧ listed.getD i false = false) (by
    refine Classical.byContradiction fun hno => hall fun i hi hp => ?_
    by_cases h : listed.getD i false = true
    ·exact h
    ·exact absurd ⟨i, hi, hp, by simpa using h⟩ hno)
   have hready : i0 ∈ Region.ready .any ops listed := by
    rw [mem_ready]
    refine ⟨by rw [getD_true_false (by omega)]; exact hu0, ops[i0], Array.getElem?_eq_getElem hi0, fun e he hb => ?_⟩
    obtain ⟨h1, h2⟩ := L.low i0 _ (Array.getElem?_eq_getElem hi0) hp0 e he hb
    by_cases h : listed.getD e.on false = true
    ·exact h
    ·exact absurd ⟨by omega, h2, by simpa using h⟩ (hmin e.on h1)
   refine ⟨fun h => (by rw [h] at hready; cases hready), fun i hi => ?_⟩
   obtain ⟨h1, o, ho, hedge⟩ := mem_ready.1 hi
   have hisz : i < ops.size := (Array.getElem?_eq_some_iff.1 ho).1
   rw [getD_true_false (by omega)] at h1
   have hpi : p i = true := by
    by_cases h : p i = true
    ·exact h
    ·have h3 := clo_listed (listed := fun j => listed.getD j false = true) hcl 16 (edgesOf ops i) (fun k hk => by
      obtain ⟨e, he, hb, hon⟩ := (mem_edgesOf ho).1 hk
      have := hedge e he hb
      rwa [hon] at this) i0 (L.bar i o ho (by simpa using h) i0 hi0 hp0)
     rw [hu0] at h3
     cases h3
   obtain ⟨d, hd, hdN⟩ := L.dst i o ho hpi
   have hw : Region.wanted o (yielded ops a.tmps) = true := by simp [Region.wanted, L.ng i o ho]
   unfold wpOp
   rw [ho]
   simp only
   rw [if_pos hw]
   refine .inl (Oper.wp_mono ?_ (hstep i o ho hpi a u hI.kp (fun s hs' => hI.off s (fun j oj hoj hj => hs' j oj hoj (hl j (Array.getElem?_eq_some_iff.1 hoj).1 hj))) (fun e he hb oj d' hoj hd' => hI.val e.on oj d' hoj (hedge e he hb) hd')))
   rintro a' u' ⟨v, rfl, hK, hV⟩
   have hset : ∀ j, (listed.setIfInBounds i true).getD j false = true ↔ j = i ∨ listed.getD j false = true := fun j => by
    simp only [Array.getD_eq_getD_getElem?, Array.getElem?_setIfInBounds]
    by_cases e : i = j
    ·subst e; simp [show i < listed.size by omega]
    ·rw [if_neg e]
     exact ⟨.inr, fun h => h.resolve_left (fun h => e h.symm)⟩
   refine ih _ _ _ (by simp [hs]) ?_ (fun j hj hlj => ?_) (fun j hj k hk => ?_) ⟨hI.kp.trans hK (fun _ _ h => h), fun j oj dj hoj hj hdj => ?_, fun s hs' => ?_, by rw [put_size]; exact hI.size, by rw [put_defers]; exact hI.defers⟩
   ·have := cntU_set (listed := listed) (by omega) h1 ops.size hisz
    omega
   ·rcases (hset j).1 hlj with e | e
    ·rw [e]; exact hpi
    ·exact hl j hj e
   ·rcases (hset j).1 hj with e | e
    ·subst e
     obtain ⟨e, he, hb, hon⟩ := (mem_edgesOf ho).1 hk
     refine (hset k).2 (.inr ?_)
     rw [← hon]
     exact hedge e he hb
    ·exact (hset k).2 (.inr (hcl j e k hk))
   ·rcases (hset j).1 hj with e | e
    ·subst e
     have : oj = o := by rw [hoj] at ho; exact Option.some.inj ho
     subst this
     rw [hdj] at hd
     have : dj = d := Option.some.inj hd
     subst this
     rw [hdj, put_getD_same (by rw [hI.size]; exact hdN)]
     exact hV
    ·by_cases eji : j = i
     ·subst eji
      rw [h1] at e; cases e
     ·rw [put_getD_ne (fun h => eji (L.inj j i oj o hoj ho (hl j (Array.getElem?_eq_some_iff.1 hoj).1 e) hpi (by rw [hdj, h])))]
      exact stable j u u' _ hK (hI.val j oj dj hoj e hdj)
   ·rw [put_getD_ne (hs' i o ho ((hset i).2 (.inl rfl)))]
    exact hI.off s (fun j oj hoj hj => hs' j oj hoj ((hset j).2 (.inr hj)))

theorem wp_region_looseD {P : Program} {id : Nat} {ops : Array Oper} {Q : Exit → Act → World → Prop} {p : Nat → Bool} {V : Nat → World → Value → Prop} {w : World} {a0 : Act} {LP : Array Bool} {K : Nat} (hm : P.follows .mixedOrders = true) (hB : looseBD ops p a0.tmps.size = true)
  (stable : ∀ i u u' v, Kp (fun _ => False) u u' → V i u v → V i u' v)
  (hstep : ∀ (i : Nat) (o : Oper), ops[i]? = some o → p i = true → ∀ a u, Kp (fun _ => False) w u →
   (∀ s, (∀ (j : Nat) (oj : Oper), ops[j]? = some oj → p j = true → oj.dst ≠ some s) → a.tmps.getD s undef = a0.tmps.getD s undef) →
   (∀ e ∈ o.after, Region.binds .any e = true → ∀ (oj : Oper) (d : Nat), ops[e.on]? = some oj → oj.dst = some d → V e.on u (a.tmps.getD d undef)) →
   o.wp P a u (fun a' u' => ∃ v, a' = a.put o.dst v ∧ Kp (fun _ => False) u u' ∧ V i u' v) Q)
  (hLs : LP.size = ops.size) (hLP : ∀ i, i < ops.size → LP.getD i false = p i) (hK : cntU ops.size LP = K)
  (hend : ∀ a u, LInv ops V w a0 (fun i => p i = true) a u → wpAny P .any ops Q K LP a u) : (Code.region id ops true).wp P Q a0 w := by
 refine wp_region_any hm ?_
 refine wpAny_looseD (looseB_specD hB) stable hstep hLs hLP (fun a u h => by rw [hK]; exact hend a u h) ops.size _ a0 _ (by simp) ?_ (fun i hi h => ?_) (fun i h => ?_) ⟨(Kp.refl (fun _ => False) w).drew, fun i o d ho h => ?_, fun _ _ => rfl, rfl, rfl⟩
 ·have : ∀ n, cntU n (Array.replicate ops.size false) = n := fun n => by
   induction n with
   |zero => rfl
   |succ n ih => rw [cntU_succ, ih]; simp [unl, Array.getD_eq_getD_getElem?, Array.getElem?_replicate]; split <;> simp
  rw [this]
 ·simp [Array.getD_eq_getD_getElem?, Array.getElem?_replicate] at h
  split at h <;> simp at h
 ·simp [Array.getD_eq_getD_getElem?, Array.getElem?_replicate] at h
  split at h <;> simp at h
 ·simp [Array.getD_eq_getD_getElem?, Array.getElem?_replicate] at h
  split at h <;> simp at h


end Go.Proofs.YtnoknecfdnjomaaGreat

/-
  explore.Run.
-/
namespace Go.Proofs.YtnoknecfdnjomaaGreat
open Go.RowKit Go.Sort

theorem own_type2 {w : World} {base : Nat} {e : TypeId} {v : Value} {cs : List Value} (h : Own w base e v cs) {j : Nat} (hj : v.ownBlock = some j) : ∃ c, w.heap[j]? = some (.cells c e (0, 0)) := by
 obtain ⟨_, h | ⟨g, cap, cur, rfl, _, hb, _⟩⟩ := h
 ·rw [h.1] at hj; cases hj
 ·have : g = j := by simpa [Value.ownBlock] using hj
  subst this
  exact ⟨cur, hb⟩
theorem own_ne_own2 {w : World} {b1 b2 : Nat} {e1 e2 : TypeId} {v1 v2 : Value} {c1 c2 : List Value} (h1 : Own w b1 e1 v1 c1) (h2 : Own w b2 e2 v2 c2) (he : e1 ≠ e2) : ∀ j, v1.ownBlock = some j → ¬ v2.ownBlock = some j := fun j hj hj2 => by
 obtain ⟨c, h3⟩ := own_type2 h1 hj
 obtain ⟨c', h4⟩ := own_type2 h2 hj2
 rw [h3] at h4
 cases h4
 exact he rfl

theorem own_ne_blk {w : World} {b g : Nat} {e t : TypeId} {v : Value} {cs : List Value} {c : Array Value} (h : Own w b e v cs) (hB : Blk w g c t) (he : e ≠ t) : ∀ j, v.ownBlock = some j → j ≠ g := fun j hj q => by
 obtain ⟨c', h3⟩ := own_type2 h hj
 subst q
 have h4 : w.heap[j]? = some (.cells c t (0, 0)) := hB
 rw [h3] at h4
 cases h4
 exact he rfl

def OwnR (w : World) (B : Nat) (v : Value) (L : List (List Bool)) : Prop := ∃ vs : List Value, Own w B 38 v vs ∧ vs.length = L.length ∧ ∀ (j : Nat) (x : List Bool), L[j]? = some x → ∃ y, vs[j]? = some y ∧ Own w B 4 y (bv x)
theorem OwnR.nil (w : World) (B : Nat) : OwnR w B (.slice none 0 0) [] := ⟨[], Own.nil _ _ _, rfl, fun j x h => by cases h⟩
theorem OwnR.kp {w w' : World} {B : Nat} {v : Value} {L : List (List Bool)} {S : Nat → Prop} (h : OwnR w B v L) (k : Kp S w w') (hS : ∀ j, S j → j < B ∨ w.heap.size ≤ j) : OwnR w' B v L := by
 obtain ⟨vs, h1, h2, h3⟩ := h
 refine ⟨vs, h1.kp k (fun j hj q => ?_), h2, fun j x hx => ?_⟩
 ·have := h1.lt j hj
  rcases hS j q with e | e <;> omega
 ·obtain ⟨y, h4, h5⟩ := h3 j x hx
  refine ⟨y, h4, h5.kp k (fun j hj q => ?_)⟩
  have := h5.lt j hj
  rcases hS j q with e | e <;> omega
theorem OwnR.mono {w : World} {B B' : Nat} {v : Value} {L : List (List Bool)} (h : OwnR w B v L) (hb : B' ≤ B) : OwnR w B' v L := by
 obtain ⟨vs, h1, h2, h3⟩ := h
 exact ⟨vs, h1.mono hb, h2, fun j x hx => by
  obtain ⟨y, h4, h5⟩ := h3 j x hx
  exact ⟨y, h4, h5.mono hb⟩⟩
theorem OwnR.push {w w1 w2 : World} {B : Nat} {v v' y : Value} {L : List (List Bool)} {x : List Bool} {vs : List Value} (h : Own w B 38 v vs) (hl : vs.length = L.length) (hr : ∀ (j : Nat) (x : List Bool), L[j]? = some x → ∃ y, vs[j]? = some y ∧ Own w B 4 y (bv x))
  (hy : Own w B 4 y (bv x)) (k : Kp (fun _ => False) w w1) (hO : Own w2 B 38 v' (vs ++ [y])) (hg : w1.grownBy w2 v.ownBlock) : OwnR w2 B v' (L ++ [x]) := by
 have hK : Kp (fun j => v.ownBlock = some j) w w2 := (k.mono (T := fun j => v.ownBlock = some j) (fun _ _ h => h.elim)).grown hg (fun j hj _ => hj)
 refine ⟨vs ++ [y], hO, by simp [hl], fun j z hz => ?_⟩
 by_cases hj : j < L.length
 ·rw [List.getElem?_append_left hj] at hz
  obtain ⟨u, h4, h5⟩ := hr j z hz
  exact ⟨u, by rw [List.getElem?_append_left (by omega)]; exact h4, h5.kp hK (fun i hi q => own_ne_own2 h5 h (by decide) i hi q)⟩
 ·rw [List.getElem?_append_right (by omega)] at hz
  have h0 : j - L.length = 0 := by
   refine Classical.byContradiction fun q => ?_
   rw [List.getElem?_eq_none (by simp; omega)] at hz
   cases hz
  rw [h0] at hz
  cases hz
  refine ⟨y, ?_, hy.kp hK (fun i hi q => own_ne_own2 hy h (by decide) i hi q)⟩
  rw [List.getElem?_append_right (by omega), hl, h0]; rfl

def One1 (B n : Nat) (cs : List Value) (u : World) (v : Value) : Prop := ∃ gg ya yc, v = .slice (some ⟨gg, 0, none⟩) 1 1 ∧ u.cell? ⟨gg, 0, none⟩ = some (.slice ya n yc) ∧ Own u B 4 (.slice ya n yc) cs
theorem One1.st (B n : Nat) (cs : List Value) : Stable (One1 B n cs) := fun _ _ _ k ⟨gg, ya, yc, h1, h2, h3⟩ => ⟨gg, ya, yc, h1, k.cellAt2 h2, h3.kp k (fun _ _ h => h)⟩

end Go.Proofs.YtnoknecfdnjomaaGreat

/-
  The law of loose regions, where some operations make memory: no two the same.
-/
namespace Go.Proofs.YtnoknecfdnjomaaGreat
open Go Go.RowKit

def PairU (ops : Array Oper) (M : Nat → Bool) (L : Nat → Prop) (a : Act) : Prop := ∀ (i j : Nat) (oi oj : Oper) (di dj : Nat), M i = true → M j = true → i ≠ j → L i → L j → ops[i]? = some oi → ops[j]? = some oj → oi.dst = some di → oj.dst = some dj → (a.tmps.getD di undef).ownBlock ≠ (a.tmps.getD dj undef).ownBlock

theorem wpAny_looseU {P : Program} {ops : Array Oper} {Q : Exit → Act → World → Prop} {p : Nat → Bool} {V : Nat → World → Value → Prop} {w0 : World} {a0 : Act} {LP : Array Bool} (L : LooseOKD ops p a0.tmps.size)
  (M : Nat → Bool) (hM : ∀ j u v, M j = true → V j u v → ∃ g, v.ownBlock = some g ∧ g < u.heap.size)
  (stable : ∀ i u u' v, Kp (fun _ => False) u u' → V i u v → V i u' v)
  (hstep : ∀ (i : Nat) (o : Oper), ops[i]? = some o → p i = true → ∀ a u, Kp (fun _ => False) w0 u →
   (∀ s, (∀ (j : Nat) (oj : Oper), ops[j]? = some oj → p j = true → oj.dst ≠ some s) → a.tmps.getD s undef = a0.tmps.getD s undef) →
   (∀ e ∈ o.after, Region.binds .any e = true → ∀ (oj : Oper) (d : Nat), ops[e.on]? = some oj → oj.dst = some d → V e.on u (a.tmps.getD d undef)) →
   (∀ (i1 j1 : Nat) (oi oj : Oper) (di dj : Nat), M i1 = true → M j1 = true → i1 ≠ j1 → (∃ e ∈ o.after, Region.binds .any e = true ∧ e.on = i1) → (∃ e ∈ o.after, Region.binds .any e = true ∧ e.on = j1) → ops[i1]? = some oi → ops[j1]? = some oj → oi.dst = some di → oj.dst = some dj → (a.tmps.getD di undef).ownBlock ≠ (a.tmps.getD dj undef).ownBlock) →
   o.wp P a u (fun a' u' => ∃ v, a' = a.put o.dst v ∧ Kp (fun _ => False) u u' ∧ V i u' v ∧ (M i = true → ∀ g, v.ownBlock = some g → u.heap.size ≤ g)) Q)
  (hLs : LP.size = ops.size) (hLP : ∀ i, i < ops.size → LP.getD i false = p i)
  (hend : ∀ a u, LInv ops V w0 a0 (fun i => p i = true) a u → PairU ops M (fun i => p i = true) a → wpAny P .any ops Q (cntU ops.size LP) LP a u) :
  ∀ (fuel : Nat) (listed : Array Bool) (a : Act) (u : World), listed.size = ops.size → fuel = cntU ops.size listed → (∀ i, i < ops.size → listed.getD i false = true → p i = true) → (∀ j, listed.getD j false = true → ∀ k, k ∈ edgesOf ops j → listed.getD k false = true) →
   LInv ops V w0 a0 (fun i => listed.getD i false = true) a u → PairU ops M (fun i => listed.getD i false = true) a → wpAny P .any ops Q fuel listed a u := by
 intro fuel
 induction fuel with
 |zero =>
  intro listed a u hs hf hl hcl hI hPr
  have hall : ∀ i, i < ops.size → listed.getD i false = true := fun i hi => by
   by_cases h : listed.getD i false = true
   ·exact h
   ·have := cntU_set (listed := listed) (by omega) (by simpa using h) ops.size hi
    omega
  have e : listed = LP := listed_ext (by omega) (fun i hi => by
   rw [hall i (by omega), hLP i (by omega)]
   exact (hl i (by omega) (hall i (by omega))).symm)
  subst e
  have := hend a u ⟨hI.kp, fun i o d ho _ hd => hI.val i o d ho (hall i (Array.getElem?_eq_some_iff.1 ho).1) hd, fun s hs' => hI.off s (fun i o ho hi => hs' i o ho (hl i (Array.getElem?_eq_some_iff.1 ho).1 hi)), hI.size, hI.defers⟩ (fun i j oi oj di dj m1 m2 hn l1 l2 h1 h2 => hPr i j oi oj di dj m1 m2 hn (hall i (Array.getElem?_eq_some_iff.1 h1).1) (hall j (Array.getElem?_eq_some_iff.1 h2).1) h1 h2)
  rwa [← hf] at this
 |succ fuel ih =>
  intro listed a u hs hf hl hcl hI hPr
  by_cases hall : ∀ i, i < ops.size → p i = true → listed.getD i false = true
  ·have e : listed = LP := listed_ext (by omega) (fun i hi => by
    rw [hLP i (by omega)]
    by_cases h : p i = true
    ·rw [h, hall i (by omega) h]
    ·by_cases h2 : listed.getD i false = true
     ·exact absurd (hl i (by omega) h2) h
     ·have h3 : p i = false := by simpa using h
      have h4 : listed.getD i false = false := by simpa using h2
      rw [h3, h4])
   subst e
   have := hend a u ⟨hI.kp, fun i o d ho hp hd => hI.val i o d ho (hall i (Array.getElem?_eq_some_iff.1 ho).1 hp) hd, fun s hs' => hI.off s (fun i o ho hi => hs' i o ho (hl i (Array.getElem?_eq_some_iff.1 ho).1 hi)), hI.size, hI.defers⟩ (fun i j oi oj di dj m1 m2 hn l1 l2 h1 h2 => hPr i j oi oj di dj m1 m2 hn (hall i (Array.getElem?_eq_some_iff.1 h1).1 l1) (hall j (Array.getElem?_eq_some_iff.1 h2).1 l2) h1 h2)
   rwa [← hf] at this
  ·obtain ⟨i0, ⟨hi0, hp0, hu0⟩, hmin⟩ := least_of (R := fun i => i < ops.size ∧ p i = true ∧ listed.getD i false = false) (by
    refine Classical.byContradiction fun hno => hall fun i hi hp => ?_
    by_cases h : listed.getD i false = true
    ·exact h
    ·exact absurd ⟨i, hi, hp, by simpa using h⟩ hno)
   have hready : i0 ∈ Region.ready .any ops listed := by
    rw [mem_ready]
    refine ⟨by rw [getD_true_false (by omega)]; exact hu0, ops[i0], Array.getElem?_eq_getElem hi0, fun e he hb => ?_⟩
    obtain ⟨h1, h2⟩ := L.low i0 _ (Array.getElem?_eq_getElem hi0) hp0 e he hb
    by_cases h : listed.getD e.on false = true
    ·exact h
    ·exact absurd ⟨by omega, h2, by simpa using h⟩ (hmin e.on h1)
   refine ⟨fun h => (by rw [h] at hready; cases hready), fun i hi => ?_⟩
   obtain ⟨h1, o, ho, hedge⟩ := mem_ready.1 hi
   have hisz : i < ops.size := (Array.getElem?_eq_some_iff.1 ho).1
   rw [getD_true_false (by omega)] at h1
   have hpi : p i = true := by
    by_cases h : p i = true
    ·exact h
    ·have h3 := clo_listed (listed := fun j => listed.getD j false = true) hcl 16 (edgesOf ops i) (fun k hk => by
      obtain ⟨e, he, hb, hon⟩ := (mem_edgesOf ho).1 hk
      have := hedge e he hb
      rwa [hon] at this) i0 (L.bar i o ho (by simpa using h) i0 hi0 hp0)
     rw [hu0] at h3
     cases h3
   obtain ⟨d, hd, hdN⟩ := L.dst i o ho hpi
   have hw : Region.wanted o (yielded ops a.tmps) = true := by simp [Region.wanted, L.ng i o ho]
   unfold wpOp
   rw [ho]
   simp only
   rw [if_pos hw]
   refine .inl (Oper.wp_mono ?_ (hstep i o ho hpi a u hI.kp (fun s hs' => hI.off s (fun j oj hoj hj => hs' j oj hoj (hl j (Array.getElem?_eq_some_iff.1 hoj).1 hj))) (fun e he hb oj d' hoj hd' => hI.val e.on oj d' hoj (hedge e he hb) hd') (fun i1 j1 oi oj di dj m1 m2 hn ⟨e1, he1, hb1, q1⟩ ⟨e2, he2, hb2, q2⟩ h1 h2 h3 h4 => hPr i1 j1 oi oj di dj m1 m2 hn (q1 ▸ hedge e1 he1 hb1) (q2 ▸ hedge e2 he2 hb2) h1 h2 h3 h4)))
   rintro a' u' ⟨v, rfl, hK, hV, hFr⟩
   have hset : ∀ j, (listed.setIfInBounds i true).getD j false = true ↔ j = i ∨ listed.getD j false = true := fun j => by
    simp only [Array.getD_eq_getD_getElem?, Array.getElem?_setIfInBounds]
    by_cases e : i = j
    ·subst e; simp [show i < listed.size by omega]
    ·rw [if_neg e]
     exact ⟨.inr, fun h => h.resolve_left (fun h => e h.symm)⟩
   refine ih _ _ _ (by simp [hs]) ?_ (fun j hj hlj => ?_) (fun j hj k hk => ?_) ⟨hI.kp.trans hK (fun _ _ h => h), fun j oj dj hoj hj hdj => ?_, fun s hs' => ?_, by rw [put_size]; exact hI.size, by rw [put_defers]; exact hI.defers⟩ ?hpair
   ·have := cntU_set (listed := listed) (by omega) h1 ops.size hisz
    omega
   ·rcases (hset j).1 hlj with e | e
    ·rw [e]; exact hpi
    ·exact hl j hj e
   ·rcases (hset j).1 hj with e | e
    ·subst e
     obtain ⟨e, he, hb, hon⟩ := (mem_edgesOf ho).1 hk
     refine (hset k).2 (.inr ?_)
     rw [← hon]
     exact hedge e he hb
    ·exact (hset k).2 (.inr (hcl j e k hk))
   ·rcases (hset j).1 hj with e | e
    ·subst e
     have : oj = o := by rw [hoj] at ho; exact Option.some.inj ho
     subst this
     rw [hdj] at hd
     have : dj = d := Option.some.inj hd
     subst this
     rw [hdj, put_getD_same (by rw [hI.size]; exact hdN)]
     exact hV
    ·by_cases eji : j = i
     ·subst eji
      rw [h1] at e; cases e
     ·rw [put_getD_ne (fun h => eji (L.inj j i oj o hoj ho (hl j (Array.getElem?_eq_some_iff.1 hoj).1 e) hpi (by rw [hdj, h])))]
      exact stable j u u' _ hK (hI.val j oj dj hoj e hdj)
   ·rw [put_getD_ne (hs' i o ho ((hset i).2 (.inl rfl)))]
    exact hI.off s (fun j oj hoj hj => hs' j oj hoj ((hset j).2 (.inr hj)))
   case hpair =>
    have key : ∀ (j : Nat) (oj : Oper) (dj : Nat), M j = true → M i = true → j ≠ i → listed.getD j false = true → ops[j]? = some oj → oj.dst = some dj → ((a.put o.dst v).tmps.getD d undef).ownBlock ≠ ((a.put o.dst v).tmps.getD dj undef).ownBlock := fun j oj dj mj mi hn lj hoj hdj => by
     rw [put_getD_ne (d := dj) (fun h => hn (L.inj j i oj o hoj ho (hl j (Array.getElem?_eq_some_iff.1 hoj).1 lj) hpi (by rw [hdj, h]))), hd, put_getD_same (by rw [hI.size]; exact hdN)]
     obtain ⟨g1, q1, q2⟩ := hM j u _ mj (hI.val j oj dj hoj lj hdj)
     obtain ⟨g2, q3, q4⟩ := hM i u' _ mi hV
     rw [q1, q3]
     have := hFr mi g2 q3
     intro e
     cases e
     omega
    intro i1 j1 oi oj di dj m1 m2 hn l1 l2 h1' h2' hd1 hd2
    rcases (hset i1).1 l1 with e1 | e1
    ·subst e1
     have : oi = o := by rw [h1'] at ho; exact Option.some.inj ho
     subst this
     have : di = d := by rw [hd1] at hd; exact Option.some.inj hd
     subst this
     exact key j1 oj dj m2 m1 (fun e => hn e.symm) ((hset j1).1 l2 |>.resolve_left (fun e => hn e.symm)) h2' hd2
    ·rcases (hset j1).1 l2 with e2 | e2
     ·subst e2
      have : oj = o := by rw [h2'] at ho; exact Option.some.inj ho
      subst this
      have : dj = d := by rw [hd2] at hd; exact Option.some.inj hd
      subst this
      exact fun q => key i1 oi di m1 m2 hn e1 h1' hd1 q.symm
     ·by_cases z1 : i1 = i
      ·subst z1; rw [h1] at e1; cases e1
      ·by_cases z2 : j1 = i
       ·subst z2; rw [h1] at e2; cases e2
       ·rw [put_getD_ne (d := di) (fun h => z1 (L.inj i1 i oi o h1' ho (hl i1 (Array.getElem?_eq_some_iff.1 h1').1 e1) hpi (by rw [hd1, h]))), put_getD_ne (d := dj) (fun h => z2 (L.inj j1 i oj o h2' ho (hl j1 (Array.getElem?_eq_some_iff.1 h2').1 e2) hpi (by rw [hd2, h])))]
        exact hPr i1 j1 oi oj di dj m1 m2 hn e1 e2 h1' h2' hd1 hd2

theorem wp_region_looseU {P : Program} {id : Nat} {ops : Array Oper} {Q : Exit → Act → World → Prop} {p : Nat → Bool} {V : Nat → World → Value → Prop} {w : World} {a0 : Act} {LP : Array Bool} {K : Nat} (hm : P.follows .mixedOrders = true) (hB : looseBD ops p a0.tmps.size = true)
  (M : Nat → Bool) (hM : ∀ j u v, M j = true → V j u v → ∃ g, v.ownBlock = some g ∧ g < u.heap.size)
  (stable : ∀ i u u' v, Kp (fun _ => False) u u' → V i u v → V i u' v)
  (hstep : ∀ (i : Nat) (o : Oper), ops[i]? = some o → p i = true → ∀ a u, Kp (fun _ => False) w u →
   (∀ s, (∀ (j : Nat) (oj : Oper), ops[j]? = some oj → p j = true → oj.dst ≠ some s) → a.tmps.getD s undef = a0.tmps.getD s undef) →
   (∀ e ∈ o.after, Region.binds .any e = true → ∀ (oj : Oper) (d : Nat), ops[e.on]? = some oj → oj.dst = some d → V e.on u (a.tmps.getD d undef)) →
   (∀ (i1 j1 : Nat) (oi oj : Oper) (di dj : Nat), M i1 = true → M j1 = true → i1 ≠ j1 → (∃ e ∈ o.after, Region.binds .any e = true ∧ e.on = i1) → (∃ e ∈ o.after, Region.binds .any e = true ∧ e.on = j1) → ops[i1]? = some oi → ops[j1]? = some oj → oi.dst = some di → oj.dst = some dj → (a.tmps.getD di undef).ownBlock ≠ (a.tmps.getD dj undef).ownBlock) →
   o.wp P a u (fun a' u' => ∃ v, a' = a.put o.dst v ∧ Kp (fun _ => False) u u' ∧ V i u' v ∧ (M i = true → ∀ g, v.ownBlock = some g → u.heap.size ≤ g)) Q)
  (hLs : LP.size = ops.size) (hLP : ∀ i, i < ops.size → LP.getD i false = p i) (hK : cntU ops.size LP = K)
  (hend : ∀ a u, LInv ops V w a0 (fun i => p i = true) a u → PairU ops M (fun i => p i = true) a → wpAny P .any ops Q K LP a u) : (Code.region id ops true).wp P Q a0 w := by
 refine wp_region_any hm ?_
 refine wpAny_looseU (looseB_specD hB) M hM stable hstep hLs hLP (fun a u h => by rw [hK]; exact hend a u h) ops.size _ a0 _ (by simp) ?_ (fun i hi h => ?_) (fun i h => ?_) ⟨(Kp.refl (fun _ => False) w).drew, fun i o d ho h => ?_, fun _ _ => rfl, rfl, rfl⟩ (fun i j oi oj di dj m1 m2 hn l1 => ?_)
 ·have : ∀ n, cntU n (Array.replicate ops.size false) = n := fun n => by
   induction n with
   |zero => rfl
   |succ n ih => rw [cntU_succ, ih]; simp [unl, Array.getD_eq_getD_getElem?, Array.getElem?_replicate]; split <;> simp
  rw [this]
 ·simp [Array.getD_eq_getD_getElem?, Array.getElem?_replicate] at h
  split at h <;> simp at h
 ·simp [Array.getD_eq_getD_getElem?, Array.getElem?_replicate] at h
  split at h <;> simp at h
 ·simp [Array.getD_eq_getD_getElem?, Array.getElem?_replicate] at h
  split at h <;> simp at h
 ·simp [Array.getD_eq_getD_getElem?, Array.getElem?_replicate] at l1
  split at l1 <;> simp at l1

theorem lwU_off {P : Program} {o : Oper} {a : Act} {u : World} {V : World → Value → Prop} {Q : Exit → Act → World → Prop} {b : Bool} (hb : b = false) (h : o.wp P a u (fun a' u' => ∃ v, a' = a.put o.dst v ∧ Kp (fun _ => False) u u' ∧ V u' v) Q) :
  o.wp P a u (fun a' u' => ∃ v, a' = a.put o.dst v ∧ Kp (fun _ => False) u u' ∧ V u' v ∧ (b = true → ∀ g, v.ownBlock = some g → u.heap.size ≤ g)) Q :=
 Oper.wp_mono (fun a' u' ⟨v, e1, e2, e3⟩ => ⟨v, e1, e2, e3, fun q => by rw [hb] at q; cases q⟩) h
theorem lwU_on {P : Program} {o : Oper} {a : Act} {u : World} {V : World → Value → Prop} {Q : Exit → Act → World → Prop} {b : Bool} (h : o.wp P a u (fun a' u' => ∃ v, a' = a.put o.dst v ∧ Kp (fun _ => False) u u' ∧ (V u' v ∧ ∀ g, v.ownBlock = some g → u.heap.size ≤ g)) Q) :
  o.wp P a u (fun a' u' => ∃ v, a' = a.put o.dst v ∧ Kp (fun _ => False) u u' ∧ V u' v ∧ (b = true → ∀ g, v.ownBlock = some g → u.heap.size ≤ g)) Q :=
 Oper.wp_mono (fun a' u' ⟨v, e1, e2, e3, e4⟩ => ⟨v, e1, e2, e3, fun _ => e4⟩) h

end Go.Proofs.YtnoknecfdnjomaaGreat

/-
  The law of loose regions, with guards, and with calls that stand in one order and turn old memory: what the memory is, is told by how
  many of them are done.
-/
namespace Go.Proofs.YtnoknecfdnjomaaGreat
open Go Go.RowKit

def cntC (c : Nat → Bool) (n : Nat) (listed : Array Bool) : Nat := (List.range n).countP (fun i => c i && listed.getD i false)

theorem cntC_succ (c : Nat → Bool) (n : Nat) (listed : Array Bool) : cntC c (n + 1) listed = cntC c n listed + (if (c n && listed.getD n false) = true then 1 else 0) := by
 unfold cntC
 rw [List.range_succ, List.countP_append]
 simp [List.countP_cons]

theorem cntC_zero (c : Nat → Bool) (n m : Nat) : cntC c n (Array.replicate m false) = 0 := by
 induction n with
 |zero => rfl
 |succ n ih =>
  rw [cntC_succ, ih]
  have : (Array.replicate m false).getD n false = false := by
   simp [Array.getD_eq_getD_getElem?, Array.getElem?_replicate]
   split <;> simp
  rw [this]
  simp

theorem getD_set {listed : Array Bool} {i j : Nat} (h : j ≠ i) : (listed.setIfInBounds i true).getD j false = listed.getD j false := by
 simp only [Array.getD_eq_getD_getElem?, Array.getElem?_setIfInBounds]
 rw [if_neg (fun e => h e.symm)]

theorem cntC_set_ne {c : Nat → Bool} {listed : Array Bool} {i : Nat} (hc : c i = false) : ∀ n, cntC c n (listed.setIfInBounds i true) = cntC c n listed
 |0 => rfl
 |n + 1 => by
  rw [cntC_succ, cntC_succ, cntC_set_ne hc n]
  by_cases e : n = i
  ·subst e; rw [hc]; simp
  ·rw [getD_set e]

theorem cntC_far {c : Nat → Bool} {listed : Array Bool} {i : Nat} : ∀ n, n ≤ i → cntC c n (listed.setIfInBounds i true) = cntC c n listed
 |0, _ => rfl
 |n + 1, h => by rw [cntC_succ, cntC_succ, cntC_far n (by omega), getD_set (by omega)]

theorem cntC_set {c : Nat → Bool} {listed : Array Bool} {i : Nat} (hi : i < listed.size) (hu : listed.getD i false = false) (hc : c i = true) : ∀ n, i < n → cntC c n (listed.setIfInBounds i true) = cntC c n listed + 1
 |0, h => by omega
 |n + 1, h => by
  rw [cntC_succ, cntC_succ]
  by_cases e : i = n
  ·subst e
   rw [cntC_far i (Nat.le_refl _), hc, hu]
   have h1 : (listed.setIfInBounds i true).getD i false = true := by simp [Array.getD_eq_getD_getElem?, hi]
   rw [h1]
   simp
  ·rw [cntC_set hi hu hc n (by omega), getD_set (fun h => e h.symm)]
   omega

theorem cntC_num {c : Nat → Bool} {listed : Array Bool} {i : Nat} : ∀ {n : Nat}, (∀ j, j < n → c j = true → (listed.getD j false = true ↔ j < i)) → i ≤ n → cntC c n listed = (List.range i).countP c := by
 have low : ∀ n, n ≤ i → (∀ j, j < n → c j = true → (listed.getD j false = true ↔ j < i)) → cntC c n listed = (List.range n).countP c := by
  intro n hn h
  induction n with
  |zero => rfl
  |succ n ih =>
   rw [cntC_succ, ih (by omega) (fun j hj => h j (by omega)), List.range_succ, List.countP_append]
   by_cases hc : c n = true
   ·rw [hc, (h n (by omega) hc).2 (by omega)]
    simp [hc]
   ·have hc' : c n = false := by simpa using hc
    simp [hc']
 intro n h hn
 induction n with
 |zero =>
  obtain rfl : i = 0 := Nat.le_zero.1 hn
  rfl
 |succ n ih =>
  by_cases e : i = n + 1
  ·subst e
   exact low _ (Nat.le_refl _) h
  ·rw [cntC_succ, ih (fun j hj => h j (by omega)) (by omega)]
   by_cases hc : c n = true
   ·have : listed.getD n false = false := by
     have := h n (by omega) hc
     by_cases hl : listed.getD n false = true
     ·have := this.1 hl; omega
     ·simpa using hl
    rw [this]
    simp
   ·have hc' : c n = false := by simpa using hc
    simp [hc']

def chainB (ops : Array Oper) (c : Nat → Bool) : Bool := (List.range ops.size).all (fun j => !c j || (List.range j).all (fun i => !c i || (clo ops 6 (edgesOf ops j)).contains i))
theorem chainB_spec {ops : Array Oper} {c : Nat → Bool} (h : chainB ops c = true) : ∀ i j, c i = true → c j = true → i < j → j < ops.size → i ∈ clo ops 6 (edgesOf ops j) := by
 intro i j hi hj hij hjs
 unfold chainB at h
 rw [List.all_eq_true] at h
 have h1 := h j (List.mem_range.2 hjs)
 rw [hj, Bool.not_true, Bool.false_or, List.all_eq_true] at h1
 have h2 := h1 i (List.mem_range.2 hij)
 rw [hi, Bool.not_true, Bool.false_or] at h2
 simpa using h2


def numC (c : Nat → Bool) (i : Nat) : Nat := (List.range i).countP c
theorem numC_lt {c : Nat → Bool} {j : Nat} (hc : c j = true) : ∀ {i : Nat}, j < i → numC c j < numC c i
 |0, h => by omega
 |i + 1, h => by
  have e : numC c (i + 1) = numC c i + (if c i = true then 1 else 0) := by
   unfold numC
   rw [List.range_succ, List.countP_append]
   simp [List.countP_cons]
  rw [e]
  by_cases hji : j = i
  ·subst hji; rw [if_pos hc]; omega
  ·have := numC_lt hc (i := i) (by omega)
   omega

theorem numC_succ (c : Nat → Bool) (i : Nat) : numC c (i + 1) = numC c i + (if c i = true then 1 else 0) := by
 unfold numC
 rw [List.range_succ, List.countP_append]
 simp [List.countP_cons]
theorem cntC_le {c : Nat → Bool} {listed : Array Bool} {j : Nat} : ∀ n, (∀ k, k < n → c k = true → listed.getD k false = true → k < j) → cntC c n listed ≤ numC c (min n j)
 |0, _ => by simp [cntC]
 |n + 1, h => by
  have ih := cntC_le (c := c) (listed := listed) (j := j) n (fun k hk => h k (by omega))
  rw [cntC_succ]
  by_cases hn : n < j
  ·rw [Nat.min_eq_left (by omega), numC_succ]
   rw [Nat.min_eq_left (by omega)] at ih
   by_cases hc : c n = true
   ·rw [if_pos hc]
    split <;> omega
   ·have hc' : c n = false := by simpa using hc
    rw [hc']
    simpa using ih
  ·have : (c n && listed.getD n false) = false := by
    by_cases hb : (c n && listed.getD n false) = true
    ·rw [Bool.and_eq_true] at hb
     exact absurd (h n (by omega) hb.1 hb.2) hn
    ·simpa using hb
   rw [this]
   rw [Nat.min_eq_right (by omega)] at ih ⊢
   simpa using ih

def Told (ops : Array Oper) (c : Nat → Bool) (vs : List Value) (a : Act) (P : Nat → Prop) : Prop := ∀ (j : Nat) (oj : Oper) (d : Nat), P j → c j = true → ops[j]? = some oj → oj.dst = some d → a.tmps.getD d undef = vs.getD (numC c j) undef

structure LooseSOK (ops : Array Oper) (p : Nat → Bool) (N : Nat) : Prop where
  low : ∀ (i : Nat) (o : Oper), ops[i]? = some o → p i = true → ∀ e ∈ o.after, Region.binds .any e = true → e.on < i ∧ p e.on = true
  dst : ∀ (i : Nat) (o : Oper), ops[i]? = some o → p i = true → ∀ d, o.dst = some d → d < N
  inj : ∀ (i j : Nat) (o o' : Oper), ops[i]? = some o → ops[j]? = some o' → p i = true → p j = true → ∀ d, o.dst = some d → o'.dst = some d → i = j
  bar : ∀ (i : Nat) (o : Oper), ops[i]? = some o → p i = false → ∀ j, j < ops.size → p j = true → j ∈ clo ops 6 (edgesOf ops i)

def looseSB (ops : Array Oper) (p : Nat → Bool) (N : Nat) : Bool :=
  (List.range ops.size).all fun i => match ops[i]? with
    | none => true
    | some o => (if p i then
        o.after.all (fun e => !Region.binds .any e || (decide (e.on < i) && p e.on)) &&
          (match o.dst with
            | none => true
            | some d => decide (d < N) && (List.range ops.size).all (fun j => !p j || decide (j = i) || (match ops[j]? with | none => true | some o' => decide (o'.dst ≠ some d))))
      else (List.range ops.size).all (fun j => !p j || (clo ops 6 (edgesOf ops i)).contains j))

theorem looseSB_spec {ops : Array Oper} {p : Nat → Bool} {N : Nat} (h : looseSB ops p N = true) : LooseSOK ops p N := by
 unfold looseSB at h
 rw [List.all_eq_true] at h
 have get : ∀ (i : Nat) (o : Oper), ops[i]? = some o → (if p i then
    o.after.all (fun e => !Region.binds .any e || (decide (e.on < i) && p e.on)) &&
     (match o.dst with
      |none => true
      |some d => decide (d < N) && (List.range ops.size).all (fun j => !p j || decide (j = i) || (match ops[j]? with | none => true | some o' => decide (o'.dst ≠ some d))))
   else (List.range ops.size).all (fun j => !p j || (clo ops 6 (edgesOf ops i)).contains j)) = true := fun i o ho => by
  have hi : i < ops.size := (Array.getElem?_eq_some_iff.1 ho).1
  have := h i (List.mem_range.2 hi)
  simp only [ho] at this
  exact this
 refine ⟨fun i o ho hp e he hb => ?_, fun i o ho hp d hd => ?_, fun i j o o' ho ho' hp hp' d hd hd' => ?_, fun i o ho hp j hj hpj => ?_⟩
 ·have := (get i o ho)
  rw [if_pos hp, Bool.and_eq_true] at this
  have h1 := this.1
  rw [Array.all_eq_true_iff_forall_mem] at h1
  have h2 := h1 e he
  rw [hb] at h2
  simpa using h2
 ·have := (get i o ho)
  rw [if_pos hp, Bool.and_eq_true] at this
  have h1 := this.2
  rw [hd] at h1
  simp only [Bool.and_eq_true, decide_eq_true_eq] at h1
  exact h1.1
 ·have := (get i o ho)
  rw [if_pos hp, Bool.and_eq_true] at this
  have h1 := this.2
  rw [hd] at h1
  simp only [Bool.and_eq_true] at h1
  have h2 := h1.2
  rw [List.all_eq_true] at h2
  have h3 := h2 j (List.mem_range.2 (Array.getElem?_eq_some_iff.1 ho').1)
  rw [hp', ho'] at h3
  simp only [Bool.not_true, Bool.false_or, Bool.or_eq_true, decide_eq_true_eq] at h3
  rcases h3 with h3 | h3
  ·exact h3.symm
  ·exact absurd hd' h3
 ·have := (get i o ho)
  rw [if_neg (by simp [hp]), List.all_eq_true] at this
  have h1 := this j (List.mem_range.2 hj)
  rw [hpj, Bool.not_true, Bool.false_or] at h1
  simpa using h1

structure LInvS (ops : Array Oper) (V : Nat → World → Value → Prop) (R : World → World → Prop) (W : List Value → World → Prop) (c : Nat → Bool) (vs : List Value) (w0 : World) (a0 : Act) (L : Nat → Prop) (a : Act) (u : World) : Prop where
  rel : R w0 u
  st : W vs u
  told : Told ops c vs a L
  val : ∀ (i : Nat) (o : Oper) (d : Nat), ops[i]? = some o → L i → o.dst = some d → V i u (a.tmps.getD d undef)
  off : ∀ s, (∀ (i : Nat) (o : Oper), ops[i]? = some o → L i → o.dst ≠ some s) → a.tmps.getD s undef = a0.tmps.getD s undef
  size : a.tmps.size = a0.tmps.size
  defers : a.defers = a0.defers

def LS (P : Program) (ops : Array Oper) (Q : Exit → Act → World → Prop) (V : Nat → World → Value → Prop) (R : World → World → Prop) (W : List Value → World → Prop) (vs : List Value) (ch : Bool) (i : Nat) (o : Oper) (a : Act) (u : World) : Prop :=
  (Region.wanted o (yielded ops a.tmps) = true ∧ o.wp P a u (fun a' u' => ∃ v, a' = a.put o.dst v ∧ R u u' ∧ W (if ch then vs ++ [v] else vs) u' ∧ V i u' v) Q) ∨ (Region.wanted o (yielded ops a.tmps) = false ∧ R u u ∧ W (if ch then vs ++ [undef] else vs) u ∧ V i u undef)

section
variable {P : Program} {ops : Array Oper} {Q : Exit → Act → World → Prop} {V : Nat → World → Value → Prop} {R : World → World → Prop} {W : List Value → World → Prop} {vs : List Value} {ch : Bool} {i : Nat} {o : Oper} {a : Act} {u : World}
theorem ls_none (hg : o.guard = none) (h : o.wp P a u (fun a' u' => ∃ v, a' = a.put o.dst v ∧ R u u' ∧ W (if ch then vs ++ [v] else vs) u' ∧ V i u' v) Q) : LS P ops Q V R W vs ch i o a u :=
 .inl ⟨by unfold Region.wanted; rw [hg], h⟩
theorem ls_value {v : Value} {u' : World} (h : (execOp a.eval o).run P u = .ok (.value v) u') (hr : R u u') (hw : W (if ch then vs ++ [v] else vs) u') (hv : V i u' v) : o.wp P a u (fun a' u' => ∃ v, a' = a.put o.dst v ∧ R u u' ∧ W (if ch then vs ++ [v] else vs) u' ∧ V i u' v) Q := by
 unfold Oper.wp
 rw [h]
 exact ⟨v, rfl, hr, hw, hv⟩
theorem ls_call {f : FuncId} {args : Array Value} (h : (execOp a.eval o).run P u = .ok (.enter f args) u)
  (hc : Calls P f args u fun e u' => ∃ v, e = .returned v ∧ R u u' ∧ W (if ch then vs ++ [v] else vs) u' ∧ V i u' v) : o.wp P a u (fun a' u' => ∃ v, a' = a.put o.dst v ∧ R u u' ∧ W (if ch then vs ++ [v] else vs) u' ∧ V i u' v) Q := by
 unfold Oper.wp
 rw [h]
 refine hc.mono ?_
 rintro e u' ⟨v, rfl, hK⟩
 exact ⟨v, rfl, hK⟩
theorem lsn_value {v : Value} {u' : World} (hg : o.guard = none) (h : (execOp a.eval o).run P u = .ok (.value v) u') (hr : R u u') (hw : W (if ch then vs ++ [v] else vs) u') (hv : V i u' v) : LS P ops Q V R W vs ch i o a u := ls_none hg (ls_value h hr hw hv)
theorem lsn_call {f : FuncId} {args : Array Value} (hg : o.guard = none) (h : (execOp a.eval o).run P u = .ok (.enter f args) u) (hc : Calls P f args u fun e u' => ∃ v, e = .returned v ∧ R u u' ∧ W (if ch then vs ++ [v] else vs) u' ∧ V i u' v) : LS P ops Q V R W vs ch i o a u := ls_none hg (ls_call h hc)
end

theorem wpAny_looseS {P : Program} {ops : Array Oper} {Q : Exit → Act → World → Prop} {p : Nat → Bool} {V : Nat → World → Value → Prop} {R : World → World → Prop} {W : List Value → World → Prop} {c : Nat → Bool} {w0 : World} {a0 : Act} {LP : Array Bool} (L : LooseSOK ops p a0.tmps.size)
  (stable : ∀ i u u' v, R u u' → V i u v → V i u' v) (tr : ∀ x y z, R x y → R y z → R x z)
  (LC : ∀ i j, c i = true → c j = true → i < j → j < ops.size → i ∈ clo ops 6 (edgesOf ops j))
  (hstep : ∀ (i : Nat) (o : Oper), ops[i]? = some o → p i = true → ∀ vs a u, R w0 u → W vs u → (c i = true → vs.length = numC c i) → (∀ j, j < ops.size → c j = true → i ∈ clo ops 6 (edgesOf ops j) → vs.length ≤ numC c j) → Told ops c vs a (fun j => ∃ e ∈ o.after, Region.binds .any e = true ∧ e.on = j) →
   (∀ s, (∀ (j : Nat) (oj : Oper), ops[j]? = some oj → p j = true → oj.dst ≠ some s) → a.tmps.getD s undef = a0.tmps.getD s undef) →
   (∀ e ∈ o.after, Region.binds .any e = true → ∀ (oj : Oper) (d : Nat), ops[e.on]? = some oj → oj.dst = some d → V e.on u (a.tmps.getD d undef)) →
   LS P ops Q V R W vs (c i) i o a u)
  (hLs : LP.size = ops.size) (hLP : ∀ i, i < ops.size → LP.getD i false = p i)
  (hend : ∀ vs a u, vs.length = cntC c ops.size LP → LInvS ops V R W c vs w0 a0 (fun i => p i = true) a u → wpAny P .any ops Q (cntU ops.size LP) LP a u) :
  ∀ (fuel : Nat) (listed : Array Bool) (vs : List Value) (a : Act) (u : World), listed.size = ops.size → vs.length = cntC c ops.size listed → fuel = cntU ops.size listed → (∀ i, i < ops.size → listed.getD i false = true → p i = true) → (∀ j, listed.getD j false = true → ∀ k, k ∈ edgesOf ops j → listed.getD k false = true) →
   LInvS ops V R W c vs w0 a0 (fun i => listed.getD i false = true) a u → wpAny P .any ops Q fuel listed a u := by
 intro fuel
 induction fuel with
 |zero =>
  intro listed vs a u hs hvl hf hl hcl hI
  have hall : ∀ i, i < ops.size → listed.getD i false = true := fun i hi => by
   by_cases h : listed.getD i false = true
   ·exact h
   ·have := cntU_set (listed := listed) (by omega) (by simpa using h) ops.size hi
    omega
  have e : listed = LP := listed_ext (by omega) (fun i hi => by
   rw [hall i (by omega), hLP i (by omega)]
   exact (hl i (by omega) (hall i (by omega))).symm)
  subst e
  have := hend vs a u hvl ⟨hI.rel, hI.st, fun j oj d hp hc ho hd => hI.told j oj d (hall j (Array.getElem?_eq_some_iff.1 ho).1) hc ho hd, fun i o d ho _ hd => hI.val i o d ho (hall i (Array.getElem?_eq_some_iff.1 ho).1) hd, fun s hs' => hI.off s (fun i o ho hi => hs' i o ho (hl i (Array.getElem?_eq_some_iff.1 ho).1 hi)), hI.size, hI.defers⟩
  rwa [← hf] at this
 |succ fuel ih =>
  intro listed vs a u hs hvl hf hl hcl hI
  by_cases hall : ∀ i, i < ops.size → p i = true → listed.getD i false = true
  ·have e : listed = LP := listed_ext (by omega) (fun i hi => by
    rw [hLP i (by omega)]
    by_cases h : p i = true
    ·rw [h, hall i (by omega) h]
    ·by_cases h2 : listed.getD i false = true
     ·exact absurd (hl i (by omega) h2) h
     ·have h3 : p i = false := by simpa using h
      have h4 : listed.getD i false = false := by simpa using h2
      rw [h3, h4])
   subst e
   have := hend vs a u hvl ⟨hI.rel, hI.st, fun j oj d hp hc ho hd => hI.told j oj d (hall j (Array.getElem?_eq_some_iff.1 ho).1 hp) hc ho hd, fun i o d ho hp hd => hI.val i o d ho (hall i (Array.getElem?_eq_some_iff.1 ho).1 hp) hd, fun s hs' => hI.off s (fun i o ho hi => hs' i o ho (hl i (Array.getElem?_eq_some_iff.1 ho).1 hi)), hI.size, hI.defers⟩
   rwa [← hf] at this
  ·obtain ⟨i0, ⟨hi0, hp0, hu0⟩, hmin⟩ := least_of (R := fun i => i < ops.size ∧ p i = true ∧ listed.getD i false = false) (by
    refine Classical.byContradiction fun hno => hall fun i hi hp => ?_
    by_cases h : listed.getD i false = true
    ·exact h
    ·exact absurd ⟨i, hi, hp, by simpa using h⟩ hno)
   have hready : i0 ∈ Region.ready .any ops listed := by
    rw [mem_ready]
    refine ⟨by rw [getD_true_false (by omega)]; exact hu0, ops[i0], Array.getElem?_eq_getElem hi0, fun e he hb => ?_⟩
    obtain ⟨h1, h2⟩ := L.low i0 _ (Array.getElem?_eq_getElem hi0) hp0 e he hb
    by_cases h : listed.getD e.on false = true
    ·exact h
    ·exact absurd ⟨by omega, h2, by simpa using h⟩ (hmin e.on h1)
   refine ⟨fun h => (by rw [h] at hready; cases hready), fun i hi => ?_⟩
   obtain ⟨h1, o, ho, hedge⟩ := mem_ready.1 hi
   have hisz : i < ops.size := (Array.getElem?_eq_some_iff.1 ho).1
   rw [getD_true_false (by omega)] at h1
   have hpi : p i = true := by
    by_cases h : p i = true
    ·exact h
    ·have h3 := clo_listed (listed := fun j => listed.getD j false = true) hcl 6 (edgesOf ops i) (fun k hk => by
      obtain ⟨e, he, hb, hon⟩ := (mem_edgesOf ho).1 hk
      have := hedge e he hb
      rwa [hon] at this) i0 (L.bar i o ho (by simpa using h) i0 hi0 hp0)
     rw [hu0] at h3
     cases h3
   have hnum : c i = true → vs.length = numC c i := fun hci => by
    rw [hvl]
    refine cntC_num (fun j hj hcj => ⟨fun hlj => ?_, fun hji => ?_⟩) (by omega)
    ·by_cases e : j = i
     ·subst e; rw [h1] at hlj; cases hlj
     ·by_cases e2 : j < i
      ·exact e2
      ·have h3 := clo_listed (listed := fun j => listed.getD j false = true) hcl 6 (edgesOf ops j) (fun k hk => hcl j hlj k hk) i (LC i j hci hcj (by omega) hj)
       rw [h1] at h3
       cases h3
    ·exact clo_listed (listed := fun j => listed.getD j false = true) hcl 6 (edgesOf ops i) (fun k hk => by
      obtain ⟨e, he, hb, hon⟩ := (mem_edgesOf ho).1 hk
      have := hedge e he hb
      rwa [hon] at this) j (LC j i hcj hci hji hisz)
   have hlow : ∀ j, j < ops.size → c i = true → c j = true → listed.getD j false = true → j < i := fun j hj hci hcj hlj => by
    by_cases e : j = i
    ·subst e; rw [h1] at hlj; cases hlj
    ·by_cases e2 : j < i
     ·exact e2
     ·have h3 := clo_listed (listed := fun j => listed.getD j false = true) hcl 6 (edgesOf ops j) (fun k hk => hcl j hlj k hk) i (LC i j hci hcj (by omega) hj)
      rw [h1] at h3
      cases h3
   have hgo : ∀ a' u', (∃ v, a' = a.put o.dst v ∧ R u u' ∧ W (if c i then vs ++ [v] else vs) u' ∧ V i u' v) → wpAny P .any ops Q fuel (listed.setIfInBounds i true) a' u' := by
    rintro a' u' ⟨v, rfl, hK, hW, hV⟩
    have hset : ∀ j, (listed.setIfInBounds i true).getD j false = true ↔ j = i ∨ listed.getD j false = true := fun j => by
     simp only [Array.getD_eq_getD_getElem?, Array.getElem?_setIfInBounds]
     by_cases e : i = j
     ·subst e; simp [show i < listed.size by omega]
     ·rw [if_neg e]
      exact ⟨.inr, fun h => h.resolve_left (fun h => e h.symm)⟩
    refine ih _ (if c i then vs ++ [v] else vs) _ _ (by simp [hs]) ?_ ?_ (fun j hj hlj => ?_) (fun j hj k hk => ?_) ⟨tr _ _ _ hI.rel hK, hW, fun j oj dj hj hcj hoj hdj => ?_, fun j oj dj hoj hj hdj => ?_, fun s hs' => ?_, by rw [put_size]; exact hI.size, by rw [put_defers]; exact hI.defers⟩
    ·by_cases hci : c i = true
     ·rw [if_pos hci, List.length_append, hvl, cntC_set (by omega) h1 hci ops.size hisz]
      rfl
     ·rw [if_neg hci, hvl, cntC_set_ne (by simpa using hci)]
    ·have := cntU_set (listed := listed) (by omega) h1 ops.size hisz
     omega
    ·rcases (hset j).1 hlj with e | e
     ·rw [e]; exact hpi
     ·exact hl j hj e
    ·rcases (hset j).1 hj with e | e
     ·subst e
      obtain ⟨e, he, hb, hon⟩ := (mem_edgesOf ho).1 hk
      refine (hset k).2 (.inr ?_)
      rw [← hon]
      exact hedge e he hb
     ·exact (hset k).2 (.inr (hcl j e k hk))
    ·have hjs : j < ops.size := (Array.getElem?_eq_some_iff.1 hoj).1
     by_cases eji : j = i
     ·subst eji
      have : oj = o := by rw [hoj] at ho; exact Option.some.inj ho
      subst this
      rw [hdj, put_getD_same (by rw [hI.size]; exact L.dst j oj hoj hpi dj hdj), if_pos hcj, ← hnum hcj]
      simp [List.getD]
     ·have hlj := ((hset j).1 hj).resolve_left eji
      rw [put_getD_ne (fun h => eji (L.inj j i oj o hoj ho (hl j hjs hlj) hpi dj hdj h)), hI.told j oj dj hlj hcj hoj hdj]
      by_cases hci : c i = true
      ·have h5 := numC_lt hcj (hlow j hjs hci hcj hlj)
       have h6 := hnum hci
       rw [if_pos hci, List.getD_eq_getElem?_getD, List.getD_eq_getElem?_getD, List.getElem?_append_left (by omega)]
      ·rw [if_neg hci]
    ·rcases (hset j).1 hj with e | e
     ·subst e
      have : oj = o := by rw [hoj] at ho; exact Option.some.inj ho
      subst this
      rw [hdj, put_getD_same (by rw [hI.size]; exact L.dst j oj hoj hpi dj hdj)]
      exact hV
     ·by_cases eji : j = i
      ·subst eji
       rw [h1] at e; cases e
      ·rw [put_getD_ne (fun h => eji (L.inj j i oj o hoj ho (hl j (Array.getElem?_eq_some_iff.1 hoj).1 e) hpi dj hdj h))]
       exact stable j u u' _ hK (hI.val j oj dj hoj e hdj)
    ·rw [put_getD_ne (hs' i o ho ((hset i).2 (.inl rfl)))]
     exact hI.off s (fun j oj hoj hj => hs' j oj hoj ((hset j).2 (.inr hj)))
   have hub : ∀ j, j < ops.size → c j = true → i ∈ clo ops 6 (edgesOf ops j) → vs.length ≤ numC c j := fun j hj hcj hij => by
    have hnj : ¬ listed.getD j false = true := fun hlj => by
     have h3 := clo_listed (listed := fun j => listed.getD j false = true) hcl 6 (edgesOf ops j) (fun k hk => hcl j hlj k hk) i hij
     rw [h1] at h3
     cases h3
    rw [hvl]
    have := cntC_le (c := c) (listed := listed) (j := j) ops.size (fun k hk hck hlk => by
     by_cases e : k = j
     ·subst e; exact absurd hlk hnj
     ·by_cases e2 : k < j
      ·exact e2
      ·exact absurd (clo_listed (listed := fun j => listed.getD j false = true) hcl 6 (edgesOf ops k) (fun q hq => hcl k hlk q hq) j (LC j k hcj hck (by omega) hk)) hnj)
    rwa [Nat.min_eq_right (by omega)] at this
   have hst := hstep i o ho hpi vs a u hI.rel hI.st hnum hub (fun j oj d hj hcj hoj hd' => by
    obtain ⟨e, he, hb, rfl⟩ := hj
    exact hI.told e.on oj d (hedge e he hb) hcj hoj hd') (fun s hs' => hI.off s (fun j oj hoj hj => hs' j oj hoj (hl j (Array.getElem?_eq_some_iff.1 hoj).1 hj))) (fun e he hb oj d' hoj hd' => hI.val e.on oj d' hoj (hedge e he hb) hd')
   unfold wpOp
   rw [ho]
   simp only
   rcases hst with ⟨hw, hst⟩ | ⟨hw, hst, hst2, hst3⟩
   ·rw [if_pos hw]
    exact .inl (Oper.wp_mono hgo hst)
   ·rw [if_neg (by rw [hw]; exact Bool.false_ne_true)]
    exact hgo _ _ ⟨undef, rfl, hst, hst2, hst3⟩

theorem LInvS.o {ops : Array Oper} {V : Nat → World → Value → Prop} {R : World → World → Prop} {W : List Value → World → Prop} {c : Nat → Bool} {vs : List Value} {w : World} {a0 : Act} {p : Nat → Bool} {a : Act} {u : World} (h : LInvS ops V R W c vs w a0 (fun i => p i = true) a u) (s : Nat) (hn : noDst ops p s = true) : a.tmps.getD s undef = a0.tmps.getD s undef := h.off s (noDst_spec hn)
theorem wp_region_looseS {P : Program} {id : Nat} {ops : Array Oper} {Q : Exit → Act → World → Prop} {p : Nat → Bool} {V : Nat → World → Value → Prop} {R : World → World → Prop} {W : List Value → World → Prop} {c : Nat → Bool} {w : World} {a0 : Act} {LP : Array Bool} {K N : Nat} (hm : P.follows .mixedOrders = true) (hB : looseSB ops p a0.tmps.size = true)
  (hC : chainB ops c = true) (hR0 : R w w.drew) (hW0 : W [] w.drew) (tr : ∀ x y z, R x y → R y z → R x z) (stable : ∀ i u u' v, R u u' → V i u v → V i u' v)
  (hstep : ∀ (i : Nat) (o : Oper), ops[i]? = some o → p i = true → ∀ vs a u, R w u → W vs u → (c i = true → vs.length = numC c i) → (∀ j, j < ops.size → c j = true → i ∈ clo ops 6 (edgesOf ops j) → vs.length ≤ numC c j) → Told ops c vs a (fun j => ∃ e ∈ o.after, Region.binds .any e = true ∧ e.on = j) →
   (∀ s, (∀ (j : Nat) (oj : Oper), ops[j]? = some oj → p j = true → oj.dst ≠ some s) → a.tmps.getD s undef = a0.tmps.getD s undef) →
   (∀ e ∈ o.after, Region.binds .any e = true → ∀ (oj : Oper) (d : Nat), ops[e.on]? = some oj → oj.dst = some d → V e.on u (a.tmps.getD d undef)) →
   LS P ops Q V R W vs (c i) i o a u)
  (hLs : LP.size = ops.size) (hLP : ∀ i, i < ops.size → LP.getD i false = p i) (hK : cntU ops.size LP = K) (hN : cntC c ops.size LP = N)
  (hend : ∀ vs a u, vs.length = N → LInvS ops V R W c vs w a0 (fun i => p i = true) a u → wpAny P .any ops Q K LP a u) : (Code.region id ops true).wp P Q a0 w := by
 refine wp_region_any hm ?_
 refine wpAny_looseS (looseSB_spec hB) stable tr (chainB_spec hC) hstep hLs hLP (fun vs a u hv h => by rw [hK]; rw [hN] at hv; exact hend vs a u hv h) ops.size _ [] a0 _ (by simp) (cntC_zero _ _ _).symm ?_ (fun i hi h => ?_) (fun i h => ?_) ⟨hR0, hW0, fun j oj d hj => ?_, fun i o d ho h => ?_, fun _ _ => rfl, rfl, rfl⟩
 ·have : ∀ n, cntU n (Array.replicate ops.size false) = n := fun n => by
   induction n with
   |zero => rfl
   |succ n ih => rw [cntU_succ, ih]; simp [unl, Array.getD_eq_getD_getElem?, Array.getElem?_replicate]; split <;> simp
  rw [this]
 ·simp [Array.getD_eq_getD_getElem?, Array.getElem?_replicate] at h
  split at h <;> simp at h
 ·simp [Array.getD_eq_getD_getElem?, Array.getElem?_replicate] at h
  split at h <;> simp at h
 ·exfalso
  simp [Array.getD_eq_getD_getElem?, Array.getElem?_replicate] at hj
  split at hj <;> simp at hj
 ·simp [Array.getD_eq_getD_getElem?, Array.getElem?_replicate] at h
  split at h <;> simp at h

end Go.Proofs.YtnoknecfdnjomaaGreat

/-
  For the law of loose regions: which operations are loose, by a list; those that stay, in their one order.
-/
namespace Go.Proofs.YtnoknecfdnjomaaGreat
open Go Go.RowKit

def inL (l : List Nat) (i : Nat) : Bool := l.contains i

theorem pOf_spec {p : Nat → Bool} {m : Nat} {LP : Array Bool} (h : (List.range m).all (fun i => LP.getD i false == p i) = true) : ∀ i, i < m → LP.getD i false = p i := by
 intro i hi
 rw [List.all_eq_true] at h
 have := h i (List.mem_range.2 hi)
 simpa using this

theorem inL_far {l : List Nat} {n N : Nat} (h : l.all (fun x => decide (x < N)) = true) (hp : inL l (n + N) = true) : False := by
 unfold inL at hp
 rw [List.all_eq_true] at h
 have h1 : n + N ∈ l := by simpa using hp
 have := h _ h1
 simp at this
 omega

def seqL (ops : Array Oper) : List Nat → Array Bool → Bool
  | [], listed => (Region.ready .any ops listed).isEmpty
  | k :: l, listed => decide (Region.ready .any ops listed = [k]) && seqL ops l (listed.setIfInBounds k true)

theorem wpAny_of_seqL {P : Program} {ops : Array Oper} {Q : Exit → Act → World → Prop} : ∀ (l : List Nat) (os : List Oper) (listed : Array Bool) (a : Act) (w : World), os.map some = l.map (fun k => ops[k]?) → seqL ops l listed = true → wpList P ops Q os a w → wpAny P .any ops Q l.length listed a w
 |[], [], _, _, _, _, hB, h => ⟨by simpa [seqL] using hB, h⟩
 |[], _ :: _, _, _, _, e, _, _ => by simp at e
 |_ :: _, [], _, _, _, e, _, _ => by simp at e
 |k :: l, o :: os, listed, a, w, e, hB, h => by
  simp only [List.map_cons, List.cons.injEq] at e
  have h0 : ops[k]? = some o := e.1.symm
  simp only [seqL, Bool.and_eq_true, decide_eq_true_eq] at hB
  simp only [List.length_cons]
  refine ⟨fun h1 => (by rw [hB.1] at h1; cases h1), fun i hi => ?_⟩
  rw [hB.1] at hi
  have hik : i = k := by simpa using hi
  subst hik
  have hw : wpOp P ops Q i (wpList P ops Q os) a w := by unfold wpOp; simp only [h0]; exact h
  exact wpOp_mono (fun a' w' h' => wpAny_of_seqL l os _ a' w' e.2 hB.2 h') hw

theorem atV_stR {R : World → World → Prop} {Vs : List (World → Value → Prop)} (h : ∀ V ∈ Vs, ∀ u u' v, R u u' → V u v → V u' v) : ∀ i u u' v, R u u' → atV Vs i u v → atV Vs i u' v := by
 intro i u u' v k
 unfold atV
 rw [List.getD_eq_getElem?_getD]
 cases hi : Vs[i]? with
 |none => exact fun _ => trivial
 |some V => exact h V (List.mem_of_getElem? hi) u u' v k

theorem vs_list1 {vs : List Value} (h : vs.length = 1) : ∃ r0, vs = [r0] := by
 match vs, h with
 |[r0], _ => exact ⟨r0, rfl⟩
theorem vs_list2 {vs : List Value} (h : vs.length = 2) : ∃ r0 r1, vs = [r0, r1] := by
 match vs, h with
 |[r0, r1], _ => exact ⟨r0, r1, rfl⟩
theorem vs_list3 {vs : List Value} (h : vs.length = 3) : ∃ r0 r1 r2, vs = [r0, r1, r2] := by
 match vs, h with
 |[r0, r1, r2], _ => exact ⟨r0, r1, r2, rfl⟩
theorem vs_list4 {vs : List Value} (h : vs.length = 4) : ∃ r0 r1 r2 r3, vs = [r0, r1, r2, r3] := by
 match vs, h with
 |[r0, r1, r2, r3], _ => exact ⟨r0, r1, r2, r3, rfl⟩
def opsAt (ops : Array Oper) (l : List Nat) : List Oper := l.filterMap (fun k => ops[k]?)

theorem wpAny_tailL {P : Program} {ops : Array Oper} {Q : Exit → Act → World → Prop} (l : List Nat) (os : List Oper) {LP : Array Bool} {a : Act} {u : World} {K : Nat} (hK : l.length = K) (he : os.map some = l.map (fun k => ops[k]?)) (hB : seqL ops l LP = true) (h : wpList P ops Q os a u) : wpAny P .any ops Q K LP a u := by
 subst hK
 exact wpAny_of_seqL l os LP a u he hB h

theorem eval_at {a : Act} {x : Nat} {v : Value} (h : a.tmps[x]?.getD undef = v) : a.eval (.tmp x) = v := by
 simpa [Act.eval] using h

end Go.Proofs.YtnoknecfdnjomaaGreat
