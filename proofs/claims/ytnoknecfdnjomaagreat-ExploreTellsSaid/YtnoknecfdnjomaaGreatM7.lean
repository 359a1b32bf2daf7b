/-
  circ.Check: what is wrong with any circuit. (Printed by mkcheck.py.)
-/
import Derived.Test.YtnoknecfdnjomaaGreatM6
import Derived.Test.YtnoknecfdnjomaaGreatM1
import Derived.Test.YtnoknecfdnjomaaGreatM3
import Derived.Test.YtnoknecfdnjomaaGreatM4
set_option linter.unusedVariables false
set_option linter.unusedSimpArgs false
namespace Go.Proofs.YtnoknecfdnjomaaGreat
open Go.RowKit

theorem and1 (n : Int) : bits .and .i64 n 1 = n % 2 := by
 have h1 : (BitVec.ofInt 64 1).toNat = 2 ^ 1 - 1 := by decide
 have key : (BitVec.ofInt 64 n &&& BitVec.ofInt 64 1).toNat = (n % ((2 ^ 64 : Nat) : Int)).toNat % 2 ^ 1 := by
  rw [BitVec.toNat_and, BitVec.toNat_ofInt, h1, Nat.and_two_pow_sub_one_eq_mod]
 show IntKind.i64.wrap ((BitVec.ofInt 64 n &&& BitVec.ofInt 64 1).toNat : Nat) = n % 2
 rw [key, IntKind.wrap_i64]
 omega

theorem Blk.bool {w : World} {b : Nat} {x : Bool} {t : TypeId} (h : Blk w b #[.bool x] t) (y : Bool) : Blk (w.setCell ⟨b, 0, none⟩ (.bool y)) b #[.bool y] t := by
 have := h.set_same 0 (.bool y)
 simpa using this

theorem all_take {α : Type} {l : List α} {k : Nat} {x : α} (h : l.take (k + 1) = l.take k ++ [x]) (f : α → Bool) : (l.take (k + 1)).all f = ((l.take k).all f && f x) := by
 rw [h, List.all_append]; simp

def hasF (own : List Int) (y : Int) : Bool := decide (y = 0) || own.any (fun z => decide (z / 2 = y))

theorem hasF_snoc (P : List Int) (x : Int) : (fun y => if y = x / 2 then true else hasF P y) = hasF (P ++ [x]) := by
 funext y
 unfold hasF
 rw [List.any_append]
 by_cases h : y = x / 2
 ·subst h; simp
 ·have : ¬ x / 2 = y := fun e => h e.symm
  simp [h, this]

theorem hasF_new {C : Circ} (hR : InRange C) {k : Nat} (hk : k < C.owned.length) : hasF (C.owned.take k) (gi C.owned k / 2) = decide (gi C.owned k ∈ C.owned.take k) := by
 have hx : gi C.owned k ∈ C.owned := by
  unfold gi; rw [List.getElem?_eq_getElem hk]; exact List.getElem_mem hk
 have h1 := hR.own _ hx
 unfold hasF
 rw [decide_eq_false (by omega), Bool.false_or, Bool.eq_iff_iff]
 simp only [List.any_eq_true, decide_eq_true_eq]
 constructor
 ·rintro ⟨z, hz, e⟩
  have h2 := hR.own _ (List.mem_of_mem_take hz)
  have : z = gi C.owned k := by omega
  rw [← this]; exact hz
 ·intro h; exact ⟨_, h, rfl⟩

theorem nodup_take {l : List Int} {k : Nat} (hk : k < l.length) (h : (l.take k).Nodup) (hm : gi l k ∉ l.take k) : (l.take (k + 1)).Nodup := by
 rw [take_gi hk, List.nodup_append]
 refine ⟨h, by simp, fun a ha b hb => ?_⟩
 simp at hb
 subst hb
 intro e
 subst e
 exact hm ha

theorem not_nodup {l : List Int} {k : Nat} (hk : k < l.length) (hm : gi l k ∈ l.take k) : ¬ l.Nodup := by
 intro h
 obtain ⟨j, hj⟩ := List.mem_iff_getElem?.1 hm
 have hjk : j < k := by
  have := (List.getElem?_eq_some_iff.1 hj).1
  simp at this; omega
 rw [List.getElem?_take, if_pos hjk] at hj
 have h2 : l[k]? = some (gi l k) := by unfold gi; rw [List.getElem?_eq_getElem hk]; rfl
 have := nodup_getElem h hj h2
 omega

theorem hasF_zero : (fun y => if y = 0 then true else false) = hasF [] := by
 funext y
 unfold hasF
 by_cases h : y = 0 <;> simp [h]

theorem ck5 {C : Circ} (h : C.max < 0 ∨ 16777216 < C.max ∨ rangeB C = false) : ckCode C = 5 := by
 unfold ckCode
 by_cases h1 : C.max < 0 ∨ 16777216 < C.max
 ·rw [if_pos h1]
 ·rw [if_neg h1, if_pos]
  rcases h with h | h | h
  ·exact absurd (.inl h) h1
  ·exact absurd (.inr h) h1
  ·exact h
theorem ckR {C : Circ} (h0 : 0 ≤ C.max) (h1 : C.max ≤ 16777216) (h : rangeB C = true) : ckCode C = if ¬ C.owned.Nodup then 7 else if C.used.all (knownB C.owned) = false then 9 else if (ordO C.gates).length < C.gates.length then 8 else 0 := by
 unfold ckCode
 rw [if_neg (by omega), if_neg (by simp [h])]

set_option maxRecDepth 100000 in
set_option maxHeartbeats 8000000 in
theorem circ_Chk (V : CV) (C : Circ) (w : World) (h : CAt w V C) (hf : CFew C 1000000) :
  Calls Tryz.prog 57 #[.agg (cvals V C)] w fun e w' => e = .returned (.int .i64 (ckCode C)) ∧ Kp (fun _ => False) w w' := by
 obtain ⟨code, hcode⟩ : ∃ code, ckCode C = code := ⟨_, rfl⟩
 rw [hcode]
 have HCode := Lib.hid hcode
 clear hcode
 have HC0 := Lib.hid (Blk.new w (cvals V C) 27)
 have HK0 := Lib.hid ((Kp.refl (fun _ => False) w).alloc (.cells (cvals V C) 27))
 by_cases m0 : 0 ≤ C.max
 case neg =>
  have d1 : decide (C.max < 0) = true := decide_eq_true (by omega)
  obtain rfl : code = 5 := by rw [← HCode.out]; exact ck5 (.inl (by omega))
  have c0 := HC0.out.cell (i := 0) (v := .int .i64 C.max) rfl
  clear m0 h hf
  go_enter Tryz.func57, Tryz.ntmps57
  go_wp2_with fail
  go_ret
  exact ⟨rfl, HK0.out⟩
 have e1 : decide (C.max < 0) = false := decide_eq_false (by omega)
 by_cases m1 : C.max ≤ 16777216
 case neg =>
  have d1 : decide ((16777216 : Int) < C.max) = true := decide_eq_true (by omega)
  obtain rfl : code = 5 := by rw [← HCode.out]; exact ck5 (.inr (.inl (by omega)))
  have c0 := HC0.out.cell (i := 0) (v := .int .i64 C.max) rfl
  clear m1 h hf
  go_enter Tryz.func57, Tryz.ntmps57
  go_wp2_with fail
  go_ret
  exact ⟨rfl, HK0.out⟩
 have e2 : decide ((16777216 : Int) < C.max) = false := decide_eq_false (by omega)
 have HM := Lib.hid (And.intro m0 m1)
 have hl := (h.fl.le63).1
 have HA := Lib.hid h
 have HF := Lib.hid hf
 have HOl := Lib.hid (show C.owned.length ≤ 3000000 by have := hf.i; have := hf.l; have := hf.g; unfold Circ.owned; simp; omega)
 have HD := Lib.hid (fun u (hu : Kp (fun _ => False) w u) => circ_defined V C u (h.kp hu) hf)
 clear h hf
 obtain ⟨bc, hbc⟩ : ∃ bc, bc = w.heap.size := ⟨_, rfl⟩
 have HBc := Lib.hid hbc
 obtain ⟨d0, d1, d2, d3, d4, d5, d6, d7, d8⟩ := HC0.out.cells9
 go_enter Tryz.func57, Tryz.ntmps57
 go_wp2_with fail
 refine (HD.out _ HK0.out).mono ?_
 rintro e w1 ⟨v1, rfl, hO1, hK1⟩
 clear d0 d1 d2 d3 d4 d5 d6 d7 d8
 have hB1 := HC0.out.kp hK1 (fun h => h)
 have hK1' := HK0.out.trans hK1 (fun _ _ h => h)
 obtain ⟨a1, cp1, e1', hc1, hm1, -, -⟩ := hO1.form
 obtain ⟨n1, hn1⟩ : ∃ n, C.owned.length = n := ⟨_, rfl⟩
 rw [iv_length, hn1] at e1' hc1
 have hn63 : n1 ≤ 9223372036854775807 := by unfold maxLen at hm1; omega
 have HN1 := Lib.hid hn1
 obtain ⟨bo, hbo⟩ : ∃ bo, bo = w1.heap.size := ⟨_, rfl⟩
 obtain ⟨wo, hwo⟩ : ∃ wo : World, wo = w1.alloc (.cells #[.bool true] 4) := ⟨_, rfl⟩
 have HBo : Hid (Blk wo bo #[.bool true] 4) := Lib.hid (by rw [hwo, hbo]; exact Blk.new _ _ _)
 have HKo : Hid (Kp (fun _ => False) w wo) := Lib.hid (by rw [hwo]; exact hK1'.alloc _)
 have HBC : Hid (Blk wo bc (cvals V C) 27) := Lib.hid (by rw [hwo, hbc]; exact hB1.alloc _)
 have HNe : Hid (w.heap.size ≤ bc ∧ bc < bo ∧ bo < wo.heap.size) := Lib.hid ⟨by omega, by rw [hbc, hbo]; exact hB1.lt, HBo.out.lt⟩
 have HRW := Lib.hid (show ∀ u, Kp (fun j => j = bo) wo u → IntsAt u a1 C.owned from fun u hu => by
  have hO2 : Own wo (w.alloc (.cells (cvals V C) 27)).heap.size 3 v1 (iv C.owned) := by rw [hwo]; exact hO1.alloc _
  have hne : ∀ j, v1.ownBlock = some j → ¬ j = bo := fun j hj e => by have := (hO1.lt j hj).2; omega
  obtain ⟨a, c, e, -, -, -, hr⟩ := (hO2.kp hu hne).form
  rw [e1'] at e
  simp only [Value.slice.injEq] at e
  rw [e.1]; exact hr)
 subst e1'
 have hwo' := hwo.symm
 have hbo' := hbo.symm
 have hbc' := hbc.symm
 clear hbo hwo hbc hO1 hK1 hB1 hK1' hc1 hm1 hn1 HC0 HK0 e1 e2 HD
 go_upto_region 4 with fail
 try rw [hwo']
 try rw [hbo']
 try rw [hbc']
 clear hwo' hbo' hbc'
 have c0 := HBC.out.cell (i := 0) (v := .int .i64 C.max) rfl
 go_wp2_with fail
 go_loopw [24] (fun v24 wr => ∃ k : Nat, v24 = .int .i64 k ∧ k ≤ n1 ∧ Blk wr bo #[.bool ((C.owned.take k).all (ownB C.max))] 4 ∧ Kp (fun j => j = bo) wo wr) (fun v24 _ => n1 - (intOf v24).toNat)
 case atStart => exact ⟨0, rfl, by omega, by simpa using HBo.out, Kp.refl _ _⟩
 case round =>
  obtain ⟨k, rfl, hk, hB, hK⟩ := hrel
  clear c0 HBo
  obtain ⟨wp, rfl⟩ : ∃ wp : World, wp = wr := ⟨_, rfl⟩
  have HK := Lib.hid hK
  obtain ⟨b, hb⟩ : ∃ b, (C.owned.take k).all (ownB C.max) = b := ⟨_, rfl⟩
  rw [hb] at hB
  by_cases hlt : k < n1
  ·obtain ⟨bl, off, rfl, hcell⟩ := (HRW.out _ hK).get (j := k) (by rw [HN1.out]; exact hlt)
   obtain ⟨x, hx⟩ : ∃ x, gi C.owned k = x := ⟨_, rfl⟩
   rw [hx] at hcell
   have hall := all_take (take_gi (L := C.owned) (k := k) (by rw [HN1.out]; exact hlt)) (ownB C.max)
   rw [hb, hx] at hall
   have c0 := (HBC.out.kp hK (fun e => by have := HNe.out; omega)).cell (i := 0) (v := .int .i64 C.max) rfl
   have o0 : wp.cell? ⟨bo, 0, none⟩ = some (.bool b) := hB.cell rfl
   have fo := hB.free 0
   have i0 : (0 : Int) ≤ (k : Int) := by omega
   have i1 : (k : Int) < (n1 : Int) := by omega
   have ha := and1 x
   have HNext := Lib.hid (fun y (hy : (b && ownB C.max x) = y) => show ∃ k' : Nat, Value.int .i64 ((k : Int) + 1) = .int .i64 k' ∧ k' ≤ n1 ∧ Blk (wp.setCell ⟨bo, 0, none⟩ (.bool y)) bo #[.bool ((C.owned.take k').all (ownB C.max))] 4 ∧ Kp (fun j => j = bo) wo (wp.setCell ⟨bo, 0, none⟩ (.bool y)) from
    ⟨k + 1, by go_num, by omega, by rw [hall, hy]; exact hB.bool y, hK.setCell (p := ⟨bo, 0, none⟩) (fun _ => rfl) _⟩)
   clear hb hx hall hB hK
   cases b with
   |false =>
    go_wp2_with fail
    go_roundw
    case rel => exact HNext.out false (by simp)
    case measure => simp [intOf]; omega
   |true =>
    by_cases h1 : 1 < x
    ·by_cases h2 : x % 2 = 0
     ·by_cases h3 : x ≤ 2 * C.max
      ·have HPrf := Lib.hid (show (true && ownB C.max x) = true by simp [ownB, h1, h2, h3])
       have g2 : ((x % 2 : Int) == 0) = true := by simp [h2]
       clear h2
       go_wp2_with fail
       go_roundw
       case rel => exact HNext.out true (HPrf.out)
       case measure => simp [intOf]; omega
      ·have HPrf := Lib.hid (show (true && ownB C.max x) = false by simp [ownB, h3])
       have g2 : ((x % 2 : Int) == 0) = true := by simp [h2]
       have g3 : decide (x ≤ 2 * C.max) = false := decide_eq_false h3
       clear h2
       go_wp2_with fail
       go_roundw
       case rel => exact HNext.out false (HPrf.out)
       case measure => simp [intOf]; omega
     ·have HPrf := Lib.hid (show (true && ownB C.max x) = false by simp [ownB, h2])
      have g2 : ((x % 2 : Int) == 0) = false := by simp [h2]
      clear h2
      go_wp2_with fail
      go_roundw
      case rel => exact HNext.out false (HPrf.out)
      case measure => simp [intOf]; omega
    ·have HPrf := Lib.hid (show (true && ownB C.max x) = false by simp [ownB, h1])
     have g1 : decide (1 < x) = false := decide_eq_false h1
     go_wp2_with fail
     go_roundw
     case rel => exact HNext.out false (HPrf.out)
     case measure => simp [intOf]; omega
  ·have HB := Lib.hid (show Blk wp bo #[.bool (C.owned.all (ownB C.max))] 4 by
    rw [List.take_of_length_le (by rw [HN1.out]; omega)] at hb
    rw [hb]; exact hB)
   have c2 := (HBC.out.kp hK (fun e => by have := HNe.out; omega)).cell (i := 2) (v := .slice V.al C.lats.length V.cl) rfl
   clear hB hK hb hk
   obtain ⟨r1, hr1⟩ : ∃ r, C.owned.all (ownB C.max) = r := ⟨_, rfl⟩
   rw [hr1] at HB
   have HR1 := Lib.hid hr1
   clear hr1
   go_wp2_with fail
   go_loopw [49] (fun v49 wr => ∃ k : Nat, v49 = .int .i64 k ∧ k ≤ C.lats.length ∧ Blk wr bo #[.bool (r1 && (C.lats.take k).all resB)] 4 ∧ Kp (fun j => j = bo) wo wr) (fun v49 _ => C.lats.length - (intOf v49).toNat)
   case atStart => exact ⟨0, rfl, by omega, by simpa using HB.out, HK.out⟩
   case round =>
    obtain ⟨k, rfl, hk, hB, hK⟩ := hrel
    clear c2 HB HK hlt
    obtain ⟨wq, rfl⟩ : ∃ wp : World, wp = wr := ⟨_, rfl⟩
    obtain ⟨b, hb⟩ : ∃ b, (r1 && (C.lats.take k).all resB) = b := ⟨_, rfl⟩
    rw [hb] at hB
    have HK := Lib.hid hK
    by_cases hlt : k < C.lats.length
    ·have hKw : Kp (fun _ => False) w wq := HKo.out.trans hK (fun j hj e => by have := HNe.out; omega)
     obtain ⟨bl, off, ea, l0, l1, l2⟩ := tri_cells (HA.out.kp hKw).l hlt
     have hall := all_take (take_g3 hlt) resB
     obtain ⟨x0, hx0⟩ : ∃ x, (g3 C.lats k).1 = x := ⟨_, rfl⟩
     obtain ⟨x1, hx1⟩ : ∃ x, (g3 C.lats k).2.1 = x := ⟨_, rfl⟩
     obtain ⟨x2, hx2⟩ : ∃ x, (g3 C.lats k).2.2 = x := ⟨_, rfl⟩
     have hres : resB (g3 C.lats k) = (decide (x2 = 0) || (decide (x2 = 1) || decide (x2 = x0))) := by unfold resB; rw [hx0, hx2]
     rw [hres] at hall
     rw [hx0] at l0
     rw [hx1] at l1
     rw [hx2] at l2
     have hBa := hB.alloc (.cells #[.int .i64 x0, .int .i64 x1, .int .i64 x2] 64)
     have o0 : (wq.alloc (.cells #[.int .i64 x0, .int .i64 x1, .int .i64 x2] 64)).cell? ⟨bo, 0, none⟩ = some (.bool b) := hBa.cell rfl
     have fo := hBa.free 0
     have i0 : (0 : Int) ≤ (k : Int) := by omega
     have i1 : (k : Int) < (C.lats.length : Int) := by omega
     have HNext := Lib.hid (fun y (hy : (b && (decide (x2 = 0) || (decide (x2 = 1) || decide (x2 = x0)))) = y) => show ∃ k' : Nat, Value.int .i64 ((k : Int) + 1) = .int .i64 k' ∧ k' ≤ C.lats.length ∧ Blk ((wq.alloc (.cells #[.int .i64 x0, .int .i64 x1, .int .i64 x2] 64)).setCell ⟨bo, 0, none⟩ (.bool y)) bo #[.bool (r1 && (C.lats.take k').all resB)] 4 ∧ Kp (fun j => j = bo) wo ((wq.alloc (.cells #[.int .i64 x0, .int .i64 x1, .int .i64 x2] 64)).setCell ⟨bo, 0, none⟩ (.bool y)) from
      ⟨k + 1, by go_num, by omega, by rw [hall, ← Bool.and_assoc, hb, hy]; exact hBa.bool y, (hK.alloc _).setCell (p := ⟨bo, 0, none⟩) (fun _ => rfl) _⟩)
     have HEA := Lib.hid ea
     clear hx0 hx1 hx2 ea hb hall hres hB hBa hK hKw
     rw [HEA.out]
     cases b with
     |false =>
      go_wp2_with fail
      go_roundw
      case rel => exact HNext.out false (by simp)
      case measure => simp [intOf]; omega
     |true =>
      by_cases h1 : x2 = 0
      ·have HPrf := Lib.hid (show (true && (decide (x2 = 0) || (decide (x2 = 1) || decide (x2 = x0)))) = true by simp [h1])
       have g1 : ((x2 : Int) == 0) = true := by simp [h1]
       clear h1
       go_wp2_with fail
       go_roundw
       case rel => exact HNext.out true (HPrf.out)
       case measure => simp [intOf]; omega
      ·have g1 : ((x2 : Int) == 0) = false := by simp [h1]
       by_cases h2 : x2 = 1
       ·have HPrf := Lib.hid (show (true && (decide (x2 = 0) || (decide (x2 = 1) || decide (x2 = x0)))) = true by simp [h2])
        have g2 : ((x2 : Int) == 1) = true := by simp [h2]
        clear h1 h2
        go_wp2_with fail
        go_roundw
        case rel => exact HNext.out true (HPrf.out)
        case measure => simp [intOf]; omega
       ·have g2 : ((x2 : Int) == 1) = false := by simp [h2]
        by_cases h3 : x2 = x0
        ·have HPrf := Lib.hid (show (true && (decide (x2 = 0) || (decide (x2 = 1) || decide (x2 = x0)))) = true by simp [h3])
         have g3 : ((x2 : Int) == x0) = true := by simp [h3]
         clear h1 h2 h3
         go_wp2_with fail
         go_roundw
         case rel => exact HNext.out true (HPrf.out)
         case measure => simp [intOf]; omega
        ·have HPrf := Lib.hid (show (true && (decide (x2 = 0) || (decide (x2 = 1) || decide (x2 = x0)))) = false by simp [h1, h2, h3])
         have g3 : ((x2 : Int) == x0) = false := by simp [h3]
         clear h1 h2 h3
         go_wp2_with fail
         go_roundw
         case rel => exact HNext.out false (HPrf.out)
         case measure => simp [intOf]; omega
    ·have HB := Lib.hid (show Blk wq bo #[.bool (r1 && C.lats.all resB)] 4 by
      rw [List.take_of_length_le (by omega)] at hb
      rw [hb]; exact hB)
     clear hB hK hb hk
     obtain ⟨r2, hr2⟩ : ∃ r, (r1 && C.lats.all resB) = r := ⟨_, rfl⟩
     rw [hr2] at HB
     have HR2 := Lib.hid hr2
     clear hr2
     have hbcq := HBC.out.kp HK.out (fun e => by have := HNe.out; omega)
     have HBCq := Lib.hid hbcq
     obtain ⟨d0, d1, d2, d3, d4, d5, d6, d7, d8⟩ := hbcq.cells9
     have HKq := Lib.hid (HKo.out.trans HK.out (fun j hj e => by have := HNe.out; omega))
     have HU := Lib.hid (circ_uses1 (.pointer (some ⟨bo, 0, none⟩)) (.pointer (some ⟨bc, 0, none⟩)) V C bo (useB C.max) (fun u b => Blk u bo #[.bool b] 4 ∧ Blk u bc (cvals V C) 27) r2 w wq HA.out HF.out HKq.out (by have := HNe.out; omega) (by have := HNe.out; have := HK.out.size; omega)
      ⟨HB.out, hbcq⟩ (fun u u' b hK hI => ⟨hI.1.kp hK (fun h => h), hI.2.kp hK (fun h => h)⟩)
      (fun u x b hx hI => (check_f1 bo bc V C u x b hI.1 hI.2 HM.out.1 HM.out.2).mono (by
       rintro e u' ⟨he, rfl⟩
       exact ⟨he, ⟨hI.1.bool _, hI.2.set_other (p := ⟨bo, 0, none⟩) (show bc ≠ bo by have := HNe.out; omega) _⟩, Kp.set u ⟨bo, 0, none⟩ _⟩)))
     clear hbcq
     go_wp2_with fail
     refine HU.out.mono ?_
     rintro e w2 ⟨rfl, ⟨hO2, hC2⟩, hK2⟩
     have HK2 := Lib.hid (HKq.out.trans hK2 (fun j hj h => by have := HNe.out; omega))
     obtain ⟨r3, hr3⟩ : ∃ r, (r2 && C.used.all (useB C.max)) = r := ⟨_, rfl⟩
     rw [hr3] at hO2
     have HR3 := Lib.hid (show rangeB C = r3 by unfold rangeB; rw [HR1.out, HR2.out]; exact hr3)
     have o2 : w2.cell? ⟨bo, 0, none⟩ = some (.bool r3) := hO2.cell rfl
     have HO2 := Lib.hid hO2
     have HC2 := Lib.hid hC2
     have HKo2 := Lib.hid (HK.out.trans hK2 (fun _ _ h => h))
     clear hr3 hO2 hC2 hK2 HU d0 d1 d2 d3 d4 d5 d6 d7 d8 HBCq HB HK HKq
     cases r3 with
     |false =>
      obtain rfl : code = 5 := by rw [← HCode.out]; exact ck5 (.inr (.inr HR3.out))
      go_wp2_with fail
      go_ret
      exact ⟨rfl, HK2.out⟩
     |true =>
      have HIR := Lib.hid (InRange.of HM.out.1 HM.out.2 HR3.out)
      have HCk := Lib.hid (ckR HM.out.1 HM.out.2 HR3.out)
      rw [HCode.out] at HCk
      clear HR1 HR2 HR3 HCode
      obtain ⟨w3, hput, hM3, hK3⟩ := (IMB.made w2).put (by unfold maxLen; omega) (x := 0) ⟨by omega, by omega⟩ true
      rw [hasF_zero] at hM3
      have hmm := @run_makeMap Tryz.prog
      have hs3 : w2.heap.size < w3.heap.size := by have := hK3.size; rw [World.size_alloc] at this; omega
      have hbo2 := HO2.out.lt
      have hbc2 := HC2.out.lt
      have HO3 := Lib.hid ((HO2.out.alloc (.map #[] 0)).kp hK3 (by omega))
      have HC3 := Lib.hid ((HC2.out.alloc (.map #[] 0)).kp hK3 (by omega))
      have HK3 := Lib.hid ((HK2.out.alloc (.map #[] 0)).trans hK3 (fun j hj h => by have := HK2.out.size; omega))
      have HKo3 := Lib.hid ((HKo2.out.alloc (.map #[] 0)).trans hK3 (fun j hj h => by have := HKo2.out.size; omega))
      obtain ⟨bm, hbm⟩ : ∃ bm, bm = w2.heap.size := ⟨_, rfl⟩
      obtain ⟨bh, hbh⟩ : ∃ bh, bh = w3.heap.size := ⟨_, rfl⟩
      obtain ⟨wh, hwh⟩ : ∃ wh : World, wh = w3.alloc (.cells #[.map (some w2.heap.size)] 107) := ⟨_, rfl⟩
      have HBh : Hid (Blk wh bh #[.map (some bm)] 107) := Lib.hid (by rw [hwh, hbh, hbm]; exact Blk.new _ _ _)
      have HBo : Hid (Blk wh bo #[.bool true] 4) := Lib.hid (by rw [hwh]; exact HO3.out.alloc _)
      have HBCh : Hid (Blk wh bc (cvals V C) 27) := Lib.hid (by rw [hwh]; exact HC3.out.alloc _)
      have HKh : Hid (Kp (fun _ => False) w wh) := Lib.hid (by rw [hwh]; exact HK3.out.alloc _)
      have HKoh : Hid (Kp (fun j => j = bo) wo wh) := Lib.hid (by rw [hwh]; exact HKo3.out.alloc _)
      have HMh : Hid (IMB wh bm (0 + 1) (hasF (C.owned.take 0))) := Lib.hid (by rw [hwh, hbm]; exact hM3.kp ((Kp.refl (fun _ => False) _).alloc _) (fun h => h))
      have HNh : Hid (bo < bm ∧ bc < bm ∧ bm < bh ∧ w.heap.size ≤ bm ∧ wo.heap.size ≤ bm) := Lib.hid ⟨by omega, by omega, by omega, by have := HK2.out.size; omega, by have := HKo2.out.size; omega⟩
      have HEq := Lib.hid (And.intro hwh.symm (And.intro hbh.symm hbm.symm))
      clear hwh hbh hbm hM3 hK3 HO3 HC3 HK3 HKo3 HO2 HC2 HK2 HKo2 hs3 hbo2 hbc2
      go_upto_region 18 with fail
      rw [HEq.out.1, HEq.out.2.1, HEq.out.2.2]
      clear HEq hput hmm o2
      go_wp2_with fail
      go_loopw [81] (fun v81 wr => ∃ k : Nat, v81 = .int .i64 k ∧ k ≤ n1 ∧ (C.owned.take k).Nodup ∧ IMB wr bm (k + 1) (hasF (C.owned.take k)) ∧ Kp (fun j => j = bm) wh wr) (fun v81 _ => n1 - (intOf v81).toNat)
      case atStart => exact ⟨0, rfl, by omega, by simp, HMh.out, Kp.refl _ _⟩
      case round =>
       obtain ⟨k, rfl, hk, hnd, hM, hK⟩ := hrel
       clear HMh
       obtain ⟨wv, rfl⟩ : ∃ wp : World, wp = wr := ⟨_, rfl⟩
       have hbhv := HBh.out.kp hK (fun e => by have := HNh.out; omega)
       have HKv := Lib.hid hK
       by_cases hkn : k < n1
       ·have hkl : k < C.owned.length := by rw [HN1.out]; exact hkn
        have hIw : IntsAt wv a1 C.owned := RowAt.kp (S := fun j => j = bm) (HRW.out _ HKoh.out) hK (fun p hp e => by
         obtain ⟨b, o, e2, hc⟩ := (HRW.out _ (Kp.refl _ wo)).get (j := k) hkl
         rw [hp] at e2
         simp only [Option.some.injEq] at e2
         subst e2
         have h1 := World.block_lt_of_cell? wo _ hc
         have h2 : b = bm := e
         have := HNh.out
         simp at h1
         omega)
        obtain ⟨bl, off, rfl, hcell⟩ := hIw.get (j := k) hkl
        clear hIw
        have hnew := hasF_new HIR.out hkl
        have hxo : gi C.owned k ∈ C.owned := by unfold gi; rw [List.getElem?_eq_getElem hkl]; exact List.getElem_mem hkl
        have hxr := HIR.out.own _ hxo
        have HND := Lib.hid (fun h => nodup_take hkl hnd h)
        have HNN := Lib.hid (fun h => not_nodup (l := C.owned) hkl h)
        have HTk := Lib.hid (take_gi hkl)
        obtain ⟨x, hx⟩ : ∃ x, gi C.owned k = x := ⟨_, rfl⟩
        rw [hx] at hcell hnew hxr HND HNN HTk
        have hxm : x ≤ 100000000 := by have := HM.out; omega
        have x0 : 0 ≤ x := by omega
        have hlook := hM.look (x := x / 2) ⟨by omega, by omega⟩
        have ch : wv.cell? ⟨bh, 0, none⟩ = some (.map (some bm)) := hbhv.cell rfl
        have i0 : (0 : Int) ≤ (k : Int) := by omega
        have i1 : (k : Int) < (n1 : Int) := by omega
        by_cases hin : x ∈ C.owned.take k
        ·rw [hnew, decide_eq_true hin] at hlook
         obtain rfl : code = 7 := by have := HCk.out; rw [if_pos (HNN.out hin)] at this; exact this
         have HE := Lib.hid (HKh.out.trans hK (fun j hj e => by have := HNh.out; omega))
         clear hx hnew hxr hin hM hK hnd hxo hbhv
         go_wp2_with fail
         go_ret
         exact ⟨rfl, HE.out⟩
        ·rw [hnew, decide_eq_false hin] at hlook
         obtain ⟨w9, hput9, hM9, hK9⟩ := hM.put (by have := HOl.out; have := HN1.out; unfold maxLen; omega) (x := x / 2) ⟨by omega, by omega⟩ true
         rw [hasF_snoc, ← HTk.out] at hM9
         have HR := Lib.hid (show ∃ k' : Nat, Value.int .i64 ((k : Int) + 1) = .int .i64 k' ∧ k' ≤ n1 ∧ (C.owned.take k').Nodup ∧ IMB w9 bm (k' + 1) (hasF (C.owned.take k')) ∧ Kp (fun j => j = bm) wh w9 from
          ⟨k + 1, by go_num, by omega, HND.out hin, hM9, hK.trans hK9 (fun _ _ h => h)⟩)
         clear hx hnew hxr hin hM hK hnd hM9 hK9 hxo hbhv
         go_wp2_with fail
         go_roundw
         case rel => exact HR.out
         case measure => simp [intOf]; omega
       ·obtain rfl : k = n1 := by omega
        have HNod := Lib.hid (show C.owned.Nodup by rwa [List.take_of_length_le (by rw [HN1.out]; exact Nat.le_refl _)] at hnd)
        have hM' : IMB wv bm (k + 1) (hasF C.owned) := by rwa [List.take_of_length_le (by rw [HN1.out]; exact Nat.le_refl _)] at hM
        have HKw := Lib.hid (HKh.out.trans hK (fun j hj e => by have := HNh.out; omega))
        have hbov := HBo.out.kp hK (fun e => by have := HNh.out; omega)
        have hbcv := HBCh.out.kp hK (fun e => by have := HNh.out; omega)
        have HBCv := Lib.hid hbcv
        have HCk2 := Lib.hid (show code = if C.used.all (knownB C.owned) = false then 9 else if (ordO C.gates).length < C.gates.length then 8 else 0 by have := HCk.out; rw [if_neg (by simp; exact HNod.out)] at this; exact this)
        have HU := Lib.hid (circ_uses2 (.pointer (some ⟨bo, 0, none⟩)) (.pointer (some ⟨bh, 0, none⟩)) V C bo (fun x => hasF C.owned (x / 2)) (fun u b => Blk u bo #[.bool b] 4 ∧ Blk u bh #[.map (some bm)] 107 ∧ IMB u bm (k + 1) (hasF C.owned)) true w wv HA.out HF.out HKw.out (by have := HNe.out; omega) hbov.lt
         ⟨hbov, hbhv, hM'⟩ (fun u u' b hK hI => ⟨hI.1.kp hK (fun h => h), hI.2.1.kp hK (fun h => h), hI.2.2.kp hK (fun h => h)⟩)
         (fun u x b hx hI => (check_f2 bo bh bm (k + 1) (hasF C.owned) u x b hI.1 hI.2.1 hI.2.2 (HIR.out.use x hx).1 (by have := (HIR.out.use x hx).2; have := HM.out; omega)).mono (by
          rintro e u' ⟨he, rfl⟩
          have hK := Kp.set u ⟨bo, 0, none⟩ (.bool (b && hasF C.owned (x / 2)))
          exact ⟨he, ⟨hI.1.bool _, hI.2.1.kp hK (fun e => by have := HNh.out; have e2 : bh = bo := e; omega), hI.2.2.kp hK (fun e => by have := HNh.out; have e2 : bm = bo := e; omega)⟩, hK⟩)))
        obtain ⟨d0, d1, d2, d3, d4, d5, d6, d7, d8⟩ := hbcv.cells9
        clear hM hM' hbov hbcv hbhv hnd hK HCk
        go_wp2_with fail
        refine HU.out.mono ?_
        rintro e w5 ⟨rfl, ⟨hO5, -, -⟩, hK5⟩
        have HX := Lib.hid (HBCv.out.kp hK5 (fun e => by have := HNe.out; have e2 : bc = bo := e; omega))
        have HK5 := Lib.hid (HKw.out.trans hK5 (fun j hj h => by have := HNe.out; omega))
        obtain ⟨r5, hr5⟩ : ∃ r, (true && C.used.all (fun x => hasF C.owned (x / 2))) = r := ⟨_, rfl⟩
        rw [hr5] at hO5
        have HR5 := Lib.hid (show C.used.all (knownB C.owned) = r5 from by rw [← hr5, Bool.true_and]; rfl)
        have o5 : w5.cell? ⟨bo, 0, none⟩ = some (.bool r5) := hO5.cell rfl
        clear hO5 hK5 hr5 HU d0 d1 d2 d3 d4 d5 d6 d7 d8
        cases r5 with
        |false =>
         obtain rfl : code = 9 := by have := HCk2.out; rw [if_pos HR5.out] at this; exact this
         go_wp2_with fail
         go_ret
         exact ⟨rfl, HK5.out⟩
        |true =>
         have HCk3 := Lib.hid (show code = if (ordO C.gates).length < C.gates.length then 8 else 0 by have := HCk2.out; rw [if_neg (by rw [HR5.out]; simp)] at this; exact this)
         obtain ⟨gn_, hgn⟩ : ∃ g, C.gates.length = g := ⟨_, rfl⟩
         obtain ⟨on_, hon⟩ : ∃ g, (ordO C.gates).length = g := ⟨_, rfl⟩
         have hle : on_ ≤ gn_ := by rw [← hgn, ← hon]; exact (ordO_at C.gates).len
         rw [hgn, hon] at HCk3
         have HGn := Lib.hid hgn
         have HO := Lib.hid (show ∀ u, Kp (fun _ => False) w u → Calls Tryz.prog 76 #[.agg #[.int .i64 C.max, .slice V.ai C.ins.length V.ci, .slice V.al C.lats.length V.cl, .slice V.ao C.outs.length V.co, .slice V.ab C.bads.length V.cb, .slice V.ac C.cons.length V.cc, .slice V.ag gn_ V.cg, .slice V.ay V.ny V.cy, .string V.cm]] u fun e u' => (∃ a c, e = .returned (.slice a on_ c)) ∧ Kp (fun _ => False) u u' from fun u hu => by
          have hor := (circ_Order V C u (HA.out.kp hu) HF.out.g (HIR.out.good HNod.out) (fun i hi => by
           have h1 := HIR.out.own _ (gate_own hi)
           have h2 := HIR.out.use _ (gate_useA hi)
           have h3 := HIR.out.use _ (gate_useB hi)
           have := HM.out
           omega)).mono (R' := fun e u' => (∃ a c, e = .returned (.slice a on_ c)) ∧ Kp (fun _ => False) u u') (by
            rintro e u' ⟨v, rfl, hO, hK⟩
            obtain ⟨a, c, e, -⟩ := hO.form
            rw [nv_length, hon] at e
            exact ⟨⟨a, c, by rw [e]⟩, hK⟩)
          unfold cvals at hor
          rw [hgn] at hor
          exact hor)
         have HXu : Hid (Blk w5 bc #[.int .i64 C.max, .slice V.ai C.ins.length V.ci, .slice V.al C.lats.length V.cl, .slice V.ao C.outs.length V.co, .slice V.ab C.bads.length V.cb, .slice V.ac C.cons.length V.cc, .slice V.ag gn_ V.cg, .slice V.ay V.ny V.cy, .string V.cm] 27) := Lib.hid (by have := HX.out; unfold cvals at this; rw [hgn] at this; exact this)
         clear hgn hon HX
         go_upto_region 28 with fail
         obtain ⟨wy, rfl⟩ : ∃ wy : World, wy = w5 := ⟨_, rfl⟩
         clear o5
         go_cut [99] from 100 to 107 (fun s99 wx => s99 = .bool (decide ((on_ : Int) < (gn_ : Int))) ∧ Kp (fun _ => False) w wx)
         case first =>
          go_region_held3 (fun u => u.cell? ⟨bc, 0, none⟩ = some (.int .i64 C.max) ∧ u.cell? ⟨bc, 1, none⟩ = some (.slice V.ai C.ins.length V.ci) ∧ u.cell? ⟨bc, 2, none⟩ = some (.slice V.al C.lats.length V.cl) ∧ u.cell? ⟨bc, 3, none⟩ = some (.slice V.ao C.outs.length V.co) ∧ u.cell? ⟨bc, 4, none⟩ = some (.slice V.ab C.bads.length V.cb) ∧ u.cell? ⟨bc, 5, none⟩ = some (.slice V.ac C.cons.length V.cc) ∧ u.cell? ⟨bc, 6, none⟩ = some (.slice V.ag gn_ V.cg) ∧ u.cell? ⟨bc, 7, none⟩ = some (.slice V.ay V.ny V.cy) ∧ u.cell? ⟨bc, 8, none⟩ = some (.string V.cm)) (with_reducible first | exact HXu.out.cells9 | exact HXu.out.drew.cells9 | exact HXb.out.cells9 | exact HXb.out.drew.cells9) (((with_reducible refine Calls.mono (HO.out _ (by first | exact HK5.out | exact HK5.out.drew)) ?_); rintro o u2 ⟨⟨a2, c2, rfl⟩, hK6⟩; have HXb := Lib.hid (by first | exact HXu.out.kp hK6 (fun h => h) | exact HXu.out.drew.kp hK6 (fun h => h)); have HKb := Lib.hid (by first | exact HK5.out.trans hK6 (fun _ _ h => h) | exact HK5.out.drew.trans hK6 (fun _ _ h => h)); clear hK6))
          all_goals go_wp2_with fail
          all_goals go_meet
          all_goals exact ⟨by simp, by first | exact HKb.out | exact HKb.out.drew⟩
         case rest =>
         obtain ⟨rfl, hKc⟩ := hcut
         have HKc := Lib.hid hKc
         clear hKc
         by_cases hlt2 : on_ < gn_
         ·obtain rfl : code = 8 := by have := HCk3.out; rw [if_pos hlt2] at this; exact this
          have dd : decide ((on_ : Int) < (gn_ : Int)) = true := decide_eq_true (by omega)
          rw [dd]
          go_wp2_with fail
          go_ret
          exact ⟨rfl, HKc.out⟩
         ·obtain rfl : code = 0 := by have := HCk3.out; rw [if_neg hlt2] at this; exact this
          have dd : decide ((on_ : Int) < (gn_ : Int)) = false := decide_eq_false (by omega)
          rw [dd]
          go_wp2_with fail
          go_ret
          exact ⟨rfl, HKc.out⟩

end Go.Proofs.YtnoknecfdnjomaaGreat

/-
  Nine cells, set one by one. (Out of XAsciiRead.)
-/
namespace Go.Proofs.YtnoknecfdnjomaaGreat
open Go.RowKit

def set9 (w : World) (b : Nat) (y0 y1 y2 y3 y4 y5 y6 y7 y8 : Value) : World :=
  ((((((((w.setCell ⟨b, 0, none⟩ y0).setCell ⟨b, 1, none⟩ y1).setCell ⟨b, 2, none⟩ y2).setCell ⟨b, 3, none⟩ y3).setCell ⟨b, 4, none⟩ y4).setCell ⟨b, 5, none⟩ y5).setCell ⟨b, 6, none⟩ y6).setCell ⟨b, 7, none⟩ y7).setCell ⟨b, 8, none⟩ y8

theorem Blk.set9 {w : World} {b : Nat} {x0 x1 x2 x3 x4 x5 x6 x7 x8 : Value} {t : TypeId} (h : Blk w b #[x0, x1, x2, x3, x4, x5, x6, x7, x8] t) (y0 y1 y2 y3 y4 y5 y6 y7 y8 : Value) :
  Blk (set9 w b y0 y1 y2 y3 y4 y5 y6 y7 y8) b #[y0, y1, y2, y3, y4, y5, y6, y7, y8] t := by
 have h7 := ((((((((h.set_same 0 y0).set_same 1 y1).set_same 2 y2).set_same 3 y3).set_same 4 y4).set_same 5 y5).set_same 6 y6).set_same 7 y7).set_same 8 y8
 unfold Go.Proofs.YtnoknecfdnjomaaGreat.set9
 simpa only [List.setIfInBounds_toArray, List.set_cons_zero, List.set_cons_succ] using h7

theorem Kp.set9 (w : World) (b : Nat) (y0 y1 y2 y3 y4 y5 y6 y7 y8 : Value) : Kp (fun j => j = b) w (set9 w b y0 y1 y2 y3 y4 y5 y6 y7 y8) :=
 (((((((((Kp.refl (fun j => j = b) w).setCell (p := ⟨b, 0, none⟩) (fun _ => rfl) y0).setCell (p := ⟨b, 1, none⟩) (fun _ => rfl) y1).setCell (p := ⟨b, 2, none⟩) (fun _ => rfl) y2).setCell (p := ⟨b, 3, none⟩) (fun _ => rfl) y3).setCell (p := ⟨b, 4, none⟩) (fun _ => rfl) y4).setCell (p := ⟨b, 5, none⟩) (fun _ => rfl) y5).setCell (p := ⟨b, 6, none⟩) (fun _ => rfl) y6).setCell (p := ⟨b, 7, none⟩) (fun _ => rfl) y7).setCell (p := ⟨b, 8, none⟩) (fun _ => rfl) y8


end Go.Proofs.YtnoknecfdnjomaaGreat

/-
  latchetlaw11.Own: a circuit in memory of its own. (Printed by mkown.py.)
-/
namespace Go.Proofs.YtnoknecfdnjomaaGreat
open Go Go.RowKit

def own2V (b1 b3 B : Nat) (V : CV) (C : Circ) (rows : List (List Value)) : List (World → Value → Prop) :=
  [LitV 3, EqV (.pointer (some ⟨b1, 1, none⟩)), SlK (ir C.ins) C.ins.length, SlF B (ir C.ins) C.ins.length, LitV 3, EqV (.pointer (some ⟨b1, 3, none⟩)), SlK (ir C.outs) C.outs.length, SlF B (ir C.outs) C.outs.length, LitV 3, EqV (.pointer (some ⟨b1, 4, none⟩)), SlK (ir C.bads) C.bads.length, SlF B (ir C.bads) C.bads.length, LitV 3, EqV (.pointer (some ⟨b1, 5, none⟩)), SlK (ir C.cons) C.cons.length, SlF B (ir C.cons) C.cons.length, EqV (.pointer (some ⟨b3, 1, none⟩))]

theorem own2V_st (b1 b3 B : Nat) (V : CV) (C : Circ) (rows : List (List Value)) : ∀ W ∈ own2V b1 b3 B V C rows, Stable W := by
 intro W h
 unfold own2V at h
 simp only [List.mem_cons, List.not_mem_nil, or_false] at h
 rcases h with rfl | rfl | rfl | rfl | rfl | rfl | rfl | rfl | rfl | rfl | rfl | rfl | rfl | rfl | rfl | rfl | rfl <;> first | exact LitV.st _ | exact EqV.st _ | exact SlK.st _ _ | exact SlF.st _ _ _

def own3V (b1 b3 B : Nat) (V : CV) (C : Circ) (rows : List (List Value)) : List (World → Value → Prop) :=
  [LitV 64, EqV (.pointer (some ⟨b1, 2, none⟩)), SlK (C.lats.map tri) C.lats.length, SlF B (C.lats.map tri) C.lats.length, LitV 95, EqV (.pointer (some ⟨b1, 6, none⟩)), SlK (C.gates.map tri) C.gates.length, SlF B (C.gates.map tri) C.gates.length, LitV 113, EqV (.pointer (some ⟨b1, 7, none⟩)), SlK rows V.ny, SlF B rows V.ny, EqV (.pointer (some ⟨b3, 2, none⟩))]

theorem own3V_st (b1 b3 B : Nat) (V : CV) (C : Circ) (rows : List (List Value)) : ∀ W ∈ own3V b1 b3 B V C rows, Stable W := by
 intro W h
 unfold own3V at h
 simp only [List.mem_cons, List.not_mem_nil, or_false] at h
 rcases h with rfl | rfl | rfl | rfl | rfl | rfl | rfl | rfl | rfl | rfl | rfl | rfl | rfl <;> first | exact LitV.st _ | exact EqV.st _ | exact SlK.st _ _ | exact SlF.st _ _ _

set_option maxRecDepth 100000 in
set_option maxHeartbeats 8000000 in
theorem law11_OwnY (V : CV) (C : Circ) (w : World) (rows : List (List Value)) (hrows : RowAt w V.ay rows.flatten) (hrl : rows.length = V.ny ∧ (∀ r ∈ rows, r.length = 3) ∧ ∀ r ∈ rows, ∀ u ∈ r, u.oneCell' = true) (h : CAt w V C) (hf : CFew C 1000000) (hy : V.ny ≤ 1000000) :
  Calls Tryz.prog 9 #[.agg (cvals V C)] w fun e w' => ∃ V', e = .returned (.agg (cvals V' C)) ∧ CAt w' V' C ∧ (RowAt w' V'.ay rows.flatten ∧ V'.ny = V.ny ∧ V'.cm = V.cm) ∧ Kp (fun _ => False) w w' := by
 have HA := Lib.hid h
 have HF := Lib.hid hf
 have HY := Lib.hid hy
 have HI := Lib.hid (show (Tryz.prog.info? 3).map (fun i => (i.zero, i.size, i.bytes)) = some (some (.int .i64 0), 1, 8) by kernel_rfl)
 have HIl := Lib.hid (show (Tryz.prog.info? 64).map (fun i => (i.zero, i.size, i.bytes)) = some (some (.agg #[.int .i64 0, .int .i64 0, .int .i64 0]), 3, 24) by kernel_rfl)
 have HIg := Lib.hid (show (Tryz.prog.info? 95).map (fun i => (i.zero, i.size, i.bytes)) = some (some (.agg #[.int .i64 0, .int .i64 0, .int .i64 0]), 3, 24) by kernel_rfl)
 have HIs := Lib.hid (show (Tryz.prog.info? 113).map (fun i => (i.zero, i.size, i.bytes)) = some (some (.agg #[.int .u8 0, .int .i64 0, .string ⟨#[]⟩]), 3, 32) by kernel_rfl)
 have HRows := Lib.hid hrows
 have HRL := Lib.hid hrl
 have HC1 := Lib.hid (Blk.new w (cvals V C) 27)
 obtain ⟨wz, hwz⟩ : ∃ wz : World, wz = (w.alloc (.cells (cvals V C) 27)).alloc (.cells #[.int .i64 0, .slice none 0 0, .slice none 0 0, .slice none 0 0, .slice none 0 0, .slice none 0 0, .slice none 0 0, .slice none 0 0, .string ⟨#[]⟩] 27) := ⟨_, rfl⟩
 have HCz := Lib.hid (show Blk wz w.heap.size (cvals V C) 27 by rw [hwz]; exact HC1.out.alloc _)
 have HBz := Lib.hid (show Blk wz (w.heap.size + 1) #[.int .i64 0, .slice none 0 0, .slice none 0 0, .slice none 0 0, .slice none 0 0, .slice none 0 0, .slice none 0 0, .slice none 0 0, .string ⟨#[]⟩] 27 by rw [hwz]; exact two_blk _ _ _ _ _)
 have HKz := Lib.hid (show Kp (fun _ => False) w wz by rw [hwz]; exact ((Kp.refl _ w).alloc _).alloc _)
 have HSz := Lib.hid (show wz.heap.size = w.heap.size + 2 by rw [hwz]; simp)
 have HZ := Lib.hid hwz
 clear h hf hy hwz hrows hrl
 go_enter Tryz.func9, Tryz.ntmps9
 go_upto_region 1 with fail
 rw [← HZ.out]
 clear HZ
 obtain ⟨d0, d1, d2, d3, d4, d5, d6, d7, d8⟩ := HCz.out.cells9
 go_upto_region 2 with fail
 clear d0 d1 d2 d3 d4 d5 d6 d7 d8
 obtain ⟨w3, hw3⟩ : ∃ w3 : World, w3 = wz.alloc (.cells #[.int .i64 C.max, .slice V.ai C.ins.length V.ci, .slice V.al C.lats.length V.cl, .slice V.ao C.outs.length V.co, .slice V.ab C.bads.length V.cb, .slice V.ac C.cons.length V.cc, .slice V.ag C.gates.length V.cg, .slice V.ay V.ny V.cy, .string V.cm] 27) := ⟨_, rfl⟩
 have HCb := Lib.hid (show Blk w3 w.heap.size (cvals V C) 27 by rw [hw3]; exact HCz.out.alloc _)
 have HBb := Lib.hid (show Blk w3 (w.heap.size + 1) #[.int .i64 0, .slice none 0 0, .slice none 0 0, .slice none 0 0, .slice none 0 0, .slice none 0 0, .slice none 0 0, .slice none 0 0, .string ⟨#[]⟩] 27 by rw [hw3]; exact HBz.out.alloc _)
 have HDown2 := Lib.hid (show Blk w3 wz.heap.size #[.int .i64 C.max, .slice V.ai C.ins.length V.ci, .slice V.al C.lats.length V.cl, .slice V.ao C.outs.length V.co, .slice V.ab C.bads.length V.cb, .slice V.ac C.cons.length V.cc, .slice V.ag C.gates.length V.cg, .slice V.ay V.ny V.cy, .string V.cm] 27 by rw [hw3]; exact Blk.new _ _ _)
 have HKb := Lib.hid (show Kp (fun _ => False) w w3 by rw [hw3]; exact HKz.out.alloc _)
 have HLt := Lib.hid (show wz.heap.size < w3.heap.size by rw [hw3]; simp)
 rw [← hw3]
 clear hw3
 refine wp_region_loose (p := upTo 17) (V := atV (own2V w.heap.size wz.heap.size w3.heap.size V C rows)) (LP := #[true, true, true, true, true, true, true, true, true, true, true, true, true, true, true, true, true, false, false, false, false, false, false, false]) (K := 7) (by kernel_rfl) (by kernel_rfl) (atV_st (own2V_st _ _ _ V C rows)) ?hstepown2 (by kernel_rfl) ?hLPown2 (by kernel_rfl) ?hendown2
 case hLPown2 => exact upTo_spec (by kernel_rfl)
 case hstepown2 =>
  intro i o ho hp a u hk hoff hdep
  have e1 : a.tmps[1]?.getD undef = .pointer (some ⟨w.heap.size, 0, none⟩) := slot_at (hoff 1 (noDst_spec (by kernel_rfl)))
  have e3 : a.tmps[3]?.getD undef = .pointer (some ⟨wz.heap.size, 0, none⟩) := slot_at (hoff 3 (noDst_spec (by kernel_rfl)))
  clear hoff
  match i, ho with
  |0, ho =>
   obtain rfl := Option.some.inj ho
   refine lw_value (v := .slice (some ⟨u.heap.size, 0, none⟩) 0 0) (u' := u.alloc (.cells #[] 3)) ?_ ((Kp.refl _ _).alloc _) ⟨_, rfl, Blk.new _ _ _⟩
   go_simp
  |1, ho =>
   obtain rfl := Option.some.inj ho
   refine lw_value (v := .pointer (some ⟨w.heap.size, 1, none⟩)) (u' := u) ?_ (Kp.refl _ _) rfl
   go_simp
  |2, ho =>
   obtain rfl := Option.some.inj ho
   have e6 : a.tmps[6]?.getD undef = .pointer (some ⟨w.heap.size, 1, none⟩) := slot_at (hdep ⟨1, .data⟩ (by simp) rfl _ 6 rfl rfl)
   have c1 := (HCb.out.kp hk (fun h => h)).cell (i := 1) (v := .slice V.ai C.ins.length V.ci) rfl
   refine lw_value (v := .slice V.ai C.ins.length V.ci) (u' := u) ?_ (Kp.refl _ _) (SlK.of_ints HA.out.fi (HA.out.kp (HKb.out.trans hk (fun _ _ h => h))).i)
   go_simp
  |3, ho =>
   obtain rfl := Option.some.inj ho
   have e5 : LitV 3 u (a.eval (.tmp 5)) := hdep ⟨0, .data⟩ (by simp) rfl _ 5 rfl rfl
   have e7 : SlK (ir C.ins) C.ins.length u (a.eval (.tmp 7)) := hdep ⟨2, .data⟩ (by simp) rfl _ 7 rfl rfl
   exact lw_append (.tmp 5) (.tmp 7) 22 3 rfl Tryz.underlying22 HI.out rfl (by decide) e5 e7 (ir_length _) (ir_len _) (ir_one _) (by have := HF.out.i; unfold maxLen; omega) (by have := HF.out.i; omega) hk.size
  |4, ho =>
   obtain rfl := Option.some.inj ho
   refine lw_value (v := .slice (some ⟨u.heap.size, 0, none⟩) 0 0) (u' := u.alloc (.cells #[] 3)) ?_ ((Kp.refl _ _).alloc _) ⟨_, rfl, Blk.new _ _ _⟩
   go_simp
  |5, ho =>
   obtain rfl := Option.some.inj ho
   refine lw_value (v := .pointer (some ⟨w.heap.size, 3, none⟩)) (u' := u) ?_ (Kp.refl _ _) rfl
   go_simp
  |6, ho =>
   obtain rfl := Option.some.inj ho
   have e6 : a.tmps[10]?.getD undef = .pointer (some ⟨w.heap.size, 3, none⟩) := slot_at (hdep ⟨5, .data⟩ (by simp) rfl _ 10 rfl rfl)
   have c1 := (HCb.out.kp hk (fun h => h)).cell (i := 3) (v := .slice V.ao C.outs.length V.co) rfl
   refine lw_value (v := .slice V.ao C.outs.length V.co) (u' := u) ?_ (Kp.refl _ _) (SlK.of_ints HA.out.fo (HA.out.kp (HKb.out.trans hk (fun _ _ h => h))).o)
   go_simp
  |7, ho =>
   obtain rfl := Option.some.inj ho
   have e5 : LitV 3 u (a.eval (.tmp 9)) := hdep ⟨4, .data⟩ (by simp) rfl _ 9 rfl rfl
   have e7 : SlK (ir C.outs) C.outs.length u (a.eval (.tmp 11)) := hdep ⟨6, .data⟩ (by simp) rfl _ 11 rfl rfl
   exact lw_append (.tmp 9) (.tmp 11) 22 3 rfl Tryz.underlying22 HI.out rfl (by decide) e5 e7 (ir_length _) (ir_len _) (ir_one _) (by have := HF.out.o; unfold maxLen; omega) (by have := HF.out.o; omega) hk.size
  |8, ho =>
   obtain rfl := Option.some.inj ho
   refine lw_value (v := .slice (some ⟨u.heap.size, 0, none⟩) 0 0) (u' := u.alloc (.cells #[] 3)) ?_ ((Kp.refl _ _).alloc _) ⟨_, rfl, Blk.new _ _ _⟩
   go_simp
  |9, ho =>
   obtain rfl := Option.some.inj ho
   refine lw_value (v := .pointer (some ⟨w.heap.size, 4, none⟩)) (u' := u) ?_ (Kp.refl _ _) rfl
   go_simp
  |10, ho =>
   obtain rfl := Option.some.inj ho
   have e6 : a.tmps[14]?.getD undef = .pointer (some ⟨w.heap.size, 4, none⟩) := slot_at (hdep ⟨9, .data⟩ (by simp) rfl _ 14 rfl rfl)
   have c1 := (HCb.out.kp hk (fun h => h)).cell (i := 4) (v := .slice V.ab C.bads.length V.cb) rfl
   refine lw_value (v := .slice V.ab C.bads.length V.cb) (u' := u) ?_ (Kp.refl _ _) (SlK.of_ints HA.out.fb (HA.out.kp (HKb.out.trans hk (fun _ _ h => h))).b)
   go_simp
  |11, ho =>
   obtain rfl := Option.some.inj ho
   have e5 : LitV 3 u (a.eval (.tmp 13)) := hdep ⟨8, .data⟩ (by simp) rfl _ 13 rfl rfl
   have e7 : SlK (ir C.bads) C.bads.length u (a.eval (.tmp 15)) := hdep ⟨10, .data⟩ (by simp) rfl _ 15 rfl rfl
   exact lw_append (.tmp 13) (.tmp 15) 22 3 rfl Tryz.underlying22 HI.out rfl (by decide) e5 e7 (ir_length _) (ir_len _) (ir_one _) (by have := HF.out.b; unfold maxLen; omega) (by have := HF.out.b; omega) hk.size
  |12, ho =>
   obtain rfl := Option.some.inj ho
   refine lw_value (v := .slice (some ⟨u.heap.size, 0, none⟩) 0 0) (u' := u.alloc (.cells #[] 3)) ?_ ((Kp.refl _ _).alloc _) ⟨_, rfl, Blk.new _ _ _⟩
   go_simp
  |13, ho =>
   obtain rfl := Option.some.inj ho
   refine lw_value (v := .pointer (some ⟨w.heap.size, 5, none⟩)) (u' := u) ?_ (Kp.refl _ _) rfl
   go_simp
  |14, ho =>
   obtain rfl := Option.some.inj ho
   have e6 : a.tmps[18]?.getD undef = .pointer (some ⟨w.heap.size, 5, none⟩) := slot_at (hdep ⟨13, .data⟩ (by simp) rfl _ 18 rfl rfl)
   have c1 := (HCb.out.kp hk (fun h => h)).cell (i := 5) (v := .slice V.ac C.cons.length V.cc) rfl
   refine lw_value (v := .slice V.ac C.cons.length V.cc) (u' := u) ?_ (Kp.refl _ _) (SlK.of_ints HA.out.fc (HA.out.kp (HKb.out.trans hk (fun _ _ h => h))).c)
   go_simp
  |15, ho =>
   obtain rfl := Option.some.inj ho
   have e5 : LitV 3 u (a.eval (.tmp 17)) := hdep ⟨12, .data⟩ (by simp) rfl _ 17 rfl rfl
   have e7 : SlK (ir C.cons) C.cons.length u (a.eval (.tmp 19)) := hdep ⟨14, .data⟩ (by simp) rfl _ 19 rfl rfl
   exact lw_append (.tmp 17) (.tmp 19) 22 3 rfl Tryz.underlying22 HI.out rfl (by decide) e5 e7 (ir_length _) (ir_len _) (ir_one _) (by have := HF.out.c; unfold maxLen; omega) (by have := HF.out.c; omega) hk.size
  |16, ho =>
   obtain rfl := Option.some.inj ho
   refine lw_value (v := .pointer (some ⟨wz.heap.size, 1, none⟩)) (u' := u) ?_ (Kp.refl _ _) rfl
   go_simp
  |n + 17, _ => exact absurd hp (by simp [upTo])
 case hendown2 =>
  intro a u hI
  have hsz : a.tmps.size = 41 := hI.size
  have hdf : a.defers = [] := hI.defers
  have f0 := hI.o 0 (by kernel_rfl)
  have f1 := hI.o 1 (by kernel_rfl)
  have f2 := hI.o 2 (by kernel_rfl)
  have f3 := hI.o 3 (by kernel_rfl)
  have f4 := hI.o 4 (by kernel_rfl)
  have f22 := hI.o 22 (by kernel_rfl)
  have f23 := hI.o 23 (by kernel_rfl)
  have f24 := hI.o 24 (by kernel_rfl)
  have f25 := hI.o 25 (by kernel_rfl)
  have f26 := hI.o 26 (by kernel_rfl)
  have f27 := hI.o 27 (by kernel_rfl)
  have f28 := hI.o 28 (by kernel_rfl)
  have f29 := hI.o 29 (by kernel_rfl)
  have f30 := hI.o 30 (by kernel_rfl)
  have f31 := hI.o 31 (by kernel_rfl)
  have f32 := hI.o 32 (by kernel_rfl)
  have f33 := hI.o 33 (by kernel_rfl)
  have f34 := hI.o 34 (by kernel_rfl)
  have f35 := hI.o 35 (by kernel_rfl)
  have f36 := hI.o 36 (by kernel_rfl)
  have f37 := hI.o 37 (by kernel_rfl)
  have f38 := hI.o 38 (by kernel_rfl)
  have f39 := hI.o 39 (by kernel_rfl)
  have f40 := hI.o 40 (by kernel_rfl)
  have g1 : SlF w3.heap.size (ir C.ins) C.ins.length u (a.tmps.getD 8 undef) := hI.val 3 _ 8 rfl rfl rfl
  obtain ⟨a1, p1, f8, -, -, -⟩ := id g1
  rw [f8] at g1
  have g3 : SlF w3.heap.size (ir C.outs) C.outs.length u (a.tmps.getD 12 undef) := hI.val 7 _ 12 rfl rfl rfl
  obtain ⟨a3, p3, f12, -, -, -⟩ := id g3
  rw [f12] at g3
  have g4 : SlF w3.heap.size (ir C.bads) C.bads.length u (a.tmps.getD 16 undef) := hI.val 11 _ 16 rfl rfl rfl
  obtain ⟨a4, p4, f16, -, -, -⟩ := id g4
  rw [f16] at g4
  have g5 : SlF w3.heap.size (ir C.cons) C.cons.length u (a.tmps.getD 20 undef) := hI.val 15 _ 20 rfl rfl rfl
  obtain ⟨a5, p5, f20, -, -, -⟩ := id g5
  rw [f20] at g5
  have f21 : a.tmps.getD 21 undef = .pointer (some ⟨wz.heap.size, 1, none⟩) := hI.val 16 _ 21 rfl rfl rfl
  have ha := act_list41 a hsz
  rw [hdf, f0, f1, f2, f3, f4, f8, f12, f16, f20, f21, f22, f23, f24, f25, f26, f27, f28, f29, f30, f31, f32, f33, f34, f35, f36, f37, f38, f39, f40] at ha
  obtain ⟨x5, hx5⟩ : ∃ x, a.tmps.getD 5 undef = x := ⟨_, rfl⟩
  obtain ⟨x6, hx6⟩ : ∃ x, a.tmps.getD 6 undef = x := ⟨_, rfl⟩
  obtain ⟨x7, hx7⟩ : ∃ x, a.tmps.getD 7 undef = x := ⟨_, rfl⟩
  obtain ⟨x9, hx9⟩ : ∃ x, a.tmps.getD 9 undef = x := ⟨_, rfl⟩
  obtain ⟨x10, hx10⟩ : ∃ x, a.tmps.getD 10 undef = x := ⟨_, rfl⟩
  obtain ⟨x11, hx11⟩ : ∃ x, a.tmps.getD 11 undef = x := ⟨_, rfl⟩
  obtain ⟨x13, hx13⟩ : ∃ x, a.tmps.getD 13 undef = x := ⟨_, rfl⟩
  obtain ⟨x14, hx14⟩ : ∃ x, a.tmps.getD 14 undef = x := ⟨_, rfl⟩
  obtain ⟨x15, hx15⟩ : ∃ x, a.tmps.getD 15 undef = x := ⟨_, rfl⟩
  obtain ⟨x17, hx17⟩ : ∃ x, a.tmps.getD 17 undef = x := ⟨_, rfl⟩
  obtain ⟨x18, hx18⟩ : ∃ x, a.tmps.getD 18 undef = x := ⟨_, rfl⟩
  obtain ⟨x19, hx19⟩ : ∃ x, a.tmps.getD 19 undef = x := ⟨_, rfl⟩
  rw [hx5, hx6, hx7, hx9, hx10, hx11, hx13, hx14, hx15, hx17, hx18, hx19] at ha
  have hku := hI.kp
  have hB := HDown2.out.kp hku (fun h => h)
  clear hI hsz hdf f0 f1 f2 f3 f4 f8 f12 f16 f20 f21 f22 f23 f24 f25 f26 f27 f28 f29 f30 f31 f32 f33 f34 f35 f36 f37 f38 f39 f40 hx5 hx6 hx7 hx9 hx10 hx11 hx13 hx14 hx15 hx17 hx18 hx19
  subst ha
  have cs := hB.cell (i := 1) (v := .slice V.ai C.ins.length V.ci) rfl
  have fs := hB.free 1
  have hB' : Blk (u.setCell ⟨wz.heap.size, 1, none⟩ (.slice a1 C.ins.length p1)) wz.heap.size #[.int .i64 C.max, .slice a1 C.ins.length p1, .slice V.al C.lats.length V.cl, .slice V.ao C.outs.length V.co, .slice V.ab C.bads.length V.cb, .slice V.ac C.cons.length V.cc, .slice V.ag C.gates.length V.cg, .slice V.ay V.ny V.cy, .string V.cm] 27 := hB.set_same 1 (.slice a1 C.ins.length p1)
  have hk' : Kp (fun j => j = wz.heap.size) w3 (u.setCell ⟨wz.heap.size, 1, none⟩ (.slice a1 C.ins.length p1)) := (hku.mono (fun _ _ h => h.elim)).setCell (S := fun j => j = wz.heap.size) (p := ⟨wz.heap.size, 1, none⟩) (fun _ => rfl) _
  have hkk := Kp.set u ⟨wz.heap.size, 1, none⟩ (.slice a1 C.ins.length p1)
  refine wpAny_ready (rs := [17]) (by kernel_rfl) (by simp) ?_
  refine AllReady.cons (o := _) rfl (fun K1 hK1 => ?_) AllReady.nil
  go_simp
  refine hK1 _ _ ?_
  clear hK1 K1 cs fs hB hku
  have g1' := SlF.kp g1 hkk (fun j hj => by have hj2 : j = wz.heap.size := hj; have := HLt.out; omega)
  clear g1
  have g1 := g1'
  clear g1'
  have g3' := SlF.kp g3 hkk (fun j hj => by have hj2 : j = wz.heap.size := hj; have := HLt.out; omega)
  clear g3
  have g3 := g3'
  clear g3'
  have g4' := SlF.kp g4 hkk (fun j hj => by have hj2 : j = wz.heap.size := hj; have := HLt.out; omega)
  clear g4
  have g4 := g4'
  clear g4'
  have g5' := SlF.kp g5 hkk (fun j hj => by have hj2 : j = wz.heap.size := hj; have := HLt.out; omega)
  clear g5
  have g5 := g5'
  clear g5'
  clear hkk
  generalize u.setCell ⟨wz.heap.size, 1, none⟩ (.slice a1 C.ins.length p1) = u2 at hB' hk' g1 g3 g4 g5 ⊢
  obtain ⟨u, rfl⟩ : ∃ u, u = u2 := ⟨_, rfl⟩
  have hB := hB'
  have hku := hk'
  clear hB' hk'
  try simp only [Act.put, List.setIfInBounds_toArray, List.set_cons_zero, List.set_cons_succ]
  refine wpAny_ready (rs := [18]) (by kernel_rfl) (by simp) ?_
  refine AllReady.cons (o := _) rfl (fun K1 hK1 => ?_) AllReady.nil
  go_simp
  refine hK1 _ _ ?_
  clear hK1 K1
  try simp only [Act.put, List.setIfInBounds_toArray, List.set_cons_zero, List.set_cons_succ]
  have cs := hB.cell (i := 3) (v := .slice V.ao C.outs.length V.co) rfl
  have fs := hB.free 3
  have hB' : Blk (u.setCell ⟨wz.heap.size, 3, none⟩ (.slice a3 C.outs.length p3)) wz.heap.size #[.int .i64 C.max, .slice a1 C.ins.length p1, .slice V.al C.lats.length V.cl, .slice a3 C.outs.length p3, .slice V.ab C.bads.length V.cb, .slice V.ac C.cons.length V.cc, .slice V.ag C.gates.length V.cg, .slice V.ay V.ny V.cy, .string V.cm] 27 := hB.set_same 3 (.slice a3 C.outs.length p3)
  have hk' : Kp (fun j => j = wz.heap.size) w3 (u.setCell ⟨wz.heap.size, 3, none⟩ (.slice a3 C.outs.length p3)) := hku.setCell (S := fun j => j = wz.heap.size) (p := ⟨wz.heap.size, 3, none⟩) (fun _ => rfl) _
  have hkk := Kp.set u ⟨wz.heap.size, 3, none⟩ (.slice a3 C.outs.length p3)
  refine wpAny_ready (rs := [19]) (by kernel_rfl) (by simp) ?_
  refine AllReady.cons (o := _) rfl (fun K1 hK1 => ?_) AllReady.nil
  go_simp
  refine hK1 _ _ ?_
  clear hK1 K1 cs fs hB hku
  have g1' := SlF.kp g1 hkk (fun j hj => by have hj2 : j = wz.heap.size := hj; have := HLt.out; omega)
  clear g1
  have g1 := g1'
  clear g1'
  have g3' := SlF.kp g3 hkk (fun j hj => by have hj2 : j = wz.heap.size := hj; have := HLt.out; omega)
  clear g3
  have g3 := g3'
  clear g3'
  have g4' := SlF.kp g4 hkk (fun j hj => by have hj2 : j = wz.heap.size := hj; have := HLt.out; omega)
  clear g4
  have g4 := g4'
  clear g4'
  have g5' := SlF.kp g5 hkk (fun j hj => by have hj2 : j = wz.heap.size := hj; have := HLt.out; omega)
  clear g5
  have g5 := g5'
  clear g5'
  clear hkk
  generalize u.setCell ⟨wz.heap.size, 3, none⟩ (.slice a3 C.outs.length p3) = u2 at hB' hk' g1 g3 g4 g5 ⊢
  obtain ⟨u, rfl⟩ : ∃ u, u = u2 := ⟨_, rfl⟩
  have hB := hB'
  have hku := hk'
  clear hB' hk'
  try simp only [Act.put, List.setIfInBounds_toArray, List.set_cons_zero, List.set_cons_succ]
  refine wpAny_ready (rs := [20]) (by kernel_rfl) (by simp) ?_
  refine AllReady.cons (o := _) rfl (fun K1 hK1 => ?_) AllReady.nil
  go_simp
  refine hK1 _ _ ?_
  clear hK1 K1
  try simp only [Act.put, List.setIfInBounds_toArray, List.set_cons_zero, List.set_cons_succ]
  have cs := hB.cell (i := 4) (v := .slice V.ab C.bads.length V.cb) rfl
  have fs := hB.free 4
  have hB' : Blk (u.setCell ⟨wz.heap.size, 4, none⟩ (.slice a4 C.bads.length p4)) wz.heap.size #[.int .i64 C.max, .slice a1 C.ins.length p1, .slice V.al C.lats.length V.cl, .slice a3 C.outs.length p3, .slice a4 C.bads.length p4, .slice V.ac C.cons.length V.cc, .slice V.ag C.gates.length V.cg, .slice V.ay V.ny V.cy, .string V.cm] 27 := hB.set_same 4 (.slice a4 C.bads.length p4)
  have hk' : Kp (fun j => j = wz.heap.size) w3 (u.setCell ⟨wz.heap.size, 4, none⟩ (.slice a4 C.bads.length p4)) := hku.setCell (S := fun j => j = wz.heap.size) (p := ⟨wz.heap.size, 4, none⟩) (fun _ => rfl) _
  have hkk := Kp.set u ⟨wz.heap.size, 4, none⟩ (.slice a4 C.bads.length p4)
  refine wpAny_ready (rs := [21]) (by kernel_rfl) (by simp) ?_
  refine AllReady.cons (o := _) rfl (fun K1 hK1 => ?_) AllReady.nil
  go_simp
  refine hK1 _ _ ?_
  clear hK1 K1 cs fs hB hku
  have g1' := SlF.kp g1 hkk (fun j hj => by have hj2 : j = wz.heap.size := hj; have := HLt.out; omega)
  clear g1
  have g1 := g1'
  clear g1'
  have g3' := SlF.kp g3 hkk (fun j hj => by have hj2 : j = wz.heap.size := hj; have := HLt.out; omega)
  clear g3
  have g3 := g3'
  clear g3'
  have g4' := SlF.kp g4 hkk (fun j hj => by have hj2 : j = wz.heap.size := hj; have := HLt.out; omega)
  clear g4
  have g4 := g4'
  clear g4'
  have g5' := SlF.kp g5 hkk (fun j hj => by have hj2 : j = wz.heap.size := hj; have := HLt.out; omega)
  clear g5
  have g5 := g5'
  clear g5'
  clear hkk
  generalize u.setCell ⟨wz.heap.size, 4, none⟩ (.slice a4 C.bads.length p4) = u2 at hB' hk' g1 g3 g4 g5 ⊢
  obtain ⟨u, rfl⟩ : ∃ u, u = u2 := ⟨_, rfl⟩
  have hB := hB'
  have hku := hk'
  clear hB' hk'
  try simp only [Act.put, List.setIfInBounds_toArray, List.set_cons_zero, List.set_cons_succ]
  refine wpAny_ready (rs := [22]) (by kernel_rfl) (by simp) ?_
  refine AllReady.cons (o := _) rfl (fun K1 hK1 => ?_) AllReady.nil
  go_simp
  refine hK1 _ _ ?_
  clear hK1 K1
  try simp only [Act.put, List.setIfInBounds_toArray, List.set_cons_zero, List.set_cons_succ]
  have cs := hB.cell (i := 5) (v := .slice V.ac C.cons.length V.cc) rfl
  have fs := hB.free 5
  have hB' : Blk (u.setCell ⟨wz.heap.size, 5, none⟩ (.slice a5 C.cons.length p5)) wz.heap.size #[.int .i64 C.max, .slice a1 C.ins.length p1, .slice V.al C.lats.length V.cl, .slice a3 C.outs.length p3, .slice a4 C.bads.length p4, .slice a5 C.cons.length p5, .slice V.ag C.gates.length V.cg, .slice V.ay V.ny V.cy, .string V.cm] 27 := hB.set_same 5 (.slice a5 C.cons.length p5)
  have hk' : Kp (fun j => j = wz.heap.size) w3 (u.setCell ⟨wz.heap.size, 5, none⟩ (.slice a5 C.cons.length p5)) := hku.setCell (S := fun j => j = wz.heap.size) (p := ⟨wz.heap.size, 5, none⟩) (fun _ => rfl) _
  have hkk := Kp.set u ⟨wz.heap.size, 5, none⟩ (.slice a5 C.cons.length p5)
  refine wpAny_ready (rs := [23]) (by kernel_rfl) (by simp) ?_
  refine AllReady.cons (o := _) rfl (fun K1 hK1 => ?_) AllReady.nil
  go_simp
  refine hK1 _ _ ?_
  clear hK1 K1 cs fs hB hku
  have g1' := SlF.kp g1 hkk (fun j hj => by have hj2 : j = wz.heap.size := hj; have := HLt.out; omega)
  clear g1
  have g1 := g1'
  clear g1'
  have g3' := SlF.kp g3 hkk (fun j hj => by have hj2 : j = wz.heap.size := hj; have := HLt.out; omega)
  clear g3
  have g3 := g3'
  clear g3'
  have g4' := SlF.kp g4 hkk (fun j hj => by have hj2 : j = wz.heap.size := hj; have := HLt.out; omega)
  clear g4
  have g4 := g4'
  clear g4'
  have g5' := SlF.kp g5 hkk (fun j hj => by have hj2 : j = wz.heap.size := hj; have := HLt.out; omega)
  clear g5
  have g5 := g5'
  clear g5'
  clear hkk
  generalize u.setCell ⟨wz.heap.size, 5, none⟩ (.slice a5 C.cons.length p5) = u2 at hB' hk' g1 g3 g4 g5 ⊢
  obtain ⟨u, rfl⟩ : ∃ u, u = u2 := ⟨_, rfl⟩
  have hB := hB'
  have hku := hk'
  clear hB' hk'
  try simp only [Act.put, List.setIfInBounds_toArray, List.set_cons_zero, List.set_cons_succ]
  refine wpAny_done (by kernel_rfl) ?_ _
  obtain ⟨w4, rfl⟩ : ∃ w4 : World, w4 = u := ⟨_, rfl⟩
  have HK34 := Lib.hid hku
  have HKb4 := Lib.hid (HKb.out.trans hku (fun j hj e => by have := HSz.out; have e2 : j = wz.heap.size := e; omega))
  have HCb4 := Lib.hid (HCb.out.kp hku (fun e => by have := HSz.out; have e2 : w.heap.size = wz.heap.size := e; omega))
  have HBb4 := Lib.hid (HBb.out.kp hku (fun e => by have := HSz.out; have e2 : w.heap.size + 1 = wz.heap.size := e; omega))
  have HDown3 := Lib.hid hB
  have HLt4 := Lib.hid (show wz.heap.size < w4.heap.size by have := HLt.out; have := HK34.out.size; omega)
  have HG := Lib.hid (And.intro g1 (And.intro g3 (And.intro g4 g5)))
  have HLe := Lib.hid HK34.out.size
  clear hku hB g1 g3 g4 g5 HKb HCb HBb HK34
  have HKb := HKb4
  have HCb := HCb4
  have HBb := HBb4
  have HLt0 := HLt
  clear HKb4 HCb4 HBb4 HLt
  have HLt := HLt4
  clear HLt4
  go_upto_region 3 with fail
  refine wp_region_loose (p := upTo 13) (V := atV (own3V w.heap.size wz.heap.size w4.heap.size V C rows)) (LP := #[true, true, true, true, true, true, true, true, true, true, true, true, true, false, false, false, false, false]) (K := 5) (by kernel_rfl) (by kernel_rfl) (atV_st (own3V_st _ _ _ V C rows)) ?hstepown3 (by kernel_rfl) ?hLPown3 (by kernel_rfl) ?hendown3
  case hLPown3 => exact upTo_spec (by kernel_rfl)
  case hstepown3 =>
   intro i o ho hp a u hk hoff hdep
   have e1 : a.tmps[1]?.getD undef = .pointer (some ⟨w.heap.size, 0, none⟩) := slot_at (hoff 1 (noDst_spec (by kernel_rfl)))
   have e3 : a.tmps[3]?.getD undef = .pointer (some ⟨wz.heap.size, 0, none⟩) := slot_at (hoff 3 (noDst_spec (by kernel_rfl)))
   clear hoff
   match i, ho with
   |0, ho =>
    obtain rfl := Option.some.inj ho
    refine lw_value (v := .slice (some ⟨u.heap.size, 0, none⟩) 0 0) (u' := u.alloc (.cells #[] 64)) ?_ ((Kp.refl _ _).alloc _) ⟨_, rfl, Blk.new _ _ _⟩
    go_simp
   |1, ho =>
    obtain rfl := Option.some.inj ho
    refine lw_value (v := .pointer (some ⟨w.heap.size, 2, none⟩)) (u' := u) ?_ (Kp.refl _ _) rfl
    go_simp
   |2, ho =>
    obtain rfl := Option.some.inj ho
    have e6 : a.tmps[26]?.getD undef = .pointer (some ⟨w.heap.size, 2, none⟩) := slot_at (hdep ⟨1, .data⟩ (by simp) rfl _ 26 rfl rfl)
    have c1 := (HCb.out.kp hk (fun h => h)).cell (i := 2) (v := .slice V.al C.lats.length V.cl) rfl
    refine lw_value (v := .slice V.al C.lats.length V.cl) (u' := u) ?_ (Kp.refl _ _) ⟨_, _, rfl, HA.out.fl, (HA.out.kp (HKb.out.trans hk (fun _ _ h => h))).l⟩
    go_simp
   |3, ho =>
    obtain rfl := Option.some.inj ho
    have e5 : LitV 64 u (a.eval (.tmp 25)) := hdep ⟨0, .data⟩ (by simp) rfl _ 25 rfl rfl
    have e7 : SlK (C.lats.map tri) C.lats.length u (a.eval (.tmp 27)) := hdep ⟨2, .data⟩ (by simp) rfl _ 27 rfl rfl
    exact lw_append (.tmp 25) (.tmp 27) 23 64 rfl Tryz.underlying23 HIl.out rfl (by decide) e5 e7 (List.length_map ..) (tri_len _) (tri_one _) (by have := HF.out.l; unfold maxLen; omega) (by have := HF.out.l; omega) hk.size
   |4, ho =>
    obtain rfl := Option.some.inj ho
    refine lw_value (v := .slice (some ⟨u.heap.size, 0, none⟩) 0 0) (u' := u.alloc (.cells #[] 95)) ?_ ((Kp.refl _ _).alloc _) ⟨_, rfl, Blk.new _ _ _⟩
    go_simp
   |5, ho =>
    obtain rfl := Option.some.inj ho
    refine lw_value (v := .pointer (some ⟨w.heap.size, 6, none⟩)) (u' := u) ?_ (Kp.refl _ _) rfl
    go_simp
   |6, ho =>
    obtain rfl := Option.some.inj ho
    have e6 : a.tmps[30]?.getD undef = .pointer (some ⟨w.heap.size, 6, none⟩) := slot_at (hdep ⟨5, .data⟩ (by simp) rfl _ 30 rfl rfl)
    have c1 := (HCb.out.kp hk (fun h => h)).cell (i := 6) (v := .slice V.ag C.gates.length V.cg) rfl
    refine lw_value (v := .slice V.ag C.gates.length V.cg) (u' := u) ?_ (Kp.refl _ _) ⟨_, _, rfl, HA.out.fg, (HA.out.kp (HKb.out.trans hk (fun _ _ h => h))).g⟩
    go_simp
   |7, ho =>
    obtain rfl := Option.some.inj ho
    have e5 : LitV 95 u (a.eval (.tmp 29)) := hdep ⟨4, .data⟩ (by simp) rfl _ 29 rfl rfl
    have e7 : SlK (C.gates.map tri) C.gates.length u (a.eval (.tmp 31)) := hdep ⟨6, .data⟩ (by simp) rfl _ 31 rfl rfl
    exact lw_append (.tmp 29) (.tmp 31) 24 95 rfl Tryz.underlying24 HIg.out rfl (by decide) e5 e7 (List.length_map ..) (tri_len _) (tri_one _) (by have := HF.out.g; unfold maxLen; omega) (by have := HF.out.g; omega) hk.size
   |8, ho =>
    obtain rfl := Option.some.inj ho
    refine lw_value (v := .slice (some ⟨u.heap.size, 0, none⟩) 0 0) (u' := u.alloc (.cells #[] 113)) ?_ ((Kp.refl _ _).alloc _) ⟨_, rfl, Blk.new _ _ _⟩
    go_simp
   |9, ho =>
    obtain rfl := Option.some.inj ho
    refine lw_value (v := .pointer (some ⟨w.heap.size, 7, none⟩)) (u' := u) ?_ (Kp.refl _ _) rfl
    go_simp
   |10, ho =>
    obtain rfl := Option.some.inj ho
    have e6 : a.tmps[34]?.getD undef = .pointer (some ⟨w.heap.size, 7, none⟩) := slot_at (hdep ⟨9, .data⟩ (by simp) rfl _ 34 rfl rfl)
    have c1 := (HCb.out.kp hk (fun h => h)).cell (i := 7) (v := .slice V.ay V.ny V.cy) rfl
    refine lw_value (v := .slice V.ay V.ny V.cy) (u' := u) ?_ (Kp.refl _ _) ⟨_, _, rfl, HA.out.fy, HRows.out.kp (HKb.out.trans hk (fun _ _ h => h)) (fun _ _ h => h)⟩
    go_simp
   |11, ho =>
    obtain rfl := Option.some.inj ho
    have e5 : LitV 113 u (a.eval (.tmp 33)) := hdep ⟨8, .data⟩ (by simp) rfl _ 33 rfl rfl
    have e7 : SlK rows V.ny u (a.eval (.tmp 35)) := hdep ⟨10, .data⟩ (by simp) rfl _ 35 rfl rfl
    exact lw_append (.tmp 33) (.tmp 35) 25 113 rfl Tryz.underlying25 HIs.out rfl (by decide) e5 e7 HRL.out.1 HRL.out.2.1 HRL.out.2.2 (by have := HY.out; unfold maxLen; omega) (by have := HY.out; omega) hk.size
   |12, ho =>
    obtain rfl := Option.some.inj ho
    refine lw_value (v := .pointer (some ⟨wz.heap.size, 2, none⟩)) (u' := u) ?_ (Kp.refl _ _) rfl
    go_simp
   |n + 13, _ => exact absurd hp (by simp [upTo])
  case hendown3 =>
   intro a u hI
   have hsz : a.tmps.size = 41 := hI.size
   have hdf : a.defers = [] := hI.defers
   have f0 := hI.o 0 (by kernel_rfl)
   have f1 := hI.o 1 (by kernel_rfl)
   have f2 := hI.o 2 (by kernel_rfl)
   have f3 := hI.o 3 (by kernel_rfl)
   have f4 := hI.o 4 (by kernel_rfl)
   have f5 := hI.o 5 (by kernel_rfl)
   have f6 := hI.o 6 (by kernel_rfl)
   have f7 := hI.o 7 (by kernel_rfl)
   have f8 := hI.o 8 (by kernel_rfl)
   have f9 := hI.o 9 (by kernel_rfl)
   have f10 := hI.o 10 (by kernel_rfl)
   have f11 := hI.o 11 (by kernel_rfl)
   have f12 := hI.o 12 (by kernel_rfl)
   have f13 := hI.o 13 (by kernel_rfl)
   have f14 := hI.o 14 (by kernel_rfl)
   have f15 := hI.o 15 (by kernel_rfl)
   have f16 := hI.o 16 (by kernel_rfl)
   have f17 := hI.o 17 (by kernel_rfl)
   have f18 := hI.o 18 (by kernel_rfl)
   have f19 := hI.o 19 (by kernel_rfl)
   have f20 := hI.o 20 (by kernel_rfl)
   have f21 := hI.o 21 (by kernel_rfl)
   have f22 := hI.o 22 (by kernel_rfl)
   have f23 := hI.o 23 (by kernel_rfl)
   have f24 := hI.o 24 (by kernel_rfl)
   have f38 := hI.o 38 (by kernel_rfl)
   have f39 := hI.o 39 (by kernel_rfl)
   have f40 := hI.o 40 (by kernel_rfl)
   have g2 : SlF w4.heap.size (C.lats.map tri) C.lats.length u (a.tmps.getD 28 undef) := hI.val 3 _ 28 rfl rfl rfl
   obtain ⟨a2, p2, f28, -, -, -⟩ := id g2
   rw [f28] at g2
   have g6 : SlF w4.heap.size (C.gates.map tri) C.gates.length u (a.tmps.getD 32 undef) := hI.val 7 _ 32 rfl rfl rfl
   obtain ⟨a6, p6, f32, -, -, -⟩ := id g6
   rw [f32] at g6
   have g7 : SlF w4.heap.size rows V.ny u (a.tmps.getD 36 undef) := hI.val 11 _ 36 rfl rfl rfl
   obtain ⟨a7, p7, f36, -, -, -⟩ := id g7
   rw [f36] at g7
   have f37 : a.tmps.getD 37 undef = .pointer (some ⟨wz.heap.size, 2, none⟩) := hI.val 12 _ 37 rfl rfl rfl
   have ha := act_list41 a hsz
   rw [hdf, f0, f1, f2, f3, f4, f5, f6, f7, f8, f9, f10, f11, f12, f13, f14, f15, f16, f17, f18, f19, f20, f21, f22, f23, f24, f28, f32, f36, f37, f38, f39, f40] at ha
   obtain ⟨x25, hx25⟩ : ∃ x, a.tmps.getD 25 undef = x := ⟨_, rfl⟩
   obtain ⟨x26, hx26⟩ : ∃ x, a.tmps.getD 26 undef = x := ⟨_, rfl⟩
   obtain ⟨x27, hx27⟩ : ∃ x, a.tmps.getD 27 undef = x := ⟨_, rfl⟩
   obtain ⟨x29, hx29⟩ : ∃ x, a.tmps.getD 29 undef = x := ⟨_, rfl⟩
   obtain ⟨x30, hx30⟩ : ∃ x, a.tmps.getD 30 undef = x := ⟨_, rfl⟩
   obtain ⟨x31, hx31⟩ : ∃ x, a.tmps.getD 31 undef = x := ⟨_, rfl⟩
   obtain ⟨x33, hx33⟩ : ∃ x, a.tmps.getD 33 undef = x := ⟨_, rfl⟩
   obtain ⟨x34, hx34⟩ : ∃ x, a.tmps.getD 34 undef = x := ⟨_, rfl⟩
   obtain ⟨x35, hx35⟩ : ∃ x, a.tmps.getD 35 undef = x := ⟨_, rfl⟩
   rw [hx25, hx26, hx27, hx29, hx30, hx31, hx33, hx34, hx35] at ha
   have hku := hI.kp
   have hB := HDown3.out.kp hku (fun h => h)
   clear hI hsz hdf f0 f1 f2 f3 f4 f5 f6 f7 f8 f9 f10 f11 f12 f13 f14 f15 f16 f17 f18 f19 f20 f21 f22 f23 f24 f28 f32 f36 f37 f38 f39 f40 hx25 hx26 hx27 hx29 hx30 hx31 hx33 hx34 hx35
   subst ha
   have cs := hB.cell (i := 2) (v := .slice V.al C.lats.length V.cl) rfl
   have fs := hB.free 2
   have hB' : Blk (u.setCell ⟨wz.heap.size, 2, none⟩ (.slice a2 C.lats.length p2)) wz.heap.size #[.int .i64 C.max, .slice a1 C.ins.length p1, .slice a2 C.lats.length p2, .slice a3 C.outs.length p3, .slice a4 C.bads.length p4, .slice a5 C.cons.length p5, .slice V.ag C.gates.length V.cg, .slice V.ay V.ny V.cy, .string V.cm] 27 := hB.set_same 2 (.slice a2 C.lats.length p2)
   have hk' : Kp (fun j => j = wz.heap.size) w4 (u.setCell ⟨wz.heap.size, 2, none⟩ (.slice a2 C.lats.length p2)) := (hku.mono (fun _ _ h => h.elim)).setCell (S := fun j => j = wz.heap.size) (p := ⟨wz.heap.size, 2, none⟩) (fun _ => rfl) _
   have hkk := Kp.set u ⟨wz.heap.size, 2, none⟩ (.slice a2 C.lats.length p2)
   refine wpAny_ready (rs := [13]) (by kernel_rfl) (by simp) ?_
   refine AllReady.cons (o := _) rfl (fun K1 hK1 => ?_) AllReady.nil
   go_simp
   refine hK1 _ _ ?_
   clear hK1 K1 cs fs hB hku
   have g2' := SlF.kp g2 hkk (fun j hj => by have hj2 : j = wz.heap.size := hj; have := HLt.out; omega)
   clear g2
   have g2 := g2'
   clear g2'
   have g6' := SlF.kp g6 hkk (fun j hj => by have hj2 : j = wz.heap.size := hj; have := HLt.out; omega)
   clear g6
   have g6 := g6'
   clear g6'
   have g7' := SlF.kp g7 hkk (fun j hj => by have hj2 : j = wz.heap.size := hj; have := HLt.out; omega)
   clear g7
   have g7 := g7'
   clear g7'
   clear hkk
   generalize u.setCell ⟨wz.heap.size, 2, none⟩ (.slice a2 C.lats.length p2) = u2 at hB' hk' g2 g6 g7 ⊢
   obtain ⟨u, rfl⟩ : ∃ u, u = u2 := ⟨_, rfl⟩
   have hB := hB'
   have hku := hk'
   clear hB' hk'
   try simp only [Act.put, List.setIfInBounds_toArray, List.set_cons_zero, List.set_cons_succ]
   refine wpAny_ready (rs := [14]) (by kernel_rfl) (by simp) ?_
   refine AllReady.cons (o := _) rfl (fun K1 hK1 => ?_) AllReady.nil
   go_simp
   refine hK1 _ _ ?_
   clear hK1 K1
   try simp only [Act.put, List.setIfInBounds_toArray, List.set_cons_zero, List.set_cons_succ]
   have cs := hB.cell (i := 6) (v := .slice V.ag C.gates.length V.cg) rfl
   have fs := hB.free 6
   have hB' : Blk (u.setCell ⟨wz.heap.size, 6, none⟩ (.slice a6 C.gates.length p6)) wz.heap.size #[.int .i64 C.max, .slice a1 C.ins.length p1, .slice a2 C.lats.length p2, .slice a3 C.outs.length p3, .slice a4 C.bads.length p4, .slice a5 C.cons.length p5, .slice a6 C.gates.length p6, .slice V.ay V.ny V.cy, .string V.cm] 27 := hB.set_same 6 (.slice a6 C.gates.length p6)
   have hk' : Kp (fun j => j = wz.heap.size) w4 (u.setCell ⟨wz.heap.size, 6, none⟩ (.slice a6 C.gates.length p6)) := hku.setCell (S := fun j => j = wz.heap.size) (p := ⟨wz.heap.size, 6, none⟩) (fun _ => rfl) _
   have hkk := Kp.set u ⟨wz.heap.size, 6, none⟩ (.slice a6 C.gates.length p6)
   refine wpAny_ready (rs := [15]) (by kernel_rfl) (by simp) ?_
   refine AllReady.cons (o := _) rfl (fun K1 hK1 => ?_) AllReady.nil
   go_simp
   refine hK1 _ _ ?_
   clear hK1 K1 cs fs hB hku
   have g2' := SlF.kp g2 hkk (fun j hj => by have hj2 : j = wz.heap.size := hj; have := HLt.out; omega)
   clear g2
   have g2 := g2'
   clear g2'
   have g6' := SlF.kp g6 hkk (fun j hj => by have hj2 : j = wz.heap.size := hj; have := HLt.out; omega)
   clear g6
   have g6 := g6'
   clear g6'
   have g7' := SlF.kp g7 hkk (fun j hj => by have hj2 : j = wz.heap.size := hj; have := HLt.out; omega)
   clear g7
   have g7 := g7'
   clear g7'
   clear hkk
   generalize u.setCell ⟨wz.heap.size, 6, none⟩ (.slice a6 C.gates.length p6) = u2 at hB' hk' g2 g6 g7 ⊢
   obtain ⟨u, rfl⟩ : ∃ u, u = u2 := ⟨_, rfl⟩
   have hB := hB'
   have hku := hk'
   clear hB' hk'
   try simp only [Act.put, List.setIfInBounds_toArray, List.set_cons_zero, List.set_cons_succ]
   refine wpAny_ready (rs := [16]) (by kernel_rfl) (by simp) ?_
   refine AllReady.cons (o := _) rfl (fun K1 hK1 => ?_) AllReady.nil
   go_simp
   refine hK1 _ _ ?_
   clear hK1 K1
   try simp only [Act.put, List.setIfInBounds_toArray, List.set_cons_zero, List.set_cons_succ]
   have cs := hB.cell (i := 7) (v := .slice V.ay V.ny V.cy) rfl
   have fs := hB.free 7
   have hB' : Blk (u.setCell ⟨wz.heap.size, 7, none⟩ (.slice a7 V.ny p7)) wz.heap.size #[.int .i64 C.max, .slice a1 C.ins.length p1, .slice a2 C.lats.length p2, .slice a3 C.outs.length p3, .slice a4 C.bads.length p4, .slice a5 C.cons.length p5, .slice a6 C.gates.length p6, .slice a7 V.ny p7, .string V.cm] 27 := hB.set_same 7 (.slice a7 V.ny p7)
   have hk' : Kp (fun j => j = wz.heap.size) w4 (u.setCell ⟨wz.heap.size, 7, none⟩ (.slice a7 V.ny p7)) := hku.setCell (S := fun j => j = wz.heap.size) (p := ⟨wz.heap.size, 7, none⟩) (fun _ => rfl) _
   have hkk := Kp.set u ⟨wz.heap.size, 7, none⟩ (.slice a7 V.ny p7)
   refine wpAny_ready (rs := [17]) (by kernel_rfl) (by simp) ?_
   refine AllReady.cons (o := _) rfl (fun K1 hK1 => ?_) AllReady.nil
   go_simp
   refine hK1 _ _ ?_
   clear hK1 K1 cs fs hB hku
   have g2' := SlF.kp g2 hkk (fun j hj => by have hj2 : j = wz.heap.size := hj; have := HLt.out; omega)
   clear g2
   have g2 := g2'
   clear g2'
   have g6' := SlF.kp g6 hkk (fun j hj => by have hj2 : j = wz.heap.size := hj; have := HLt.out; omega)
   clear g6
   have g6 := g6'
   clear g6'
   have g7' := SlF.kp g7 hkk (fun j hj => by have hj2 : j = wz.heap.size := hj; have := HLt.out; omega)
   clear g7
   have g7 := g7'
   clear g7'
   clear hkk
   generalize u.setCell ⟨wz.heap.size, 7, none⟩ (.slice a7 V.ny p7) = u2 at hB' hk' g2 g6 g7 ⊢
   obtain ⟨u, rfl⟩ : ∃ u, u = u2 := ⟨_, rfl⟩
   have hB := hB'
   have hku := hk'
   clear hB' hk'
   try simp only [Act.put, List.setIfInBounds_toArray, List.set_cons_zero, List.set_cons_succ]
   refine wpAny_done (by kernel_rfl) ?_ _
   have hG := HG.out
   obtain ⟨g1, g3, g4, g5⟩ := hG
   have q : ∀ j, (fun j => j = wz.heap.size) j → j < w3.heap.size := fun j hj => by have hj2 : j = wz.heap.size := hj; have := HLt0.out; omega
   have g1' := SlF.kp g1 hku q
   have g3' := SlF.kp g3 hku q
   have g4' := SlF.kp g4 hku q
   have g5' := SlF.kp g5 hku q
   clear g1 g3 g4 g5 q
   have hB2 := HBb.out.kp hku (fun e => by have := HSz.out; have e2 : w.heap.size + 1 = wz.heap.size := e; omega)
   have HKf := Lib.hid (HKb.out.trans hku (fun j hj e => by have := HSz.out; have e2 : j = wz.heap.size := e; omega))
   have hle : w3.heap.size ≤ w4.heap.size := HLe.out
   have g2 := g2.low hle
   have g6 := g6.low hle
   have g7 := g7.low hle
   have HGf := Lib.hid (And.intro g1' (And.intro g2 (And.intro g3' (And.intro g4' (And.intro g5' (And.intro g6 g7))))))
   have HB3 := Lib.hid hB
   have HB2 := Lib.hid hB2
   clear hB hB2 hku g1' g2 g3' g4' g5' g6 g7 HG
   obtain ⟨d0, d1, d2, d3, d4, d5, d6, d7, d8⟩ := HB3.out.cells9
   obtain ⟨z0, z1, z2, z3, z4, z5, z6, z7, z8⟩ := HB2.out.cells9
   have fr := HB2.out.free
   have fr0 := fr 0
   have fr1 := fr 1
   have fr2 := fr 2
   have fr3 := fr 3
   have fr4 := fr 4
   have fr5 := fr 5
   have fr6 := fr 6
   have fr7 := fr 7
   have fr8 := fr 8
   clear fr
   have HBe := Lib.hid (HB2.out.set9 (.int .i64 C.max) (.slice a1 C.ins.length p1) (.slice a2 C.lats.length p2) (.slice a3 C.outs.length p3) (.slice a4 C.bads.length p4) (.slice a5 C.cons.length p5) (.slice a6 C.gates.length p6) (.slice a7 V.ny p7) (.string V.cm))
   have HKe := Lib.hid (Kp.set9 u (w.heap.size + 1) (.int .i64 C.max) (.slice a1 C.ins.length p1) (.slice a2 C.lats.length p2) (.slice a3 C.outs.length p3) (.slice a4 C.bads.length p4) (.slice a5 C.cons.length p5) (.slice a6 C.gates.length p6) (.slice a7 V.ny p7) (.string V.cm))
   unfold Go.Proofs.YtnoknecfdnjomaaGreat.set9 at HBe HKe
   have HKw := Lib.hid (HKf.out.trans HKe.out (fun j hj e => by have e2 : j = (w.heap.size + 1) := e; omega))
   have q : ∀ j, (fun j => j = (w.heap.size + 1)) j → j < w3.heap.size := fun j hj => by have hj2 : j = w.heap.size + 1 := hj; have := HLt0.out; have := HSz.out; omega
   have HCat := Lib.hid (HGf.out)
   obtain ⟨g1, g2, g3, g4, g5, g6, g7⟩ := HCat.out
   have HG2 := Lib.hid (And.intro (SlF.kp g1 HKe.out q) (And.intro (SlF.kp g2 HKe.out q) (And.intro (SlF.kp g3 HKe.out q) (And.intro (SlF.kp g4 HKe.out q) (And.intro (SlF.kp g5 HKe.out q) (And.intro (SlF.kp g6 HKe.out q) (SlF.kp g7 HKe.out q)))))))
   clear q g1 g2 g3 g4 g5 g6 g7 HCat
   go_wp2_with fail
   obtain ⟨s0, s1, s2, s3, s4, s5, s6, s7, s8⟩ := HBe.out.cells9
   obtain ⟨g1, g2, g3, g4, g5, g6, g7⟩ := HG2.out
   have HRes := Lib.hid (show CAt _ ⟨a1, p1, a2, p2, a3, p3, a4, p4, a5, p5, a6, p6, a7, V.ny, p7, V.cm⟩ C from ⟨(by have h := (SlF.row g1).2; rw [ir_flat] at h; exact h), (SlF.row g2).2, (by have h := (SlF.row g3).2; rw [ir_flat] at h; exact h), (by have h := (SlF.row g4).2; rw [ir_flat] at h; exact h), (by have h := (SlF.row g5).2; rw [ir_flat] at h; exact h), (SlF.row g6).2, ⟨rows, (SlF.row g7).2, HRL.out⟩, (SlF.row g1).1, (SlF.row g2).1, (SlF.row g3).1, (SlF.row g4).1, (SlF.row g5).1, (SlF.row g6).1, (SlF.row g7).1⟩)
   have HSy := Lib.hid (SlF.row g7).2
   clear g1 g2 g3 g4 g5 g6 g7
   exact bodyPost_ret (v := .agg #[.int .i64 C.max, .slice a1 C.ins.length p1, .slice a2 C.lats.length p2, .slice a3 C.outs.length p3, .slice a4 C.bads.length p4, .slice a5 C.cons.length p5, .slice a6 C.gates.length p6, .slice a7 V.ny p7, .string V.cm]) (by simp [results, Tryz.results9, go_sem, s0, s1, s2, s3, s4, s5, s6, s7, s8]) rfl ⟨⟨a1, p1, a2, p2, a3, p3, a4, p4, a5, p5, a6, p6, a7, V.ny, p7, V.cm⟩, rfl, HRes.out, ⟨HSy.out, rfl, rfl⟩, HKw.out⟩

theorem law11_Own (V : CV) (C : Circ) (w : World) (h : CAt w V C) (hf : CFew C 1000000) (hy : V.ny ≤ 1000000) :
  Calls Tryz.prog 9 #[.agg (cvals V C)] w fun e w' => ∃ V', e = .returned (.agg (cvals V' C)) ∧ CAt w' V' C ∧ V'.ny = V.ny ∧ Kp (fun _ => False) w w' := by
 obtain ⟨rows, hrows, hrl⟩ := h.y
 exact (law11_OwnY V C w rows hrows hrl h hf hy).mono (by
  rintro e w' ⟨V', rfl, h1, h2, h3⟩
  exact ⟨V', rfl, h1, h2.2.1, h3⟩)

end Go.Proofs.YtnoknecfdnjomaaGreat

/-
  circ.Clone: a circuit in memory of its own. (Printed by mkown.py.)
-/
namespace Go.Proofs.YtnoknecfdnjomaaGreat
open Go Go.RowKit

def CKeep (B : Nat) (w : World) (V : CV) (C : Circ) : Prop := ∀ (S : Nat → Prop) (w2 : World), (∀ j, S j → j < B) → Kp S w w2 → CAt w2 V C

def cln1V (b1 b3 B : Nat) (V : CV) (C : Circ) (rows : List (List Value)) : List (World → Value → Prop) :=
  [EqV (.pointer (some ⟨b1, 1, none⟩)), SlK (ir C.ins) C.ins.length, SlF B (ir C.ins) C.ins.length, EqV (.pointer (some ⟨b1, 2, none⟩)), SlK (C.lats.map tri) C.lats.length, SlF B (C.lats.map tri) C.lats.length, EqV (.pointer (some ⟨b1, 6, none⟩)), SlK (C.gates.map tri) C.gates.length, SlF B (C.gates.map tri) C.gates.length, EqV (.pointer (some ⟨b1, 7, none⟩)), SlK rows V.ny, SlF B rows V.ny, EqV (.pointer (some ⟨b3, 1, none⟩))]

theorem cln1V_st (b1 b3 B : Nat) (V : CV) (C : Circ) (rows : List (List Value)) : ∀ W ∈ cln1V b1 b3 B V C rows, Stable W := by
 intro W h
 unfold cln1V at h
 simp only [List.mem_cons, List.not_mem_nil, or_false] at h
 rcases h with rfl | rfl | rfl | rfl | rfl | rfl | rfl | rfl | rfl | rfl | rfl | rfl | rfl <;> first | exact LitV.st _ | exact EqV.st _ | exact SlK.st _ _ | exact SlF.st _ _ _

def cln2V (b1 b3 B : Nat) (V : CV) (C : Circ) (rows : List (List Value)) : List (World → Value → Prop) :=
  [EqV (.pointer (some ⟨b1, 3, none⟩)), SlK (ir C.outs) C.outs.length, SlF B (ir C.outs) C.outs.length, EqV (.pointer (some ⟨b1, 4, none⟩)), SlK (ir C.bads) C.bads.length, SlF B (ir C.bads) C.bads.length, EqV (.pointer (some ⟨b1, 5, none⟩)), SlK (ir C.cons) C.cons.length, SlF B (ir C.cons) C.cons.length, EqV (.pointer (some ⟨b3, 3, none⟩))]

theorem cln2V_st (b1 b3 B : Nat) (V : CV) (C : Circ) (rows : List (List Value)) : ∀ W ∈ cln2V b1 b3 B V C rows, Stable W := by
 intro W h
 unfold cln2V at h
 simp only [List.mem_cons, List.not_mem_nil, or_false] at h
 rcases h with rfl | rfl | rfl | rfl | rfl | rfl | rfl | rfl | rfl | rfl <;> first | exact LitV.st _ | exact EqV.st _ | exact SlK.st _ _ | exact SlF.st _ _ _

set_option maxRecDepth 100000 in
set_option maxHeartbeats 8000000 in
theorem circ_Clone (V : CV) (C : Circ) (w : World) (h : CAt w V C) (hf : CFew C 1000000) (hy : V.ny ≤ 1000000) :
  Calls Tryz.prog 58 #[.agg (cvals V C)] w fun e w' => ∃ V', e = .returned (.agg (cvals V' C)) ∧ CAt w' V' C ∧ V'.ny = V.ny ∧ Kp (fun _ => False) w w' ∧ CKeep (w.heap.size + 2) w' V' C := by
 have HA := Lib.hid h
 have HF := Lib.hid hf
 have HY := Lib.hid hy
 have HI := Lib.hid (show (Tryz.prog.info? 3).map (fun i => (i.zero, i.size, i.bytes)) = some (some (.int .i64 0), 1, 8) by kernel_rfl)
 have HIl := Lib.hid (show (Tryz.prog.info? 64).map (fun i => (i.zero, i.size, i.bytes)) = some (some (.agg #[.int .i64 0, .int .i64 0, .int .i64 0]), 3, 24) by kernel_rfl)
 have HIg := Lib.hid (show (Tryz.prog.info? 95).map (fun i => (i.zero, i.size, i.bytes)) = some (some (.agg #[.int .i64 0, .int .i64 0, .int .i64 0]), 3, 24) by kernel_rfl)
 have HIs := Lib.hid (show (Tryz.prog.info? 113).map (fun i => (i.zero, i.size, i.bytes)) = some (some (.agg #[.int .u8 0, .int .i64 0, .string ⟨#[]⟩]), 3, 32) by kernel_rfl)
 obtain ⟨rows, hrows, hrl⟩ := h.y
 have HRows := Lib.hid hrows
 have HRL := Lib.hid hrl
 have HC1 := Lib.hid (Blk.new w (cvals V C) 27)
 obtain ⟨wz, hwz⟩ : ∃ wz : World, wz = (w.alloc (.cells (cvals V C) 27)).alloc (.cells #[.int .i64 0, .slice none 0 0, .slice none 0 0, .slice none 0 0, .slice none 0 0, .slice none 0 0, .slice none 0 0, .slice none 0 0, .string ⟨#[]⟩] 27) := ⟨_, rfl⟩
 have HCb := Lib.hid (show Blk wz w.heap.size (cvals V C) 27 by rw [hwz]; exact HC1.out.alloc _)
 have HDcln1 := Lib.hid (show Blk wz w.heap.size #[.int .i64 C.max, .slice V.ai C.ins.length V.ci, .slice V.al C.lats.length V.cl, .slice V.ao C.outs.length V.co, .slice V.ab C.bads.length V.cb, .slice V.ac C.cons.length V.cc, .slice V.ag C.gates.length V.cg, .slice V.ay V.ny V.cy, .string V.cm] 27 from HCb.out)
 have HBb := Lib.hid (show Blk wz (w.heap.size + 1) #[.int .i64 0, .slice none 0 0, .slice none 0 0, .slice none 0 0, .slice none 0 0, .slice none 0 0, .slice none 0 0, .slice none 0 0, .string ⟨#[]⟩] 27 by rw [hwz]; exact two_blk _ _ _ _ _)
 have HKb := Lib.hid (show Kp (fun _ => False) w wz by rw [hwz]; exact ((Kp.refl _ w).alloc _).alloc _)
 have HLt := Lib.hid (show w.heap.size < wz.heap.size by rw [hwz]; simp; omega)
 have HLt2 := Lib.hid (show w.heap.size + 1 < wz.heap.size by rw [hwz]; simp)
 have HZ := Lib.hid hwz
 clear h hf hy hwz hrows hrl HC1
 go_enter Tryz.func58, Tryz.ntmps58
 go_upto_region 1 with fail
 rw [← HZ.out]
 clear HZ
 refine wp_region_loose (p := upTo 13) (V := atV (cln1V w.heap.size w.heap.size wz.heap.size V C rows)) (LP := #[true, true, true, true, true, true, true, true, true, true, true, true, true, false, false, false, false, false, false, false]) (K := 7) (by kernel_rfl) (by kernel_rfl) (atV_st (cln1V_st _ _ _ V C rows)) ?hstepcln1 (by kernel_rfl) ?hLPcln1 (by kernel_rfl) ?hendcln1
 case hLPcln1 => exact upTo_spec (by kernel_rfl)
 case hstepcln1 =>
  intro i o ho hp a u hk hoff hdep
  have e1 : a.tmps[1]?.getD undef = .pointer (some ⟨w.heap.size, 0, none⟩) := slot_at (hoff 1 (noDst_spec (by kernel_rfl)))
  clear hoff
  match i, ho with
  |0, ho =>
   obtain rfl := Option.some.inj ho
   refine lw_value (v := .pointer (some ⟨w.heap.size, 1, none⟩)) (u' := u) ?_ (Kp.refl _ _) rfl
   go_simp
  |1, ho =>
   obtain rfl := Option.some.inj ho
   have e6 : a.tmps[3]?.getD undef = .pointer (some ⟨w.heap.size, 1, none⟩) := slot_at (hdep ⟨0, .data⟩ (by simp) rfl _ 3 rfl rfl)
   have c1 := (HCb.out.kp hk (fun h => h)).cell (i := 1) (v := .slice V.ai C.ins.length V.ci) rfl
   refine lw_value (v := .slice V.ai C.ins.length V.ci) (u' := u) ?_ (Kp.refl _ _) (SlK.of_ints HA.out.fi (HA.out.kp (HKb.out.trans hk (fun _ _ h => h))).i)
   go_simp
  |2, ho =>
   obtain rfl := Option.some.inj ho
   obtain ⟨a2, c2, e8, ok2, hr2⟩ := SlK.ints (show SlK (ir C.ins) C.ins.length u (a.tmps.getD 4 undef) from hdep ⟨1, .data⟩ (by simp) rfl _ 4 rfl rfl)
   have e9 := slot_at e8
   refine lw_call (f := 77) (args := #[.slice a2 C.ins.length c2]) ?_ ?_
   ·go_simp
   ·exact (clone_ints a2 C.ins.length c2 _ u hr2 rfl ok2 (by have := HF.out.i; omega)).mono (by
     rintro e u' ⟨v, rfl, hO, hK⟩
     obtain ⟨a3, c3, e3, h1, h2, h3, h5, h4⟩ := ownForm hO
     rw [List.length_map] at e3 h1
     exact ⟨v, rfl, hK, a3, c3, e3, ⟨h1, h2, h3⟩, by rw [ir_flat]; exact h4, fun _ p hp => Nat.le_trans hk.size (h5 p hp)⟩)
  |3, ho =>
   obtain rfl := Option.some.inj ho
   refine lw_value (v := .pointer (some ⟨w.heap.size, 2, none⟩)) (u' := u) ?_ (Kp.refl _ _) rfl
   go_simp
  |4, ho =>
   obtain rfl := Option.some.inj ho
   have e6 : a.tmps[6]?.getD undef = .pointer (some ⟨w.heap.size, 2, none⟩) := slot_at (hdep ⟨3, .data⟩ (by simp) rfl _ 6 rfl rfl)
   have c1 := (HCb.out.kp hk (fun h => h)).cell (i := 2) (v := .slice V.al C.lats.length V.cl) rfl
   refine lw_value (v := .slice V.al C.lats.length V.cl) (u' := u) ?_ (Kp.refl _ _) ⟨_, _, rfl, HA.out.fl, (HA.out.kp (HKb.out.trans hk (fun _ _ h => h))).l⟩
   go_simp
  |5, ho =>
   obtain rfl := Option.some.inj ho
   obtain ⟨a2, c2, e8, ok2, hr2⟩ := (show SlK (C.lats.map tri) C.lats.length u (a.tmps.getD 7 undef) from hdep ⟨4, .data⟩ (by simp) rfl _ 7 rfl rfl)
   have e9 := slot_at e8
   refine lw_call (f := 78) (args := #[.slice a2 C.lats.length c2]) ?_ ?_
   ·go_simp
   ·exact (clone_lats a2 C.lats.length c2 (C.lats.map tri) u hr2 (List.length_map ..) (tri_len _) (tri_one _) ok2 (by have := HF.out.l; omega)).mono (by
     rintro e u' ⟨v, rfl, hO, hK⟩
     obtain ⟨a3, c3, e3, h1, h2, h3, h5, h4⟩ := hO.form
     rw [List.length_map] at e3 h1
     exact ⟨v, rfl, hK, a3, c3, e3, ⟨h1, h2, h3⟩, h4, fun _ p hp => by obtain ⟨g, rfl, hb, -⟩ := h5 p hp; exact Nat.le_trans hk.size hb⟩)
  |6, ho =>
   obtain rfl := Option.some.inj ho
   refine lw_value (v := .pointer (some ⟨w.heap.size, 6, none⟩)) (u' := u) ?_ (Kp.refl _ _) rfl
   go_simp
  |7, ho =>
   obtain rfl := Option.some.inj ho
   have e6 : a.tmps[9]?.getD undef = .pointer (some ⟨w.heap.size, 6, none⟩) := slot_at (hdep ⟨6, .data⟩ (by simp) rfl _ 9 rfl rfl)
   have c1 := (HCb.out.kp hk (fun h => h)).cell (i := 6) (v := .slice V.ag C.gates.length V.cg) rfl
   refine lw_value (v := .slice V.ag C.gates.length V.cg) (u' := u) ?_ (Kp.refl _ _) ⟨_, _, rfl, HA.out.fg, (HA.out.kp (HKb.out.trans hk (fun _ _ h => h))).g⟩
   go_simp
  |8, ho =>
   obtain rfl := Option.some.inj ho
   obtain ⟨a2, c2, e8, ok2, hr2⟩ := (show SlK (C.gates.map tri) C.gates.length u (a.tmps.getD 10 undef) from hdep ⟨7, .data⟩ (by simp) rfl _ 10 rfl rfl)
   have e9 := slot_at e8
   refine lw_call (f := 79) (args := #[.slice a2 C.gates.length c2]) ?_ ?_
   ·go_simp
   ·exact (clone_gates a2 C.gates.length c2 (C.gates.map tri) u hr2 (List.length_map ..) (tri_len _) (tri_one _) ok2 (by have := HF.out.g; omega)).mono (by
     rintro e u' ⟨v, rfl, hO, hK⟩
     obtain ⟨a3, c3, e3, h1, h2, h3, h5, h4⟩ := hO.form
     rw [List.length_map] at e3 h1
     exact ⟨v, rfl, hK, a3, c3, e3, ⟨h1, h2, h3⟩, h4, fun _ p hp => by obtain ⟨g, rfl, hb, -⟩ := h5 p hp; exact Nat.le_trans hk.size hb⟩)
  |9, ho =>
   obtain rfl := Option.some.inj ho
   refine lw_value (v := .pointer (some ⟨w.heap.size, 7, none⟩)) (u' := u) ?_ (Kp.refl _ _) rfl
   go_simp
  |10, ho =>
   obtain rfl := Option.some.inj ho
   have e6 : a.tmps[12]?.getD undef = .pointer (some ⟨w.heap.size, 7, none⟩) := slot_at (hdep ⟨9, .data⟩ (by simp) rfl _ 12 rfl rfl)
   have c1 := (HCb.out.kp hk (fun h => h)).cell (i := 7) (v := .slice V.ay V.ny V.cy) rfl
   refine lw_value (v := .slice V.ay V.ny V.cy) (u' := u) ?_ (Kp.refl _ _) ⟨_, _, rfl, HA.out.fy, HRows.out.kp (HKb.out.trans hk (fun _ _ h => h)) (fun _ _ h => h)⟩
   go_simp
  |11, ho =>
   obtain rfl := Option.some.inj ho
   obtain ⟨a2, c2, e8, ok2, hr2⟩ := (show SlK rows V.ny u (a.tmps.getD 13 undef) from hdep ⟨10, .data⟩ (by simp) rfl _ 13 rfl rfl)
   have e9 := slot_at e8
   refine lw_call (f := 80) (args := #[.slice a2 V.ny c2]) ?_ ?_
   ·go_simp
   ·exact (clone_syms a2 V.ny c2 rows u hr2 HRL.out.1 HRL.out.2.1 HRL.out.2.2 ok2 (by have := HY.out; omega)).mono (by
     rintro e u' ⟨v, rfl, hO, hK⟩
     obtain ⟨a3, c3, e3, h1, h2, h3, h5, h4⟩ := hO.form
     rw [HRL.out.1] at e3 h1
     exact ⟨v, rfl, hK, a3, c3, e3, ⟨h1, h2, h3⟩, h4, fun _ p hp => by obtain ⟨g, rfl, hb, -⟩ := h5 p hp; exact Nat.le_trans hk.size hb⟩)
  |12, ho =>
   obtain rfl := Option.some.inj ho
   refine lw_value (v := .pointer (some ⟨w.heap.size, 1, none⟩)) (u' := u) ?_ (Kp.refl _ _) rfl
   go_simp
  |n + 13, _ => exact absurd hp (by simp [upTo])
 case hendcln1 =>
  intro a u hI
  have hsz : a.tmps.size = 32 := hI.size
  have hdf : a.defers = [] := hI.defers
  have f0 := hI.o 0 (by kernel_rfl)
  have f1 := hI.o 1 (by kernel_rfl)
  have f2 := hI.o 2 (by kernel_rfl)
  have f16 := hI.o 16 (by kernel_rfl)
  have f17 := hI.o 17 (by kernel_rfl)
  have f18 := hI.o 18 (by kernel_rfl)
  have f19 := hI.o 19 (by kernel_rfl)
  have f20 := hI.o 20 (by kernel_rfl)
  have f21 := hI.o 21 (by kernel_rfl)
  have f22 := hI.o 22 (by kernel_rfl)
  have f23 := hI.o 23 (by kernel_rfl)
  have f24 := hI.o 24 (by kernel_rfl)
  have f25 := hI.o 25 (by kernel_rfl)
  have f26 := hI.o 26 (by kernel_rfl)
  have f27 := hI.o 27 (by kernel_rfl)
  have f28 := hI.o 28 (by kernel_rfl)
  have f29 := hI.o 29 (by kernel_rfl)
  have f30 := hI.o 30 (by kernel_rfl)
  have f31 := hI.o 31 (by kernel_rfl)
  have g1 : SlF wz.heap.size (ir C.ins) C.ins.length u (a.tmps.getD 5 undef) := hI.val 2 _ 5 rfl rfl rfl
  obtain ⟨a1, p1, f5, -, -, -⟩ := id g1
  rw [f5] at g1
  have g2 : SlF wz.heap.size (C.lats.map tri) C.lats.length u (a.tmps.getD 8 undef) := hI.val 5 _ 8 rfl rfl rfl
  obtain ⟨a2, p2, f8, -, -, -⟩ := id g2
  rw [f8] at g2
  have g6 : SlF wz.heap.size (C.gates.map tri) C.gates.length u (a.tmps.getD 11 undef) := hI.val 8 _ 11 rfl rfl rfl
  obtain ⟨a6, p6, f11, -, -, -⟩ := id g6
  rw [f11] at g6
  have g7 : SlF wz.heap.size rows V.ny u (a.tmps.getD 14 undef) := hI.val 11 _ 14 rfl rfl rfl
  obtain ⟨a7, p7, f14, -, -, -⟩ := id g7
  rw [f14] at g7
  have f15 : a.tmps.getD 15 undef = .pointer (some ⟨w.heap.size, 1, none⟩) := hI.val 12 _ 15 rfl rfl rfl
  have ha := act_list32 a hsz
  rw [hdf, f0, f1, f2, f5, f8, f11, f14, f15, f16, f17, f18, f19, f20, f21, f22, f23, f24, f25, f26, f27, f28, f29, f30, f31] at ha
  obtain ⟨x3, hx3⟩ : ∃ x, a.tmps.getD 3 undef = x := ⟨_, rfl⟩
  obtain ⟨x4, hx4⟩ : ∃ x, a.tmps.getD 4 undef = x := ⟨_, rfl⟩
  obtain ⟨x6, hx6⟩ : ∃ x, a.tmps.getD 6 undef = x := ⟨_, rfl⟩
  obtain ⟨x7, hx7⟩ : ∃ x, a.tmps.getD 7 undef = x := ⟨_, rfl⟩
  obtain ⟨x9, hx9⟩ : ∃ x, a.tmps.getD 9 undef = x := ⟨_, rfl⟩
  obtain ⟨x10, hx10⟩ : ∃ x, a.tmps.getD 10 undef = x := ⟨_, rfl⟩
  obtain ⟨x12, hx12⟩ : ∃ x, a.tmps.getD 12 undef = x := ⟨_, rfl⟩
  obtain ⟨x13, hx13⟩ : ∃ x, a.tmps.getD 13 undef = x := ⟨_, rfl⟩
  rw [hx3, hx4, hx6, hx7, hx9, hx10, hx12, hx13] at ha
  have hku := hI.kp
  have hB := HDcln1.out.kp hku (fun h => h)
  clear hI hsz hdf f0 f1 f2 f5 f8 f11 f14 f15 f16 f17 f18 f19 f20 f21 f22 f23 f24 f25 f26 f27 f28 f29 f30 f31 hx3 hx4 hx6 hx7 hx9 hx10 hx12 hx13
  subst ha
  have cs := hB.cell (i := 1) (v := .slice V.ai C.ins.length V.ci) rfl
  have fs := hB.free 1
  have hB' : Blk (u.setCell ⟨w.heap.size, 1, none⟩ (.slice a1 C.ins.length p1)) w.heap.size #[.int .i64 C.max, .slice a1 C.ins.length p1, .slice V.al C.lats.length V.cl, .slice V.ao C.outs.length V.co, .slice V.ab C.bads.length V.cb, .slice V.ac C.cons.length V.cc, .slice V.ag C.gates.length V.cg, .slice V.ay V.ny V.cy, .string V.cm] 27 := hB.set_same 1 (.slice a1 C.ins.length p1)
  have hk' : Kp (fun j => j = w.heap.size) wz (u.setCell ⟨w.heap.size, 1, none⟩ (.slice a1 C.ins.length p1)) := (hku.mono (fun _ _ h => h.elim)).setCell (S := fun j => j = w.heap.size) (p := ⟨w.heap.size, 1, none⟩) (fun _ => rfl) _
  have hkk := Kp.set u ⟨w.heap.size, 1, none⟩ (.slice a1 C.ins.length p1)
  refine wpAny_ready (rs := [13]) (by kernel_rfl) (by simp) ?_
  refine AllReady.cons (o := _) rfl (fun K1 hK1 => ?_) AllReady.nil
  go_simp
  refine hK1 _ _ ?_
  clear hK1 K1 cs fs hB hku
  have g1' := SlF.kp g1 hkk (fun j hj => by have hj2 : j = w.heap.size := hj; have := HLt.out; omega)
  clear g1
  have g1 := g1'
  clear g1'
  have g2' := SlF.kp g2 hkk (fun j hj => by have hj2 : j = w.heap.size := hj; have := HLt.out; omega)
  clear g2
  have g2 := g2'
  clear g2'
  have g6' := SlF.kp g6 hkk (fun j hj => by have hj2 : j = w.heap.size := hj; have := HLt.out; omega)
  clear g6
  have g6 := g6'
  clear g6'
  have g7' := SlF.kp g7 hkk (fun j hj => by have hj2 : j = w.heap.size := hj; have := HLt.out; omega)
  clear g7
  have g7 := g7'
  clear g7'
  clear hkk
  generalize u.setCell ⟨w.heap.size, 1, none⟩ (.slice a1 C.ins.length p1) = u2 at hB' hk' g1 g2 g6 g7 ⊢
  obtain ⟨u, rfl⟩ : ∃ u, u = u2 := ⟨_, rfl⟩
  have hB := hB'
  have hku := hk'
  clear hB' hk'
  try simp only [Act.put, List.setIfInBounds_toArray, List.set_cons_zero, List.set_cons_succ]
  refine wpAny_ready (rs := [14]) (by kernel_rfl) (by simp) ?_
  refine AllReady.cons (o := _) rfl (fun K1 hK1 => ?_) AllReady.nil
  go_simp
  refine hK1 _ _ ?_
  clear hK1 K1
  try simp only [Act.put, List.setIfInBounds_toArray, List.set_cons_zero, List.set_cons_succ]
  have cs := hB.cell (i := 2) (v := .slice V.al C.lats.length V.cl) rfl
  have fs := hB.free 2
  have hB' : Blk (u.setCell ⟨w.heap.size, 2, none⟩ (.slice a2 C.lats.length p2)) w.heap.size #[.int .i64 C.max, .slice a1 C.ins.length p1, .slice a2 C.lats.length p2, .slice V.ao C.outs.length V.co, .slice V.ab C.bads.length V.cb, .slice V.ac C.cons.length V.cc, .slice V.ag C.gates.length V.cg, .slice V.ay V.ny V.cy, .string V.cm] 27 := hB.set_same 2 (.slice a2 C.lats.length p2)
  have hk' : Kp (fun j => j = w.heap.size) wz (u.setCell ⟨w.heap.size, 2, none⟩ (.slice a2 C.lats.length p2)) := hku.setCell (S := fun j => j = w.heap.size) (p := ⟨w.heap.size, 2, none⟩) (fun _ => rfl) _
  have hkk := Kp.set u ⟨w.heap.size, 2, none⟩ (.slice a2 C.lats.length p2)
  refine wpAny_ready (rs := [15]) (by kernel_rfl) (by simp) ?_
  refine AllReady.cons (o := _) rfl (fun K1 hK1 => ?_) AllReady.nil
  go_simp
  refine hK1 _ _ ?_
  clear hK1 K1 cs fs hB hku
  have g1' := SlF.kp g1 hkk (fun j hj => by have hj2 : j = w.heap.size := hj; have := HLt.out; omega)
  clear g1
  have g1 := g1'
  clear g1'
  have g2' := SlF.kp g2 hkk (fun j hj => by have hj2 : j = w.heap.size := hj; have := HLt.out; omega)
  clear g2
  have g2 := g2'
  clear g2'
  have g6' := SlF.kp g6 hkk (fun j hj => by have hj2 : j = w.heap.size := hj; have := HLt.out; omega)
  clear g6
  have g6 := g6'
  clear g6'
  have g7' := SlF.kp g7 hkk (fun j hj => by have hj2 : j = w.heap.size := hj; have := HLt.out; omega)
  clear g7
  have g7 := g7'
  clear g7'
  clear hkk
  generalize u.setCell ⟨w.heap.size, 2, none⟩ (.slice a2 C.lats.length p2) = u2 at hB' hk' g1 g2 g6 g7 ⊢
  obtain ⟨u, rfl⟩ : ∃ u, u = u2 := ⟨_, rfl⟩
  have hB := hB'
  have hku := hk'
  clear hB' hk'
  try simp only [Act.put, List.setIfInBounds_toArray, List.set_cons_zero, List.set_cons_succ]
  refine wpAny_ready (rs := [16]) (by kernel_rfl) (by simp) ?_
  refine AllReady.cons (o := _) rfl (fun K1 hK1 => ?_) AllReady.nil
  go_simp
  refine hK1 _ _ ?_
  clear hK1 K1
  try simp only [Act.put, List.setIfInBounds_toArray, List.set_cons_zero, List.set_cons_succ]
  have cs := hB.cell (i := 6) (v := .slice V.ag C.gates.length V.cg) rfl
  have fs := hB.free 6
  have hB' : Blk (u.setCell ⟨w.heap.size, 6, none⟩ (.slice a6 C.gates.length p6)) w.heap.size #[.int .i64 C.max, .slice a1 C.ins.length p1, .slice a2 C.lats.length p2, .slice V.ao C.outs.length V.co, .slice V.ab C.bads.length V.cb, .slice V.ac C.cons.length V.cc, .slice a6 C.gates.length p6, .slice V.ay V.ny V.cy, .string V.cm] 27 := hB.set_same 6 (.slice a6 C.gates.length p6)
  have hk' : Kp (fun j => j = w.heap.size) wz (u.setCell ⟨w.heap.size, 6, none⟩ (.slice a6 C.gates.length p6)) := hku.setCell (S := fun j => j = w.heap.size) (p := ⟨w.heap.size, 6, none⟩) (fun _ => rfl) _
  have hkk := Kp.set u ⟨w.heap.size, 6, none⟩ (.slice a6 C.gates.length p6)
  refine wpAny_ready (rs := [17]) (by kernel_rfl) (by simp) ?_
  refine AllReady.cons (o := _) rfl (fun K1 hK1 => ?_) AllReady.nil
  go_simp
  refine hK1 _ _ ?_
  clear hK1 K1 cs fs hB hku
  have g1' := SlF.kp g1 hkk (fun j hj => by have hj2 : j = w.heap.size := hj; have := HLt.out; omega)
  clear g1
  have g1 := g1'
  clear g1'
  have g2' := SlF.kp g2 hkk (fun j hj => by have hj2 : j = w.heap.size := hj; have := HLt.out; omega)
  clear g2
  have g2 := g2'
  clear g2'
  have g6' := SlF.kp g6 hkk (fun j hj => by have hj2 : j = w.heap.size := hj; have := HLt.out; omega)
  clear g6
  have g6 := g6'
  clear g6'
  have g7' := SlF.kp g7 hkk (fun j hj => by have hj2 : j = w.heap.size := hj; have := HLt.out; omega)
  clear g7
  have g7 := g7'
  clear g7'
  clear hkk
  generalize u.setCell ⟨w.heap.size, 6, none⟩ (.slice a6 C.gates.length p6) = u2 at hB' hk' g1 g2 g6 g7 ⊢
  obtain ⟨u, rfl⟩ : ∃ u, u = u2 := ⟨_, rfl⟩
  have hB := hB'
  have hku := hk'
  clear hB' hk'
  try simp only [Act.put, List.setIfInBounds_toArray, List.set_cons_zero, List.set_cons_succ]
  refine wpAny_ready (rs := [18]) (by kernel_rfl) (by simp) ?_
  refine AllReady.cons (o := _) rfl (fun K1 hK1 => ?_) AllReady.nil
  go_simp
  refine hK1 _ _ ?_
  clear hK1 K1
  try simp only [Act.put, List.setIfInBounds_toArray, List.set_cons_zero, List.set_cons_succ]
  have cs := hB.cell (i := 7) (v := .slice V.ay V.ny V.cy) rfl
  have fs := hB.free 7
  have hB' : Blk (u.setCell ⟨w.heap.size, 7, none⟩ (.slice a7 V.ny p7)) w.heap.size #[.int .i64 C.max, .slice a1 C.ins.length p1, .slice a2 C.lats.length p2, .slice V.ao C.outs.length V.co, .slice V.ab C.bads.length V.cb, .slice V.ac C.cons.length V.cc, .slice a6 C.gates.length p6, .slice a7 V.ny p7, .string V.cm] 27 := hB.set_same 7 (.slice a7 V.ny p7)
  have hk' : Kp (fun j => j = w.heap.size) wz (u.setCell ⟨w.heap.size, 7, none⟩ (.slice a7 V.ny p7)) := hku.setCell (S := fun j => j = w.heap.size) (p := ⟨w.heap.size, 7, none⟩) (fun _ => rfl) _
  have hkk := Kp.set u ⟨w.heap.size, 7, none⟩ (.slice a7 V.ny p7)
  refine wpAny_ready (rs := [19]) (by kernel_rfl) (by simp) ?_
  refine AllReady.cons (o := _) rfl (fun K1 hK1 => ?_) AllReady.nil
  go_simp
  refine hK1 _ _ ?_
  clear hK1 K1 cs fs hB hku
  have g1' := SlF.kp g1 hkk (fun j hj => by have hj2 : j = w.heap.size := hj; have := HLt.out; omega)
  clear g1
  have g1 := g1'
  clear g1'
  have g2' := SlF.kp g2 hkk (fun j hj => by have hj2 : j = w.heap.size := hj; have := HLt.out; omega)
  clear g2
  have g2 := g2'
  clear g2'
  have g6' := SlF.kp g6 hkk (fun j hj => by have hj2 : j = w.heap.size := hj; have := HLt.out; omega)
  clear g6
  have g6 := g6'
  clear g6'
  have g7' := SlF.kp g7 hkk (fun j hj => by have hj2 : j = w.heap.size := hj; have := HLt.out; omega)
  clear g7
  have g7 := g7'
  clear g7'
  clear hkk
  generalize u.setCell ⟨w.heap.size, 7, none⟩ (.slice a7 V.ny p7) = u2 at hB' hk' g1 g2 g6 g7 ⊢
  obtain ⟨u, rfl⟩ : ∃ u, u = u2 := ⟨_, rfl⟩
  have hB := hB'
  have hku := hk'
  clear hB' hk'
  try simp only [Act.put, List.setIfInBounds_toArray, List.set_cons_zero, List.set_cons_succ]
  refine wpAny_done (by kernel_rfl) ?_ _
  obtain ⟨w4, rfl⟩ : ∃ w4 : World, w4 = u := ⟨_, rfl⟩
  have HLe := Lib.hid hku.size
  have HKb4 := Lib.hid (HKb.out.trans hku (fun j hj e => by have e2 : j = w.heap.size := e; omega))
  have HBb4 := Lib.hid (HBb.out.kp hku (fun e => by have e2 : w.heap.size + 1 = w.heap.size := e; omega))
  have HDcln2 := Lib.hid hB
  have HLt4 := Lib.hid (show w.heap.size < w4.heap.size by have := HLt.out; have := HLe.out; omega)
  have HG := Lib.hid (And.intro g1 (And.intro g2 (And.intro g6 g7)))
  clear hku hB g1 g2 g6 g7 HKb HCb HBb HDcln1
  have HKb := HKb4
  have HCb := HDcln2
  have HBb := HBb4
  have HLt0 := HLt
  clear HKb4 HBb4 HLt
  have HLt := HLt4
  clear HLt4
  go_upto_region 2 with fail
  refine wp_region_loose (p := upTo 10) (V := atV (cln2V w.heap.size w.heap.size w4.heap.size V C rows)) (LP := #[true, true, true, true, true, true, true, true, true, true, false, false, false, false, false]) (K := 5) (by kernel_rfl) (by kernel_rfl) (atV_st (cln2V_st _ _ _ V C rows)) ?hstepcln2 (by kernel_rfl) ?hLPcln2 (by kernel_rfl) ?hendcln2
  case hLPcln2 => exact upTo_spec (by kernel_rfl)
  case hstepcln2 =>
   intro i o ho hp a u hk hoff hdep
   have e1 : a.tmps[1]?.getD undef = .pointer (some ⟨w.heap.size, 0, none⟩) := slot_at (hoff 1 (noDst_spec (by kernel_rfl)))
   clear hoff
   match i, ho with
   |0, ho =>
    obtain rfl := Option.some.inj ho
    refine lw_value (v := .pointer (some ⟨w.heap.size, 3, none⟩)) (u' := u) ?_ (Kp.refl _ _) rfl
    go_simp
   |1, ho =>
    obtain rfl := Option.some.inj ho
    have e6 : a.tmps[19]?.getD undef = .pointer (some ⟨w.heap.size, 3, none⟩) := slot_at (hdep ⟨0, .data⟩ (by simp) rfl _ 19 rfl rfl)
    have c1 := (HCb.out.kp hk (fun h => h)).cell (i := 3) (v := .slice V.ao C.outs.length V.co) rfl
    refine lw_value (v := .slice V.ao C.outs.length V.co) (u' := u) ?_ (Kp.refl _ _) (SlK.of_ints HA.out.fo (HA.out.kp (HKb.out.trans hk (fun _ _ h => h))).o)
    go_simp
   |2, ho =>
    obtain rfl := Option.some.inj ho
    obtain ⟨a2, c2, e8, ok2, hr2⟩ := SlK.ints (show SlK (ir C.outs) C.outs.length u (a.tmps.getD 20 undef) from hdep ⟨1, .data⟩ (by simp) rfl _ 20 rfl rfl)
    have e9 := slot_at e8
    refine lw_call (f := 77) (args := #[.slice a2 C.outs.length c2]) ?_ ?_
    ·go_simp
    ·exact (clone_ints a2 C.outs.length c2 _ u hr2 rfl ok2 (by have := HF.out.o; omega)).mono (by
      rintro e u' ⟨v, rfl, hO, hK⟩
      obtain ⟨a3, c3, e3, h1, h2, h3, h5, h4⟩ := ownForm hO
      rw [List.length_map] at e3 h1
      exact ⟨v, rfl, hK, a3, c3, e3, ⟨h1, h2, h3⟩, by rw [ir_flat]; exact h4, fun _ p hp => Nat.le_trans hk.size (h5 p hp)⟩)
   |3, ho =>
    obtain rfl := Option.some.inj ho
    refine lw_value (v := .pointer (some ⟨w.heap.size, 4, none⟩)) (u' := u) ?_ (Kp.refl _ _) rfl
    go_simp
   |4, ho =>
    obtain rfl := Option.some.inj ho
    have e6 : a.tmps[22]?.getD undef = .pointer (some ⟨w.heap.size, 4, none⟩) := slot_at (hdep ⟨3, .data⟩ (by simp) rfl _ 22 rfl rfl)
    have c1 := (HCb.out.kp hk (fun h => h)).cell (i := 4) (v := .slice V.ab C.bads.length V.cb) rfl
    refine lw_value (v := .slice V.ab C.bads.length V.cb) (u' := u) ?_ (Kp.refl _ _) (SlK.of_ints HA.out.fb (HA.out.kp (HKb.out.trans hk (fun _ _ h => h))).b)
    go_simp
   |5, ho =>
    obtain rfl := Option.some.inj ho
    obtain ⟨a2, c2, e8, ok2, hr2⟩ := SlK.ints (show SlK (ir C.bads) C.bads.length u (a.tmps.getD 23 undef) from hdep ⟨4, .data⟩ (by simp) rfl _ 23 rfl rfl)
    have e9 := slot_at e8
    refine lw_call (f := 77) (args := #[.slice a2 C.bads.length c2]) ?_ ?_
    ·go_simp
    ·exact (clone_ints a2 C.bads.length c2 _ u hr2 rfl ok2 (by have := HF.out.b; omega)).mono (by
      rintro e u' ⟨v, rfl, hO, hK⟩
      obtain ⟨a3, c3, e3, h1, h2, h3, h5, h4⟩ := ownForm hO
      rw [List.length_map] at e3 h1
      exact ⟨v, rfl, hK, a3, c3, e3, ⟨h1, h2, h3⟩, by rw [ir_flat]; exact h4, fun _ p hp => Nat.le_trans hk.size (h5 p hp)⟩)
   |6, ho =>
    obtain rfl := Option.some.inj ho
    refine lw_value (v := .pointer (some ⟨w.heap.size, 5, none⟩)) (u' := u) ?_ (Kp.refl _ _) rfl
    go_simp
   |7, ho =>
    obtain rfl := Option.some.inj ho
    have e6 : a.tmps[25]?.getD undef = .pointer (some ⟨w.heap.size, 5, none⟩) := slot_at (hdep ⟨6, .data⟩ (by simp) rfl _ 25 rfl rfl)
    have c1 := (HCb.out.kp hk (fun h => h)).cell (i := 5) (v := .slice V.ac C.cons.length V.cc) rfl
    refine lw_value (v := .slice V.ac C.cons.length V.cc) (u' := u) ?_ (Kp.refl _ _) (SlK.of_ints HA.out.fc (HA.out.kp (HKb.out.trans hk (fun _ _ h => h))).c)
    go_simp
   |8, ho =>
    obtain rfl := Option.some.inj ho
    obtain ⟨a2, c2, e8, ok2, hr2⟩ := SlK.ints (show SlK (ir C.cons) C.cons.length u (a.tmps.getD 26 undef) from hdep ⟨7, .data⟩ (by simp) rfl _ 26 rfl rfl)
    have e9 := slot_at e8
    refine lw_call (f := 77) (args := #[.slice a2 C.cons.length c2]) ?_ ?_
    ·go_simp
    ·exact (clone_ints a2 C.cons.length c2 _ u hr2 rfl ok2 (by have := HF.out.c; omega)).mono (by
      rintro e u' ⟨v, rfl, hO, hK⟩
      obtain ⟨a3, c3, e3, h1, h2, h3, h5, h4⟩ := ownForm hO
      rw [List.length_map] at e3 h1
      exact ⟨v, rfl, hK, a3, c3, e3, ⟨h1, h2, h3⟩, by rw [ir_flat]; exact h4, fun _ p hp => Nat.le_trans hk.size (h5 p hp)⟩)
   |9, ho =>
    obtain rfl := Option.some.inj ho
    refine lw_value (v := .pointer (some ⟨w.heap.size, 3, none⟩)) (u' := u) ?_ (Kp.refl _ _) rfl
    go_simp
   |n + 10, _ => exact absurd hp (by simp [upTo])
  case hendcln2 =>
   intro a u hI
   have hsz : a.tmps.size = 32 := hI.size
   have hdf : a.defers = [] := hI.defers
   have f0 := hI.o 0 (by kernel_rfl)
   have f1 := hI.o 1 (by kernel_rfl)
   have f2 := hI.o 2 (by kernel_rfl)
   have f3 := hI.o 3 (by kernel_rfl)
   have f4 := hI.o 4 (by kernel_rfl)
   have f5 := hI.o 5 (by kernel_rfl)
   have f6 := hI.o 6 (by kernel_rfl)
   have f7 := hI.o 7 (by kernel_rfl)
   have f8 := hI.o 8 (by kernel_rfl)
   have f9 := hI.o 9 (by kernel_rfl)
   have f10 := hI.o 10 (by kernel_rfl)
   have f11 := hI.o 11 (by kernel_rfl)
   have f12 := hI.o 12 (by kernel_rfl)
   have f13 := hI.o 13 (by kernel_rfl)
   have f14 := hI.o 14 (by kernel_rfl)
   have f15 := hI.o 15 (by kernel_rfl)
   have f16 := hI.o 16 (by kernel_rfl)
   have f17 := hI.o 17 (by kernel_rfl)
   have f18 := hI.o 18 (by kernel_rfl)
   have f29 := hI.o 29 (by kernel_rfl)
   have f30 := hI.o 30 (by kernel_rfl)
   have f31 := hI.o 31 (by kernel_rfl)
   have g3 : SlF w4.heap.size (ir C.outs) C.outs.length u (a.tmps.getD 21 undef) := hI.val 2 _ 21 rfl rfl rfl
   obtain ⟨a3, p3, f21, -, -, -⟩ := id g3
   rw [f21] at g3
   have g4 : SlF w4.heap.size (ir C.bads) C.bads.length u (a.tmps.getD 24 undef) := hI.val 5 _ 24 rfl rfl rfl
   obtain ⟨a4, p4, f24, -, -, -⟩ := id g4
   rw [f24] at g4
   have g5 : SlF w4.heap.size (ir C.cons) C.cons.length u (a.tmps.getD 27 undef) := hI.val 8 _ 27 rfl rfl rfl
   obtain ⟨a5, p5, f27, -, -, -⟩ := id g5
   rw [f27] at g5
   have f28 : a.tmps.getD 28 undef = .pointer (some ⟨w.heap.size, 3, none⟩) := hI.val 9 _ 28 rfl rfl rfl
   have ha := act_list32 a hsz
   rw [hdf, f0, f1, f2, f3, f4, f5, f6, f7, f8, f9, f10, f11, f12, f13, f14, f15, f16, f17, f18, f21, f24, f27, f28, f29, f30, f31] at ha
   obtain ⟨x19, hx19⟩ : ∃ x, a.tmps.getD 19 undef = x := ⟨_, rfl⟩
   obtain ⟨x20, hx20⟩ : ∃ x, a.tmps.getD 20 undef = x := ⟨_, rfl⟩
   obtain ⟨x22, hx22⟩ : ∃ x, a.tmps.getD 22 undef = x := ⟨_, rfl⟩
   obtain ⟨x23, hx23⟩ : ∃ x, a.tmps.getD 23 undef = x := ⟨_, rfl⟩
   obtain ⟨x25, hx25⟩ : ∃ x, a.tmps.getD 25 undef = x := ⟨_, rfl⟩
   obtain ⟨x26, hx26⟩ : ∃ x, a.tmps.getD 26 undef = x := ⟨_, rfl⟩
   rw [hx19, hx20, hx22, hx23, hx25, hx26] at ha
   have hku := hI.kp
   have hB := HDcln2.out.kp hku (fun h => h)
   clear hI hsz hdf f0 f1 f2 f3 f4 f5 f6 f7 f8 f9 f10 f11 f12 f13 f14 f15 f16 f17 f18 f21 f24 f27 f28 f29 f30 f31 hx19 hx20 hx22 hx23 hx25 hx26
   subst ha
   have cs := hB.cell (i := 3) (v := .slice V.ao C.outs.length V.co) rfl
   have fs := hB.free 3
   have hB' : Blk (u.setCell ⟨w.heap.size, 3, none⟩ (.slice a3 C.outs.length p3)) w.heap.size #[.int .i64 C.max, .slice a1 C.ins.length p1, .slice a2 C.lats.length p2, .slice a3 C.outs.length p3, .slice V.ab C.bads.length V.cb, .slice V.ac C.cons.length V.cc, .slice a6 C.gates.length p6, .slice a7 V.ny p7, .string V.cm] 27 := hB.set_same 3 (.slice a3 C.outs.length p3)
   have hk' : Kp (fun j => j = w.heap.size) w4 (u.setCell ⟨w.heap.size, 3, none⟩ (.slice a3 C.outs.length p3)) := (hku.mono (fun _ _ h => h.elim)).setCell (S := fun j => j = w.heap.size) (p := ⟨w.heap.size, 3, none⟩) (fun _ => rfl) _
   have hkk := Kp.set u ⟨w.heap.size, 3, none⟩ (.slice a3 C.outs.length p3)
   refine wpAny_ready (rs := [10]) (by kernel_rfl) (by simp) ?_
   refine AllReady.cons (o := _) rfl (fun K1 hK1 => ?_) AllReady.nil
   go_simp
   refine hK1 _ _ ?_
   clear hK1 K1 cs fs hB hku
   have g3' := SlF.kp g3 hkk (fun j hj => by have hj2 : j = w.heap.size := hj; have := HLt.out; omega)
   clear g3
   have g3 := g3'
   clear g3'
   have g4' := SlF.kp g4 hkk (fun j hj => by have hj2 : j = w.heap.size := hj; have := HLt.out; omega)
   clear g4
   have g4 := g4'
   clear g4'
   have g5' := SlF.kp g5 hkk (fun j hj => by have hj2 : j = w.heap.size := hj; have := HLt.out; omega)
   clear g5
   have g5 := g5'
   clear g5'
   clear hkk
   generalize u.setCell ⟨w.heap.size, 3, none⟩ (.slice a3 C.outs.length p3) = u2 at hB' hk' g3 g4 g5 ⊢
   obtain ⟨u, rfl⟩ : ∃ u, u = u2 := ⟨_, rfl⟩
   have hB := hB'
   have hku := hk'
   clear hB' hk'
   try simp only [Act.put, List.setIfInBounds_toArray, List.set_cons_zero, List.set_cons_succ]
   refine wpAny_ready (rs := [11]) (by kernel_rfl) (by simp) ?_
   refine AllReady.cons (o := _) rfl (fun K1 hK1 => ?_) AllReady.nil
   go_simp
   refine hK1 _ _ ?_
   clear hK1 K1
   try simp only [Act.put, List.setIfInBounds_toArray, List.set_cons_zero, List.set_cons_succ]
   have cs := hB.cell (i := 4) (v := .slice V.ab C.bads.length V.cb) rfl
   have fs := hB.free 4
   have hB' : Blk (u.setCell ⟨w.heap.size, 4, none⟩ (.slice a4 C.bads.length p4)) w.heap.size #[.int .i64 C.max, .slice a1 C.ins.length p1, .slice a2 C.lats.length p2, .slice a3 C.outs.length p3, .slice a4 C.bads.length p4, .slice V.ac C.cons.length V.cc, .slice a6 C.gates.length p6, .slice a7 V.ny p7, .string V.cm] 27 := hB.set_same 4 (.slice a4 C.bads.length p4)
   have hk' : Kp (fun j => j = w.heap.size) w4 (u.setCell ⟨w.heap.size, 4, none⟩ (.slice a4 C.bads.length p4)) := hku.setCell (S := fun j => j = w.heap.size) (p := ⟨w.heap.size, 4, none⟩) (fun _ => rfl) _
   have hkk := Kp.set u ⟨w.heap.size, 4, none⟩ (.slice a4 C.bads.length p4)
   refine wpAny_ready (rs := [12]) (by kernel_rfl) (by simp) ?_
   refine AllReady.cons (o := _) rfl (fun K1 hK1 => ?_) AllReady.nil
   go_simp
   refine hK1 _ _ ?_
   clear hK1 K1 cs fs hB hku
   have g3' := SlF.kp g3 hkk (fun j hj => by have hj2 : j = w.heap.size := hj; have := HLt.out; omega)
   clear g3
   have g3 := g3'
   clear g3'
   have g4' := SlF.kp g4 hkk (fun j hj => by have hj2 : j = w.heap.size := hj; have := HLt.out; omega)
   clear g4
   have g4 := g4'
   clear g4'
   have g5' := SlF.kp g5 hkk (fun j hj => by have hj2 : j = w.heap.size := hj; have := HLt.out; omega)
   clear g5
   have g5 := g5'
   clear g5'
   clear hkk
   generalize u.setCell ⟨w.heap.size, 4, none⟩ (.slice a4 C.bads.length p4) = u2 at hB' hk' g3 g4 g5 ⊢
   obtain ⟨u, rfl⟩ : ∃ u, u = u2 := ⟨_, rfl⟩
   have hB := hB'
   have hku := hk'
   clear hB' hk'
   try simp only [Act.put, List.setIfInBounds_toArray, List.set_cons_zero, List.set_cons_succ]
   refine wpAny_ready (rs := [13]) (by kernel_rfl) (by simp) ?_
   refine AllReady.cons (o := _) rfl (fun K1 hK1 => ?_) AllReady.nil
   go_simp
   refine hK1 _ _ ?_
   clear hK1 K1
   try simp only [Act.put, List.setIfInBounds_toArray, List.set_cons_zero, List.set_cons_succ]
   have cs := hB.cell (i := 5) (v := .slice V.ac C.cons.length V.cc) rfl
   have fs := hB.free 5
   have hB' : Blk (u.setCell ⟨w.heap.size, 5, none⟩ (.slice a5 C.cons.length p5)) w.heap.size #[.int .i64 C.max, .slice a1 C.ins.length p1, .slice a2 C.lats.length p2, .slice a3 C.outs.length p3, .slice a4 C.bads.length p4, .slice a5 C.cons.length p5, .slice a6 C.gates.length p6, .slice a7 V.ny p7, .string V.cm] 27 := hB.set_same 5 (.slice a5 C.cons.length p5)
   have hk' : Kp (fun j => j = w.heap.size) w4 (u.setCell ⟨w.heap.size, 5, none⟩ (.slice a5 C.cons.length p5)) := hku.setCell (S := fun j => j = w.heap.size) (p := ⟨w.heap.size, 5, none⟩) (fun _ => rfl) _
   have hkk := Kp.set u ⟨w.heap.size, 5, none⟩ (.slice a5 C.cons.length p5)
   refine wpAny_ready (rs := [14]) (by kernel_rfl) (by simp) ?_
   refine AllReady.cons (o := _) rfl (fun K1 hK1 => ?_) AllReady.nil
   go_simp
   refine hK1 _ _ ?_
   clear hK1 K1 cs fs hB hku
   have g3' := SlF.kp g3 hkk (fun j hj => by have hj2 : j = w.heap.size := hj; have := HLt.out; omega)
   clear g3
   have g3 := g3'
   clear g3'
   have g4' := SlF.kp g4 hkk (fun j hj => by have hj2 : j = w.heap.size := hj; have := HLt.out; omega)
   clear g4
   have g4 := g4'
   clear g4'
   have g5' := SlF.kp g5 hkk (fun j hj => by have hj2 : j = w.heap.size := hj; have := HLt.out; omega)
   clear g5
   have g5 := g5'
   clear g5'
   clear hkk
   generalize u.setCell ⟨w.heap.size, 5, none⟩ (.slice a5 C.cons.length p5) = u2 at hB' hk' g3 g4 g5 ⊢
   obtain ⟨u, rfl⟩ : ∃ u, u = u2 := ⟨_, rfl⟩
   have hB := hB'
   have hku := hk'
   clear hB' hk'
   try simp only [Act.put, List.setIfInBounds_toArray, List.set_cons_zero, List.set_cons_succ]
   refine wpAny_done (by kernel_rfl) ?_ _
   have hG := HG.out
   obtain ⟨g1, g2, g6, g7⟩ := hG
   have q : ∀ j, (fun j => j = w.heap.size) j → j < wz.heap.size := fun j hj => by have hj2 : j = w.heap.size := hj; have := HLt0.out; omega
   have g1' := SlF.kp g1 hku q
   have g2' := SlF.kp g2 hku q
   have g6' := SlF.kp g6 hku q
   have g7' := SlF.kp g7 hku q
   clear g1 g2 g6 g7 q
   have hB2 := HBb.out.kp hku (fun e => by have e2 : w.heap.size + 1 = w.heap.size := e; omega)
   have HKf := Lib.hid (HKb.out.trans hku (fun j hj e => by have e2 : j = w.heap.size := e; omega))
   have hle : wz.heap.size ≤ w4.heap.size := HLe.out
   have g3 := g3.low hle
   have g4 := g4.low hle
   have g5 := g5.low hle
   have HGf := Lib.hid (And.intro g1' (And.intro g2' (And.intro g3 (And.intro g4 (And.intro g5 (And.intro g6' g7'))))))
   have HB3 := Lib.hid hB
   have HB2 := Lib.hid hB2
   clear hB hB2 hku g1' g2' g3 g4 g5 g6' g7' HG
   obtain ⟨d0, d1, d2, d3, d4, d5, d6, d7, d8⟩ := HB3.out.cells9
   obtain ⟨z0, z1, z2, z3, z4, z5, z6, z7, z8⟩ := HB2.out.cells9
   have fr := HB2.out.free
   have fr0 := fr 0
   have fr1 := fr 1
   have fr2 := fr 2
   have fr3 := fr 3
   have fr4 := fr 4
   have fr5 := fr 5
   have fr6 := fr 6
   have fr7 := fr 7
   have fr8 := fr 8
   clear fr
   have HBe := Lib.hid (HB2.out.set9 (.int .i64 C.max) (.slice a1 C.ins.length p1) (.slice a2 C.lats.length p2) (.slice a3 C.outs.length p3) (.slice a4 C.bads.length p4) (.slice a5 C.cons.length p5) (.slice a6 C.gates.length p6) (.slice a7 V.ny p7) (.string V.cm))
   have HKe := Lib.hid (Kp.set9 u (w.heap.size + 1) (.int .i64 C.max) (.slice a1 C.ins.length p1) (.slice a2 C.lats.length p2) (.slice a3 C.outs.length p3) (.slice a4 C.bads.length p4) (.slice a5 C.cons.length p5) (.slice a6 C.gates.length p6) (.slice a7 V.ny p7) (.string V.cm))
   unfold Go.Proofs.YtnoknecfdnjomaaGreat.set9 at HBe HKe
   have HKw := Lib.hid (HKf.out.trans HKe.out (fun j hj e => by have e2 : j = (w.heap.size + 1) := e; omega))
   have q : ∀ j, (fun j => j = (w.heap.size + 1)) j → j < wz.heap.size := fun j hj => by have hj2 : j = w.heap.size + 1 := hj; have := HLt2.out; omega
   have HCat := Lib.hid (HGf.out)
   obtain ⟨g1, g2, g3, g4, g5, g6, g7⟩ := HCat.out
   have HG2 := Lib.hid (And.intro (SlF.kp g1 HKe.out q) (And.intro (SlF.kp g2 HKe.out q) (And.intro (SlF.kp g3 HKe.out q) (And.intro (SlF.kp g4 HKe.out q) (And.intro (SlF.kp g5 HKe.out q) (And.intro (SlF.kp g6 HKe.out q) (SlF.kp g7 HKe.out q)))))))
   clear q g1 g2 g3 g4 g5 g6 g7 HCat
   go_wp2_with fail
   obtain ⟨s0, s1, s2, s3, s4, s5, s6, s7, s8⟩ := HBe.out.cells9
   obtain ⟨g1, g2, g3, g4, g5, g6, g7⟩ := HG2.out
   have HRes := Lib.hid (show CAt _ ⟨a1, p1, a2, p2, a3, p3, a4, p4, a5, p5, a6, p6, a7, V.ny, p7, V.cm⟩ C from ⟨(by have h := (SlF.row g1).2; rw [ir_flat] at h; exact h), (SlF.row g2).2, (by have h := (SlF.row g3).2; rw [ir_flat] at h; exact h), (by have h := (SlF.row g4).2; rw [ir_flat] at h; exact h), (by have h := (SlF.row g5).2; rw [ir_flat] at h; exact h), (SlF.row g6).2, ⟨rows, (SlF.row g7).2, HRL.out⟩, (SlF.row g1).1, (SlF.row g2).1, (SlF.row g3).1, (SlF.row g4).1, (SlF.row g5).1, (SlF.row g6).1, (SlF.row g7).1⟩)
   clear g1 g2 g3 g4 g5 g6 g7
   have HKeep : CKeep (w.heap.size + 2) _ ⟨a1, p1, a2, p2, a3, p3, a4, p4, a5, p5, a6, p6, a7, V.ny, p7, V.cm⟩ C := fun S w2 hS k => by
    obtain ⟨g1, g2, g3, g4, g5, g6, g7⟩ := HG2.out
    have q : ∀ j, S j → j < wz.heap.size := fun j hj => by have := hS j hj; have := HLt2.out; omega
    have g1 := SlF.kp g1 k q
    have g2 := SlF.kp g2 k q
    have g3 := SlF.kp g3 k q
    have g4 := SlF.kp g4 k q
    have g5 := SlF.kp g5 k q
    have g6 := SlF.kp g6 k q
    have g7 := SlF.kp g7 k q
    exact ⟨(by have h := (SlF.row g1).2; rw [ir_flat] at h; exact h), (SlF.row g2).2, (by have h := (SlF.row g3).2; rw [ir_flat] at h; exact h), (by have h := (SlF.row g4).2; rw [ir_flat] at h; exact h), (by have h := (SlF.row g5).2; rw [ir_flat] at h; exact h), (SlF.row g6).2, ⟨rows, (SlF.row g7).2, HRL.out⟩, (SlF.row g1).1, (SlF.row g2).1, (SlF.row g3).1, (SlF.row g4).1, (SlF.row g5).1, (SlF.row g6).1, (SlF.row g7).1⟩
   exact bodyPost_ret (v := .agg #[.int .i64 C.max, .slice a1 C.ins.length p1, .slice a2 C.lats.length p2, .slice a3 C.outs.length p3, .slice a4 C.bads.length p4, .slice a5 C.cons.length p5, .slice a6 C.gates.length p6, .slice a7 V.ny p7, .string V.cm]) (by simp [results, Tryz.results58, go_sem, s0, s1, s2, s3, s4, s5, s6, s7, s8]) rfl ⟨⟨a1, p1, a2, p2, a3, p3, a4, p4, a5, p5, a6, p6, a7, V.ny, p7, V.cm⟩, rfl, HRes.out, rfl, HKw.out, HKeep⟩

end Go.Proofs.YtnoknecfdnjomaaGreat

/-
  step.New of a circuit with which something is wrong.
-/
namespace Go.Proofs.YtnoknecfdnjomaaGreat
open Go.RowKit

set_option maxRecDepth 100000 in
theorem step_New_bad (V : CV) (C : Circ) (w : World) (h : CAt w V C) (hf : CFew C 1000000) (hc : ckCode C ≠ 0) :
  Calls Tryz.prog 33 #[.agg (cvals V C)] w fun e w' => e = .returned (.tuple #[.pointer none, .int .i64 (ckCode C)]) ∧ Kp (fun _ => False) w w' := by
 obtain ⟨wz, hwz⟩ : ∃ wz : World, wz = w.alloc (.cells (cvals V C) 27) := ⟨_, rfl⟩
 have HK0 := Lib.hid (show Kp (fun _ => False) w wz by rw [hwz]; exact (Kp.refl _ w).alloc _)
 have HC0 := Lib.hid (show Blk wz w.heap.size (cvals V C) 27 by rw [hwz]; exact Blk.new _ _ _)
 have HN := Lib.hid (circ_Chk V C wz (h.kp HK0.out) hf)
 obtain ⟨d0, d1, d2, d3, d4, d5, d6, d7, d8⟩ := Blk.cells9 (show Blk wz w.heap.size #[.int .i64 C.max, .slice V.ai C.ins.length V.ci, .slice V.al C.lats.length V.cl, .slice V.ao C.outs.length V.co, .slice V.ab C.bads.length V.cb, .slice V.ac C.cons.length V.cc, .slice V.ag C.gates.length V.cg, .slice V.ay V.ny V.cy, .string V.cm] 27 from HC0.out)
 have HZ := Lib.hid hwz
 obtain ⟨k, hk⟩ : ∃ k, ckCode C = k := ⟨_, rfl⟩
 rw [hk] at HN hc ⊢
 have q : ((k : Int) == 0) = false := by simp [hc]
 clear h hwz hk hc
 go_enter Tryz.func33, Tryz.ntmps33
 go_upto_region 1 with fail
 rw [← HZ.out]
 clear HZ
 go_wp2_with (go_at_call 57; refine Calls.mono HN.out ?_; rintro e w1 ⟨rfl, hK1⟩; have HK1 := Lib.hid (HK0.out.trans hK1 (fun _ _ h => h)); clear hK1)
 go_ret2
 exact ⟨rfl, HK1.out⟩

end Go.Proofs.YtnoknecfdnjomaaGreat

/-
  step.New of a good circuit.
-/
namespace Go.Proofs.YtnoknecfdnjomaaGreat
open Go.RowKit

def NetK (C : Circ) (w : World) (e : Ending) (w' : World) : Prop := ∃ a4 c4 a5 c5, e = .returned (.tuple #[.slice a4 (netOf C).1.length c4, .slice a5 (netOf C).2.length c5]) ∧
  (∀ (S : Nat → Prop) (w2 : World), (∀ j, S j → j < w.heap.size) → Kp S w' w2 → RowAt w2 a4 ((netOf C).1.map pr2).flatten ∧ RowAt w2 a5 (iv (netOf C).2)) ∧ Kp (fun _ => False) w w'
theorem NetK.of {C : Circ} {w : World} {e : Ending} {w' : World} (h : ∃ v4 v5, e = .returned (.tuple #[v4, v5]) ∧ OwnK w' w.heap.size 102 2 v4 ((netOf C).1.map pr2) ∧ Own w' w.heap.size 3 v5 (iv (netOf C).2) ∧ Kp (fun _ => False) w w') : NetK C w e w' := by
 obtain ⟨v4, v5, rfl, h4, h5, hK⟩ := h
 obtain ⟨a4, c4, e4, -, -, -, -, -⟩ := h4.form
 obtain ⟨a5, c5, e5, -, -, -, -⟩ := h5.form
 rw [List.length_map] at e4
 rw [iv_length] at e5
 subst e4
 subst e5
 refine ⟨a4, c4, a5, c5, rfl, fun S w2 hS k => ?_, hK⟩
 have g4 := h4.kp k (fun j hj hs => by have := (h4.own.lt j hj).1; have := hS j hs; omega)
 have g5 := Own.kp h5 k (fun j hj hs => by have := (h5.lt j hj).1; have := hS j hs; omega)
 obtain ⟨a4', c4', e4', -, -, -, -, hr4⟩ := g4.form
 obtain ⟨a5', c5', e5', -, -, -, hr5⟩ := g5.form
 simp only [Value.slice.injEq] at e4' e5'
 rw [← e4'.1] at hr4
 rw [← e5'.1] at hr5
 exact ⟨hr4, hr5⟩

def MKeep (B : Nat) (w : World) (t : TypeId) (V : CV) (C : Circ) (p : Nat) (a4 : Option Addr) (c4 : Nat) (a5 : Option Addr) (c5 : Nat) : Prop := ∀ (S : Nat → Prop) (w2 : World), (∀ j, S j → j < B) → Kp S w w2 → MAt w2 t V C p a4 c4 a5 c5

set_option maxRecDepth 100000 in
set_option maxHeartbeats 8000000 in
theorem step_NewK (V : CV) (C : Circ) (w : World) (h : CAt w V C) (hf : CFew C 1000000) (hy : V.ny ≤ 1000000) (hg : GoodC C) :
  Calls Tryz.prog 33 #[.agg (cvals V C)] w fun e w' => ∃ V' p a4 c4 a5 c5, e = .returned (.tuple #[.pointer (some ⟨p, 0, none⟩), .int .i64 0]) ∧ MKeep w.heap.size w' 99 V' C p a4 c4 a5 c5 ∧ Kp (fun _ => False) w w' := by
 obtain ⟨wz, hwz⟩ : ∃ wz : World, wz = w.alloc (.cells (cvals V C) 27) := ⟨_, rfl⟩
 have HK0 := Lib.hid (show Kp (fun _ => False) w wz by rw [hwz]; exact (Kp.refl _ w).alloc _)
 have HC0 := Lib.hid (show Blk wz w.heap.size #[.int .i64 C.max, .slice V.ai C.ins.length V.ci, .slice V.al C.lats.length V.cl, .slice V.ao C.outs.length V.co, .slice V.ab C.bads.length V.cb, .slice V.ac C.cons.length V.cc, .slice V.ag C.gates.length V.cg, .slice V.ay V.ny V.cy, .string V.cm] 27 by rw [hwz]; exact Blk.new w (cvals V C) _)
 have HSz := Lib.hid (show wz.heap.size = w.heap.size + 1 by rw [hwz]; simp)
 have HN := Lib.hid (circ_Chk V C wz (h.kp HK0.out) hf)
 have HCl := Lib.hid (fun u (hu : Kp (fun _ => False) wz u) => circ_Clone V C u ((h.kp HK0.out).kp hu) hf hy)
 obtain ⟨d0, d1, d2, d3, d4, d5, d6, d7, d8⟩ := Blk.cells9 HC0.out
 have HZ := Lib.hid hwz
 have HF := Lib.hid hf
 have HG := Lib.hid hg
 rw [hg.code] at HN
 unfold cvals at HN HCl
 clear h hwz hf hg hy
 go_enter Tryz.func33, Tryz.ntmps33
 go_upto_region 1 with fail
 rw [← HZ.out]
 clear HZ
 go_upto_region 4 with (go_at_call 57; with_reducible refine Calls.mono HN.out ?_; rintro e w1 ⟨rfl, hK1⟩)
 have HC1 := Lib.hid (HC0.out.kp hK1 (fun h => h))
 have HCl1 := Lib.hid (HCl.out w1 hK1)
 have HK1 := Lib.hid (HK0.out.trans hK1 (fun _ _ h => h))
 have HSz1 := Lib.hid (show w.heap.size + 1 ≤ w1.heap.size by have := hK1.size; have := HSz.out; omega)
 clear d0 d1 d2 d3 d4 d5 d6 d7 d8 hK1 HCl HC0
 obtain ⟨d0, d1, d2, d3, d4, d5, d6, d7, d8⟩ := Blk.cells9 HC1.out
 go_upto_region 5 with (go_at_call 58; with_reducible refine Calls.mono HCl1.out ?_; rintro e w2 ⟨V', rfl, -, hny, hK2, hkeep⟩; obtain ⟨z0, z1, z2, z3, z4, z5, z6, z7, z8⟩ := Blk.cells9 (HC1.out.kp hK2 (fun h => h)); have fr := (HC1.out.kp hK2 (fun h => h)).free; have fr0 := fr 0; have fr1 := fr 1; have fr2 := fr 2; have fr3 := fr 3; have fr4 := fr 4; have fr5 := fr 5; have fr6 := fr 6; have fr7 := fr 7; have fr8 := fr 8; have HK2 := Lib.hid hK2; have HKeep := Lib.hid hkeep; clear fr d0 d1 d2 d3 d4 d5 d6 d7 d8 hK2 hkeep hny)
 obtain ⟨w3, hw3⟩ : ∃ w3 : World, w3 = set9 w2 w.heap.size (.int .i64 C.max) (.slice V'.ai C.ins.length V'.ci) (.slice V'.al C.lats.length V'.cl) (.slice V'.ao C.outs.length V'.co) (.slice V'.ab C.bads.length V'.cb) (.slice V'.ac C.cons.length V'.cc) (.slice V'.ag C.gates.length V'.cg) (.slice V'.ay V'.ny V'.cy) (.string V'.cm) := ⟨_, rfl⟩
 have hB3 : Blk w3 w.heap.size #[.int .i64 C.max, .slice V'.ai C.ins.length V'.ci, .slice V'.al C.lats.length V'.cl, .slice V'.ao C.outs.length V'.co, .slice V'.ab C.bads.length V'.cb, .slice V'.ac C.cons.length V'.cc, .slice V'.ag C.gates.length V'.cg, .slice V'.ay V'.ny V'.cy, .string V'.cm] 27 := by
  rw [hw3]; exact (HC1.out.kp HK2.out (fun h => h)).set9 _ _ _ _ _ _ _ _ _
 have hk3 : Kp (fun j => j = w.heap.size) w2 w3 := by rw [hw3]; exact Kp.set9 _ _ _ _ _ _ _ _ _ _ _
 have HA3 := Lib.hid (HKeep.out _ w3 (fun j hj => by have hj2 : j = w.heap.size := hj; have := HSz1.out; omega) hk3)
 have HK3 := Lib.hid ((HK1.out.trans HK2.out (fun _ _ h => h)).trans hk3 (fun j hj e => by have e2 : j = w.heap.size := e; omega))
 have HB3 := Lib.hid hB3
 unfold Go.Proofs.YtnoknecfdnjomaaGreat.set9 at hw3
 rw [← hw3]
 have HN3 := Lib.hid ((circ_Net V' C w3 HA3.out HF.out HG.out).mono (fun e w' h => NetK.of h))
 have Hk3 := Lib.hid hk3
 clear hw3 hk3 hB3 z0 z1 z2 z3 z4 z5 z6 z7 z8 fr0 fr1 fr2 fr3 fr4 fr5 fr6 fr7 fr8 HK1 HC1
 obtain ⟨d0, d1, d2, d3, d4, d5, d6, d7, d8⟩ := Blk.cells9 HB3.out
 unfold cvals at HN3
 go_wp2_with fail
 refine Calls.mono HN3.out ?_
 rintro e w4 ⟨a4, c4, a5, c5, rfl, hr45, hK4⟩
 obtain ⟨f0, f1, f2, f3, f4, f5, f6, f7, f8⟩ := Blk.cells9 (HB3.out.kp hK4 (fun h => h))
 go_wp2_with fail
 have HK4 := Lib.hid (HK3.out.trans hK4 (fun _ _ h => h))
 have H45 := Lib.hid hr45
 have hK4' := Lib.hid hK4
 go_ret2
 have hka := (Kp.refl (fun _ => False) w4).alloc (.cells (cvals V' C ++ #[.slice a4 (netOf C).1.length c4, .slice a5 (netOf C).2.length c5]) 99)
 refine ⟨V', _, a4, c4, a5, c5, rfl, fun S w5 hS k5 => ?_, HK4.out.trans hka (fun _ _ h => h)⟩
 have hz4 := HK4.out.size
 have hz3 := HK3.out.size
 have k25 : Kp (fun j => j = w.heap.size ∨ S j) w2 w5 := ((Hk3.out.trans (hK4'.out.trans hka (fun _ _ h => h)) (fun _ _ h => h.elim)).mono (fun j _ h => Or.inl h)).trans (k5.mono (fun j _ h => Or.inr h)) (fun _ _ h => h)
 have hC := HKeep.out _ w5 (fun j hj => by have := HSz1.out; rcases hj with hj | hj <;> (try have := hS j hj) <;> omega) k25
 have hN := H45.out S w5 (fun j hj => by have := hS j hj; omega) ((hka.mono (fun _ _ h => h.elim)).trans k5 (fun _ _ h => h))
 exact ⟨(Blk.new w4 _ _).kp k5 (fun h => by have := hS _ h; omega), hC, hN.1, hN.2⟩

theorem step_New (V : CV) (C : Circ) (w : World) (h : CAt w V C) (hf : CFew C 1000000) (hy : V.ny ≤ 1000000) (hg : GoodC C) :
  Calls Tryz.prog 33 #[.agg (cvals V C)] w fun e w' => ∃ V' p a4 c4 a5 c5, e = .returned (.tuple #[.pointer (some ⟨p, 0, none⟩), .int .i64 0]) ∧ MAt w' 99 V' C p a4 c4 a5 c5 ∧ Kp (fun _ => False) w w' :=
 (step_NewK V C w h hf hy hg).mono (by
  rintro e w' ⟨V', p, a4, c4, a5, c5, rfl, hM, hK⟩
  exact ⟨V', p, a4, c4, a5, c5, rfl, hM (fun _ => False) w' (fun _ h => h.elim) (Kp.refl _ _), hK⟩)

end Go.Proofs.YtnoknecfdnjomaaGreat

/-
  explore.New.
-/
namespace Go.Proofs.YtnoknecfdnjomaaGreat
open Go.RowKit

def nS (C : Circ) : Nat := 2 ^ C.lats.length
def stS (C : Circ) : Nat → Bool := fun t => startsM C (stN C t)
def edS (C : Circ) : Nat → Nat → Bool := fun s t => (rowF2 C s (t : Int)).isSome
def bdS (C : Circ) (pr : Int) : Nat → Bool := fun t => decide (rowB C pr t ≠ -1)
def rchS (C : Circ) : Nat → Int := distG (nS C) (stS C) (edS C) (nS C)
def dstS (C : Circ) (pr : Int) : Nat → Int := distG (nS C) (bdS C pr) (revG (edS C)) (nS C)

def SpcAt (w : World) (C : Circ) (pr : Int) (sp : Nat) : Prop := ∃ (V : CV) (p g cg : Nat) (mb : Nat → Nat) (a4 a5 : Option Addr) (c4 c5 : Nat),
  MAt w 99 V C p a4 c4 a5 c5 ∧ w.cell? ⟨sp, 0, none⟩ = some (.pointer (some ⟨p, 0, none⟩)) ∧ w.cell? ⟨sp, 1, none⟩ = some (.slice (some ⟨g, 0, none⟩) (nS C) cg) ∧ RowsS w g (nS C) mb (rowF2 C) (rowB C pr) (rchS C) (dstS C pr)
theorem SpcAt.kp {w w' : World} {C : Circ} {pr : Int} {sp : Nat} (h : SpcAt w C pr sp) (k : Kp (fun _ => False) w w') : SpcAt w' C pr sp := by
 obtain ⟨V, p, g, cg, mb, a4, a5, c4, c5, h1, h2, h3, h4⟩ := h
 exact ⟨V, p, g, cg, mb, a4, a5, c4, c5, h1.kp k, k.cellAt2 h2, k.cellAt2 h3, h4.kp k⟩

theorem Kp.ofNew {S : Nat → Prop} {a w w' : World} (h : Kp (fun _ => False) a w) (k : Kp S w w') (hS : ∀ j, S j → a.heap.size ≤ j) : Kp (fun _ => False) a w' :=
 h.trans k (fun j h1 h2 => by have := hS j h2; omega)

set_option maxRecDepth 100000 in
set_option maxHeartbeats 4000000 in
theorem ex_New_bad (V : CV) (C : Circ) (w : World) (h : CAt w V C) (hf : CFew C 1000000) (hc : ckCode C ≠ 0) (pr : Int) :
  Calls Tryz.prog 8 #[.agg (cvals V C), .int .i64 pr] w fun e w' => e = .returned (.tuple #[.pointer none, .int .i64 (ckCode C)]) ∧ Kp (fun _ => False) w w' := by
 obtain ⟨wz, hwz⟩ : ∃ wz : World, wz = w.alloc (.cells (cvals V C) 27) := ⟨_, rfl⟩
 have HK0 := Lib.hid (show Kp (fun _ => False) w wz by rw [hwz]; exact (Kp.refl _ w).alloc _)
 have HC0 := Lib.hid (show Blk wz w.heap.size (cvals V C) 27 by rw [hwz]; exact Blk.new _ _ _)
 have HN := Lib.hid (step_New_bad V C wz (h.kp HK0.out) hf hc)
 obtain ⟨d0, d1, d2, d3, d4, d5, d6, d7, d8⟩ := Blk.cells9 (show Blk wz w.heap.size #[.int .i64 C.max, .slice V.ai C.ins.length V.ci, .slice V.al C.lats.length V.cl, .slice V.ao C.outs.length V.co, .slice V.ab C.bads.length V.cb, .slice V.ac C.cons.length V.cc, .slice V.ag C.gates.length V.cg, .slice V.ay V.ny V.cy, .string V.cm] 27 from HC0.out)
 have HZ := Lib.hid hwz
 obtain ⟨k, hk⟩ : ∃ k, ckCode C = k := ⟨_, rfl⟩
 rw [hk] at HN hc ⊢
 have q : ((k : Int) == 0) = false := by simp [hc]
 clear h hwz hk hc
 go_enter Tryz.func8, Tryz.ntmps8
 go_upto_region 1 with fail
 rw [← HZ.out]
 clear HZ
 go_wp2_with (go_at_call 33; refine Calls.mono HN.out ?_; rintro e w1 ⟨rfl, hK1⟩; have HK1 := Lib.hid (HK0.out.trans hK1 (fun _ _ h => h)); clear hK1)
 go_ret2
 exact ⟨rfl, HK1.out⟩

set_option maxRecDepth 100000 in
set_option maxHeartbeats 4000000 in
theorem ex_New_long (V : CV) (C : Circ) (w : World) (h : CAt w V C) (hf : CFew C 1000000) (hy : V.ny ≤ 1000000) (hg : GoodC C) (hl : 10 < C.lats.length ∨ 8 < C.ins.length) (pr : Int) :
  Calls Tryz.prog 8 #[.agg (cvals V C), .int .i64 pr] w fun e w' => e = .returned (.tuple #[.pointer none, .int .i64 4]) ∧ Kp (fun _ => False) w w' := by
 obtain ⟨wz, hwz⟩ : ∃ wz : World, wz = w.alloc (.cells (cvals V C) 27) := ⟨_, rfl⟩
 have HK0 := Lib.hid (show Kp (fun _ => False) w wz by rw [hwz]; exact (Kp.refl _ w).alloc _)
 have HC0 := Lib.hid (show Blk wz w.heap.size (cvals V C) 27 by rw [hwz]; exact Blk.new _ _ _)
 have HN := Lib.hid (step_New V C wz (h.kp HK0.out) hf hy hg)
 have HF := Lib.hid hf
 obtain ⟨d0, d1, d2, d3, d4, d5, d6, d7, d8⟩ := Blk.cells9 (show Blk wz w.heap.size #[.int .i64 C.max, .slice V.ai C.ins.length V.ci, .slice V.al C.lats.length V.cl, .slice V.ao C.outs.length V.co, .slice V.ab C.bads.length V.cb, .slice V.ac C.cons.length V.cc, .slice V.ag C.gates.length V.cg, .slice V.ay V.ny V.cy, .string V.cm] 27 from HC0.out)
 have HZ := Lib.hid hwz
 unfold cvals at HN
 clear h hwz hf hg
 go_enter Tryz.func8, Tryz.ntmps8
 go_upto_region 1 with fail
 rw [← HZ.out]
 clear HZ
 by_cases h10 : 10 < C.lats.length
 ·have q1 : ((C.lats.length : Nat) : Int) > 10 := by omega
  go_upto_region 4 with (go_at_call 33; with_reducible refine Calls.mono HN.out ?_; rintro e w1 ⟨V', p, a4, c4, a5, c5, rfl, hM, hK1⟩; have HM := Lib.hid hM; have HK1 := Lib.hid (HK0.out.trans hK1 (fun _ _ h => h)); clear hK1 hM)
  have HLa := Lib.hid (step_Latches V' C p a4 a5 c4 c5 w1 HM.out HF.out)
  go_wp2_with (go_at_call 34; refine Calls.mono HLa.out ?_; rintro e w2 ⟨rfl, rfl⟩)
  go_ret2
  exact ⟨rfl, HK1.out⟩
 ·have q1 : ¬ ((C.lats.length : Nat) : Int) > 10 := by omega
  have q2 : ((C.ins.length : Nat) : Int) > 8 := by omega
  go_upto_region 4 with (go_at_call 33; with_reducible refine Calls.mono HN.out ?_; rintro e w1 ⟨V', p, a4, c4, a5, c5, rfl, hM, hK1⟩; have HM := Lib.hid hM; have HK1 := Lib.hid (HK0.out.trans hK1 (fun _ _ h => h)); clear hK1 hM)
  have HLa := Lib.hid (step_Latches V' C p a4 a5 c4 c5 w1 HM.out HF.out)
  have HIn := Lib.hid (step_Inputs V' C p a4 a5 c4 c5 w1 HM.out HF.out)
  go_wp2_with (first
   |(go_at_call 34; refine Calls.mono HLa.out ?_; rintro e w2 ⟨rfl, rfl⟩)
   |(go_at_call 35; refine Calls.mono HIn.out ?_; rintro e w2 ⟨rfl, rfl⟩))
  go_ret2
  exact ⟨rfl, HK1.out⟩

theorem rowF2_lt {C : Circ} {t : Nat} {u i : Int} (h : rowF2 C t u = some i) : ∃ v : Nat, u = (v : Int) ∧ v < 2 ^ C.lats.length := by
 obtain ⟨j, -, -, -, h2⟩ := succK_some h
 refine ⟨nxtN C t j, h2.symm, ?_⟩
 have h1 := numP_lt (nextM C (stN C t) (inN2 C j))
 rw [nextM_len] at h1
 exact h1

def rowHP (mb : Nat → Nat) (BD : Nat → Int) (k i : Nat) : Value := if i / 4 < k then rowH mb BD (fun _ => -1) (fun _ => -1) i else if i % 4 = 0 then .map none else .int .i64 0
structure RowsW (w : World) (g n k : Nat) (mb : Nat → Nat) (F : Nat → Int → Option Int) (BD : Nat → Int) : Prop where
  blk : Blk w g (rowC n (rowHP mb BD k)) 75
  map : ∀ t, t < k → ∃ q, IMI w (mb t) q (F t) ∧ q ≤ 256
  ne : ∀ t, t < k → mb t ≠ g
theorem made_rows (mb : Nat → Nat) (BD : Nat → Int) (n : Nat) : madeCells #[.map none, .int .i64 0, .int .i64 0, .int .i64 0] (n * 4) = rowC n (rowHP mb BD 0) := by
 apply Array.ext
 ·simp [madeCells, rowC]
 ·intro i h1 h2
  have h3 : i % 4 = 0 ∨ i % 4 = 1 ∨ i % 4 = 2 ∨ i % 4 = 3 := by omega
  rcases h3 with e | e | e | e <;> simp [madeCells, rowC, rowHP, e]
theorem RowsW.kp {w w' : World} {g n k : Nat} {mb : Nat → Nat} {F : Nat → Int → Option Int} {BD : Nat → Int} (h : RowsW w g n k mb F BD) (kk : Kp (fun _ => False) w w') : RowsW w' g n k mb F BD :=
 ⟨h.blk.kp kk (fun h => h), fun t ht => by
  obtain ⟨q, h1, h2⟩ := h.map t ht
  exact ⟨q, h1.kp kk (fun h => h), h2⟩, h.ne⟩
def set4 (w : World) (g i : Nat) (a b c d : Value) : World := (((w.setCell ⟨g, i, none⟩ a).setCell ⟨g, i + 1, none⟩ b).setCell ⟨g, i + 2, none⟩ c).setCell ⟨g, i + 3, none⟩ d
theorem Kp.set4 (w : World) (g i : Nat) (a b c d : Value) : Kp (fun j => j = g) w (set4 w g i a b c d) := by
 have q1 := (Kp.refl (fun j => j = g) w).setCell (p := ⟨g, i, none⟩) (fun _ => rfl) a
 have q2 := q1.setCell (p := ⟨g, i + 1, none⟩) (fun _ => rfl) b
 have q3 := q2.setCell (p := ⟨g, i + 2, none⟩) (fun _ => rfl) c
 exact q3.setCell (p := ⟨g, i + 3, none⟩) (fun _ => rfl) d
theorem RowsW.put {w : World} {g n k b q : Nat} {mb : Nat → Nat} {F : Nat → Int → Option Int} {BD : Nat → Int} (h : RowsW w g n k mb F BD) (hI : IMI w b q (F k)) (hq : q ≤ 256) (hb : b ≠ g) :
  RowsW (set4 w g (k * 4) (.map (some b)) (.int .i64 (BD k)) (.int .i64 (-1)) (.int .i64 (-1))) g n (k + 1) (fun t => if t = k then b else mb t) F BD := by
 have hK := Kp.set4 w g (k * 4) (.map (some b)) (.int .i64 (BD k)) (.int .i64 (-1)) (.int .i64 (-1))
 refine ⟨?_, fun t ht => ?_, fun t ht => ?_⟩
 ·have := (((h.blk.set_same (k * 4) (.map (some b))).set_same (k * 4 + 1) (.int .i64 (BD k))).set_same (k * 4 + 2) (.int .i64 (-1))).set_same (k * 4 + 3) (.int .i64 (-1))
  rw [rowC_set, rowC_set, rowC_set, rowC_set] at this
  rw [show rowC n (rowHP (fun t => if t = k then b else mb t) BD (k + 1)) = _ from rowC_congr fun i hi => ?_]
  ·exact this
  ·show rowHP (fun t => if t = k then b else mb t) BD (k + 1) i = if i = k * 4 + 3 then _ else if i = k * 4 + 2 then _ else if i = k * 4 + 1 then _ else if i = k * 4 then _ else _
   unfold rowHP rowH rowV
   by_cases e : i / 4 = k
   ·have h4 : i % 4 = 0 ∨ i % 4 = 1 ∨ i % 4 = 2 ∨ i % 4 = 3 := by omega
    rw [if_pos (by omega)]
    rcases h4 with e4 | e4 | e4 | e4
    ·rw [if_pos e4, if_neg (by omega), if_neg (by omega), if_neg (by omega), if_pos (by omega)]; simp [e]
    ·rw [if_neg (by omega), if_pos e4, if_neg (by omega), if_neg (by omega), if_pos (by omega), e]
    ·rw [if_neg (by omega), if_neg (by omega), if_pos e4, if_neg (by omega), if_pos (by omega)]
    ·rw [if_neg (by omega), if_neg (by omega), if_neg (by omega), if_pos (by omega)]
   ·rw [if_neg (show ¬ i = k * 4 + 3 by omega), if_neg (show ¬ i = k * 4 + 2 by omega), if_neg (show ¬ i = k * 4 + 1 by omega), if_neg (show ¬ i = k * 4 by omega)]
    by_cases e2 : i / 4 < k
    ·rw [if_pos (by omega), if_pos e2]; simp [e]
    ·rw [if_neg (by omega), if_neg e2]
 ·by_cases e : t = k
  ·subst e
   exact ⟨q, by simp only [if_true]; exact hI.kp hK (fun e => hb e), hq⟩
  ·obtain ⟨q2, h1, h2⟩ := h.map t (by omega)
   exact ⟨q2, by simp only [e, if_false]; exact h1.kp hK (fun e2 => h.ne t (by omega) e2), h2⟩
 ·by_cases e : t = k
  ·simp only [e, if_true]; exact hb
  ·simp only [e, if_false]; exact h.ne t (by omega)
theorem RowsW.done {w : World} {g n : Nat} {mb : Nat → Nat} {F : Nat → Int → Option Int} {BD : Nat → Int} (h : RowsW w g n n mb F BD) : RowsS w g n mb F BD (fun _ => -1) (fun _ => -1) := by
 refine ⟨?_, h.map, h.ne⟩
 have := h.blk
 rw [rowC_congr (h' := rowH mb BD (fun _ => -1) (fun _ => -1)) fun i hi => by
  unfold rowHP
  rw [if_pos (by omega)]] at this
 exact this
def RowVV (C : Circ) (pr : Int) (B k : Nat) (u : World) (v : Value) : Prop := ∃ b q, v = .agg #[.map (some b), .int .i64 (rowB C pr k), .int .i64 (-1), .int .i64 (-1)] ∧ IMI u b q (rowF2 C k) ∧ B ≤ b ∧ q ≤ 256
theorem RowVV.st (C : Circ) (pr : Int) (B k : Nat) : Stable (RowVV C pr B k) := fun _ _ _ k ⟨b, q, h1, h2, h3⟩ => ⟨b, q, h1, h2.kp k (fun h => h), h3⟩

set_option maxRecDepth 100000 in
set_option maxHeartbeats 8000000 in
theorem ex_New (V : CV) (C : Circ) (w : World) (h : CAt w V C) (hf : CFew C 1000000) (hy : V.ny ≤ 1000000) (hg : GoodC C) (hl : C.lats.length ≤ 10) (hi : C.ins.length ≤ 8) (pr : Int) :
  Calls Tryz.prog 8 #[.agg (cvals V C), .int .i64 pr] w fun e w' => ∃ sp, e = .returned (.tuple #[.pointer (some ⟨sp, 0, none⟩), .int .i64 0]) ∧ SpcAt w' C pr sp ∧ Kp (fun _ => False) w w' := by
 obtain ⟨n, hn⟩ : ∃ n, nS C = n := ⟨_, rfl⟩
 have hn' : 2 ^ C.lats.length = n := hn
 have hn9 : n ≤ 1024 := by rw [← hn']; have := Nat.pow_le_pow_right (n := 2) (by decide) hl; exact this
 have hn1 : 0 < n := by rw [← hn']; exact Nat.pow_pos (by decide)
 have HPw := Lib.hid (show wrap64 ((2 : Int) ^ C.lats.length) = (n : Int) by
  have e0 : ((2 : Int) ^ C.lats.length) = ((2 ^ C.lats.length : Nat) : Int) := by push_cast; rfl
  rw [e0, hn']
  unfold wrap64; omega)
 obtain ⟨i0, hi0, hz0, hz1, hz2⟩ := info_parts (show (Tryz.prog.info? 75).map (fun i => (i.zero, i.size, i.bytes)) = some (some (.agg #[.map none, .int .i64 0, .int .i64 0, .int .i64 0]), 4, 32) by kernel_rfl)
 have hmk : ∀ u : World, (Instr.makeSlice 70 (.int .i64 (n : Int)) (.int .i64 (n : Int))).run Tryz.prog u =
   .ok (.slice (some ⟨u.heap.size, 0, none⟩) n n) (u.alloc (.cells (madeCells #[.map none, .int .i64 0, .int .i64 0, .int .i64 0] (n * 4)) 75)) := fun u => by
  have h := run_make (P := Tryz.prog) u 70 75 i0 (.agg #[.map none, .int .i64 0, .int .i64 0, .int .i64 0]) Tryz.underlying70 hi0 hz0 .i64 .i64 (n : Int) (n : Int) (by omega) (Int.le_refl _) (by rw [hz2]; omega) (by omega)
  simpa [hz1, Value.cells] using h
 clear hi0 hz0 hz1 hz2 i0
 obtain ⟨wz, hwz⟩ : ∃ wz : World, wz = w.alloc (.cells (cvals V C) 27) := ⟨_, rfl⟩
 have HK0 := Lib.hid (show Kp (fun _ => False) w wz by rw [hwz]; exact (Kp.refl _ w).alloc _)
 have HC0 := Lib.hid (show Blk wz w.heap.size (cvals V C) 27 by rw [hwz]; exact Blk.new _ _ _)
 have HN := Lib.hid (step_New V C wz (h.kp HK0.out) hf hy hg)
 have HF := Lib.hid hf
 have HG := Lib.hid hg
 have HMk := Lib.hid hmk
 have HNn := Lib.hid hn
 obtain ⟨d0, d1, d2, d3, d4, d5, d6, d7, d8⟩ := Blk.cells9 (show Blk wz w.heap.size #[.int .i64 C.max, .slice V.ai C.ins.length V.ci, .slice V.al C.lats.length V.cl, .slice V.ao C.outs.length V.co, .slice V.ab C.bads.length V.cb, .slice V.ac C.cons.length V.cc, .slice V.ag C.gates.length V.cg, .slice V.ay V.ny V.cy, .string V.cm] 27 from HC0.out)
 have HZ := Lib.hid hwz
 unfold cvals at HN
 clear h hwz hf hg hmk hn hn'
 go_enter Tryz.func8, Tryz.ntmps8
 go_upto_region 1 with fail
 rw [← HZ.out]
 clear HZ
 have q1 : ¬ ((C.lats.length : Nat) : Int) > 10 := by omega
 have q2 : ¬ ((C.ins.length : Nat) : Int) > 8 := by omega
 go_upto_region 4 with (go_at_call 33; with_reducible refine Calls.mono HN.out ?_; rintro e w1 ⟨V', p, a4, c4, a5, c5, rfl, hM, hK1⟩; have HM := Lib.hid hM; have HK1 := Lib.hid (HK0.out.trans hK1 (fun _ _ h => h)); clear hK1 hM)
 have HLa := Lib.hid (step_Latches V' C p a4 a5 c4 c5 w1 HM.out HF.out)
 have HIn := Lib.hid (step_Inputs V' C p a4 a5 c4 c5 w1 HM.out HF.out)
 clear d0 d1 d2 d3 d4 d5 d6 d7 d8 HC0 HN
 go_upto_region 6 with (first
   |(go_at_call 34; refine Calls.mono HLa.out ?_; rintro e w2 ⟨rfl, rfl⟩)
   |(go_at_call 35; refine Calls.mono HIn.out ?_; rintro e w2 ⟨rfl, rfl⟩))
 have hmk := HMk.out
 have wn := HPw.out
 go_upto_region 7 with (first
   |(go_at_call 34; refine Calls.mono HLa.out ?_; rintro e w2 ⟨rfl, rfl⟩))
 obtain ⟨g, hgd⟩ : ∃ g, w1.heap.size = g := ⟨_, rfl⟩
 obtain ⟨sp, hsp⟩ : ∃ sp, g + 1 = sp := ⟨_, rfl⟩
 rw [hgd, hsp]
 obtain ⟨wB, hwB⟩ : ∃ wB : World, wB = ((w1.alloc (.cells (madeCells #[.map none, .int .i64 0, .int .i64 0, .int .i64 0] (n * 4)) 75)).alloc (.cells #[.pointer (some ⟨p, 0, none⟩), .slice (some ⟨g, 0, none⟩) n n] 72)) := ⟨_, rfl⟩
 rw [← hwB]
 have HKB := Lib.hid (show Kp (fun _ => False) w1 wB by rw [hwB]; exact ((Kp.refl _ w1).alloc _).alloc _)
 have HBs := Lib.hid (show Blk wB sp #[.pointer (some ⟨p, 0, none⟩), .slice (some ⟨g, 0, none⟩) n n] 72 by
  rw [hwB, ← hsp, ← hgd, ← World.size_alloc w1 (.cells (madeCells #[.map none, .int .i64 0, .int .i64 0, .int .i64 0] (n * 4)) 75)]; exact Blk.new _ _ _)
 have HR0 := Lib.hid (show RowsW wB g n 0 (fun _ => 0) (rowF2 C) (rowB C pr) from ⟨by rw [hwB, ← made_rows, ← hgd]; exact (Blk.new w1 _ _).alloc _, fun t ht => absurd ht (Nat.not_lt_zero t), fun t ht => absurd ht (Nat.not_lt_zero t)⟩)
 have HGd := Lib.hid (show w1.heap.size = g ∧ sp ≠ g from ⟨hgd, by omega⟩)
 have hs1' := HBs.out.cell (i := 1) (v := .slice (some ⟨g, 0, none⟩) n n) rfl
 clear hwB hgd hsp hmk wn HLa HIn
 go_wp2_with fail
 go_loopw [9, 40] (fun v9 v40 wr => ∃ (k : Nat) (mb : Nat → Nat), v40 = .int .i64 (k : Int) ∧ k ≤ n ∧ RowsW wr g n k mb (rowF2 C) (rowB C pr) ∧ Kp (fun j => j = g) wB wr) (fun _ v40 _ => n - (intOf v40).toNat)
 case atStart => exact ⟨0, _, rfl, Nat.zero_le _, HR0.out, Kp.refl _ _⟩
 case round =>
  clear HR0 hs1'
  obtain ⟨k, mb, rfl, hk, hRw, hK⟩ := hrel
  have HRw := Lib.hid hRw
  have HK := Lib.hid hK
  have hBp := HBs.out.kp hK (fun e => HGd.out.2 e)
  have HBp := Lib.hid hBp
  have hs1 := hBp.cell (i := 1) (v := .slice (some ⟨g, 0, none⟩) n n) rfl
  have hs0 := hBp.cell (i := 0) (v := .pointer (some ⟨p, 0, none⟩)) rfl
  have hgw := HGd.out.1
  have hKw : Kp (fun _ => False) w1 wr := HKB.out.ofNew hK (fun j e => by omega)
  have HKw := Lib.hid hKw
  have HMp := Lib.hid (HM.out.kp hKw)
  clear hRw hK hBp hKw hgw
  obtain ⟨wp, rfl⟩ : ∃ wp : World, wp = wr := ⟨_, rfl⟩
  by_cases hlt : k < n
  ·have k0 : (0 : Int) ≤ (k : Int) := by omega
   have k1 : (k : Int) < (n : Int) := by omega
   have HRwk := Lib.hid (fun u (hu : Kp (fun _ => False) wp u) => (ex_row (HMp.out.kp hu) HF.out HG.out (hu.cellAt2 hs0) hl hi k (by have := HNn.out; unfold nS at this; omega) pr).mono (R' := fun e w' => ∃ v, e = .returned v ∧ Kp (fun _ => False) u w' ∧ RowVV C pr wp.heap.size k w' v) (by
    rintro e w' ⟨⟨b, q, rfl, h1, h2, h3⟩, h4⟩
    exact ⟨_, rfl, h4, b, q, rfl, h1, Nat.le_trans hu.size h2, h3⟩))
   clear hs0
   go_upto_region 10 with fail
   refine wp_region_loose (p := upTo 10) (V := atV [EqV ((.pointer (some ⟨sp, 0, none⟩))), EqV (.pointer (some ⟨sp, 0, none⟩)), EqV (.pointer (some ⟨sp, 1, none⟩)), EqV (.slice (some ⟨g, 0, none⟩) n n), EqV ((.int .i64 (k : Int))), EqV ((.pointer (some ⟨sp, 0, none⟩))), EqV ((.int .i64 (k : Int))), EqV ((.int .i64 pr)), RowVV C pr wp.heap.size k, EqV (.pointer (some ⟨g, k * 4, none⟩))]) (LP := #[true, true, true, true, true, true, true, true, true, true, false]) (K := 1) (by kernel_rfl) (by kernel_rfl) (atV_st ?hstN10) ?hstepN10 (by kernel_rfl) ?hLPN10 (by kernel_rfl) ?hendN10
   case hstN10 =>
    intro W h
    simp only [List.mem_cons, List.not_mem_nil, or_false] at h
    rcases h with rfl | rfl | rfl | rfl | rfl | rfl | rfl | rfl | rfl | rfl <;> first | exact EqV.st _ | exact RowVV.st _ _ _ _
   case hLPN10 => exact upTo_spec (by kernel_rfl)
   case hstepN10 =>
    intro i o ho hp a u hk hoff hdep
    have e1 : a.tmps[1]?.getD undef = (.int .i64 pr) := slot_at (hoff 1 (noDst_spec (by kernel_rfl)))
    have e8 : a.tmps[8]?.getD undef = (.pointer (some ⟨sp, 0, none⟩)) := slot_at (hoff 8 (noDst_spec (by kernel_rfl)))
    have e9 : a.tmps[9]?.getD undef = (.int .i64 (k : Int)) := slot_at (hoff 9 (noDst_spec (by kernel_rfl)))
    clear hoff
    match i, ho with
    |0, ho =>
     obtain rfl := Option.some.inj ho
     refine lw_value (v := (.pointer (some ⟨sp, 0, none⟩))) (u' := u) ?_ (Kp.refl _ _) rfl
     go_simp
    |1, ho =>
     obtain rfl := Option.some.inj ho
     have e43 : a.tmps[43]?.getD undef = (.pointer (some ⟨sp, 0, none⟩)) := slot_at (hdep ⟨0, .data⟩ (by simp) rfl _ 43 rfl rfl)
     refine lw_value (v := .pointer (some ⟨sp, 0, none⟩)) (u' := u) ?_ (Kp.refl _ _) rfl
     go_simp
    |2, ho =>
     obtain rfl := Option.some.inj ho
     have e44 : a.tmps[44]?.getD undef = .pointer (some ⟨sp, 0, none⟩) := slot_at (hdep ⟨1, .data⟩ (by simp) rfl _ 44 rfl rfl)
     refine lw_value (v := .pointer (some ⟨sp, 1, none⟩)) (u' := u) ?_ (Kp.refl _ _) rfl
     go_simp
    |3, ho =>
     obtain rfl := Option.some.inj ho
     have e45 : a.tmps[45]?.getD undef = .pointer (some ⟨sp, 1, none⟩) := slot_at (hdep ⟨2, .data⟩ (by simp) rfl _ 45 rfl rfl)
     have c1 := hk.cellAt2 hs1
     refine lw_value (v := .slice (some ⟨g, 0, none⟩) n n) (u' := u) ?_ (Kp.refl _ _) rfl
     go_simp
    |4, ho =>
     obtain rfl := Option.some.inj ho
     refine lw_value (v := (.int .i64 (k : Int))) (u' := u) ?_ (Kp.refl _ _) rfl
     go_simp
    |5, ho =>
     obtain rfl := Option.some.inj ho
     refine lw_value (v := (.pointer (some ⟨sp, 0, none⟩))) (u' := u) ?_ (Kp.refl _ _) rfl
     go_simp
    |6, ho =>
     obtain rfl := Option.some.inj ho
     refine lw_value (v := (.int .i64 (k : Int))) (u' := u) ?_ (Kp.refl _ _) rfl
     go_simp
    |7, ho =>
     obtain rfl := Option.some.inj ho
     refine lw_value (v := (.int .i64 pr)) (u' := u) ?_ (Kp.refl _ _) rfl
     go_simp
    |8, ho =>
     obtain rfl := Option.some.inj ho
     have e48 : a.tmps[48]?.getD undef = (.pointer (some ⟨sp, 0, none⟩)) := slot_at (hdep ⟨5, .data⟩ (by simp) rfl _ 48 rfl rfl)
     have e49 : a.tmps[49]?.getD undef = (.int .i64 (k : Int)) := slot_at (hdep ⟨6, .data⟩ (by simp) rfl _ 49 rfl rfl)
     have e50 : a.tmps[50]?.getD undef = (.int .i64 pr) := slot_at (hdep ⟨7, .data⟩ (by simp) rfl _ 50 rfl rfl)
     refine lw_call (f := 36) (args := #[.pointer (some ⟨sp, 0, none⟩), .int .i64 (k : Int), .int .i64 pr]) ?_ ?_
     ·go_simp
     ·exact HRwk.out u hk
    |9, ho =>
     obtain rfl := Option.some.inj ho
     have e46 : a.tmps[46]?.getD undef = .slice (some ⟨g, 0, none⟩) n n := slot_at (hdep ⟨3, .data⟩ (by simp) rfl _ 46 rfl rfl)
     have e47 : a.tmps[47]?.getD undef = (.int .i64 (k : Int)) := slot_at (hdep ⟨4, .data⟩ (by simp) rfl _ 47 rfl rfl)
     refine lw_value (v := .pointer (some ⟨g, k * 4, none⟩)) (u' := u) ?_ (Kp.refl _ _) rfl
     go_simp
    |n + 10, _ => exact absurd hp (by simp [upTo])
   case hendN10 =>
    intro a u hI
    have hsz : a.tmps.size = 59 := hI.size
    have hdf : a.defers = [] := hI.defers
    have f0 := hI.o 0 (by kernel_rfl)
    have f1 := hI.o 1 (by kernel_rfl)
    have f2 := hI.o 2 (by kernel_rfl)
    have f3 := hI.o 3 (by kernel_rfl)
    have f4 := hI.o 4 (by kernel_rfl)
    have f5 := hI.o 5 (by kernel_rfl)
    have f6 := hI.o 6 (by kernel_rfl)
    have f7 := hI.o 7 (by kernel_rfl)
    have f8 := hI.o 8 (by kernel_rfl)
    have f9 := hI.o 9 (by kernel_rfl)
    have f10 := hI.o 10 (by kernel_rfl)
    have f11 := hI.o 11 (by kernel_rfl)
    have f12 := hI.o 12 (by kernel_rfl)
    have f13 := hI.o 13 (by kernel_rfl)
    have f14 := hI.o 14 (by kernel_rfl)
    have f15 := hI.o 15 (by kernel_rfl)
    have f16 := hI.o 16 (by kernel_rfl)
    have f17 := hI.o 17 (by kernel_rfl)
    have f18 := hI.o 18 (by kernel_rfl)
    have f19 := hI.o 19 (by kernel_rfl)
    have f20 := hI.o 20 (by kernel_rfl)
    have f21 := hI.o 21 (by kernel_rfl)
    have f22 := hI.o 22 (by kernel_rfl)
    have f23 := hI.o 23 (by kernel_rfl)
    have f24 := hI.o 24 (by kernel_rfl)
    have f25 := hI.o 25 (by kernel_rfl)
    have f26 := hI.o 26 (by kernel_rfl)
    have f27 := hI.o 27 (by kernel_rfl)
    have f28 := hI.o 28 (by kernel_rfl)
    have f29 := hI.o 29 (by kernel_rfl)
    have f30 := hI.o 30 (by kernel_rfl)
    have f31 := hI.o 31 (by kernel_rfl)
    have f32 := hI.o 32 (by kernel_rfl)
    have f33 := hI.o 33 (by kernel_rfl)
    have f34 := hI.o 34 (by kernel_rfl)
    have f35 := hI.o 35 (by kernel_rfl)
    have f36 := hI.o 36 (by kernel_rfl)
    have f37 := hI.o 37 (by kernel_rfl)
    have f38 := hI.o 38 (by kernel_rfl)
    have f39 := hI.o 39 (by kernel_rfl)
    have f40 := hI.o 40 (by kernel_rfl)
    have f41 := hI.o 41 (by kernel_rfl)
    have f42 := hI.o 42 (by kernel_rfl)
    have f53 := hI.o 53 (by kernel_rfl)
    have f54 := hI.o 54 (by kernel_rfl)
    have f55 := hI.o 55 (by kernel_rfl)
    have f56 := hI.o 56 (by kernel_rfl)
    have f57 := hI.o 57 (by kernel_rfl)
    have f58 := hI.o 58 (by kernel_rfl)
    have f43 : a.tmps.getD 43 undef = (.pointer (some ⟨sp, 0, none⟩)) := hI.val 0 _ 43 rfl rfl rfl
    have f44 : a.tmps.getD 44 undef = .pointer (some ⟨sp, 0, none⟩) := hI.val 1 _ 44 rfl rfl rfl
    have f45 : a.tmps.getD 45 undef = .pointer (some ⟨sp, 1, none⟩) := hI.val 2 _ 45 rfl rfl rfl
    have f46 : a.tmps.getD 46 undef = .slice (some ⟨g, 0, none⟩) n n := hI.val 3 _ 46 rfl rfl rfl
    have f47 : a.tmps.getD 47 undef = (.int .i64 (k : Int)) := hI.val 4 _ 47 rfl rfl rfl
    have f48 : a.tmps.getD 48 undef = (.pointer (some ⟨sp, 0, none⟩)) := hI.val 5 _ 48 rfl rfl rfl
    have f49 : a.tmps.getD 49 undef = (.int .i64 (k : Int)) := hI.val 6 _ 49 rfl rfl rfl
    have f50 : a.tmps.getD 50 undef = (.int .i64 pr) := hI.val 7 _ 50 rfl rfl rfl
    have g51 : (RowVV C pr wp.heap.size k) u (a.tmps.getD 51 undef) := hI.val 8 _ 51 rfl rfl rfl
    have f52 : a.tmps.getD 52 undef = .pointer (some ⟨g, k * 4, none⟩) := hI.val 9 _ 52 rfl rfl rfl
    have ha := act_list59 a hsz
    rw [hdf, f0, f1, f2, f3, f4, f5, f6, f7, f8, f9, f10, f11, f12, f13, f14, f15, f16, f17, f18, f19, f20, f21, f22, f23, f24, f25, f26, f27, f28, f29, f30, f31, f32, f33, f34, f35, f36, f37, f38, f39, f40, f41, f42, f43, f44, f45, f46, f47, f48, f49, f50, f52, f53, f54, f55, f56, f57, f58] at ha
    obtain ⟨x51, hx51⟩ : ∃ x, a.tmps.getD 51 undef = x := ⟨_, rfl⟩
    rw [hx51] at ha
    rw [hx51] at g51
    have hku := hI.kp
    clear hI hsz hdf f0 f1 f2 f3 f4 f5 f6 f7 f8 f9 f10 f11 f12 f13 f14 f15 f16 f17 f18 f19 f20 f21 f22 f23 f24 f25 f26 f27 f28 f29 f30 f31 f32 f33 f34 f35 f36 f37 f38 f39 f40 f41 f42 f43 f44 f45 f46 f47 f48 f49 f50 f52 f53 f54 f55 f56 f57 f58 hx51
    subst ha
    refine wpAny_tail 10 rfl (by kernel_rfl) ?_
    simp only [List.drop_succ_cons, List.drop_zero]
    obtain ⟨b, q, rfl, hI, hb, hq⟩ := g51
    have HRu := Lib.hid (HRw.out.kp hku)
    have HIu := Lib.hid hI
    have hglt := HRw.out.blk.lt
    have HP := Lib.hid (HRu.out.put HIu.out hq (by omega))
    have HKu := Lib.hid (HK.out.trans (hku.mono (T := fun j => j = g) (fun _ _ h => h.elim)) (fun _ _ h => h))
    have y0 : u.cell? ⟨g, k * 4, none⟩ = _ := HRu.out.blk.cell (rowC_at (by omega))
    have y1 : u.cell? ⟨g, k * 4 + 1, none⟩ = _ := HRu.out.blk.cell (rowC_at (by omega))
    have y2 : u.cell? ⟨g, k * 4 + 2, none⟩ = _ := HRu.out.blk.cell (rowC_at (by omega))
    have y3 : u.cell? ⟨g, k * 4 + 3, none⟩ = _ := HRu.out.blk.cell (rowC_at (by omega))
    have f0 := HRu.out.blk.free (k * 4)
    have f1 := HRu.out.blk.free (k * 4 + 1)
    have f2 := HRu.out.blk.free (k * 4 + 2)
    have f3 := HRu.out.blk.free (k * 4 + 3)
    clear hku hI HRw HK
    simp only [Array.getD_eq_getD_getElem?, List.getElem?_toArray, List.getElem?_cons_zero, List.getElem?_cons_succ, Option.getD_some]
    go_wp2_with fail
    go_roundw
    case rel =>
     exact ⟨k + 1, _, by go_num, by omega, HP.out, HKu.out.trans (Kp.set4 u g (k * 4) _ _ _ _) (fun _ _ h => h)⟩
    case measure => simp [intOf]; omega
  ·obtain hk' : k = n := by omega
   subst hk'
   have k1 : ¬ (k : Int) < (k : Int) := by omega
   have hn2 : k = 2 ^ C.lats.length := by rw [← HNn.out]; rfl
   have hFr : ∀ t, t < k → ∀ u i, rowF2 C t u = some i → ∃ v : Nat, u = (v : Int) ∧ v < k := fun t ht u i h => by
    have := rowF2_lt h
    rw [← hn2] at this
    exact this
   have hpg : g ≠ p := by have := HM.out.blk.lt; have := HGd.out.1; omega
   have HFw := Lib.hid (ex_forwards HMp.out HF.out HG.out hl hn2 hs0 hs1 HRw.out.done hFr hpg (fun e => HGd.out.2 e.symm) (fun w2 hk => HM.out.kp (HKw.out.ofNew hk (fun j e => by have := HGd.out.1; omega))))
   have HBw := Lib.hid (fun (u : World) (R : Nat → Int) (hu : Kp (fun j => j = g) wp u) (hR : RowsS u g k mb (rowF2 C) (rowB C pr) R (fun _ => -1)) => ex_backwards (Rc := R) hn9 hn1 ((HBp.out.kp hu (fun e => HGd.out.2 e)).cell (i := 1) (v := .slice (some ⟨g, 0, none⟩) k k) rfl) hR hFr (fun e => HGd.out.2 e.symm))
   clear hs0 hs1 hFr hpg
   go_upto_region 13 with (go_at_call 37; refine Calls.mono HFw.out ?_; rintro e w2 ⟨rfl, hR2, hK2⟩; have HBk := Lib.hid (HBw.out w2 _ hK2 hR2); have HK2 := Lib.hid hK2; clear hR2 hK2)
   go_wp2_with (go_at_call 38; refine Calls.mono HBk.out ?_; rintro e w3 ⟨rfl, hR3, hK3⟩; have HR3 := Lib.hid hR3; have HK3 := Lib.hid (HK2.out.trans hK3 (fun _ _ h => h)); clear hR3 hK3)
   go_ret2
   have hkk : Kp (fun _ => False) w1 w3 := HKw.out.ofNew HK3.out (fun j e => by have := HGd.out.1; omega)
   have hBe := HBp.out.kp HK3.out (fun e => HGd.out.2 e)
   have hnk := HNn.out
   subst hnk
   exact ⟨sp, rfl, ⟨V', p, g, _, mb, a4, a5, c4, c5, HM.out.kp hkk, hBe.cell (i := 0) rfl, hBe.cell (i := 1) rfl, HR3.out⟩, HK1.out.trans hkk (fun _ _ h => h)⟩

end Go.Proofs.YtnoknecfdnjomaaGreat
