/-
  latchetref07.Values.
-/
import Derived.Test.YtnoknecfdnjomaaGreatM3
import Derived.Test.YtnoknecfdnjomaaGreatM1
import Derived.BigRegion
import Derived.Laws.CopyOwn
set_option linter.unusedVariables false
set_option linter.unusedSimpArgs false
namespace Go.Proofs.YtnoknecfdnjomaaGreat
open Go.RowKit

set_option maxRecDepth 100000 in
set_option maxHeartbeats 4000000 in
theorem ref07_Values (a : Option Addr) (n c : Nat) (N : List (Int × Int)) (b : Option Addr) (m d : Nat) (ins : List Bool) (w : World) (hr : RowAt w a (N.map pr2).flatten) (hn : N.length = n) (hm : n ≤ 10000000) (hN : GoodN N) (hi : RowAt w b (bv ins)) (him : ins.length = m) (hmm : m ≤ 9223372036854775807) :
  Calls Tryz.prog 88 #[.slice a n c, .slice b m d] w fun e w' => ∃ v, e = .returned v ∧ Own w' w.heap.size 4 v (bv (valsOf N ins)) ∧ Kp (fun _ => False) w w' := by
 have HI := Lib.hid (show (Tryz.prog.info? 4).map (fun i => (i.zero, i.size, i.bytes)) = some (some (.bool false), 1, 1) by kernel_rfl)
 have HR := Lib.hid hr
 have HN := Lib.hid hn
 have HGN := Lib.hid hN
 have HIn := Lib.hid hi
 have HIm := Lib.hid him
 obtain ⟨wz, hwz⟩ : ∃ wz : World, wz = w.alloc (.cells #[.bool false] 4) := ⟨_, rfl⟩
 have HK0 := Lib.hid (show Kp (fun _ => False) w wz by rw [hwz]; exact (Kp.refl _ w).alloc _)
 have HO0 : Hid (Own wz w.heap.size 4 (.slice (some ⟨w.heap.size, 0, none⟩) 1 1) (bv (valsK N ins 0).1)) := Lib.hid (by rw [hwz]; exact Own.lit (cs := [.bool false]) (Blk.new w _ _) (Nat.le_refl _) (by decide))
 have HZ := Lib.hid hwz
 clear hr hn hN hi him hwz
 go_enter Tryz.func88, Tryz.ntmps88
 go_upto_region 2 with fail
 rw [← HZ.out]
 clear HZ
 go_wp2_with fail
 go_loopw [5, 6, 7] (fun v5 v6 v7 wr => ∃ k : Nat, v7 = .int .i64 k ∧ k ≤ n ∧ v6 = .int .i64 ((valsK N ins k).2 : Int) ∧ Own wr w.heap.size 4 v5 (bv (valsK N ins k).1) ∧ Kp (fun _ => False) w wr) (fun _ _ v7 _ => n - (intOf v7).toNat)
 case atStart => exact ⟨0, rfl, by omega, rfl, HO0.out, HK0.out⟩
 case round =>
  obtain ⟨k, rfl, hk, rfl, hO, hK⟩ := hrel
  clear HO0 HK0
  obtain ⟨wp, rfl⟩ : ∃ wp : World, wp = wr := ⟨_, rfl⟩
  have HO := Lib.hid hO
  have HK := Lib.hid hK
  clear hO hK
  by_cases hlt : k < n
  ·have hkl : k < N.length := by rw [HN.out]; exact hlt
   obtain ⟨bb, off, rfl, e0, e1⟩ := pr2_cells (HR.out.kp HK.out (fun _ _ h => h)) hkl
   have hS := valsK_succ (ins := ins) hkl
   have hln := valsK_len (N := N) (ins := ins) k (by omega)
   have hct := valsK_cnt (N := N) (ins := ins) k (by omega)
   have hg := HGN.out k hkl
   obtain ⟨x1, hx1⟩ : ∃ x, (g2 N k).1 = x := ⟨_, rfl⟩
   obtain ⟨x2, hx2⟩ : ∃ x, (g2 N k).2 = x := ⟨_, rfl⟩
   obtain ⟨cn, hcn⟩ : ∃ x, (valsK N ins k).2 = x := ⟨_, rfl⟩
   unfold stepV at hS
   rw [hx1, hx2, hcn] at hS
   rw [hx1, hx2] at hg
   rw [hx1] at e0
   rw [hx2] at e1
   rw [hcn] at hct ⊢
   obtain ⟨vals, hvals⟩ : ∃ x, (valsK N ins k).1 = x := ⟨_, rfl⟩
   rw [hvals] at hS hln
   have HO2 := Lib.hid (show Own wp w.heap.size 4 u5 (bv vals) by rw [← hvals]; exact HO.out)
   have HLn := Lib.hid hln
   have i0 : (0 : Int) ≤ (k : Int) := by omega
   have i2 : (k : Int) < (n : Int) := by omega
   have HKs := Lib.hid HK.out.size
   clear hx1 hx2 hcn hvals hln HO hkl
   by_cases hneg : x1 < 0
   ·rw [if_pos hneg] at hS
    have q1 : decide (x1 < 0) = true := decide_eq_true hneg
    by_cases hc : cn < m
    ·have c0 : (0 : Int) ≤ (cn : Int) := by omega
     have c1 : (cn : Int) < (m : Int) := by omega
     obtain ⟨b3, off3, rfl, e3⟩ := HIn.out cn _ (bv_at (by rw [HIm.out]; exact hc))
     have e4 := HK.out.cellK e3
     obtain ⟨x, hx⟩ : ∃ x, vb ins cn = x := ⟨_, rfl⟩
     rw [hx] at e3 e4 hS
     have HS := Lib.hid hS
     have HNew := Lib.hid (Blk.new wp #[.bool x] 4)
     have HOw := Lib.hid (HO2.out.alloc (.cells #[.bool x] 4))
     clear hx hS e3
     cases x with
     |true =>
      go_wp2_with (at_builtin; refine wpList_append1_at rfl _ _ 38 4 rfl Tryz.underlying38 HI.out rfl HOw.out rfl ⟨wp.heap.size, 0, none⟩ (.bool true) rfl (HNew.out.cell rfl) rfl ?d1 ?d2 ?d3 ?_)
      case d1 => rw [bv_length, HLn.out]; omega
      case d2 => rw [bv_length, HLn.out]; unfold maxLen; omega
      case d3 => have := HKs.out; simp; omega
      intro v' w2 hO3 hg2 hat2
      have HR2 := Lib.hid (show ∃ k' : Nat, Value.int .i64 ((k : Int) + 1) = .int .i64 k' ∧ k' ≤ n ∧ Value.int .i64 ((cn : Int) + 1) = .int .i64 ((valsK N ins k').2 : Int) ∧ Own w2 w.heap.size 4 v' (bv (valsK N ins k').1) ∧ Kp (fun _ => False) w w2 from
       ⟨k + 1, by go_num, by omega, by rw [HS.out]; go_num, by rw [HS.out]; show Own _ _ _ _ (bv (vals ++ [true])); rw [bv_append]; exact hO3, (HK.out.alloc _).grown hg2 (fun j hj hl => by have := (HO2.out.lt j hj).1; omega)⟩)
      clear hO3 hg2 hat2 HNew HOw
      go_wp2_with fail
      go_roundw
      case rel => exact HR2.out
      case measure => simp [intOf]; omega
     |false =>
      go_wp2_with (at_builtin; refine wpList_append1_at rfl _ _ 38 4 rfl Tryz.underlying38 HI.out rfl HOw.out rfl ⟨wp.heap.size, 0, none⟩ (.bool false) rfl (HNew.out.cell rfl) rfl ?d1 ?d2 ?d3 ?_)
      case d1 => rw [bv_length, HLn.out]; omega
      case d2 => rw [bv_length, HLn.out]; unfold maxLen; omega
      case d3 => have := HKs.out; simp; omega
      intro v' w2 hO3 hg2 hat2
      have HR2 := Lib.hid (show ∃ k' : Nat, Value.int .i64 ((k : Int) + 1) = .int .i64 k' ∧ k' ≤ n ∧ Value.int .i64 ((cn : Int) + 1) = .int .i64 ((valsK N ins k').2 : Int) ∧ Own w2 w.heap.size 4 v' (bv (valsK N ins k').1) ∧ Kp (fun _ => False) w w2 from
       ⟨k + 1, by go_num, by omega, by rw [HS.out]; go_num, by rw [HS.out]; show Own _ _ _ _ (bv (vals ++ [false])); rw [bv_append]; exact hO3, (HK.out.alloc _).grown hg2 (fun j hj hl => by have := (HO2.out.lt j hj).1; omega)⟩)
      clear hO3 hg2 hat2 HNew HOw
      go_wp2_with fail
      go_roundw
      case rel => exact HR2.out
      case measure => simp [intOf]; omega
    ·have c1 : decide ((cn : Int) < (m : Int)) = false := decide_eq_false (by omega)
     have hx : vb ins cn = false := vb_far (by rw [HIm.out]; omega)
     rw [hx] at hS
     have HS := Lib.hid hS
     have HNew := Lib.hid (Blk.new wp #[.bool false] 4)
     have HOw := Lib.hid (HO2.out.alloc (.cells #[.bool false] 4))
     clear hx hS
     go_wp2_with (at_builtin; refine wpList_append1_at rfl _ _ 38 4 rfl Tryz.underlying38 HI.out rfl HOw.out rfl ⟨wp.heap.size, 0, none⟩ (.bool false) rfl (HNew.out.cell rfl) rfl ?d1 ?d2 ?d3 ?_)
     case d1 => rw [bv_length, HLn.out]; omega
     case d2 => rw [bv_length, HLn.out]; unfold maxLen; omega
     case d3 => have := HKs.out; simp; omega
     intro v' w2 hO3 hg2 hat2
     have HR2 := Lib.hid (show ∃ k' : Nat, Value.int .i64 ((k : Int) + 1) = .int .i64 k' ∧ k' ≤ n ∧ Value.int .i64 ((cn : Int) + 1) = .int .i64 ((valsK N ins k').2 : Int) ∧ Own w2 w.heap.size 4 v' (bv (valsK N ins k').1) ∧ Kp (fun _ => False) w w2 from
      ⟨k + 1, by go_num, by omega, by rw [HS.out]; go_num, by rw [HS.out]; show Own _ _ _ _ (bv (vals ++ [false])); rw [bv_append]; exact hO3, (HK.out.alloc _).grown hg2 (fun j hj hl => by have := (HO2.out.lt j hj).1; omega)⟩)
     clear hO3 hg2 hat2 HNew HOw
     go_wp2_with fail
     go_roundw
     case rel => exact HR2.out
     case measure => simp [intOf]; omega
   ·rw [if_neg hneg] at hS
    have q1 : decide (x1 < 0) = false := decide_eq_false hneg
    have hgg : 0 ≤ x1 ∧ x1 ≤ 2 * (k : Int) + 1 ∧ 0 ≤ x2 ∧ x2 ≤ 2 * (k : Int) + 1 := hg.resolve_left hneg
    obtain ⟨av, cv, ev, lv, mv, -, hrv⟩ := HO2.out.form
    rw [bv_length, HLn.out] at ev lv
    subst ev
    have HA1 := Lib.hid (ref07_Of av (k + 1) cv vals x1 wp hrv HLn.out (by omega) hgg.1 (by omega))
    have HA2 := Lib.hid (ref07_Of av (k + 1) cv vals x2 wp hrv HLn.out (by omega) hgg.2.2.1 (by omega))
    obtain ⟨r1, hr1⟩ : ∃ x, litN vals x1 = x := ⟨_, rfl⟩
    obtain ⟨r2, hr2⟩ : ∃ x, litN vals x2 = x := ⟨_, rfl⟩
    rw [hr1] at HA1 hS
    rw [hr2] at HA2 hS
    obtain ⟨rr, hrr⟩ : ∃ x, (r1 && r2) = x := ⟨_, rfl⟩
    rw [hrr] at hS
    have HS := Lib.hid hS
    have HRR := Lib.hid hrr
    have HNew := Lib.hid (Blk.new wp #[.bool rr] 4)
    have HOw := Lib.hid (HO2.out.alloc (.cells #[.bool rr] 4))
    have HFin := Lib.hid (show ∀ v' w2, Own w2 w.heap.size 4 v' (bv vals ++ [.bool rr]) → (wp.alloc (.cells #[.bool rr] 4)).grownBy w2 (Value.slice av (k + 1) cv).ownBlock → ∃ k' : Nat, Value.int .i64 ((k : Int) + 1) = .int .i64 k' ∧ k' ≤ n ∧ Value.int .i64 (cn : Int) = .int .i64 ((valsK N ins k').2 : Int) ∧ Own w2 w.heap.size 4 v' (bv (valsK N ins k').1) ∧ Kp (fun _ => False) w w2 from fun v' w2 hO3 hg2 =>
     ⟨k + 1, by go_num, by omega, by rw [HS.out], by rw [HS.out]; show Own _ _ _ _ (bv (vals ++ [rr])); rw [bv_append]; exact hO3, (HK.out.alloc _).grown hg2 (fun j hj hl => by have := (HO2.out.lt j hj).1; omega)⟩)
    clear hr1 hr2 hrr hS hgg hg hrv
    cases r1 with
    |true =>
     obtain rfl : rr = r2 := by rw [← HRR.out]; rfl
     cases rr with
     |true =>
      go_wp2_with (first | (go_at_call 87; with_reducible refine Calls.mono HA1.out ?_; rintro e w2 ⟨rfl, rfl⟩) | (go_at_call 87; with_reducible refine Calls.mono HA2.out ?_; rintro e w2 ⟨rfl, rfl⟩) | (at_builtin; refine wpList_append1_at rfl _ _ 38 4 rfl Tryz.underlying38 HI.out rfl HOw.out rfl ⟨wp.heap.size, 0, none⟩ (.bool true) rfl (HNew.out.cell rfl) rfl ?d1 ?d2 ?d3 ?_))
      case d1 => rw [bv_length, HLn.out]; omega
      case d2 => rw [bv_length, HLn.out]; unfold maxLen; omega
      case d3 => have := HKs.out; simp; omega
      intro v' w2 hO3 hg2 hat2
      have HR2 := Lib.hid (HFin.out v' w2 hO3 hg2)
      clear hO3 hg2 hat2 HNew HOw HFin
      go_wp2_with fail
      go_roundw
      case rel => exact HR2.out
      case measure => simp [intOf]; omega
     |false =>
      go_wp2_with (first | (go_at_call 87; with_reducible refine Calls.mono HA1.out ?_; rintro e w2 ⟨rfl, rfl⟩) | (go_at_call 87; with_reducible refine Calls.mono HA2.out ?_; rintro e w2 ⟨rfl, rfl⟩) | (at_builtin; refine wpList_append1_at rfl _ _ 38 4 rfl Tryz.underlying38 HI.out rfl HOw.out rfl ⟨wp.heap.size, 0, none⟩ (.bool false) rfl (HNew.out.cell rfl) rfl ?d1 ?d2 ?d3 ?_))
      case d1 => rw [bv_length, HLn.out]; omega
      case d2 => rw [bv_length, HLn.out]; unfold maxLen; omega
      case d3 => have := HKs.out; simp; omega
      intro v' w2 hO3 hg2 hat2
      have HR2 := Lib.hid (HFin.out v' w2 hO3 hg2)
      clear hO3 hg2 hat2 HNew HOw HFin
      go_wp2_with fail
      go_roundw
      case rel => exact HR2.out
      case measure => simp [intOf]; omega
    |false =>
     obtain rfl : rr = false := by rw [← HRR.out]; rfl
     go_wp2_with (first | (go_at_call 87; with_reducible refine Calls.mono HA1.out ?_; rintro e w2 ⟨rfl, rfl⟩) | (at_builtin; refine wpList_append1_at rfl _ _ 38 4 rfl Tryz.underlying38 HI.out rfl HOw.out rfl ⟨wp.heap.size, 0, none⟩ (.bool false) rfl (HNew.out.cell rfl) rfl ?d1 ?d2 ?d3 ?_))
     case d1 => rw [bv_length, HLn.out]; omega
     case d2 => rw [bv_length, HLn.out]; unfold maxLen; omega
     case d3 => have := HKs.out; simp; omega
     intro v' w2 hO3 hg2 hat2
     have HR2 := Lib.hid (HFin.out v' w2 hO3 hg2)
     clear hO3 hg2 hat2 HNew HOw HFin
     go_wp2_with fail
     go_roundw
     case rel => exact HR2.out
     case measure => simp [intOf]; omega
  ·obtain rfl : k = n := by omega
   have HE := Lib.hid (show Own wp w.heap.size 4 u5 (bv (valsOf N ins)) from by unfold valsOf; rw [HN.out]; exact HO.out)
   go_wp2_with fail
   go_ret
   exact ⟨_, rfl, HE.out, HK.out⟩

end Go.Proofs.YtnoknecfdnjomaaGreat

/-
  A circuit's machine: what it computes, plainly; where it lies; latchetref17.New.
-/
namespace Go.Proofs.YtnoknecfdnjomaaGreat
open Go.RowKit

def insOf (C : Circ) (s i : List Bool) : List Bool := brought i C.ins.length ++ brought s C.lats.length
theorem insOf_len (C : Circ) (s i : List Bool) : (insOf C s i).length = C.ins.length + C.lats.length := by unfold insOf; rw [List.length_append, brought_len, brought_len]
def valsM (C : Circ) (s i : List Bool) : List Bool := valsOf (netOf C).1 (insOf C s i)
def litM (C : Circ) (s i : List Bool) (l : Int) : Bool := litN (valsM C s i) (ofN (netOf C).2 l)
def nextM (C : Circ) (s i : List Bool) : List Bool := C.lats.map (fun x => litM C s i x.2.1)
def holdsM (C : Circ) (s i : List Bool) : Bool := C.cons.all (litM C s i)
def badM (C : Circ) (s i : List Bool) (p : Int) : Bool := decide (0 ≤ p ∧ p < (C.bads.length : Int)) && litM C s i (gi C.bads p.toNat)
def startOk (r : Int) (x : Bool) : Bool := !(decide (r = 0) && x) && !(decide (r = 1) && !x)
def startsM (C : Circ) (s : List Bool) : Bool := decide (s.length = C.lats.length) && (List.range s.length).all (fun k => startOk (g3 C.lats k).2.2 (vb s k))
def stateM (C : Circ) (start : List Bool) (rows : List (List Bool)) : Nat → List Bool
  | 0 => brought start C.lats.length
  | k + 1 => nextM C (stateM C start rows k) (rows[k]?.getD [])
theorem lit_split {at_ : List Int} {vals : List Bool} {l : Int} (h0 : 0 ≤ gi at_ (l / 2).toNat) (h1 : gi at_ (l / 2).toNat % 2 = 0) : (litN vals (gi at_ (l / 2).toNat) != decide (l % 2 = 1)) = litN vals (ofN at_ l) := by
 unfold litN ofN
 by_cases e : l % 2 = 1
 ·rw [if_pos e]
  have e1 : ((gi at_ (l / 2).toNat + 1 - 2 * (gi at_ (l / 2).toNat % 2)) / 2).toNat = (gi at_ (l / 2).toNat / 2).toNat := by omega
  have e2 : (gi at_ (l / 2).toNat + 1 - 2 * (gi at_ (l / 2).toNat % 2)) % 2 = 1 := by omega
  have e3 : ¬ gi at_ (l / 2).toNat % 2 = 1 := by omega
  rw [e1, decide_eq_true e2, decide_eq_false e3, decide_eq_true e]
  cases vb vals (gi at_ (l / 2).toNat / 2).toNat <;> rfl
 ·rw [if_neg e]
  have e3 : ¬ gi at_ (l / 2).toNat % 2 = 1 := by omega
  rw [decide_eq_false e3, decide_eq_false e]
  cases vb vals (gi at_ (l / 2).toNat / 2).toNat <;> rfl

theorem lit_place {C : Circ} (h : GoodC C) {l : Int} (hl : l ∈ C.used) : 0 ≤ l ∧ (l / 2).toNat < (netOf C).2.length ∧ 0 ≤ gi (netOf C).2 (l / 2).toNat ∧ gi (netOf C).2 (l / 2).toNat % 2 = 0 ∧ gi (netOf C).2 (l / 2).toNat ≤ 2 * ((netOf C).1.length : Int) ∧ 0 ≤ ofN (netOf C).2 l ∧ ofN (netOf C).2 l ≤ 2 * ((netOf C).1.length : Int) + 1 := by
 have hi := netG_inv h (ordO C.gates).length (Nat.le_refl _)
 have hr := h.rng.use l hl
 have hmx := h.mx
 have hsz : (netOf C).2.length = MX C + 1 := hi.size
 have hd : DG C (ordO C.gates).length (l / 2).toNat := by
  have hn := h.known l hl
  unfold knownB at hn
  simp only [Bool.or_eq_true, decide_eq_true_eq, List.any_eq_true] at hn
  rcases hn with e | ⟨y, hy, e⟩
  ·left; omega
  ·unfold Circ.owned at hy
   rcases List.mem_append.1 hy with hy | hy
   ·rcases List.mem_append.1 hy with hy | hy
    ·exact .inr (.inl ⟨y, hy, by rw [e]⟩)
    ·exact .inr (.inr (.inl ⟨y, hy, by rw [e]⟩))
   ·obtain ⟨g, hg, rfl⟩ := List.mem_map.1 hy
    obtain ⟨i, hi⟩ := List.mem_iff_getElem?.1 hg
    have hil : i < C.gates.length := (List.getElem?_eq_some_iff.1 hi).1
    have hgi : g3 C.gates i = g := by unfold g3; rw [hi]; rfl
    refine .inr (.inr (.inr ⟨i, ?_, by rw [hgi, e]⟩))
    rw [List.take_length]
    refine Classical.byContradiction fun hm => ?_
    have hA := ordO_at C.gates
    have := nodup_lt hA.nd hA.lt hil hm
    rw [h.ord] at this
    omega
 have h1 := ofL_ok hi hr.1 (by omega) hd
 have h2 := hi.val (l / 2).toNat (by omega)
 refine ⟨hr.1, by omega, h1.1, h1.2.1, ?_, h1.2.2.2.1, h1.2.2.2.2⟩
 rcases h2 with h2 | h2
 ·have := h1.1
  unfold netOf at this ⊢
  omega
 ·exact h2.2.2

structure MAt (w : World) (t : TypeId) (V : CV) (C : Circ) (p : Nat) (a4 : Option Addr) (c4 : Nat) (a5 : Option Addr) (c5 : Nat) : Prop where
  blk : Blk w p (cvals V C ++ #[.slice a4 (netOf C).1.length c4, .slice a5 (netOf C).2.length c5]) t
  circ : CAt w V C
  net : RowAt w a4 ((netOf C).1.map pr2).flatten
  ats : RowAt w a5 (iv (netOf C).2)

theorem MAt.kp {w w' : World} {t : TypeId} {V : CV} {C : Circ} {p : Nat} {a4 a5 : Option Addr} {c4 c5 : Nat} (h : MAt w t V C p a4 c4 a5 c5) (k : Kp (fun _ => False) w w') : MAt w' t V C p a4 c4 a5 c5 :=
 ⟨h.blk.kp k (fun h => h), h.circ.kp k, h.net.kp k (fun _ _ h => h), h.ats.kp k (fun _ _ h => h)⟩

def NetP (C : Circ) (w : World) (e : Ending) (w' : World) : Prop := ∃ a4 c4 a5 c5, e = .returned (.tuple #[.slice a4 (netOf C).1.length c4, .slice a5 (netOf C).2.length c5]) ∧ RowAt w' a4 ((netOf C).1.map pr2).flatten ∧ RowAt w' a5 (iv (netOf C).2) ∧ Kp (fun _ => False) w w'
theorem NetP.of {C : Circ} {w : World} {e : Ending} {w' : World} (h : ∃ v4 v5, e = .returned (.tuple #[v4, v5]) ∧ OwnK w' w.heap.size 102 2 v4 ((netOf C).1.map pr2) ∧ Own w' w.heap.size 3 v5 (iv (netOf C).2) ∧ Kp (fun _ => False) w w') : NetP C w e w' := by
 obtain ⟨v4, v5, rfl, h4, h5, hK⟩ := h
 obtain ⟨a4, c4, e4, -, -, -, -, hr4⟩ := h4.form
 obtain ⟨a5, c5, e5, -, -, -, hr5⟩ := h5.form
 rw [List.length_map] at e4
 rw [iv_length] at e5
 subst e4
 subst e5
 exact ⟨a4, c4, a5, c5, rfl, hr4, hr5, hK⟩

set_option maxRecDepth 100000 in
theorem ref17_New (V : CV) (C : Circ) (w : World) (h : CAt w V C) (hf : CFew C 1000000) (hg : GoodC C) :
  Calls Tryz.prog 10 #[.agg (cvals V C)] w fun e w' => ∃ p a4 c4 a5 c5, e = .returned (.pointer (some ⟨p, 0, none⟩)) ∧ MAt w' 81 V C p a4 c4 a5 c5 ∧ Kp (fun _ => False) w w' := by
 obtain ⟨wz, hwz⟩ : ∃ wz : World, wz = w.alloc (.cells (cvals V C) 27) := ⟨_, rfl⟩
 have HK0 := Lib.hid (show Kp (fun _ => False) w wz by rw [hwz]; exact (Kp.refl _ w).alloc _)
 have HC0 := Lib.hid (show Blk wz w.heap.size (cvals V C) 27 by rw [hwz]; exact Blk.new _ _ _)
 have HA := Lib.hid h
 have HN := Lib.hid ((ref11_Net V C wz (h.kp HK0.out) hf hg).mono (fun e w' h => NetP.of h))
 obtain ⟨d0, d1, d2, d3, d4, d5, d6, d7, d8⟩ := Blk.cells9 (show Blk wz w.heap.size #[.int .i64 C.max, .slice V.ai C.ins.length V.ci, .slice V.al C.lats.length V.cl, .slice V.ao C.outs.length V.co, .slice V.ab C.bads.length V.cb, .slice V.ac C.cons.length V.cc, .slice V.ag C.gates.length V.cg, .slice V.ay V.ny V.cy, .string V.cm] 27 from HC0.out)
 have HF9 := Lib.hid (fun w1 (k : Kp (fun _ => False) wz w1) => Blk.cells9 (show Blk w1 w.heap.size #[.int .i64 C.max, .slice V.ai C.ins.length V.ci, .slice V.al C.lats.length V.cl, .slice V.ao C.outs.length V.co, .slice V.ab C.bads.length V.cb, .slice V.ac C.cons.length V.cc, .slice V.ag C.gates.length V.cg, .slice V.ay V.ny V.cy, .string V.cm] 27 from HC0.out.kp k (fun h => h)))
 have HZ := Lib.hid hwz
 clear h hwz
 go_enter Tryz.func10, Tryz.ntmps10
 go_upto_region 1 with fail
 rw [← HZ.out]
 clear HZ
 go_wp2_with (go_at_call 39; refine Calls.mono HN.out ?_; rintro e w1 ⟨a4, c4, a5, c5, rfl, hr4, hr5, hK1⟩; obtain ⟨f0, f1, f2, f3, f4, f5, f6, f7, f8⟩ := HF9.out w1 hK1)
 have HK1 := Lib.hid (HK0.out.trans hK1 (fun _ _ h => h))
 have H4 := Lib.hid hr4
 have H5 := Lib.hid hr5
 go_ret
 have hka := (Kp.refl (fun _ => False) w1).alloc (.cells (cvals V C ++ #[.slice a4 (netOf C).1.length c4, .slice a5 (netOf C).2.length c5]) 81)
 exact ⟨_, a4, c4, a5, c5, rfl, ⟨Blk.new w1 _ _, HA.out.kp (HK1.out.trans hka (fun _ _ h => h)), H4.out.kp hka (fun _ _ h => h), H5.out.kp hka (fun _ _ h => h)⟩, HK1.out.trans hka (fun _ _ h => h)⟩

end Go.Proofs.YtnoknecfdnjomaaGreat

/-
  latchetref17.Lit.
-/
namespace Go.Proofs.YtnoknecfdnjomaaGreat
open Go.RowKit

set_option maxRecDepth 100000 in
set_option maxHeartbeats 4000000 in
theorem ref17_Lit (V : CV) (C : Circ) (p : Nat) (a4 a5 : Option Addr) (c4 c5 : Nat) (sa : Option Addr) (sn sc : Nat) (ia : Option Addr) (in_ ic : Nat) (st ip : List Bool) (l : Int) (w : World) (hM : MAt w 81 V C p a4 c4 a5 c5) (hf : CFew C 1000000) (hg : GoodC C) (hs : RowAt w sa (bv st)) (hsn : st.length = sn) (hs1 : sn ≤ 100000000) (hi : RowAt w ia (bv ip)) (hin : ip.length = in_) (hi1 : in_ ≤ 100000000) (hl : l ∈ C.used) :
  Calls Tryz.prog 66 #[.pointer (some ⟨p, 0, none⟩), .slice sa sn sc, .slice ia in_ ic, .int .i64 l] w fun e w' => e = .returned (.bool (litM C st ip l)) ∧ Kp (fun _ => False) w w' := by
 have HIb := Lib.hid (show (Tryz.prog.info? 4).map (fun i => (i.zero, i.size, i.bytes)) = some (some (.bool false), 1, 1) by kernel_rfl)
 obtain ⟨l0, lq, ly0, ly1, ly2, -, -⟩ := lit_place hg hl
 have hnl := nodes_len C
 have hol := (ordO_at C.gates).len
 have hfi := hf.i
 have hfl := hf.l
 have hfg := hf.g
 have hN4 : (netOf C).1.length ≤ 3000000 := by omega
 have hN5 : (netOf C).2.length ≤ 20000000 := by
  have h1 := (netG_inv hg (ordO C.gates).length (Nat.le_refl _)).size
  have h2 := hg.mx
  have h3 := hg.rng.max1
  show (netG C _).2.length ≤ _
  omega
 obtain ⟨q, hq⟩ : ∃ q : Nat, (l / 2).toNat = q := ⟨_, rfl⟩
 have hld : l / 2 = (q : Int) := by omega
 have hsp := lit_split (vals := valsM C st ip) ly0 ly1
 rw [hq] at lq ly0 ly1 ly2 hsp
 obtain ⟨b5, o5, ha5, hY⟩ := hM.ats q _ (iv_at lq)
 obtain ⟨y, hy⟩ : ∃ y, gi (netOf C).2 q = y := ⟨_, rfl⟩
 rw [hy] at hY ly0 ly1 ly2 hsp
 have HY0 := Lib.hid hY
 have HPl := Lib.hid (show 0 ≤ y ∧ (y / 2).toNat < (netOf C).1.length + 1 from ⟨ly0, by omega⟩)
 have HLd := Lib.hid (show l.tdiv 2 = (q : Int) by rw [Int.tdiv_eq_ediv_of_nonneg l0]; exact hld)
 have HLm := Lib.hid (show l.tmod 2 = l % 2 from Int.tmod_eq_emod_of_nonneg l0)
 have HSp := Lib.hid (show (litN (valsM C st ip) y != (l % 2 == 1)) = litM C st ip l from by
  have e : (l % 2 == 1) = decide (l % 2 = 1) := by by_cases e : l % 2 = 1 <;> simp [e]
  rw [e]; exact hsp)
 have HM := Lib.hid hM
 have HF := Lib.hid hf
 have HG := Lib.hid hg
 have HS := Lib.hid hs
 have HSn := Lib.hid hsn
 have HI := Lib.hid hi
 have HIn := Lib.hid hin
 have q0 : (0 : Int) ≤ (q : Int) := by omega
 have q1 : (q : Int) < ((netOf C).2.length : Int) := by omega
 subst ha5
 clear hM hf hg hs hsn hi hin hl hq hY hy hsp hnl hol hfi hfl hfg ly0 ly1 ly2
 have HK0 := Lib.hid (Kp.refl (fun _ => False) w)
 have HB := Lib.hid HM.out.blk
 have HIn' := HIn
 go_enter Tryz.func66, Tryz.ntmps66
 go_upto_region 1 with fail
 refine wp_region_loose (p := upTo 16) (V := atV [EqV ((.slice ia in_ ic)), EqV ((.pointer (some ⟨p, 0, none⟩))), EqV (.pointer (some ⟨p, 0, none⟩)), EqV (.pointer (some ⟨p, 0, none⟩)), EqV (.pointer (some ⟨p, 1, none⟩)), EqV (.slice V.ai C.ins.length V.ci), EqV (.int .i64 (C.ins.length : Int)), (fun u v => Own u w.heap.size 4 v (bv (brought ip C.ins.length))), EqV ((.slice sa sn sc)), EqV ((.pointer (some ⟨p, 0, none⟩))), EqV (.pointer (some ⟨p, 0, none⟩)), EqV (.pointer (some ⟨p, 0, none⟩)), EqV (.pointer (some ⟨p, 2, none⟩)), EqV (.slice V.al C.lats.length V.cl), EqV (.int .i64 (C.lats.length : Int)), (fun u v => Own u w.heap.size 4 v (bv (brought st C.lats.length)))]) (LP := #[true, true, true, true, true, true, true, true, true, true, true, true, true, true, true, true, false, false]) (K := 2) (by kernel_rfl) (by kernel_rfl) (atV_st ?hstL1) ?hstepL1 (by kernel_rfl) ?hLPL1 (by kernel_rfl) ?hendL1
 case hstL1 =>
  intro W h
  simp only [List.mem_cons, List.not_mem_nil, or_false] at h
  rcases h with rfl | rfl | rfl | rfl | rfl | rfl | rfl | rfl | rfl | rfl | rfl | rfl | rfl | rfl | rfl | rfl <;> first | exact EqV.st _ | exact fun _ _ _ k h => Own.kp h k (fun _ _ h => h)
 case hLPL1 => exact upTo_spec (by kernel_rfl)
 case hstepL1 =>
  intro i o ho hp a u hk hoff hdep
  have e0 : a.tmps[0]?.getD undef = (.pointer (some ⟨p, 0, none⟩)) := slot_at (hoff 0 (noDst_spec (by kernel_rfl)))
  have e1 : a.tmps[1]?.getD undef = (.slice sa sn sc) := slot_at (hoff 1 (noDst_spec (by kernel_rfl)))
  have e2 : a.tmps[2]?.getD undef = (.slice ia in_ ic) := slot_at (hoff 2 (noDst_spec (by kernel_rfl)))
  clear hoff
  match i, ho with
  |0, ho =>
   obtain rfl := Option.some.inj ho
   refine lw_value (v := (.slice ia in_ ic)) (u' := u) ?_ (Kp.refl _ _) rfl
   go_simp
  |1, ho =>
   obtain rfl := Option.some.inj ho
   refine lw_value (v := (.pointer (some ⟨p, 0, none⟩))) (u' := u) ?_ (Kp.refl _ _) rfl
   go_simp
  |2, ho =>
   obtain rfl := Option.some.inj ho
   have e11 : a.tmps[11]?.getD undef = (.pointer (some ⟨p, 0, none⟩)) := slot_at (hdep ⟨1, .data⟩ (by simp) rfl _ 11 rfl rfl)
   refine lw_value (v := .pointer (some ⟨p, 0, none⟩)) (u' := u) ?_ (Kp.refl _ _) rfl
   go_simp
  |3, ho =>
   obtain rfl := Option.some.inj ho
   have e12 : a.tmps[12]?.getD undef = .pointer (some ⟨p, 0, none⟩) := slot_at (hdep ⟨2, .data⟩ (by simp) rfl _ 12 rfl rfl)
   refine lw_value (v := .pointer (some ⟨p, 0, none⟩)) (u' := u) ?_ (Kp.refl _ _) rfl
   go_simp
  |4, ho =>
   obtain rfl := Option.some.inj ho
   have e13 : a.tmps[13]?.getD undef = .pointer (some ⟨p, 0, none⟩) := slot_at (hdep ⟨3, .data⟩ (by simp) rfl _ 13 rfl rfl)
   refine lw_value (v := .pointer (some ⟨p, 1, none⟩)) (u' := u) ?_ (Kp.refl _ _) rfl
   go_simp
  |5, ho =>
   obtain rfl := Option.some.inj ho
   have e14 : a.tmps[14]?.getD undef = .pointer (some ⟨p, 1, none⟩) := slot_at (hdep ⟨4, .data⟩ (by simp) rfl _ 14 rfl rfl)
   have c1 := (HB.out.kp hk (fun h => h)).cell (i := 1) (v := .slice V.ai C.ins.length V.ci) rfl
   refine lw_value (v := .slice V.ai C.ins.length V.ci) (u' := u) ?_ (Kp.refl _ _) rfl
   go_simp
  |6, ho =>
   obtain rfl := Option.some.inj ho
   have e15 : a.tmps[15]?.getD undef = .slice V.ai C.ins.length V.ci := slot_at (hdep ⟨5, .data⟩ (by simp) rfl _ 15 rfl rfl)
   refine lw_value (v := .int .i64 (C.ins.length : Int)) (u' := u) ?_ (Kp.refl _ _) rfl
   go_simp
  |7, ho =>
   obtain rfl := Option.some.inj ho
   have e10 : a.tmps[10]?.getD undef = (.slice ia in_ ic) := slot_at (hdep ⟨0, .data⟩ (by simp) rfl _ 10 rfl rfl)
   have e16 : a.tmps[16]?.getD undef = .int .i64 (C.ins.length : Int) := slot_at (hdep ⟨6, .data⟩ (by simp) rfl _ 16 rfl rfl)
   refine lw_call (f := 71) (args := #[.slice ia in_ ic, .int .i64 (C.ins.length : Int)]) ?_ ?_
   ·go_simp
   ·exact (ref17_Brought ia in_ ic ip C.ins.length u (HI.out.kp (HK0.out.trans hk (fun _ _ h => h)) (fun _ _ h => h)) HIn.out (by omega) (by have := HF.out.i; omega)).mono (by
     rintro e u' ⟨v, rfl, hO, hK⟩
     exact ⟨v, rfl, hK, hO.mono (by have := hk.size; have := HK0.out.size; omega)⟩)
  |8, ho =>
   obtain rfl := Option.some.inj ho
   refine lw_value (v := (.slice sa sn sc)) (u' := u) ?_ (Kp.refl _ _) rfl
   go_simp
  |9, ho =>
   obtain rfl := Option.some.inj ho
   refine lw_value (v := (.pointer (some ⟨p, 0, none⟩))) (u' := u) ?_ (Kp.refl _ _) rfl
   go_simp
  |10, ho =>
   obtain rfl := Option.some.inj ho
   have e19 : a.tmps[19]?.getD undef = (.pointer (some ⟨p, 0, none⟩)) := slot_at (hdep ⟨9, .data⟩ (by simp) rfl _ 19 rfl rfl)
   refine lw_value (v := .pointer (some ⟨p, 0, none⟩)) (u' := u) ?_ (Kp.refl _ _) rfl
   go_simp
  |11, ho =>
   obtain rfl := Option.some.inj ho
   have e20 : a.tmps[20]?.getD undef = .pointer (some ⟨p, 0, none⟩) := slot_at (hdep ⟨10, .data⟩ (by simp) rfl _ 20 rfl rfl)
   refine lw_value (v := .pointer (some ⟨p, 0, none⟩)) (u' := u) ?_ (Kp.refl _ _) rfl
   go_simp
  |12, ho =>
   obtain rfl := Option.some.inj ho
   have e21 : a.tmps[21]?.getD undef = .pointer (some ⟨p, 0, none⟩) := slot_at (hdep ⟨11, .data⟩ (by simp) rfl _ 21 rfl rfl)
   refine lw_value (v := .pointer (some ⟨p, 2, none⟩)) (u' := u) ?_ (Kp.refl _ _) rfl
   go_simp
  |13, ho =>
   obtain rfl := Option.some.inj ho
   have e22 : a.tmps[22]?.getD undef = .pointer (some ⟨p, 2, none⟩) := slot_at (hdep ⟨12, .data⟩ (by simp) rfl _ 22 rfl rfl)
   have c1 := (HB.out.kp hk (fun h => h)).cell (i := 2) (v := .slice V.al C.lats.length V.cl) rfl
   refine lw_value (v := .slice V.al C.lats.length V.cl) (u' := u) ?_ (Kp.refl _ _) rfl
   go_simp
  |14, ho =>
   obtain rfl := Option.some.inj ho
   have e23 : a.tmps[23]?.getD undef = .slice V.al C.lats.length V.cl := slot_at (hdep ⟨13, .data⟩ (by simp) rfl _ 23 rfl rfl)
   refine lw_value (v := .int .i64 (C.lats.length : Int)) (u' := u) ?_ (Kp.refl _ _) rfl
   go_simp
  |15, ho =>
   obtain rfl := Option.some.inj ho
   have e18 : a.tmps[18]?.getD undef = (.slice sa sn sc) := slot_at (hdep ⟨8, .data⟩ (by simp) rfl _ 18 rfl rfl)
   have e24 : a.tmps[24]?.getD undef = .int .i64 (C.lats.length : Int) := slot_at (hdep ⟨14, .data⟩ (by simp) rfl _ 24 rfl rfl)
   refine lw_call (f := 71) (args := #[.slice sa sn sc, .int .i64 (C.lats.length : Int)]) ?_ ?_
   ·go_simp
   ·exact (ref17_Brought sa sn sc st C.lats.length u (HS.out.kp (HK0.out.trans hk (fun _ _ h => h)) (fun _ _ h => h)) HSn.out (by omega) (by have := HF.out.l; omega)).mono (by
     rintro e u' ⟨v, rfl, hO, hK⟩
     exact ⟨v, rfl, hK, hO.mono (by have := hk.size; have := HK0.out.size; omega)⟩)
  |n + 16, _ => exact absurd hp (by simp [upTo])
 intro a u hI
 have hsz : a.tmps.size = 46 := hI.size
 have hdf : a.defers = [] := hI.defers
 have f0 := hI.o 0 (by kernel_rfl)
 have f1 := hI.o 1 (by kernel_rfl)
 have f2 := hI.o 2 (by kernel_rfl)
 have f3 := hI.o 3 (by kernel_rfl)
 have f4 := hI.o 4 (by kernel_rfl)
 have f5 := hI.o 5 (by kernel_rfl)
 have f6 := hI.o 6 (by kernel_rfl)
 have f7 := hI.o 7 (by kernel_rfl)
 have f8 := hI.o 8 (by kernel_rfl)
 have f9 := hI.o 9 (by kernel_rfl)
 have f26 := hI.o 26 (by kernel_rfl)
 have f27 := hI.o 27 (by kernel_rfl)
 have f28 := hI.o 28 (by kernel_rfl)
 have f29 := hI.o 29 (by kernel_rfl)
 have f30 := hI.o 30 (by kernel_rfl)
 have f31 := hI.o 31 (by kernel_rfl)
 have f32 := hI.o 32 (by kernel_rfl)
 have f33 := hI.o 33 (by kernel_rfl)
 have f34 := hI.o 34 (by kernel_rfl)
 have f35 := hI.o 35 (by kernel_rfl)
 have f36 := hI.o 36 (by kernel_rfl)
 have f37 := hI.o 37 (by kernel_rfl)
 have f38 := hI.o 38 (by kernel_rfl)
 have f39 := hI.o 39 (by kernel_rfl)
 have f40 := hI.o 40 (by kernel_rfl)
 have f41 := hI.o 41 (by kernel_rfl)
 have f42 := hI.o 42 (by kernel_rfl)
 have f43 := hI.o 43 (by kernel_rfl)
 have f44 := hI.o 44 (by kernel_rfl)
 have f45 := hI.o 45 (by kernel_rfl)
 have f10 : a.tmps.getD 10 undef = (.slice ia in_ ic) := hI.val 0 _ 10 rfl rfl rfl
 have f11 : a.tmps.getD 11 undef = (.pointer (some ⟨p, 0, none⟩)) := hI.val 1 _ 11 rfl rfl rfl
 have f12 : a.tmps.getD 12 undef = .pointer (some ⟨p, 0, none⟩) := hI.val 2 _ 12 rfl rfl rfl
 have f13 : a.tmps.getD 13 undef = .pointer (some ⟨p, 0, none⟩) := hI.val 3 _ 13 rfl rfl rfl
 have f14 : a.tmps.getD 14 undef = .pointer (some ⟨p, 1, none⟩) := hI.val 4 _ 14 rfl rfl rfl
 have f15 : a.tmps.getD 15 undef = .slice V.ai C.ins.length V.ci := hI.val 5 _ 15 rfl rfl rfl
 have f16 : a.tmps.getD 16 undef = .int .i64 (C.ins.length : Int) := hI.val 6 _ 16 rfl rfl rfl
 have g17 : ((fun u v => Own u w.heap.size 4 v (bv (brought ip C.ins.length)))) u (a.tmps.getD 17 undef) := hI.val 7 _ 17 rfl rfl rfl
 have f18 : a.tmps.getD 18 undef = (.slice sa sn sc) := hI.val 8 _ 18 rfl rfl rfl
 have f19 : a.tmps.getD 19 undef = (.pointer (some ⟨p, 0, none⟩)) := hI.val 9 _ 19 rfl rfl rfl
 have f20 : a.tmps.getD 20 undef = .pointer (some ⟨p, 0, none⟩) := hI.val 10 _ 20 rfl rfl rfl
 have f21 : a.tmps.getD 21 undef = .pointer (some ⟨p, 0, none⟩) := hI.val 11 _ 21 rfl rfl rfl
 have f22 : a.tmps.getD 22 undef = .pointer (some ⟨p, 2, none⟩) := hI.val 12 _ 22 rfl rfl rfl
 have f23 : a.tmps.getD 23 undef = .slice V.al C.lats.length V.cl := hI.val 13 _ 23 rfl rfl rfl
 have f24 : a.tmps.getD 24 undef = .int .i64 (C.lats.length : Int) := hI.val 14 _ 24 rfl rfl rfl
 have g25 : ((fun u v => Own u w.heap.size 4 v (bv (brought st C.lats.length)))) u (a.tmps.getD 25 undef) := hI.val 15 _ 25 rfl rfl rfl
 have ha := act_list46 a hsz
 rw [hdf, f0, f1, f2, f3, f4, f5, f6, f7, f8, f9, f10, f11, f12, f13, f14, f15, f16, f18, f19, f20, f21, f22, f23, f24, f26, f27, f28, f29, f30, f31, f32, f33, f34, f35, f36, f37, f38, f39, f40, f41, f42, f43, f44, f45] at ha
 obtain ⟨x17, hx17⟩ : ∃ x, a.tmps.getD 17 undef = x := ⟨_, rfl⟩
 obtain ⟨x25, hx25⟩ : ∃ x, a.tmps.getD 25 undef = x := ⟨_, rfl⟩
 rw [hx17, hx25] at ha
 rw [hx17] at g17
 rw [hx25] at g25
 have hku := hI.kp
 clear hI hsz hdf f0 f1 f2 f3 f4 f5 f6 f7 f8 f9 f10 f11 f12 f13 f14 f15 f16 f18 f19 f20 f21 f22 f23 f24 f26 f27 f28 f29 f30 f31 f32 f33 f34 f35 f36 f37 f38 f39 f40 f41 f42 f43 f44 f45 hx17 hx25
 subst ha
 refine wpAny_tail 16 rfl (by kernel_rfl) ?_
 simp only [List.drop_succ_cons, List.drop_zero]
 obtain ⟨s2a, s2c, ev2, s2le, s2m, s2nil, -, hr2⟩ := ownForm g25
 have s2nil := s2nil
 rw [bv_length, brought_len] at ev2 s2le
 subst ev2
 have HO1 := Lib.hid g17
 have HR2 := Lib.hid hr2
 have HKu := Lib.hid hku
 have hlb := brought_len st C.lats.length
 clear g17 g25 hr2 hku
 go_wp2_with (at_builtin; refine wpList_append1s rfl _ _ 38 4 rfl Tryz.underlying38 HIb.out rfl HO1.out rfl s2a C.lats.length s2c (bv (brought st C.lats.length)) rfl (by rw [bv_length, brought_len]) HR2.out s2nil (bv_one _) ?k1 ?k2 ?k3 ?_)
 case k1 => have := HF.out.i; have := HF.out.l; rw [bv_length, brought_len]; omega
 case k2 => have := HF.out.i; have := HF.out.l; rw [bv_length, brought_len]; unfold maxLen; omega
 case k3 => have := HKu.out.size; simpa using this
 intro v9 w2 hO9 hg9 hat9
 have hO9' : Own w2 w.heap.size 4 v9 (bv (insOf C st ip)) := by unfold insOf; rw [bv_append]; exact hO9
 obtain ⟨n9, hn9⟩ : ∃ n, (insOf C st ip).length = n := ⟨_, rfl⟩
 obtain ⟨a9, c9, ev9, -, -, -, hr9⟩ := hO9'.form
 rw [bv_length, hn9] at ev9
 subst ev9
 have HK2 := Lib.hid (show Kp (fun _ => False) w w2 from ((Kp.refl (fun _ => False) w).trans HKu.out (fun _ _ h => h)).grown hg9 (fun j hj hl => by have := (HO1.out.lt j hj).1; omega))
 have HR9 := Lib.hid hr9
 have HN9 := Lib.hid hn9
 have hn91 : n9 ≤ 2000000 := by rw [← hn9, insOf_len]; have := HF.out.i; have := HF.out.l; omega
 have HY := Lib.hid (HK2.out.cellK HY0.out)
 have HB2 := Lib.hid (HB.out.kp HK2.out (fun h => h))
 clear hO9 hO9' hg9 hat9 hr9 hn9 hlb s2nil HB HO1 HR2 HKu
 have HB := HB2
 clear HB2
 go_upto_region 2 with fail
 refine wp_region_loose (p := upTo 19) (V := atV [EqV ((.pointer (some ⟨p, 0, none⟩))), EqV (.pointer (some ⟨p, 0, none⟩)), EqV (.pointer (some ⟨p, 9, none⟩)), EqV (.slice a4 (netOf C).1.length c4), EqV ((.slice a9 n9 c9)), (fun u v => Own u w.heap.size 4 v (bv (valsM C st ip))), EqV ((.pointer (some ⟨p, 0, none⟩))), EqV (.pointer (some ⟨p, 0, none⟩)), EqV (.pointer (some ⟨p, 10, none⟩)), EqV (.slice (some ⟨b5, o5, none⟩) (netOf C).2.length c5), EqV ((.int .i64 l)), EqV (.int .i64 (q : Int)), EqV (.pointer (some ⟨b5, o5 + q, none⟩)), EqV (.int .i64 y), EqV (.bool (litN (valsM C st ip) y)), EqV ((.int .i64 l)), EqV (.int .i64 (l % 2)), EqV (.bool (l % 2 == 1)), EqV (.bool (litN (valsM C st ip) y != (l % 2 == 1)))]) (LP := #[true, true, true, true, true, true, true, true, true, true, true, true, true, true, true, true, true, true, true, false]) (K := 1) (by kernel_rfl) (by kernel_rfl) (atV_st ?hstL2) ?hstepL2 (by kernel_rfl) ?hLPL2 (by kernel_rfl) ?hendL2
 case hstL2 =>
  intro W h
  simp only [List.mem_cons, List.not_mem_nil, or_false] at h
  rcases h with rfl | rfl | rfl | rfl | rfl | rfl | rfl | rfl | rfl | rfl | rfl | rfl | rfl | rfl | rfl | rfl | rfl | rfl | rfl <;> first | exact EqV.st _ | exact fun _ _ _ k h => Own.kp h k (fun _ _ h => h)
 case hLPL2 => exact upTo_spec (by kernel_rfl)
 case hstepL2 =>
  intro i o ho hp a u hk hoff hdep
  have e0 : a.tmps[0]?.getD undef = (.pointer (some ⟨p, 0, none⟩)) := slot_at (hoff 0 (noDst_spec (by kernel_rfl)))
  have e3 : a.tmps[3]?.getD undef = (.int .i64 l) := slot_at (hoff 3 (noDst_spec (by kernel_rfl)))
  have e9 : a.tmps[9]?.getD undef = (.slice a9 n9 c9) := slot_at (hoff 9 (noDst_spec (by kernel_rfl)))
  clear hoff
  match i, ho with
  |0, ho =>
   obtain rfl := Option.some.inj ho
   refine lw_value (v := (.pointer (some ⟨p, 0, none⟩))) (u' := u) ?_ (Kp.refl _ _) rfl
   go_simp
  |1, ho =>
   obtain rfl := Option.some.inj ho
   have e27 : a.tmps[27]?.getD undef = (.pointer (some ⟨p, 0, none⟩)) := slot_at (hdep ⟨0, .data⟩ (by simp) rfl _ 27 rfl rfl)
   refine lw_value (v := .pointer (some ⟨p, 0, none⟩)) (u' := u) ?_ (Kp.refl _ _) rfl
   go_simp
  |2, ho =>
   obtain rfl := Option.some.inj ho
   have e28 : a.tmps[28]?.getD undef = .pointer (some ⟨p, 0, none⟩) := slot_at (hdep ⟨1, .data⟩ (by simp) rfl _ 28 rfl rfl)
   refine lw_value (v := .pointer (some ⟨p, 9, none⟩)) (u' := u) ?_ (Kp.refl _ _) rfl
   go_simp
  |3, ho =>
   obtain rfl := Option.some.inj ho
   have e29 : a.tmps[29]?.getD undef = .pointer (some ⟨p, 9, none⟩) := slot_at (hdep ⟨2, .data⟩ (by simp) rfl _ 29 rfl rfl)
   have c1 := (HB.out.kp hk (fun h => h)).cell (i := 9) (v := .slice a4 (netOf C).1.length c4) rfl
   refine lw_value (v := .slice a4 (netOf C).1.length c4) (u' := u) ?_ (Kp.refl _ _) rfl
   go_simp
  |4, ho =>
   obtain rfl := Option.some.inj ho
   refine lw_value (v := (.slice a9 n9 c9)) (u' := u) ?_ (Kp.refl _ _) rfl
   go_simp
  |5, ho =>
   obtain rfl := Option.some.inj ho
   have e30 : a.tmps[30]?.getD undef = .slice a4 (netOf C).1.length c4 := slot_at (hdep ⟨3, .data⟩ (by simp) rfl _ 30 rfl rfl)
   have e31 : a.tmps[31]?.getD undef = (.slice a9 n9 c9) := slot_at (hdep ⟨4, .data⟩ (by simp) rfl _ 31 rfl rfl)
   refine lw_call (f := 88) (args := #[.slice a4 (netOf C).1.length c4, .slice a9 n9 c9]) ?_ ?_
   ·go_simp
   ·exact (ref07_Values a4 (netOf C).1.length c4 (netOf C).1 a9 n9 c9 (insOf C st ip) u (HM.out.net.kp (HK2.out.trans hk (fun _ _ h => h)) (fun _ _ h => h)) rfl (by omega) HG.out.net (HR9.out.kp hk (fun _ _ h => h)) HN9.out (by omega)).mono (by
     rintro e u' ⟨v, rfl, hO, hK⟩
     exact ⟨v, rfl, hK, hO.mono (by have := hk.size; have := HK2.out.size; omega)⟩)
  |6, ho =>
   obtain rfl := Option.some.inj ho
   refine lw_value (v := (.pointer (some ⟨p, 0, none⟩))) (u' := u) ?_ (Kp.refl _ _) rfl
   go_simp
  |7, ho =>
   obtain rfl := Option.some.inj ho
   have e33 : a.tmps[33]?.getD undef = (.pointer (some ⟨p, 0, none⟩)) := slot_at (hdep ⟨6, .data⟩ (by simp) rfl _ 33 rfl rfl)
   refine lw_value (v := .pointer (some ⟨p, 0, none⟩)) (u' := u) ?_ (Kp.refl _ _) rfl
   go_simp
  |8, ho =>
   obtain rfl := Option.some.inj ho
   have e34 : a.tmps[34]?.getD undef = .pointer (some ⟨p, 0, none⟩) := slot_at (hdep ⟨7, .data⟩ (by simp) rfl _ 34 rfl rfl)
   refine lw_value (v := .pointer (some ⟨p, 10, none⟩)) (u' := u) ?_ (Kp.refl _ _) rfl
   go_simp
  |9, ho =>
   obtain rfl := Option.some.inj ho
   have e35 : a.tmps[35]?.getD undef = .pointer (some ⟨p, 10, none⟩) := slot_at (hdep ⟨8, .data⟩ (by simp) rfl _ 35 rfl rfl)
   have c1 := (HB.out.kp hk (fun h => h)).cell (i := 10) (v := .slice (some ⟨b5, o5, none⟩) (netOf C).2.length c5) rfl
   refine lw_value (v := .slice (some ⟨b5, o5, none⟩) (netOf C).2.length c5) (u' := u) ?_ (Kp.refl _ _) rfl
   go_simp
  |10, ho =>
   obtain rfl := Option.some.inj ho
   refine lw_value (v := (.int .i64 l)) (u' := u) ?_ (Kp.refl _ _) rfl
   go_simp
  |11, ho =>
   obtain rfl := Option.some.inj ho
   have e37 : a.tmps[37]?.getD undef = (.int .i64 l) := slot_at (hdep ⟨10, .data⟩ (by simp) rfl _ 37 rfl rfl)
   have h2 := HLd.out
   have h3 : IntKind.i64.wrap (q : Int) = (q : Int) := by rw [IntKind.wrap_i64]; omega
   refine lw_value (v := .int .i64 (q : Int)) (u' := u) ?_ (Kp.refl _ _) rfl
   go_simp
  |12, ho =>
   obtain rfl := Option.some.inj ho
   have e36 : a.tmps[36]?.getD undef = .slice (some ⟨b5, o5, none⟩) (netOf C).2.length c5 := slot_at (hdep ⟨9, .data⟩ (by simp) rfl _ 36 rfl rfl)
   have e38 : a.tmps[38]?.getD undef = .int .i64 (q : Int) := slot_at (hdep ⟨11, .data⟩ (by simp) rfl _ 38 rfl rfl)
   refine lw_value (v := .pointer (some ⟨b5, o5 + q, none⟩)) (u' := u) ?_ (Kp.refl _ _) rfl
   go_simp
  |13, ho =>
   obtain rfl := Option.some.inj ho
   have e39 : a.tmps[39]?.getD undef = .pointer (some ⟨b5, o5 + q, none⟩) := slot_at (hdep ⟨12, .data⟩ (by simp) rfl _ 39 rfl rfl)
   have c1 := hk.cellK HY.out
   refine lw_value (v := .int .i64 y) (u' := u) ?_ (Kp.refl _ _) rfl
   go_simp
  |14, ho =>
   obtain rfl := Option.some.inj ho
   have e40 : a.tmps[40]?.getD undef = .int .i64 y := slot_at (hdep ⟨13, .data⟩ (by simp) rfl _ 40 rfl rfl)
   have hV : Own u w.heap.size 4 (a.tmps.getD 32 undef) (bv (valsM C st ip)) := hdep ⟨5, .data⟩ (by simp) rfl _ 32 rfl rfl
   obtain ⟨vA, vC, ev, -, -, -, hvr⟩ := hV.form
   rw [bv_length, show (valsM C st ip).length = (netOf C).1.length + 1 from valsOf_len _ _] at ev
   have e32 := slot_at ev
   refine lw_call (f := 87) (args := #[.slice vA ((netOf C).1.length + 1) vC, .int .i64 y]) ?_ ?_
   ·go_simp
   ·exact (ref07_Of vA ((netOf C).1.length + 1) vC (valsM C st ip) y u hvr (valsOf_len _ _) (by omega) HPl.out.1 HPl.out.2).mono (by
     rintro e u' ⟨rfl, rfl⟩
     exact ⟨_, rfl, Kp.refl _ _, rfl⟩)
  |15, ho =>
   obtain rfl := Option.some.inj ho
   refine lw_value (v := (.int .i64 l)) (u' := u) ?_ (Kp.refl _ _) rfl
   go_simp
  |16, ho =>
   obtain rfl := Option.some.inj ho
   have e42 : a.tmps[42]?.getD undef = (.int .i64 l) := slot_at (hdep ⟨15, .data⟩ (by simp) rfl _ 42 rfl rfl)
   have h2 := HLm.out
   refine lw_value (v := .int .i64 (l % 2)) (u' := u) ?_ (Kp.refl _ _) rfl
   go_simp
  |17, ho =>
   obtain rfl := Option.some.inj ho
   have e43 : a.tmps[43]?.getD undef = .int .i64 (l % 2) := slot_at (hdep ⟨16, .data⟩ (by simp) rfl _ 43 rfl rfl)
   refine lw_value (v := .bool (l % 2 == 1)) (u' := u) ?_ (Kp.refl _ _) rfl
   go_simp
  |18, ho =>
   obtain rfl := Option.some.inj ho
   have e41 : a.tmps[41]?.getD undef = .bool (litN (valsM C st ip) y) := slot_at (hdep ⟨14, .data⟩ (by simp) rfl _ 41 rfl rfl)
   have e44 : a.tmps[44]?.getD undef = .bool (l % 2 == 1) := slot_at (hdep ⟨17, .data⟩ (by simp) rfl _ 44 rfl rfl)
   refine lw_value (v := .bool (litN (valsM C st ip) y != (l % 2 == 1))) (u' := u) ?_ (Kp.refl _ _) rfl
   go_simp
   generalize litN (valsM C st ip) y = A
   generalize (l % 2 == 1) = B
   cases A <;> cases B <;> rfl
  |n + 19, _ => exact absurd hp (by simp [upTo])
 intro a u hI
 have hsz : a.tmps.size = 46 := hI.size
 have hdf : a.defers = [] := hI.defers
 have f0 := hI.o 0 (by kernel_rfl)
 have f1 := hI.o 1 (by kernel_rfl)
 have f2 := hI.o 2 (by kernel_rfl)
 have f3 := hI.o 3 (by kernel_rfl)
 have f4 := hI.o 4 (by kernel_rfl)
 have f5 := hI.o 5 (by kernel_rfl)
 have f6 := hI.o 6 (by kernel_rfl)
 have f7 := hI.o 7 (by kernel_rfl)
 have f8 := hI.o 8 (by kernel_rfl)
 have f9 := hI.o 9 (by kernel_rfl)
 have f10 := hI.o 10 (by kernel_rfl)
 have f11 := hI.o 11 (by kernel_rfl)
 have f12 := hI.o 12 (by kernel_rfl)
 have f13 := hI.o 13 (by kernel_rfl)
 have f14 := hI.o 14 (by kernel_rfl)
 have f15 := hI.o 15 (by kernel_rfl)
 have f16 := hI.o 16 (by kernel_rfl)
 have f17 := hI.o 17 (by kernel_rfl)
 have f18 := hI.o 18 (by kernel_rfl)
 have f19 := hI.o 19 (by kernel_rfl)
 have f20 := hI.o 20 (by kernel_rfl)
 have f21 := hI.o 21 (by kernel_rfl)
 have f22 := hI.o 22 (by kernel_rfl)
 have f23 := hI.o 23 (by kernel_rfl)
 have f24 := hI.o 24 (by kernel_rfl)
 have f25 := hI.o 25 (by kernel_rfl)
 have f26 := hI.o 26 (by kernel_rfl)
 have f27 : a.tmps.getD 27 undef = (.pointer (some ⟨p, 0, none⟩)) := hI.val 0 _ 27 rfl rfl rfl
 have f28 : a.tmps.getD 28 undef = .pointer (some ⟨p, 0, none⟩) := hI.val 1 _ 28 rfl rfl rfl
 have f29 : a.tmps.getD 29 undef = .pointer (some ⟨p, 9, none⟩) := hI.val 2 _ 29 rfl rfl rfl
 have f30 : a.tmps.getD 30 undef = .slice a4 (netOf C).1.length c4 := hI.val 3 _ 30 rfl rfl rfl
 have f31 : a.tmps.getD 31 undef = (.slice a9 n9 c9) := hI.val 4 _ 31 rfl rfl rfl
 have g32 : ((fun u v => Own u w.heap.size 4 v (bv (valsM C st ip)))) u (a.tmps.getD 32 undef) := hI.val 5 _ 32 rfl rfl rfl
 have f33 : a.tmps.getD 33 undef = (.pointer (some ⟨p, 0, none⟩)) := hI.val 6 _ 33 rfl rfl rfl
 have f34 : a.tmps.getD 34 undef = .pointer (some ⟨p, 0, none⟩) := hI.val 7 _ 34 rfl rfl rfl
 have f35 : a.tmps.getD 35 undef = .pointer (some ⟨p, 10, none⟩) := hI.val 8 _ 35 rfl rfl rfl
 have f36 : a.tmps.getD 36 undef = .slice (some ⟨b5, o5, none⟩) (netOf C).2.length c5 := hI.val 9 _ 36 rfl rfl rfl
 have f37 : a.tmps.getD 37 undef = (.int .i64 l) := hI.val 10 _ 37 rfl rfl rfl
 have f38 : a.tmps.getD 38 undef = .int .i64 (q : Int) := hI.val 11 _ 38 rfl rfl rfl
 have f39 : a.tmps.getD 39 undef = .pointer (some ⟨b5, o5 + q, none⟩) := hI.val 12 _ 39 rfl rfl rfl
 have f40 : a.tmps.getD 40 undef = .int .i64 y := hI.val 13 _ 40 rfl rfl rfl
 have f41 : a.tmps.getD 41 undef = .bool (litN (valsM C st ip) y) := hI.val 14 _ 41 rfl rfl rfl
 have f42 : a.tmps.getD 42 undef = (.int .i64 l) := hI.val 15 _ 42 rfl rfl rfl
 have f43 : a.tmps.getD 43 undef = .int .i64 (l % 2) := hI.val 16 _ 43 rfl rfl rfl
 have f44 : a.tmps.getD 44 undef = .bool (l % 2 == 1) := hI.val 17 _ 44 rfl rfl rfl
 have f45 : a.tmps.getD 45 undef = .bool (litN (valsM C st ip) y != (l % 2 == 1)) := hI.val 18 _ 45 rfl rfl rfl
 have ha := act_list46 a hsz
 rw [hdf, f0, f1, f2, f3, f4, f5, f6, f7, f8, f9, f10, f11, f12, f13, f14, f15, f16, f17, f18, f19, f20, f21, f22, f23, f24, f25, f26, f27, f28, f29, f30, f31, f33, f34, f35, f36, f37, f38, f39, f40, f41, f42, f43, f44, f45] at ha
 obtain ⟨x32, hx32⟩ : ∃ x, a.tmps.getD 32 undef = x := ⟨_, rfl⟩
 rw [hx32] at ha
 rw [hx32] at g32
 have hku := hI.kp
 clear hI hsz hdf f0 f1 f2 f3 f4 f5 f6 f7 f8 f9 f10 f11 f12 f13 f14 f15 f16 f17 f18 f19 f20 f21 f22 f23 f24 f25 f26 f27 f28 f29 f30 f31 f33 f34 f35 f36 f37 f38 f39 f40 f41 f42 f43 f44 f45 hx32
 subst ha
 refine wpAny_tail 19 rfl (by kernel_rfl) ?_
 simp only [List.drop_succ_cons, List.drop_zero]
 have HE := Lib.hid (show Kp (fun _ => False) w u from HK2.out.trans hku (fun _ _ h => h))
 clear hku g32
 go_wp2_with fail
 go_ret
 exact ⟨by rw [← HSp.out]; rfl, HE.out⟩

end Go.Proofs.YtnoknecfdnjomaaGreat

/-
  latchetref17: Next, Holds, Bad.
-/
namespace Go.Proofs.YtnoknecfdnjomaaGreat
open Go.RowKit

structure BS (w : World) (a : Option Addr) (n : Nat) (l : List Bool) : Prop where
  row : RowAt w a (bv l)
  len : l.length = n
  most : n ≤ 100000000
theorem BS.kp {w w' : World} {a : Option Addr} {n : Nat} {l : List Bool} (h : BS w a n l) (k : Kp (fun _ => False) w w') : BS w' a n l := ⟨h.row.kp k (fun _ _ h => h), h.len, h.most⟩

theorem lat_used {C : Circ} {k : Nat} (h : k < C.lats.length) : (g3 C.lats k).2.1 ∈ C.used := by
 have hm : (g3 C.lats k).2.1 ∈ C.lats.map (fun x => x.2.1) := List.mem_map.2 ⟨_, g3_mem h, rfl⟩
 unfold Circ.used
 simp only [List.mem_append]
 exact .inl (.inr hm)
theorem gi_mem {l : List Int} {k : Nat} (h : k < l.length) : gi l k ∈ l := by unfold gi; rw [List.getElem?_eq_getElem h]; exact List.getElem_mem _
theorem con_used {C : Circ} {k : Nat} (h : k < C.cons.length) : gi C.cons k ∈ C.used := by
 have hm := gi_mem h
 unfold Circ.used
 simp only [List.mem_append]
 exact .inl (.inl (.inr hm))
theorem bad_used {C : Circ} {k : Nat} (h : k < C.bads.length) : gi C.bads k ∈ C.used := by
 have hm := gi_mem h
 unfold Circ.used
 simp only [List.mem_append]
 exact .inl (.inl (.inl (.inr hm)))

theorem ref17_lit (V : CV) (C : Circ) (p : Nat) (a4 a5 : Option Addr) (c4 c5 : Nat) (sa : Option Addr) (sn sc : Nat) (ia : Option Addr) (in_ ic : Nat) (st ip : List Bool) (w : World) (hM : MAt w 81 V C p a4 c4 a5 c5) (hf : CFew C 1000000) (hg : GoodC C) (hs : BS w sa sn st) (hi : BS w ia in_ ip) :
  ∀ u, Kp (fun _ => False) w u → ∀ l, l ∈ C.used → Calls Tryz.prog 66 #[.pointer (some ⟨p, 0, none⟩), .slice sa sn sc, .slice ia in_ ic, .int .i64 l] u fun e w' => e = .returned (.bool (litM C st ip l)) ∧ Kp (fun _ => False) u w' :=
 fun u hu l hl => ref17_Lit V C p a4 a5 c4 c5 sa sn sc ia in_ ic st ip l u (hM.kp hu) hf hg (hs.kp hu).row hs.len hs.most (hi.kp hu).row hi.len hi.most hl

def nextK (C : Circ) (st ip : List Bool) (k : Nat) : List Bool := (C.lats.take k).map (fun x => litM C st ip x.2.1)
theorem nextK_succ {C : Circ} {st ip : List Bool} {k : Nat} (h : k < C.lats.length) : nextK C st ip (k + 1) = nextK C st ip k ++ [litM C st ip (g3 C.lats k).2.1] := by
 unfold nextK; rw [take_g3 h, List.map_append]; rfl
theorem nextK_full (C : Circ) (st ip : List Bool) : nextK C st ip C.lats.length = nextM C st ip := by unfold nextK nextM; rw [List.take_length]
theorem nextK_len {C : Circ} {st ip : List Bool} {k : Nat} (h : k ≤ C.lats.length) : (nextK C st ip k).length = k := by unfold nextK; simp; omega
theorem nextM_len (C : Circ) (st ip : List Bool) : (nextM C st ip).length = C.lats.length := by unfold nextM; simp

set_option maxRecDepth 100000 in
set_option maxHeartbeats 2000000 in
theorem ref17_Next (V : CV) (C : Circ) (p : Nat) (a4 a5 : Option Addr) (c4 c5 : Nat) (sa : Option Addr) (sn sc : Nat) (ia : Option Addr) (in_ ic : Nat) (st ip : List Bool) (w : World) (hM : MAt w 81 V C p a4 c4 a5 c5) (hf : CFew C 1000000) (hg : GoodC C) (hs : BS w sa sn st) (hi : BS w ia in_ ip) :
  Calls Tryz.prog 46 #[.pointer (some ⟨p, 0, none⟩), .slice sa sn sc, .slice ia in_ ic] w fun e w' => ∃ v, e = .returned v ∧ Own w' w.heap.size 4 v (bv (nextM C st ip)) ∧ Kp (fun _ => False) w w' := by
 have HIb := Lib.hid (show (Tryz.prog.info? 4).map (fun i => (i.zero, i.size, i.bytes)) = some (some (.bool false), 1, 1) by kernel_rfl)
 have HL := Lib.hid (ref17_lit V C p a4 a5 c4 c5 sa sn sc ia in_ ic st ip w hM hf hg hs hi)
 have HM := Lib.hid hM
 obtain ⟨nl, hnl⟩ : ∃ n, C.lats.length = n := ⟨_, rfl⟩
 have hnl1 : nl ≤ 1000000 := by have := hf.l; omega
 have HNl := Lib.hid hnl
 have HB := Lib.hid (show ∀ u, Kp (fun _ => False) w u → u.cell? ⟨p, 2, none⟩ = some (.slice V.al nl V.cl) from fun u hu => (hM.blk.kp hu (fun h => h)).cell (i := 2) (by rw [← hnl]; rfl))
 obtain ⟨wz, hwz⟩ : ∃ wz : World, wz = w.alloc (.cells #[] 4) := ⟨_, rfl⟩
 have HK0 := Lib.hid (show Kp (fun _ => False) w wz by rw [hwz]; exact (Kp.refl _ w).alloc _)
 have HO0 : Hid (Own wz w.heap.size 4 (.slice (some ⟨w.heap.size, 0, none⟩) 0 0) (bv (nextK C st ip 0))) := Lib.hid (by rw [hwz]; exact Own.lit (cs := []) (Blk.new w _ _) (Nat.le_refl _) (by decide))
 have HZ := Lib.hid hwz
 clear hM hf hg hs hi hnl hwz
 go_enter Tryz.func46, Tryz.ntmps46
 go_upto_region 2 with fail
 rw [← HZ.out]
 clear HZ
 go_wp2_with fail
 go_loopw [7, 8] (fun v7 v8 wr => ∃ k : Nat, v8 = .int .i64 k ∧ k ≤ nl ∧ Own wr w.heap.size 4 v7 (bv (nextK C st ip k)) ∧ Kp (fun _ => False) w wr) (fun _ v8 _ => nl - (intOf v8).toNat)
 case atStart => exact ⟨0, rfl, by omega, HO0.out, HK0.out⟩
 case round =>
  obtain ⟨k, rfl, hk, hO, hK⟩ := hrel
  clear HO0 HK0
  obtain ⟨wp, rfl⟩ : ∃ wp : World, wp = wr := ⟨_, rfl⟩
  have HO := Lib.hid hO
  have HK := Lib.hid hK
  have c2 := HB.out _ hK
  clear hO hK
  by_cases hlt : k < nl
  ·have hkl : k < C.lats.length := by rw [HNl.out]; exact hlt
   obtain ⟨b, off, ea, hE⟩ := HM.out.circ.latCell hkl
   have hc := HL.out _ HK.out _ (lat_used hkl)
   have hS := nextK_succ (st := st) (ip := ip) hkl
   have hln := nextK_len (C := C) (st := st) (ip := ip) (k := k) (by omega)
   obtain ⟨x, hx⟩ : ∃ x, (g3 C.lats k).2.1 = x := ⟨_, rfl⟩
   rw [hx] at hE hc hS
   obtain ⟨y, hy⟩ : ∃ y, litM C st ip x = y := ⟨_, rfl⟩
   rw [hy] at hc hS
   obtain ⟨-, e1, -⟩ := hE _ HK.out
   rw [ea] at c2
   have HC := Lib.hid hc
   have HS := Lib.hid hS
   have HLn := Lib.hid hln
   have i0 : (0 : Int) ≤ (k : Int) := by omega
   have i2 : (k : Int) < (nl : Int) := by omega
   clear hx hy hE hc hS hln ea hkl
   go_wp2_with (first
    |(go_at_call 66; with_reducible refine Calls.mono HC.out ?_; rintro e w1 ⟨rfl, hK1⟩; have HK1 := Lib.hid (HK.out.trans hK1 (fun _ _ h => h)); have HOw := Lib.hid ((HO.out.kp hK1 (fun _ _ h => h)).alloc (.cells #[.bool y] 4)); have HNew := Lib.hid (Blk.new w1 #[.bool y] 4); clear hK1)
    |(at_builtin; refine wpList_append1_at rfl _ _ 38 4 rfl Tryz.underlying38 HIb.out rfl HOw.out rfl ⟨w1.heap.size, 0, none⟩ (.bool y) rfl (HNew.out.cell rfl) rfl ?d1 ?d2 ?d3 ?_))
   case d1 => rw [bv_length, HLn.out]; omega
   case d2 => rw [bv_length, HLn.out]; unfold maxLen; omega
   case d3 => have := HK1.out.size; simp; omega
   intro v' w2 hO3 hg2 hat2
   have HR2 := Lib.hid (show Own w2 w.heap.size 4 v' (bv (nextK C st ip (k + 1))) ∧ Kp (fun _ => False) w w2 from ⟨by rw [HS.out, bv_append]; exact hO3, (HK1.out.alloc _).grown hg2 (fun j hj hl => by have := (HO.out.lt j hj).1; omega)⟩)
   clear hO3 hg2 hat2 HNew HOw
   go_wp2_with fail
   go_roundw
   case rel => exact ⟨k + 1, by go_num, by omega, HR2.out⟩
   case measure => simp [intOf]; omega
  ·obtain rfl : k = nl := by omega
   have HE := Lib.hid (show Own wp w.heap.size 4 u7 (bv (nextM C st ip)) from by rw [← nextK_full, HNl.out]; exact HO.out)
   go_wp2_with fail
   go_ret
   exact ⟨_, rfl, HE.out, HK.out⟩

set_option maxRecDepth 100000 in
set_option maxHeartbeats 2000000 in
theorem ref17_Holds (V : CV) (C : Circ) (p : Nat) (a4 a5 : Option Addr) (c4 c5 : Nat) (sa : Option Addr) (sn sc : Nat) (ia : Option Addr) (in_ ic : Nat) (st ip : List Bool) (w : World) (hM : MAt w 81 V C p a4 c4 a5 c5) (hf : CFew C 1000000) (hg : GoodC C) (hs : BS w sa sn st) (hi : BS w ia in_ ip) :
  Calls Tryz.prog 43 #[.pointer (some ⟨p, 0, none⟩), .slice sa sn sc, .slice ia in_ ic] w fun e w' => e = .returned (.bool (holdsM C st ip)) ∧ Kp (fun _ => False) w w' := by
 have HL := Lib.hid (ref17_lit V C p a4 a5 c4 c5 sa sn sc ia in_ ic st ip w hM hf hg hs hi)
 have HM := Lib.hid hM
 obtain ⟨nc, hnc⟩ : ∃ n, C.cons.length = n := ⟨_, rfl⟩
 have hnc1 : nc ≤ 1000000 := by have := hf.c; omega
 have HNc := Lib.hid hnc
 have HB := Lib.hid (show ∀ u, Kp (fun _ => False) w u → u.cell? ⟨p, 5, none⟩ = some (.slice V.ac nc V.cc) from fun u hu => (hM.blk.kp hu (fun h => h)).cell (i := 5) (by rw [← hnc]; rfl))
 clear hM hf hg hs hi hnc
 go_enter Tryz.func43, Tryz.ntmps43
 go_wp2_with fail
 go_loopw [7] (fun v7 wr => ∃ k : Nat, v7 = .int .i64 k ∧ k ≤ nc ∧ (C.cons.take k).all (litM C st ip) = true ∧ Kp (fun _ => False) w wr) (fun v7 _ => nc - (intOf v7).toNat)
 case atStart => exact ⟨0, rfl, by omega, rfl, Kp.refl _ _⟩
 case round =>
  obtain ⟨k, rfl, hk, hall, hK⟩ := hrel
  obtain ⟨wp, rfl⟩ : ∃ wp : World, wp = wr := ⟨_, rfl⟩
  have HK := Lib.hid hK
  have c5 := HB.out _ hK
  clear hK
  by_cases hlt : k < nc
  ·have hkl : k < C.cons.length := by rw [HNc.out]; exact hlt
   obtain ⟨b, off, ea, e0⟩ := (HM.out.circ.kp HK.out).c.get hkl
   have hc := HL.out _ HK.out _ (con_used hkl)
   have hS : (C.cons.take (k + 1)).all (litM C st ip) = litM C st ip (gi C.cons k) := by rw [take_gi hkl, List.all_append, hall]; simp
   have hF : litM C st ip (gi C.cons k) = false → holdsM C st ip = false := fun h => by
    unfold holdsM
    rw [List.all_eq_false]
    exact ⟨_, gi_mem hkl, by rw [h]; simp⟩
   obtain ⟨x, hx⟩ : ∃ x, gi C.cons k = x := ⟨_, rfl⟩
   rw [hx] at e0 hc hS hF
   obtain ⟨y, hy⟩ : ∃ y, litM C st ip x = y := ⟨_, rfl⟩
   rw [hy] at hc hS hF
   rw [ea] at c5
   have HC := Lib.hid hc
   have HS := Lib.hid hS
   have HFl := Lib.hid hF
   have i0 : (0 : Int) ≤ (k : Int) := by omega
   have i2 : (k : Int) < (nc : Int) := by omega
   clear hx hy hc hS hF ea hkl hall
   cases y with
   |true =>
    go_wp2_with (go_at_call 66; with_reducible refine Calls.mono HC.out ?_; rintro e w1 ⟨rfl, hK1⟩; have HK1 := Lib.hid (HK.out.trans hK1 (fun _ _ h => h)); clear hK1)
    go_roundw
    case rel => exact ⟨k + 1, by go_num, by omega, HS.out, HK1.out⟩
    case measure => simp [intOf]; omega
   |false =>
    go_wp2_with (go_at_call 66; with_reducible refine Calls.mono HC.out ?_; rintro e w1 ⟨rfl, hK1⟩; have HK1 := Lib.hid (HK.out.trans hK1 (fun _ _ h => h)); clear hK1)
    go_ret
    exact ⟨by rw [HFl.out (by simp)]; rfl, HK1.out⟩
  ·obtain rfl : k = nc := by omega
   have HE := Lib.hid (show holdsM C st ip = true from by unfold holdsM; rw [List.take_of_length_le (by rw [HNc.out]; exact Nat.le_refl _)] at hall; exact hall)
   clear hall
   go_wp2_with fail
   go_ret
   exact ⟨by rw [HE.out]; rfl, HK.out⟩

set_option maxRecDepth 100000 in
set_option maxHeartbeats 2000000 in
theorem ref17_Bad (V : CV) (C : Circ) (p : Nat) (a4 a5 : Option Addr) (c4 c5 : Nat) (sa : Option Addr) (sn sc : Nat) (ia : Option Addr) (in_ ic : Nat) (st ip : List Bool) (pr : Int) (w : World) (hM : MAt w 81 V C p a4 c4 a5 c5) (hf : CFew C 1000000) (hg : GoodC C) (hs : BS w sa sn st) (hi : BS w ia in_ ip) :
  Calls Tryz.prog 44 #[.pointer (some ⟨p, 0, none⟩), .slice sa sn sc, .slice ia in_ ic, .int .i64 pr] w fun e w' => e = .returned (.bool (badM C st ip pr)) ∧ Kp (fun _ => False) w w' := by
 have HL := Lib.hid (ref17_lit V C p a4 a5 c4 c5 sa sn sc ia in_ ic st ip w hM hf hg hs hi)
 obtain ⟨nb, hnb⟩ : ∃ n, C.bads.length = n := ⟨_, rfl⟩
 have hnb1 : nb ≤ 1000000 := by have := hf.b; omega
 have hB : w.cell? ⟨p, 4, none⟩ = some (.slice V.ab nb V.cb) := hM.blk.cell (i := 4) (by rw [← hnb]; rfl)
 have HM := Lib.hid hM
 have HNb := Lib.hid hnb
 obtain ⟨r, hr⟩ : ∃ r, badM C st ip pr = r := ⟨_, rfl⟩
 rw [hr]
 unfold badM at hr
 rw [hnb] at hr
 clear hM hf hg hs hi hnb
 by_cases h0 : 0 ≤ pr
 ·by_cases h1 : pr < (nb : Int)
  ·obtain ⟨k, rfl⟩ : ∃ k : Nat, pr = (k : Int) := ⟨pr.toNat, by omega⟩
   have hkl : k < C.bads.length := by rw [HNb.out]; omega
   obtain ⟨b, off, ea, e0⟩ := HM.out.circ.b.get hkl
   have hc := HL.out _ (Kp.refl _ w) _ (bad_used hkl)
   obtain ⟨x, hx⟩ : ∃ x, gi C.bads k = x := ⟨_, rfl⟩
   rw [decide_eq_true (⟨h0, h1⟩ : 0 ≤ (k : Int) ∧ (k : Int) < (nb : Int)), Bool.true_and, Int.toNat_natCast, hx] at hr
   rw [hx] at e0 hc
   rw [hr] at hc
   rw [ea] at hB
   have HC := Lib.hid hc
   clear hr hc hx ea hkl
   go_enter Tryz.func44, Tryz.ntmps44
   go_wp2_with (go_at_call 66; with_reducible refine Calls.mono HC.out ?_; rintro e w1 ⟨rfl, hK1⟩; have HK1 := Lib.hid hK1; clear hK1)
   go_ret
   exact ⟨rfl, HK1.out⟩
  ·have hd : decide (pr < (nb : Int)) = false := decide_eq_false h1
   rw [decide_eq_false (fun h => h1 h.2), Bool.false_and] at hr
   subst hr
   go_enter Tryz.func44, Tryz.ntmps44
   go_wp2_with fail
   go_ret
   exact ⟨rfl, Kp.refl _ _⟩
 ·have hd : decide (0 ≤ pr) = false := decide_eq_false h0
  rw [decide_eq_false (fun h => h0 h.1), Bool.false_and] at hr
  subst hr
  go_enter Tryz.func44, Tryz.ntmps44
  go_wp2_with fail
  go_ret
  exact ⟨rfl, Kp.refl _ _⟩

theorem all_range_lt {f : Nat → Bool} {k n : Nat} (h : k < n) (hf : f k = false) : (List.range n).all f = false := by
 rw [List.all_eq_false]; exact ⟨k, List.mem_range.2 h, by rw [hf]; simp⟩
theorem all_range_succ (f : Nat → Bool) (k : Nat) : (List.range (k + 1)).all f = ((List.range k).all f && f k) := by
 rw [List.range_succ, List.all_append]; simp

set_option maxRecDepth 100000 in
set_option maxHeartbeats 4000000 in
theorem ref17_Starts (V : CV) (C : Circ) (p : Nat) (a4 a5 : Option Addr) (c4 c5 : Nat) (sa : Option Addr) (sn sc : Nat) (st : List Bool) (w : World) (hM : MAt w 81 V C p a4 c4 a5 c5) (hf : CFew C 1000000) (hs : BS w sa sn st) :
  Calls Tryz.prog 42 #[.pointer (some ⟨p, 0, none⟩), .slice sa sn sc] w fun e w' => e = .returned (.bool (startsM C st)) ∧ w = w' := by
 obtain ⟨nl, hnl⟩ : ∃ n, C.lats.length = n := ⟨_, rfl⟩
 have hnl1 : nl ≤ 1000000 := by have := hf.l; omega
 have HNl := Lib.hid hnl
 have hB : w.cell? ⟨p, 2, none⟩ = some (.slice V.al nl V.cl) := hM.blk.cell (i := 2) (by rw [← hnl]; rfl)
 have HM := Lib.hid hM
 have HS := Lib.hid hs
 have hsm := hs.most
 obtain ⟨r, hr⟩ : ∃ r, startsM C st = r := ⟨_, rfl⟩
 rw [hr]
 unfold startsM at hr
 rw [hnl, hs.len] at hr
 clear hM hf hs hnl
 by_cases hl : sn = nl
 ·rw [decide_eq_true hl, Bool.true_and] at hr
  have HR := Lib.hid hr
  have q0 : ((sn : Int) == (nl : Int)) = true := by simp [hl]
  subst hl
  clear hr
  go_enter Tryz.func42, Tryz.ntmps42
  go_wp2_with fail
  go_loop [5] (fun v5 => ∃ k : Nat, v5 = .int .i64 k ∧ k ≤ sn ∧ (List.range k).all (fun k => startOk (g3 C.lats k).2.2 (vb st k)) = true) (fun v5 => sn - (intOf v5).toNat)
  case atStart => exact ⟨0, rfl, by omega, rfl⟩
  case round =>
   obtain ⟨k, rfl, hk, hall⟩ := hrel
   by_cases hlt : k < sn
   ·have hkl : k < C.lats.length := by rw [HNl.out]; exact hlt
    obtain ⟨b, off, ea, hE⟩ := HM.out.circ.latCell hkl
    obtain ⟨-, -, e2⟩ := hE _ (Kp.refl _ w)
    obtain ⟨b3, off3, ea3, e3⟩ := HS.out.row k _ (bv_at (by rw [HS.out.len]; exact hlt))
    have hS := all_range_succ (fun k => startOk (g3 C.lats k).2.2 (vb st k)) k
    rw [hall, Bool.true_and] at hS
    have hF : startOk (g3 C.lats k).2.2 (vb st k) = false → r = false := fun h => by
     rw [← HR.out]; exact all_range_lt hlt h
    obtain ⟨x, hx⟩ : ∃ x, (g3 C.lats k).2.2 = x := ⟨_, rfl⟩
    obtain ⟨y, hy⟩ : ∃ y, vb st k = y := ⟨_, rfl⟩
    rw [hx] at e2
    rw [hy] at e3
    rw [hx, hy] at hS hF
    have HSS := Lib.hid hS
    have HFl := Lib.hid hF
    rw [ea] at hB
    subst ea3
    have i0 : (0 : Int) ≤ (k : Int) := by omega
    have i2 : (k : Int) < (sn : Int) := by omega
    clear hx hy hS hF hE ea hkl hall
    by_cases x0 : x = 0
    ·subst x0
     cases y with
     |true =>
      obtain rfl : r = false := HFl.out rfl
      go_wp2_with fail
      go_ret
      exact ⟨rfl, rfl⟩
     |false =>
      go_wp2_with fail
      go_round
      case rel => exact ⟨k + 1, by go_num, by omega, by rw [HSS.out]; rfl⟩
      case measure => simp [intOf]; omega
    ·have z0 : (x == 0) = false := by simp [x0]
     by_cases x1 : x = 1
     ·subst x1
      cases y with
      |false =>
       obtain rfl : r = false := HFl.out rfl
       clear x0
       go_wp2_with fail
       go_ret
       exact ⟨rfl, rfl⟩
      |true =>
       clear x0
       go_wp2_with fail
       go_round
       case rel => exact ⟨k + 1, by go_num, by omega, by rw [HSS.out]; rfl⟩
       case measure => simp [intOf]; omega
     ·have z1 : (x == 1) = false := by simp [x1]
      have HOk := Lib.hid (show startOk x y = true by unfold startOk; rw [decide_eq_false x0, decide_eq_false x1]; rfl)
      clear x0 x1
      go_wp2_with fail
      go_round
      case rel => exact ⟨k + 1, by go_num, by omega, by rw [HSS.out, HOk.out]⟩
      case measure => simp [intOf]; omega
   ·obtain rfl : k = sn := by omega
    obtain rfl : r = true := by rw [← HR.out]; exact hall
    clear hall
    go_wp2_with fail
    go_ret
    exact ⟨rfl, rfl⟩
 ·rw [decide_eq_false hl, Bool.false_and] at hr
  subst hr
  have q0 : ((sn : Int) == (nl : Int)) = false := by simp; omega
  clear hl
  go_enter Tryz.func42, Tryz.ntmps42
  go_wp2_with fail
  go_ret
  exact ⟨rfl, rfl⟩

end Go.Proofs.YtnoknecfdnjomaaGreat

/-
  explore.bits, explore.number; latchetref17.bits, number, power.
-/
namespace Go.Proofs.YtnoknecfdnjomaaGreat
open Go.RowKit

def bitsK (n m k : Nat) : List Bool := bitsP n k ++ List.replicate (m - k) false
theorem bitsK_len {n m k : Nat} (h : k ≤ m) : (bitsK n m k).length = m := by unfold bitsK; rw [List.length_append, bitsP_len, List.length_replicate]; omega
theorem bitsK_set {n m k : Nat} (h : k < m) : (bitsK n m k).set k (decide (n / 2 ^ k % 2 = 1)) = bitsK n m (k + 1) := by
 unfold bitsK
 obtain ⟨d, hd⟩ : ∃ d, m - k = d + 1 := ⟨m - k - 1, by omega⟩
 rw [hd, show m - (k + 1) = d by omega, List.set_append, bitsP_len, if_neg (Nat.lt_irrefl k), Nat.sub_self, bitsP_succ, List.append_assoc, List.replicate_succ]
 rfl

set_option maxRecDepth 100000 in
set_option maxHeartbeats 2000000 in
theorem ex_bits (n m : Nat) (hn : n < 2 ^ m) (hm : m ≤ 20) (w : World) :
  Calls Tryz.prog 70 #[.int .i64 n, .int .i64 m] w fun e w' => ∃ v, e = .returned v ∧ Own w' w.heap.size 4 v (bv (bitsP n m)) ∧ Kp (fun _ => False) w w' := by
 obtain ⟨i0, hi0, hz0, hz1, hz2⟩ := info_parts (show (Tryz.prog.info? 4).map (fun i => (i.zero, i.size, i.bytes)) = some (some (.bool false), 1, 1) by kernel_rfl)
 have hmk : ∀ u : World, (Instr.makeSlice 38 (.int .i64 (m : Int)) (.int .i64 (m : Int))).run Tryz.prog u =
   .ok (.slice (some ⟨u.heap.size, 0, none⟩) m m) (u.alloc (.cells (madeCells #[.bool false] m) 4)) := fun u => by
  have h := run_make (P := Tryz.prog) u 38 4 i0 (.bool false) Tryz.underlying38 hi0 hz0 .i64 .i64 (m : Int) (m : Int) (by omega) (Int.le_refl _) (by rw [hz2]; omega) (by omega)
  simpa [hz1, Value.cells] using h
 clear hi0 hz0 hz1 hz2 i0
 obtain ⟨wz, hwz⟩ : ∃ wz : World, wz = w.alloc (.cells (madeCells #[.bool false] m) 4) := ⟨_, rfl⟩
 have HK0 := Lib.hid (show Kp (fun _ => False) w wz by rw [hwz]; exact (Kp.refl _ w).alloc _)
 have HO0 : Hid (Own wz w.heap.size 4 (.slice (some ⟨w.heap.size, 0, none⟩) m m) (bv (bitsK n m 0))) := Lib.hid (by rw [hwz]; exact made_bools0 (by unfold maxLen; omega) (Nat.le_refl _))
 have HZ := Lib.hid hwz
 have hn9 : n < 1048576 := Nat.lt_of_lt_of_le hn (by have := Nat.pow_le_pow_right (n := 2) (by decide) hm; exact this)
 clear hwz
 go_enter Tryz.func70, Tryz.ntmps70
 go_upto_region 2 with fail
 rw [← HZ.out]
 clear HZ hmk
 go_wp2_with fail
 go_loopw [11] (fun v11 wr => ∃ k : Nat, v11 = .int .i64 (k : Int) ∧ k ≤ m ∧ Own wr w.heap.size 4 (.slice (some ⟨w.heap.size, 0, none⟩) m m) (bv (bitsK n m k)) ∧ Kp (fun _ => False) w wr) (fun v11 _ => m - (intOf v11).toNat)
 case atStart => exact ⟨0, rfl, Nat.zero_le _, HO0.out, HK0.out⟩
 case round =>
  clear HO0 HK0
  obtain ⟨k, rfl, hk, hO, hK⟩ := hrel
  have HO := Lib.hid hO
  have HK := Lib.hid hK
  clear hO hK
  obtain ⟨wp, rfl⟩ : ∃ wp : World, wp = wr := ⟨_, rfl⟩
  by_cases hlt : k < m
  ·have k0 : (0 : Int) ≤ (k : Int) := by omega
   have k1 : (k : Int) < (m : Int) := by omega
   have hk9 : k ≤ 20 := by omega
   have c0 := HO.out.cell (j := k) (u := .bool (vb (bitsK n m k) k)) (bv_at (by rw [bitsK_len hk]; exact hlt))
   have f0 := HO.out.free k
   have hb : (bits .and .i64 ((n : Int) / 2 ^ k) 1 == 1) = decide (n / 2 ^ k % 2 = 1) := by
    have e1 : (n : Int) / 2 ^ k = ((n / 2 ^ k : Nat) : Int) := by push_cast; rfl
    have e2 : n / 2 ^ k ≤ n := Nat.div_le_self _ _
    rw [e1]
    generalize n / 2 ^ k = q at e2 ⊢
    rw [i64_and1 _ (by omega) (by omega)]
    by_cases e : q % 2 = 1
    ·rw [decide_eq_true e]; simp; omega
    ·rw [decide_eq_false e]; simp; omega
   have HB := Lib.hid hb
   clear hb
   go_wp2_with fail
   rw [HB.out]
   refine ⟨⟨k + 1, by go_num, hlt, ?_, HK.out.setCell (fun h => absurd h (Nat.lt_irrefl _)) _⟩, by simp [intOf]; omega⟩
   have := HO.out.set k (.bool (decide (n / 2 ^ k % 2 = 1)))
   rw [← bitsK_set hlt]
   unfold bv at this ⊢
   rw [List.map_set]
   exact this
  ·have hk' : k = m := by omega
   have hno : decide ((k : Int) < (m : Int)) = false := by simp; omega
   go_wp2_with fail
   go_ret
   have := HO.out
   rw [hk'] at this
   unfold bitsK at this
   rw [Nat.sub_self, List.replicate_zero, List.append_nil] at this
   exact ⟨_, rfl, this, HK.out⟩

theorem or_pow {a i : Nat} (h : a < 2 ^ i) : a ||| 2 ^ i = a + 2 ^ i := by
 have := Nat.two_pow_add_eq_or_of_lt h 1
 rw [Nat.mul_one] at this
 rw [Nat.or_comm, ← this, Nat.add_comm]

theorem i64_or_pow {a i : Nat} (h : a < 2 ^ i) (hi : i ≤ 20) : bits .or .i64 (a : Int) (2 ^ i) = ((a + 2 ^ i : Nat) : Int) := by
 have hp : 2 ^ i ≤ 1048576 := by have := Nat.pow_le_pow_right (n := 2) (by decide) hi; exact this
 obtain ⟨b, hb⟩ : ∃ b : Nat, 2 ^ i = b := ⟨_, rfl⟩
 have ho := or_pow h
 have e0 : ((2 : Int) ^ i) = ((2 ^ i : Nat) : Int) := by push_cast; rfl
 rw [e0]
 rw [hb] at h hp ho ⊢
 have e1 : ∀ x : Nat, x < 18446744073709551616 → (BitVec.ofInt 64 (x : Int)).toNat = x := fun x hx => by
  rw [BitVec.ofInt_natCast, BitVec.toNat_ofNat]; exact Nat.mod_eq_of_lt hx
 show IntKind.i64.wrap ((BitVec.ofInt 64 (a : Int) ||| BitVec.ofInt 64 (b : Int)).toNat : Int) = _
 rw [BitVec.toNat_or, e1 a (by omega), e1 b (by omega), ho, IntKind.wrap_i64]
 omega

set_option maxRecDepth 100000 in
set_option maxHeartbeats 2000000 in
theorem ex_number (a : Option Addr) (m c : Nat) (l : List Bool) (w : World) (hr : RowAt w a (bv l)) (hl : l.length = m) (hm : m ≤ 20) :
  Calls Tryz.prog 62 #[.slice a m c] w fun e w' => e = .returned (.int .i64 (numP l)) ∧ w = w' := by
 have HR := Lib.hid hr
 have HL := Lib.hid hl
 clear hr hl
 go_enter Tryz.func62, Tryz.ntmps62
 go_wp2_with fail
 go_loop [3, 8] (fun v3 v8 => ∃ k x : Nat, v8 = .int .i64 (k : Int) ∧ k ≤ m ∧ v3 = .int .i64 (x : Int) ∧ x = numP (l.take k)) (fun _ v8 => m - (intOf v8).toNat)
 case atStart => exact ⟨0, 0, rfl, Nat.zero_le _, rfl, rfl⟩
 case round =>
  obtain ⟨k, x, rfl, hk, rfl, hx⟩ := hrel
  have HX := Lib.hid hx
  by_cases hlt : k < m
  ·have hkl : k < l.length := by rw [HL.out]; exact hlt
   obtain ⟨b, off, rfl, hcell⟩ := HR.out k _ (bv_at hkl)
   have HT := Lib.hid (show numP (l.take (k + 1)) = numP (l.take k) + (if vb l k = true then 2 ^ k else 0) by
    rw [List.take_succ_eq_append_getElem hkl, numP_snoc, List.length_take, Nat.min_eq_left (Nat.le_of_lt hkl)]
    unfold vb
    rw [List.getElem?_eq_getElem hkl]; rfl)
   obtain ⟨y, hy⟩ : ∃ y, vb l k = y := ⟨_, rfl⟩
   rw [hy] at hcell HT
   have hx2 : x < 2 ^ k := by
    rw [hx]
    have := numP_lt (l.take k)
    rw [List.length_take, Nat.min_eq_left (Nat.le_of_lt hkl)] at this
    exact this
   have HO := Lib.hid (i64_or_pow hx2 (by omega))
   have HW := Lib.hid (show wrap64 ((2 : Int) ^ k) = 2 ^ k by
    have hp : 2 ^ k ≤ 1048576 := by have := Nat.pow_le_pow_right (n := 2) (by decide) (show k ≤ 20 by omega); exact this
    have e0 : ((2 : Int) ^ k) = ((2 ^ k : Nat) : Int) := by push_cast; rfl
    rw [e0]
    generalize 2 ^ k = b at hp ⊢
    unfold wrap64; omega)
   have i0 : (0 : Int) ≤ (k : Int) := by omega
   have i1 : (k : Int) < (m : Int) := by omega
   clear hx hy hkl hx2
   cases y with
   |true =>
    go_wp2_with fail
    rw [HW.out, HO.out]
    exact ⟨⟨k + 1, x + 2 ^ k, by go_num, hlt, rfl, by rw [HT.out, HX.out, if_pos rfl]⟩, by simp [intOf]; omega⟩
   |false =>
    go_wp2_with fail
    go_round
    case rel => exact ⟨k + 1, x, by go_num, hlt, rfl, by rw [HT.out, HX.out]; simp⟩
    case measure => simp [intOf]; omega
  ·have hk' : k = m := by omega
   have HE := Lib.hid (show x = numP l by rw [hx, hk', ← HL.out, List.take_length])
   have hno : decide ((k : Int) < (m : Int)) = false := by simp; omega
   clear hx hk'
   go_wp2_with fail
   go_ret
   exact ⟨by rw [HE.out]; rfl, rfl⟩

set_option maxRecDepth 100000 in
set_option maxHeartbeats 2000000 in
theorem ref17_bits (n m : Nat) (hn : n ≤ 1000000) (hm : m ≤ 1000) (w : World) :
  Calls Tryz.prog 41 #[.int .i64 n, .int .i64 m] w fun e w' => ∃ v, e = .returned v ∧ Own w' w.heap.size 4 v (bv (bitsP n m)) ∧ Kp (fun _ => False) w w' := by
 have HI := Lib.hid (show (Tryz.prog.info? 4).map (fun i => (i.zero, i.size, i.bytes)) = some (some (.bool false), 1, 1) by kernel_rfl)
 have HO0 : Hid (Own (w.alloc (.cells #[] 4)) w.heap.size 4 (.slice (some ⟨w.heap.size, 0, none⟩) 0 0) (bv (bitsP n 0))) := Lib.hid (Own.lit (cs := []) (Blk.new w #[] 4) (Nat.le_refl _) (Nat.zero_le _))
 have HK0 := Lib.hid ((Kp.refl (fun _ => False) w).alloc (.cells #[] 4))
 go_enter Tryz.func41, Tryz.ntmps41
 go_wp2_with fail
 go_loopw [0, 5, 6] (fun v0 v5 v6 wr => ∃ k x : Nat, v6 = .int .i64 (k : Int) ∧ k ≤ m ∧ v0 = .int .i64 (x : Int) ∧ x = n / 2 ^ k ∧ Own wr w.heap.size 4 v5 (bv (bitsP n k)) ∧ Kp (fun _ => False) w wr) (fun _ _ v6 _ => m - (intOf v6).toNat)
 case atStart => exact ⟨0, n, rfl, Nat.zero_le _, rfl, by simp, HO0.out, HK0.out⟩
 case round =>
  clear HO0 HK0
  obtain ⟨k, x, rfl, hk, rfl, hx, hO, hK⟩ := hrel
  have HO := Lib.hid hO
  have HK := Lib.hid hK
  have HX := Lib.hid hx
  clear hO hK
  obtain ⟨wp, rfl⟩ : ∃ wp : World, wp = wr := ⟨_, rfl⟩
  by_cases hlt : k < m
  ·have hx9 : x ≤ 1000000 := by rw [hx]; exact Nat.le_trans (Nat.div_le_self _ _) hn
   have HN := Lib.hid (show x / 2 = n / 2 ^ (k + 1) by rw [hx, Nat.div_div_eq_div_mul, Nat.pow_succ])
   have HB := Lib.hid (show bitsP n (k + 1) = bitsP n k ++ [decide (x % 2 = 1)] by rw [bitsP_succ, hx])
   have tx : (x : Int).tmod 2 = ((x % 2 : Nat) : Int) := by rw [Int.tmod_eq_emod_of_nonneg (by omega)]; omega
   have dx : (x : Int).tdiv 2 = ((x / 2 : Nat) : Int) := by rw [Int.tdiv_eq_ediv_of_nonneg (by omega)]; omega
   obtain ⟨y, hy⟩ : ∃ y : Nat, x / 2 = y := ⟨_, rfl⟩
   obtain ⟨z, hz⟩ : ∃ z : Nat, x % 2 = z := ⟨_, rfl⟩
   rw [hy] at dx HN
   rw [hz] at tx HB
   have wy : IntKind.i64.wrap (y : Int) = (y : Int) := by rw [IntKind.wrap_i64]; omega
   have wz : IntKind.i64.wrap (z : Int) = (z : Int) := by rw [IntKind.wrap_i64]; omega
   obtain ⟨c, hc⟩ : ∃ c, ((z : Int) == 1) = c := ⟨_, rfl⟩
   have HC := Lib.hid (show decide (z = 1) = c by
    rw [← hc]
    by_cases e : z = 1
    ·simp [e]
    ·rw [decide_eq_false e]; symm; simp; omega)
   have HNw := Lib.hid (Blk.new wp #[.bool c] 4)
   have HOl := Lib.hid (HO.out.alloc (.cells #[.bool c] 4))
   have HSz := Lib.hid HK.out.size
   clear hx hy hz
   go_wp2_with (at_builtin; refine wpList_append1 rfl _ _ 38 4 rfl Tryz.underlying38 HI.out rfl HOl.out rfl ⟨wp.heap.size, 0, none⟩ (.bool c) rfl (HNw.out.cell rfl) rfl ?d1 ?d2 ?d3 ?_)
   case d1 => rw [bv_length, bitsP_len]; omega
   case d2 => rw [bv_length, bitsP_len]; unfold maxLen; omega
   case d3 => have := HSz.out; first | omega | (rw [World.size_alloc]; omega)
   intro v' w2 hO3 hg2
   have HO3 := Lib.hid (show Own w2 w.heap.size 4 v' (bv (bitsP n (k + 1))) by rw [HB.out, HC.out, bv_append]; exact hO3)
   have HK3 := Lib.hid (show Kp (fun _ => False) w w2 from (HK.out.alloc _).grown hg2 (fun j hj hl => by have := (HO.out.lt j hj).1; omega))
   clear hO3 hg2
   go_wp2_with fail
   go_roundw
   case rel => exact ⟨k + 1, y, by go_num, hlt, rfl, HN.out, HO3.out, HK3.out⟩
   case measure => simp [intOf]; omega
  ·have hk' : k = m := by omega
   have HOf : Hid (Own wp w.heap.size 4 u5 (bv (bitsP n m))) := Lib.hid (by rw [← hk']; exact HO.out)
   have hno : decide ((k : Int) < (m : Int)) = false := by simp; omega
   clear hk' hx
   go_wp2_with fail
   go_ret
   exact ⟨_, rfl, HOf.out, HK.out⟩

set_option maxRecDepth 100000 in
set_option maxHeartbeats 2000000 in
theorem ref17_power (m : Nat) (hm : m ≤ 20) (w : World) :
  Calls Tryz.prog 40 #[.int .i64 m] w fun e w' => e = .returned (.int .i64 ((2 ^ m : Nat) : Int)) ∧ w = w' := by
 obtain ⟨P, hP⟩ : ∃ P, 2 ^ m = P := ⟨_, rfl⟩
 have HP := Lib.hid hP
 rw [hP]
 clear hP
 go_enter Tryz.func40, Tryz.ntmps40
 go_wp2_with fail
 go_loop [3, 4] (fun v3 v4 => ∃ k x : Nat, v4 = .int .i64 (k : Int) ∧ k ≤ m ∧ v3 = .int .i64 (x : Int) ∧ x = 2 ^ k) (fun _ v4 => m - (intOf v4).toNat)
 case atStart => exact ⟨0, 1, rfl, Nat.zero_le _, rfl, rfl⟩
 case round =>
  obtain ⟨k, x, rfl, hk, rfl, hx⟩ := hrel
  have HX := Lib.hid hx
  have hx9 : x ≤ 1048576 := by rw [hx]; have := Nat.pow_le_pow_right (n := 2) (by decide) (show k ≤ 20 by omega); exact this
  by_cases hlt : k < m
  ·have HN := Lib.hid (show 2 * x = 2 ^ (k + 1) by rw [hx, Nat.pow_succ]; omega)
   have w2 : IntKind.i64.wrap (2 * (x : Int)) = 2 * (x : Int) := by rw [IntKind.wrap_i64]; omega
   clear hx
   go_wp2_with fail
   go_round
   case rel => exact ⟨k + 1, 2 * x, by go_num, hlt, by go_num, HN.out⟩
   case measure => simp [intOf]; omega
  ·have HE := Lib.hid (show x = P by rw [hx, ← HP.out, show k = m by omega])
   have hno : decide ((k : Int) < (m : Int)) = false := by simp; omega
   clear hx
   go_wp2_with fail
   go_ret
   exact ⟨by rw [HE.out]; rfl, rfl⟩

end Go.Proofs.YtnoknecfdnjomaaGreat

/-
  sim: Pack of one row, Eval.
-/
namespace Go.Proofs.YtnoknecfdnjomaaGreat
open Go.RowKit

def b1 (b : Bool) : Int := if b then 1 else 0
def pk (ins : List Bool) (m k : Nat) : List Int := (ins.take k).map b1 ++ List.replicate (m - k) 0
theorem pk_zero (ins : List Bool) (m : Nat) : pk ins m 0 = List.replicate m 0 := by simp [pk]
theorem pk_len {ins : List Bool} {m k : Nat} (hn : ins.length = m) (h : k ≤ m) : (pk ins m k).length = m := by unfold pk; simp; omega
theorem pk_full {ins : List Bool} {m : Nat} (hn : ins.length = m) : pk ins m m = ins.map b1 := by unfold pk; simp [← hn]
theorem pk_gi {ins : List Bool} {m k : Nat} (hn : ins.length = m) (h : k < m) : gi (pk ins m k) k = 0 := by
 unfold pk gi
 have hl : ((ins.take k).map b1).length = k := by simp; omega
 rw [List.getElem?_append_right (by omega), hl, Nat.sub_self, List.getElem?_replicate, if_pos (by omega)]; rfl
theorem pk_step {ins : List Bool} {m k : Nat} (hn : ins.length = m) (h : k < m) : (pk ins m k).set k (b1 (vb ins k)) = pk ins m (k + 1) := by
 unfold pk
 have hl : ((ins.take k).map b1).length = k := by simp; omega
 rw [List.set_append_right _ _ (by omega), hl, Nat.sub_self, show m - k = (m - (k + 1)) + 1 by omega, List.replicate_succ, List.set_cons_zero]
 rw [List.take_succ_eq_append_getElem (by omega), List.map_append]
 unfold vb
 rw [List.getElem?_eq_getElem (by omega)]
 simp only [List.append_assoc, List.singleton_append, Option.getD_some, List.map_cons, List.map_nil]
theorem pk_same {ins : List Bool} {m k : Nat} (hn : ins.length = m) (h : k < m) (hv : vb ins k = false) : pk ins m (k + 1) = pk ins m k := by
 rw [← pk_step hn h, hv]
 have hg := pk_gi hn h
 have hl := pk_len hn (Nat.le_of_lt h)
 apply List.ext_getElem?
 intro i
 rw [List.getElem?_set]
 by_cases e : k = i
 ·subst e
  rw [if_pos rfl, if_pos (by omega)]
  unfold gi at hg
  rw [List.getElem?_eq_getElem (by omega)] at hg ⊢
  have : (pk ins m k)[k]'(by omega) = 0 := hg
  rw [this]; rfl
 ·rw [if_neg e]
theorem uv_set (l : List Int) (j : Nat) (x : Int) : (uv l).set j (.int .u64 x) = uv (l.set j x) := by unfold uv; rw [List.map_set]

theorem pk_bits (ins : List Bool) : BitsOf (ins.map b1) ins := by
 refine ⟨by simp, fun i hi => ?_⟩
 have hl : i < ins.length := by simpa using hi
 unfold gi vb
 rw [List.getElem?_map, List.getElem?_eq_getElem hl]
 show BitOf (b1 ins[i]) ins[i]
 cases ins[i]
 ·exact BitOf.zero
 ·exact ⟨by decide, by decide, by decide⟩

set_option maxRecDepth 100000 in
set_option maxHeartbeats 4000000 in
theorem sim_Pack (g : Nat) (b : Option Addr) (m d : Nat) (ins : List Bool) (w : World) (hg : w.cell? ⟨g, 0, none⟩ = some (.slice b m d)) (hr : RowAt w b (bv ins)) (hn : ins.length = m) (hm : m ≤ 10000000) :
  Calls Tryz.prog 116 #[.slice (some ⟨g, 0, none⟩) 1 1] w fun e w' => ∃ v, e = .returned v ∧ Own w' w.heap.size 142 v (uv (ins.map b1)) ∧ Kp (fun _ => False) w w' := by
 have HI := Lib.hid (show (Tryz.prog.info? 142).map (fun i => (i.zero, i.size, i.bytes)) = some (some (.int .u64 0), 1, 8) by kernel_rfl)
 have HG := Lib.hid hg
 have HR := Lib.hid hr
 have HN := Lib.hid hn
 clear hr hn hg
 go_enter Tryz.func116, Tryz.ntmps116
 go_wp2_with fail
 go_loopw [3, 14] (fun v3 v14 wr => (v14 = .int .i64 0 ∧ v3 = .slice none 0 0 ∧ Kp (fun _ => False) w wr) ∨ (v14 = .int .i64 1 ∧ Own wr w.heap.size 142 v3 (uv (ins.map b1)) ∧ Kp (fun _ => False) w wr)) (fun _ v14 _ => 1 - (intOf v14).toNat)
 case atStart => exact .inl ⟨rfl, rfl, Kp.refl _ _⟩
 case round =>
  rcases hrel with ⟨rfl, rfl, hK⟩ | ⟨rfl, hO, hK⟩
  ·obtain ⟨wp, rfl⟩ : ∃ wp : World, wp = wr := ⟨_, rfl⟩
   have HK := Lib.hid hK
   have cg := hK.cellK HG.out
   clear hK
   go_wp2_with fail
   clear cg
   go_loopw [3] (fun v3 wr => ∃ j : Nat, j ≤ m ∧ Own wr w.heap.size 142 v3 (uv (List.replicate j 0)) ∧ Kp (fun _ => False) w wr) (fun v3 _ => m - lenV v3)
   case atStart => exact ⟨0, Nat.zero_le _, Own.nil _ _ _, HK.out⟩
   case round =>
    obtain ⟨j, hj, hO, hK⟩ := hrel
    clear HK
    obtain ⟨wq, rfl⟩ : ∃ wp : World, wp = wr := ⟨_, rfl⟩
    have HO := Lib.hid hO
    have HK := Lib.hid hK
    obtain ⟨av, cv, ev, -, -, -, -⟩ := hO.form
    have hjl : (uv (List.replicate j 0)).length = j := by rw [uv_length]; simp
    rw [hjl] at ev
    subst ev
    clear hO hK
    by_cases hlt : j < m
    ·have i0 : (j : Int) < (m : Int) := by omega
     have HNew := Lib.hid (Blk.new wq #[.int .u64 0] 142)
     have HOw := Lib.hid (HO.out.alloc (.cells #[.int .u64 0] 142))
     have HSz := Lib.hid HK.out.size
     go_wp2_with (at_builtin; refine wpList_append1_at rfl _ _ 149 142 rfl Tryz.underlying149 HI.out rfl HOw.out rfl ⟨wq.heap.size, 0, none⟩ (.int .u64 0) rfl (HNew.out.cell rfl) rfl ?d1 ?d2 ?d3 ?_)
     case d1 => rw [hjl]; omega
     case d2 => rw [hjl]; unfold maxLen; omega
     case d3 => have := HSz.out; simp; omega
     intro v' w2 hO3 hg2 hat2
     have hO4 : Own w2 w.heap.size 142 v' (uv (List.replicate (j + 1) 0)) := by rw [List.replicate_succ', uv_append]; exact hO3
     have HR2 := Lib.hid (show Own w2 w.heap.size 142 v' (uv (List.replicate (j + 1) 0)) ∧ Kp (fun _ => False) w w2 from ⟨hO4, (HK.out.alloc _).grown hg2 (fun i hi hl => by have := (HO.out.lt i hi).1; omega)⟩)
     obtain ⟨av2, cv2, ev2, -⟩ := hO4.form
     have hjl2 : (uv (List.replicate (j + 1) 0)).length = j + 1 := by rw [uv_length]; simp
     rw [hjl2] at ev2
     subst ev2
     clear hO3 hg2 hat2 HNew HOw hO4
     go_wp2_with fail
     go_roundw
     case rel => exact ⟨j + 1, by omega, HR2.out⟩
     case measure => simp [lenV]; omega
    ·obtain rfl : j = m := by omega
     have i0 : ¬ (j : Int) < (j : Int) := by omega
     have HO0 := Lib.hid (show Own wq w.heap.size 142 (.slice av j cv) (uv (pk ins j 0)) by rw [pk_zero]; exact HO.out)
     clear HO
     go_wp2_with fail
     go_loopw [29] (fun v29 wr => ∃ q : Nat, v29 = .int .i64 (q : Int) ∧ q ≤ j ∧ Own wr w.heap.size 142 (.slice av j cv) (uv (pk ins j q)) ∧ Kp (fun _ => False) w wr) (fun v29 _ => j - (intOf v29).toNat)
     case atStart => exact ⟨0, rfl, Nat.zero_le _, HO0.out, HK.out⟩
     case round =>
      obtain ⟨q, rfl, hq, hO, hK⟩ := hrel
      clear HK HO0
      obtain ⟨wx, rfl⟩ : ∃ wp : World, wp = wr := ⟨_, rfl⟩
      have HO := Lib.hid hO
      have HK := Lib.hid hK
      clear hO hK
      by_cases hlt : q < j
      ·obtain ⟨bb, off, rfl, e0⟩ := (HR.out.kp HK.out (fun _ _ h => h)) q _ (bv_at (by rw [HN.out]; exact hlt))
       have i1 : (0 : Int) ≤ (q : Int) := by omega
       have i2 : (q : Int) < (j : Int) := by omega
       cases hv : vb ins q with
       |true =>
        rw [hv] at e0
        obtain ⟨gv, cv', evv, hgb, -⟩ := HO.out.leads (by rw [uv_length, pk_len HN.out hq]; omega)
        simp only [Value.slice.injEq] at evv
        obtain ⟨rfl, -, -⟩ := evv
        have ck := HO.out.cell (j := q) (uv_at (by rw [pk_len HN.out hq]; exact hlt))
        rw [pk_gi HN.out hlt] at ck
        have fk := HO.out.free q
        have HR2 := Lib.hid (show Own (wx.setCell ⟨gv, q, none⟩ (.int .u64 1)) w.heap.size 142 (.slice (some ⟨gv, 0, none⟩) j cv) (uv (pk ins j (q + 1))) ∧ Kp (fun _ => False) w (wx.setCell ⟨gv, q, none⟩ (.int .u64 1)) from by
         have h1 := HO.out.set q (.int .u64 1)
         have h2 := pk_step HN.out hlt
         rw [hv] at h2
         rw [uv_set, show (1 : Int) = b1 true from rfl, h2] at h1
         exact ⟨h1, HK.out.setCell (p := ⟨gv, q, none⟩) (fun hl => by have h3 : gv < w.heap.size := hl; omega) _⟩)
        have hor : bits .or .u64 0 1 = 1 := by decide
        clear HO
        go_upto_region 11 with fail
        go_region
        all_goals go_wp2_with fail
        all_goals exact ⟨⟨q + 1, by go_num, by omega, HR2.out.1.drew, HR2.out.2.drew⟩, by simp [intOf]; omega⟩
       |false =>
        rw [hv] at e0
        have HR2 := Lib.hid (show Own wx w.heap.size 142 (.slice av j cv) (uv (pk ins j (q + 1))) from by rw [pk_same HN.out hlt hv]; exact HO.out)
        go_wp2_with fail
        go_roundw
        case rel => exact ⟨q + 1, by go_num, by omega, HR2.out, HK.out⟩
        case measure => simp [intOf]; omega
      ·obtain rfl : q = j := by omega
       have HE := Lib.hid (show Own wx w.heap.size 142 (.slice av q cv) (uv (ins.map b1)) from by have := HO.out; rw [pk_full HN.out] at this; exact this)
       go_wp2_with fail
       go_roundw
       case rel => exact .inr ⟨rfl, HE.out, HK.out⟩
       case measure => simp [intOf]
  ·have HO := Lib.hid hO
   have HK := Lib.hid hK
   clear hO hK
   go_wp2_with fail
   go_ret
   exact ⟨_, rfl, HO.out, HK.out⟩

set_option maxRecDepth 100000 in
theorem sim_Eval (a : Option Addr) (n c : Nat) (N : List (Int × Int)) (b : Option Addr) (m d : Nat) (ins : List Bool) (w : World) (hr : RowAt w a (N.map pr2).flatten) (hn : N.length = n) (hm : n ≤ 10000000) (hN : GoodN N) (hi : RowAt w b (bv ins)) (him : ins.length = m) (hmm : m ≤ 10000000) :
  Calls Tryz.prog 96 #[.slice a n c, .slice b m d] w fun e w' => ∃ v, e = .returned v ∧ Own w' w.heap.size 4 v (bv (valsOf N ins)) ∧ Kp (fun _ => False) w w' := by
 obtain ⟨wz, hwz⟩ : ∃ wz : World, wz = w.alloc (.cells #[.slice b m d] 38) := ⟨_, rfl⟩
 have HK0 := Lib.hid (show Kp (fun _ => False) w wz by rw [hwz]; exact (Kp.refl _ w).alloc _)
 have HP := Lib.hid (sim_Pack w.heap.size b m d ins wz (by rw [hwz]; exact (Blk.new w _ _).cell rfl) (hi.kp HK0.out (fun _ _ h => h)) him hmm)
 have HW := Lib.hid (fun v w1 (hO : Own w1 wz.heap.size 142 v (uv (ins.map b1))) (hK : Kp (fun _ => False) wz w1) => (show ∃ b' d', v = .slice b' m d' ∧ Calls Tryz.prog 115 #[.slice a n c, .slice b' m d'] w1 fun e w' => ∃ v, e = .returned v ∧ (∃ ws, Own w' w1.heap.size 142 v (uv ws) ∧ BitsOf ws (valsOf N ins)) ∧ Kp (fun _ => False) w1 w' from by
  obtain ⟨b', d', ev, hle, hml, -, hrow⟩ := hO.form
  rw [uv_length, List.length_map, him] at ev hle
  exact ⟨b', d', ev, sim_Words a n c N b' m d' (ins.map b1) ins w1 (hr.kp (HK0.out.trans hK (fun _ _ h => h)) (fun _ _ h => h)) hn hm hN hrow (by rw [List.length_map]; exact him) (by omega) hle hml (pk_bits ins)⟩))
 have HL := Lib.hid (fun v w1 w2 ws (hO : Own w2 w1 142 v (uv ws)) (hB : BitsOf ws (valsOf N ins)) => (show ∃ b' d', v = .slice b' (n + 1) d' ∧ Calls Tryz.prog 114 #[.slice b' (n + 1) d', .int .i64 0] w2 fun e w' => ∃ v, e = .returned v ∧ Own w' w2.heap.size 4 v (bv (valsOf N ins)) ∧ Kp (fun _ => False) w2 w' from by
  have hl : ws.length = n + 1 := by rw [hB.1, valsOf_len, hn]
  obtain ⟨b', d', ev, hle, hml, -, hrow⟩ := hO.form
  rw [uv_length, hl] at ev
  exact ⟨b', d', ev, sim_Lane b' (n + 1) d' ws (valsOf N ins) w2 hrow hl (by omega) hB⟩))
 have HZ := Lib.hid hwz
 clear hr hn hN hi him hwz
 go_enter Tryz.func96, Tryz.ntmps96
 go_wp2_with (go_at_call 116; rw [← HZ.out]; with_reducible refine Calls.mono HP.out ?_; rintro e w1 ⟨v1, rfl, hO1, hK1⟩)
 obtain ⟨b', d', rfl, hC1⟩ := HW.out v1 w1 hO1 hK1
 have HC1 := Lib.hid hC1
 have HK1 := Lib.hid hK1
 clear hC1 hO1 hK1 HP HW
 go_wp2_with (go_at_call 115; with_reducible refine Calls.mono HC1.out ?_; rintro e w2 ⟨v2, rfl, ⟨ws, hO2, hB2⟩, hK2⟩)
 obtain ⟨b2, d2, rfl, hC2⟩ := HL.out v2 _ w2 ws hO2 hB2
 have HC2 := Lib.hid hC2
 have HK2 := Lib.hid hK2
 clear hC2 hO2 hB2 hK2 HL HC1
 go_wp2_with (go_at_call 114; with_reducible refine Calls.mono HC2.out ?_; rintro e w3 ⟨v3, rfl, hO3, hK3⟩)
 have HE := Lib.hid (show Own w3 w.heap.size 4 v3 (bv (valsOf N ins)) ∧ Kp (fun _ => False) w w3 from ⟨hO3.mono (Nat.le_trans HK0.out.size (Nat.le_trans HK1.out.size HK2.out.size)), ((HK0.out.trans HK1.out (fun _ _ h => h)).trans HK2.out (fun _ _ h => h)).trans hK3 (fun _ _ h => h)⟩)
 clear hO3 hK3
 go_wp2_with fail
 go_ret
 exact ⟨_, rfl, HE.out⟩

end Go.Proofs.YtnoknecfdnjomaaGreat

/-
  latchetref17.States.
-/
namespace Go.Proofs.YtnoknecfdnjomaaGreat
open Go.RowKit

structure GS (w : World) (a : Option Addr) (n c : Nat) (L : List (List Bool)) : Prop where
  row : ∃ vs : List Value, RowAt w a vs ∧ vs.length = n ∧ ∀ k, k < n → ∃ b m d, vs[k]? = some (.slice b m d) ∧ BS w b m (L[k]?.getD [])
  len : L.length = n
  most : n ≤ 1000000

structure SL (C : Circ) (st : List Bool) (rows : List (List Bool)) (B : Nat) (k : Nat) (v5 v6 : Value) (wr : World) : Prop where
  own : ∃ vs : List Value, Own wr B 38 v5 vs ∧ vs.length = k ∧ ∀ j, j < k → ∃ x, vs[j]? = some x ∧ Own wr B 4 x (bv (stateM C st rows j))
  now : Own wr B 4 v6 (bv (stateM C st rows k))

theorem SL.kp {C : Circ} {st : List Bool} {rows : List (List Bool)} {B k : Nat} {v5 v6 : Value} {wr w' : World} (h : SL C st rows B k v5 v6 wr) (hk : Kp (fun _ => False) wr w') : SL C st rows B k v5 v6 w' := by
 obtain ⟨⟨vs, h1, h2, h3⟩, h4⟩ := h
 exact ⟨⟨vs, h1.kp hk (fun _ _ h => h), h2, fun j hj => by obtain ⟨x, e, hx⟩ := h3 j hj; exact ⟨x, e, hx.kp hk (fun _ _ h => h)⟩⟩, h4.kp hk (fun _ _ h => h)⟩

end Go.Proofs.YtnoknecfdnjomaaGreat

/-
  circ.Net.
-/
namespace Go.Proofs.YtnoknecfdnjomaaGreat
open Go.RowKit

def blank (m k : Nat) : List Int := 0 :: (List.replicate k (-1) ++ List.replicate (m - k) 0)
theorem blank_zero (m : Nat) : blank m 0 = List.replicate (m + 1) 0 := by unfold blank; simp [List.replicate_succ]
theorem blank_step {m k : Nat} (h : k < m) : (blank m k).set (k + 1) (-1) = blank m (k + 1) := by
 unfold blank
 rw [List.set_cons_succ, List.set_append_right _ _ (by simp)]
 simp only [List.length_replicate, Nat.sub_self]
 rw [show m - k = (m - (k + 1)) + 1 by omega, List.replicate_succ, List.set_cons_zero, List.replicate_succ']
 simp
theorem blank_full (m : Nat) : blank m m = 0 :: List.replicate m (-1) := by unfold blank; simp
theorem iv_rep (n : Nat) : iv (List.replicate n 0) = rowF (fun _ => .int .i64 0) n := by
 unfold iv rowF
 rw [List.map_replicate]
 apply List.ext_getElem
 ·simp
 ·intro i h1 h2; simp

set_option maxRecDepth 100000 in
set_option maxHeartbeats 4000000 in
theorem circ_Net (V : CV) (C : Circ) (w : World) (h : CAt w V C) (hf : CFew C 1000000) (hg : GoodC C) :
  Calls Tryz.prog 59 #[.agg (cvals V C)] w fun e w' => ∃ v4 v5, e = .returned (.tuple #[v4, v5]) ∧ OwnK w' w.heap.size 102 2 v4 ((netOf C).1.map pr2) ∧ Own w' w.heap.size 3 v5 (iv (netOf C).2) ∧ Kp (fun _ => False) w w' := by
 obtain ⟨m, hm⟩ : ∃ m, MX C = m := ⟨_, rfl⟩
 obtain ⟨ni, hni⟩ : ∃ n, C.ins.length = n := ⟨_, rfl⟩
 obtain ⟨nl, hnl⟩ : ∃ n, C.lats.length = n := ⟨_, rfl⟩
 obtain ⟨ng, hng⟩ : ∃ n, C.gates.length = n := ⟨_, rfl⟩
 have hmi : C.max = (m : Int) := by rw [← hm]; exact hg.mx.symm
 have hm1 : m ≤ 16777216 := by have := hg.rng.max1; omega
 have hi1 : ni ≤ 1000000 := by have := hf.i; omega
 have hl1 : nl ≤ 1000000 := by have := hf.l; omega
 have hg1 : ng ≤ 1000000 := by have := hf.g; omega
 obtain ⟨i0, hi, hz0, hz1, hz2⟩ := info_parts (show (Tryz.prog.info? 3).map (fun i => (i.zero, i.size, i.bytes)) = some (some (.int .i64 0), 1, 8) by kernel_rfl)
 have hmk : ∀ u : World, (Instr.makeSlice 22 (.int .i64 ((m : Int) + 1)) (.int .i64 ((m : Int) + 1))).run Tryz.prog u =
   .ok (.slice (some ⟨u.heap.size, 0, none⟩) (m + 1) (m + 1)) (u.alloc (.cells (madeCells #[.int .i64 0] (m + 1)) 3)) := fun u => by
  have h := run_make (P := Tryz.prog) u 22 3 i0 (.int .i64 0) Tryz.underlying22 hi hz0 .i64 .i64 ((m + 1 : Nat) : Int) ((m + 1 : Nat) : Int) (by omega) (Int.le_refl _) (by rw [hz2]; omega) (by omega)
  simpa [hz1, Value.cells] using h
 clear hi hz0 hz1 hz2 i0
 have HU : Hid (cvals V C = #[.int .i64 (m : Int), .slice V.ai ni V.ci, .slice V.al nl V.cl, .slice V.ao C.outs.length V.co, .slice V.ab C.bads.length V.cb, .slice V.ac C.cons.length V.cc, .slice V.ag ng V.cg, .slice V.ay V.ny V.cy, .string V.cm]) := Lib.hid (by unfold cvals; rw [hmi, hni, hnl, hng])
 have HA := Lib.hid h
 have HF := Lib.hid hf
 have HG := Lib.hid hg
 have HMi := Lib.hid hmi
 have HNi := Lib.hid hni
 have HNl := Lib.hid hnl
 have HNg := Lib.hid hng
 obtain ⟨wa, hwa⟩ : ∃ wa : World, wa = w.alloc (.cells (cvals V C) 27) := ⟨_, rfl⟩
 obtain ⟨wz, hwz⟩ : ∃ wz : World, wz = ((wa.alloc (.cells #[.slice none 0 0] 77)).alloc (.cells (madeCells #[.int .i64 0] (m + 1)) 3)).alloc (.cells #[.slice (some ⟨wa.heap.size + 1, 0, none⟩) (m + 1) (m + 1)] 22) := ⟨_, rfl⟩
 have hws : wa.heap.size = w.heap.size + 1 := by rw [hwa]; simp
 have hCa : Blk wa w.heap.size (cvals V C) 27 := by rw [hwa]; exact Blk.new _ _ _
 have hKa : Kp (fun _ => False) w wa := by rw [hwa]; exact (Kp.refl _ w).alloc _
 have c0 : (wa.alloc (.cells #[.slice none 0 0] 77)).cell? ⟨w.heap.size, 0, none⟩ = some (.int .i64 (m : Int)) := (hCa.alloc _).cell (by rw [HU.out]; rfl)
 have HM0 : Hid (NP V C w (w.heap.size + 1) (wa.heap.size + 1 + 1) (wa.heap.size + 1) (m + 1) (m + 1) ([], blank m 0) (.slice none 0 0) wz) := Lib.hid (by
  rw [hwz, ← hws]
  have hB2 : Blk ((wa.alloc (.cells #[.slice none 0 0] 77)).alloc (.cells (madeCells #[.int .i64 0] (m + 1)) 3)) (wa.heap.size + 1) (madeCells #[.int .i64 0] (m + 1)) 3 := two_blk _ _ _ _ _
  refine ⟨OwnK.nil _ _ _ _, ?_, ((Blk.new wa _ _).alloc _).alloc _, ?_, ((hCa.alloc _).alloc _).alloc _, ((hKa.alloc _).alloc _).alloc _, by omega, by omega⟩
  ·show Own _ _ _ _ (iv (blank m 0))
   rw [blank_zero, iv_rep]
   have hl : (rowF (fun _ => Value.int .i64 0) (m + 1)).length = m + 1 := rowF_length _ _
   have := Own.lit (base := w.heap.size + 1) (cs := rowF (fun _ => Value.int .i64 0) (m + 1)) (by rw [← made_row]; exact hB2.alloc (.cells #[.slice (some ⟨wa.heap.size + 1, 0, none⟩) (m + 1) (m + 1)] 22)) (by omega) (by rw [hl]; unfold maxLen; omega)
   rw [hl] at this
   exact this
  ·have := Blk.new ((wa.alloc (.cells #[.slice none 0 0] 77)).alloc (.cells (madeCells #[.int .i64 0] (m + 1)) 3)) #[.slice (some ⟨wa.heap.size + 1, 0, none⟩) (m + 1) (m + 1)] 22
   simpa using this)
 have HZa := Lib.hid hwa
 have HZ := Lib.hid hwz
 clear h hf hg hm hmi hni hnl hng hwz hwa hws hCa hKa
 go_enter Tryz.func59, Tryz.ntmps59
 go_upto_region 2 with fail
 rw [← HZa.out]
 go_upto_region 3 with fail
 rw [← HZ.out]
 generalize wa.heap.size + 1 + 1 = ba at HM0 ⊢
 generalize wa.heap.size + 1 = g at HM0 ⊢
 generalize w.heap.size + 1 = bn at HM0 ⊢
 clear HZ HZa c0 hmk
 go_wp2_with fail
 go_loopw [6] (fun v6 wr => ∃ k : Nat, v6 = .int .i64 ((k : Int) + 1) ∧ k ≤ m ∧ NP V C w bn ba g (m + 1) (m + 1) ([], blank m k) (.slice none 0 0) wr) (fun v6 _ => m + 1 - (intOf v6).toNat)
 case atStart => exact ⟨0, rfl, by omega, HM0.out⟩
 case round =>
  obtain ⟨k, rfl, hk, hM⟩ := hrel
  clear HM0
  obtain ⟨wp, rfl⟩ : ∃ wp : World, wp = wr := ⟨_, rfl⟩
  have HM := Lib.hid hM
  have ca := hM.cells.2.2.2
  by_cases hlt : k < m
  ·have i0 : (k : Int) + 1 < ((m + 1 : Nat) : Int) := by omega
   have i1 : (0 : Int) ≤ (k : Int) + 1 := by omega
   have ck := hM.cells.1 (k + 1) (by omega)
   have fk := hM.cells.2.1 (k + 1)
   have HM2 := Lib.hid (hM.put (k + 1) (-1))
   clear hM
   go_wp2_with fail
   go_roundw
   case rel => exact ⟨k + 1, by go_num, by omega, by have := HM2.out; rw [blank_step hlt] at this; exact this⟩
   case measure => simp [intOf]; omega
  ·obtain rfl : k = m := by omega
   have i0 : ¬ (k : Int) + 1 < ((k + 1 : Nat) : Int) := by omega
   have hM1 : NP V C w bn ba g (k + 1) (k + 1) (netI C 0) (.slice none 0 0) wp := by
    have := HM.out
    have e : netI C 0 = ([], blank k k) := by unfold netI net0; rw [HMi.out, blank_full]; rfl
    rw [e]; exact this
   have HM1 := Lib.hid hM1
   have c1 := hM1.circ.cell (i := 1) (v := .slice V.ai ni V.ci) (by rw [HU.out]; rfl)
   clear hM hM1 HM
   have hmf : ∀ (fn : Fn) (first cap : Array Value) (w : World), (Instr.makeFunc fn first cap).run Tryz.prog w = .ok (.func fn first cap) w := fun _ _ _ _ => rfl
   go_wp2_with fail
   clear ca
   go_loopw [33] (fun v33 wr => ∃ q : Nat, v33 = .int .i64 (q : Int) ∧ q ≤ ni ∧ ∃ v4, NP V C w bn ba g (k + 1) (k + 1) (netI C q) v4 wr) (fun v33 _ => ni - (intOf v33).toNat)
   case atStart => exact ⟨0, rfl, by omega, _, HM1.out⟩
   case round =>
    obtain ⟨q, rfl, hq, v4, hM⟩ := hrel
    clear HM1 hlt i0 c1
    obtain ⟨wq, rfl⟩ : ∃ wp : World, wp = wr := ⟨_, rfl⟩
    have HM := Lib.hid hM
    clear hM
    by_cases hlt : q < ni
    ·have hql : q < C.ins.length := by rw [HNi.out]; exact hlt
     obtain ⟨b, off, ea, hE⟩ := HA.out.inCell hql
     have hr := HG.out.rng.own (gi C.ins q) (in_own hql)
     rw [HMi.out] at hr
     have HS := Lib.hid (netI_succ hql)
     have HL := Lib.hid (netI_len C q (by omega))
     obtain ⟨x0, hx0⟩ : ∃ x, gi C.ins q = x := ⟨_, rfl⟩
     rw [hx0] at hE hr HS
     have e0 := hE _ HM.out.kp
     have HR := Lib.hid hr
     have i0 : (0 : Int) ≤ (q : Int) := by omega
     have i2 : (q : Int) < (ni : Int) := by omega
     rw [ea]
     clear hx0 ea hr hE hql
     go_wp2_with (go_at_call 81; refine (net_f1 V C w bn ba g (k + 1) (k + 1) q (netI C q) v4 x0 (-1) 0 _ HM.out HL.out (by omega) (by have := HR.out; omega) (by have := HR.out; omega) (by omega)).mono ?_; rintro e w2 ⟨rfl, ⟨v', hP⟩, -⟩)
     have HP := Lib.hid hP
     clear hP e0
     go_wp2_with fail
     go_roundw
     case rel => exact ⟨q + 1, by go_num, by omega, v', by rw [HS.out]; exact HP.out⟩
     case measure => simp [intOf]; omega
    ·obtain rfl : q = ni := by omega
     obtain ⟨w3, rfl⟩ : ∃ w3 : World, w3 = wq := ⟨_, rfl⟩
     have HM1 := Lib.hid (show NP V C w bn ba g (k + 1) (k + 1) (netL C 0) v4 w3 by rw [netL_zero, HNi.out]; exact HM.out)
     have c2 := HM1.out.circ.cell (i := 2) (v := .slice V.al nl V.cl) (by rw [HU.out]; rfl)
     clear HM
     go_wp2_with fail
     go_loopw [45] (fun v45 wr => ∃ p : Nat, v45 = .int .i64 (p : Int) ∧ p ≤ nl ∧ ∃ v4, NP V C w bn ba g (k + 1) (k + 1) (netL C p) v4 wr) (fun v45 _ => nl - (intOf v45).toNat)
     case atStart => exact ⟨0, rfl, by omega, _, HM1.out⟩
     case round =>
      obtain ⟨p, rfl, hp, v4, hM⟩ := hrel
      clear HM1 hlt c2
      obtain ⟨wx, rfl⟩ : ∃ wp : World, wp = wr := ⟨_, rfl⟩
      have HM := Lib.hid hM
      clear hM
      by_cases hlt : p < nl
      ·have hql : p < C.lats.length := by rw [HNl.out]; exact hlt
       obtain ⟨b, off, ea, hE⟩ := HA.out.latCell hql
       have hr := HG.out.rng.own _ (lat_own hql)
       rw [HMi.out] at hr
       have HS := Lib.hid (netL_succ hql)
       have HL := Lib.hid (show (netL C p).1.length = q + p by rw [netL_len C p (by omega), HNi.out])
       obtain ⟨x0, hx0⟩ : ∃ x, (g3 C.lats p).1 = x := ⟨_, rfl⟩
       obtain ⟨x1, hx1⟩ : ∃ x, (g3 C.lats p).2.1 = x := ⟨_, rfl⟩
       obtain ⟨x2, hx2⟩ : ∃ x, (g3 C.lats p).2.2 = x := ⟨_, rfl⟩
       rw [hx0, hx1, hx2] at hE
       rw [hx0] at hr HS
       obtain ⟨e0, e1, e2⟩ := hE _ HM.out.kp
       have HR := Lib.hid hr
       have i0 : (0 : Int) ≤ (p : Int) := by omega
       have i2 : (p : Int) < (nl : Int) := by omega
       have hnb := (Blk.new wx #[.int .i64 x0, .int .i64 x1, .int .i64 x2] 64).cell (i := 0) (v := .int .i64 x0) rfl
       have HMa := Lib.hid (HM.out.fr ((Kp.refl _ wx).alloc (.cells #[.int .i64 x0, .int .i64 x1, .int .i64 x2] 64)))
       rw [ea]
       clear hx0 hx1 hx2 ea hr hE hql
       go_wp2_with (go_at_call 81; refine (net_f1 V C w bn ba g (k + 1) (k + 1) (q + p) (netL C p) v4 x0 (-1) 0 _ HMa.out HL.out (by omega) (by have := HR.out; omega) (by have := HR.out; omega) (by omega)).mono ?_; rintro e w2 ⟨rfl, ⟨v', hP⟩, -⟩)
       have HP := Lib.hid hP
       clear hP e0 e1 e2 hnb
       go_wp2_with fail
       go_roundw
       case rel => exact ⟨p + 1, by go_num, by omega, v', by rw [HS.out]; exact HP.out⟩
       case measure => simp [intOf]; omega
      ·obtain rfl : p = nl := by omega
       have HM1 := Lib.hid (show NP V C w bn ba g (k + 1) (k + 1) (netG C 0) v4 wx by rw [netG_zero, HNl.out]; exact HM.out)
       obtain ⟨no, hno⟩ : ∃ g, (ordO C.gates).length = g := ⟨_, rfl⟩
       have hno1 : no ≤ ng := by rw [← HNg.out, ← hno]; exact (ordO_at C.gates).len
       have HO := Lib.hid (show ∀ u, Kp (fun _ => False) w u → Calls Tryz.prog 76 #[.agg #[.int .i64 (k : Int), .slice V.ai q V.ci, .slice V.al p V.cl, .slice V.ao C.outs.length V.co, .slice V.ab C.bads.length V.cb, .slice V.ac C.cons.length V.cc, .slice V.ag ng V.cg, .slice V.ay V.ny V.cy, .string V.cm]] u fun e u' => (∃ a c, e = .returned (.slice a no c) ∧ Own u' u.heap.size 3 (.slice a no c) (nv (ordO C.gates))) ∧ Kp (fun _ => False) u u' from fun u hu => by
        have hor := (circ_Order V C u (HA.out.kp hu) HF.out.g (HG.out.rng.good HG.out.nd) (fun i hi => by
         have h1 := HG.out.rng.own _ (gate_own hi)
         have h2 := HG.out.rng.use _ (gate_useA hi)
         have h3 := HG.out.rng.use _ (gate_useB hi)
         have h4 := HMi.out
         omega)).mono (R' := fun e u' => (∃ a c, e = .returned (.slice a no c) ∧ Own u' u.heap.size 3 (.slice a no c) (nv (ordO C.gates))) ∧ Kp (fun _ => False) u u') (by
          rintro e u' ⟨v, rfl, hO, hK⟩
          obtain ⟨a, c, e, -⟩ := hO.form
          rw [nv_length, hno] at e
          subst e
          exact ⟨⟨a, c, rfl, hO⟩, hK⟩)
        rw [HU.out] at hor
        exact hor)
       have HNo := Lib.hid hno
       obtain ⟨d0, d1, d2, d3, d4, d5, d6, d7, d8⟩ := Blk.cells9 (show Blk wx w.heap.size #[.int .i64 (k : Int), .slice V.ai q V.ci, .slice V.al p V.cl, .slice V.ao C.outs.length V.co, .slice V.ab C.bads.length V.cb, .slice V.ac C.cons.length V.cc, .slice V.ag ng V.cg, .slice V.ay V.ny V.cy, .string V.cm] 27 by have := HM.out.circ; rw [HU.out] at this; exact this)
       clear HM hno
       go_wp2_with (go_at_call 76; refine (HO.out _ HM1.out.kp).mono ?_; rintro e w9 ⟨⟨a9, c9, rfl, hO9⟩, hK9⟩)
       have HM9 := Lib.hid (HM1.out.fr hK9)
       have HO9 := Lib.hid (show Own w9 wx.heap.size 3 (.slice a9 no c9) (nv (ordO C.gates)) from hO9)
       have HG5 := Lib.hid (show g < wx.heap.size ∧ bn < wx.heap.size from ⟨(HM1.out.a.lt g rfl).2, HM1.out.xn.lt⟩)
       clear hO9 hK9 d0 d1 d2 d3 d4 d5 d6 d7 d8 HM1 HO
       go_wp2_with fail
       go_loopw [59] (fun v59 wr => ∃ r : Nat, v59 = .int .i64 (r : Int) ∧ r ≤ no ∧ (∃ v4, NP V C w bn ba g (k + 1) (k + 1) (netG C r) v4 wr) ∧ Own wr wx.heap.size 3 (.slice a9 no c9) (nv (ordO C.gates))) (fun v59 _ => no - (intOf v59).toNat)
       case atStart => exact ⟨0, rfl, by omega, ⟨_, HM9.out⟩, HO9.out⟩
       case round =>
        obtain ⟨r, rfl, hrk, ⟨v5, hM⟩, hO⟩ := hrel
        clear HM9 HO9 hlt
        obtain ⟨wy, rfl⟩ : ∃ wp : World, wp = wr := ⟨_, rfl⟩
        have HM := Lib.hid hM
        have HO := Lib.hid hO
        have c6 := hM.circ.cell (i := 6) (v := .slice V.ag ng V.cg) (by rw [HU.out]; rfl)
        clear hM hO
        by_cases hlt : r < no
        ·have hol : r < (ordO C.gates).length := by rw [HNo.out]; exact hlt
         obtain ⟨t, ht⟩ : ∃ t, gno (ordO C.gates) r = t := ⟨_, rfl⟩
         have htn := turn_ok HG.out hol
         rw [ht] at htn
         obtain ⟨htg, hdA, hdB⟩ := htn
         have hinv := netG_inv HG.out r (by omega)
         have rA := HG.out.rng.use _ (gate_useA htg)
         have rB := HG.out.rng.use _ (gate_useB htg)
         have rO := HG.out.rng.own _ (gate_own htg)
         rw [HMi.out] at rA rB rO
         have hmx := HG.out.mx
         rw [HMi.out] at hmx
         have hmk : MX C = k := by omega
         rw [hmk] at hinv
         have hLn := netG_len C r (by omega)
         rw [HNi.out, HNl.out] at hLn
         have hS := netG_succ hol
         rw [ht] at hS
         have hno9 : (nv (ordO C.gates))[r]? = some (.int .i64 (t : Int)) := by
          have h1 := nv_at hol
          have h2 : gn (ordO C.gates) r = t := ht
          rw [h2] at h1; exact h1
         obtain ⟨a9', c9', ev9, -, -, -, hrow9⟩ := HO.out.form
         simp only [Value.slice.injEq] at ev9
         obtain ⟨rfl, -, rfl⟩ := ev9
         obtain ⟨bo, offo, ea9, eo⟩ := hrow9 r _ hno9
         obtain ⟨b, off, ea, hE⟩ := HA.out.gateCell htg
         have hAx := ofL_ok hinv rA.1 (by omega) hdA
         have hBx := ofL_ok hinv rB.1 (by omega) hdB
         have hvA := hinv.val ((g3 C.gates t).2.1 / 2).toNat (by omega)
         have hvB := hinv.val ((g3 C.gates t).2.2 / 2).toNat (by omega)
         obtain ⟨x0, hx0⟩ : ∃ x, (g3 C.gates t).1 = x := ⟨_, rfl⟩
         obtain ⟨x1, hx1⟩ : ∃ x, (g3 C.gates t).2.1 = x := ⟨_, rfl⟩
         obtain ⟨x2, hx2⟩ : ∃ x, (g3 C.gates t).2.2 = x := ⟨_, rfl⟩
         rw [hx0] at rO hE
         rw [hx1] at rA hE hAx hvA
         rw [hx2] at rB hE hBx hvB
         have HS := Lib.hid (show netG C (r + 1) = putN (netG C r) x0 (ofN (netG C r).2 x1, ofN (netG C r).2 x2) by rw [hS]; unfold gateN; rw [hx0, hx1, hx2])
         have HA1 := Lib.hid (show 0 ≤ x1 ∧ (x1 / 2).toNat < k + 1 ∧ 0 ≤ gi (netG C r).2 (x1 / 2).toNat ∧ gi (netG C r).2 (x1 / 2).toNat % 2 = 0 ∧ gi (netG C r).2 (x1 / 2).toNat ≤ 1000000000 from ⟨rA.1, by omega, hAx.1, hAx.2.1, by omega⟩)
         have HB1 := Lib.hid (show 0 ≤ x2 ∧ (x2 / 2).toNat < k + 1 ∧ 0 ≤ gi (netG C r).2 (x2 / 2).toNat ∧ gi (netG C r).2 (x2 / 2).toNat % 2 = 0 ∧ gi (netG C r).2 (x2 / 2).toNat ≤ 1000000000 from ⟨rB.1, by omega, hBx.1, hBx.2.1, by omega⟩)
         have HLn := Lib.hid hLn
         have HR := Lib.hid (show 0 ≤ x0 ∧ (x0 / 2).toNat < k + 1 from ⟨by omega, by omega⟩)
         obtain ⟨e0, e1, e2⟩ := hE _ HM.out.kp
         have t0 : (0 : Int) ≤ (t : Int) := by omega
         have t1 : (t : Int) < (ng : Int) := by have := HNg.out; omega
         have r0 : (0 : Int) ≤ (r : Int) := by omega
         have r1 : (r : Int) < (no : Int) := by omega
         rw [ea] at c6
         subst ea9
         have HEA := Lib.hid ea
         clear ea hE hrow9 hno9 hS hx0 hx1 hx2 hAx hBx hvA hvB rA rB rO hLn hinv hmx hmk hdA hdB htg ht hol
         go_upto_region 23 with fail
         have HGb := Lib.hid (Blk.new wy #[.int .i64 x0, .int .i64 x1, .int .i64 x2] 95)
         have HM2 := Lib.hid (HM.out.fr ((Kp.refl _ wy).alloc (.cells #[.int .i64 x0, .int .i64 x1, .int .i64 x2] 95)))
         have HO2 := Lib.hid (HO.out.alloc (.cells #[.int .i64 x0, .int .i64 x1, .int .i64 x2] 95))
         clear HM HO e0 e1 e2 eo c6
         have HM := HM2
         clear HM2
         generalize hwv : wy.alloc (.cells #[.int .i64 x0, .int .i64 x1, .int .i64 x2] 95) = wv at HGb HM HO2 ⊢
         generalize hgb : wy.heap.size = gb at HGb ⊢
         refine wp_region_loose (p := upTo 12) (V := atV [EqV ((.func (.func 81) #[] #[.pointer (some ⟨bn, 0, none⟩), .pointer (some ⟨ba, 0, none⟩)])), EqV (.pointer (some ⟨gb, 0, none⟩)), EqV (.int .i64 x0), EqV ((.func (.func 82) #[] #[.pointer (some ⟨ba, 0, none⟩)])), EqV (.pointer (some ⟨gb, 1, none⟩)), EqV (.int .i64 x1), EqV (.int .i64 (ofN (netG C r).2 x1)), EqV ((.func (.func 82) #[] #[.pointer (some ⟨ba, 0, none⟩)])), EqV (.pointer (some ⟨gb, 2, none⟩)), EqV (.int .i64 x2), EqV (.int .i64 (ofN (netG C r).2 x2)), EqV (.agg #[.int .i64 (ofN (netG C r).2 x1), .int .i64 (ofN (netG C r).2 x2)])]) (LP := #[true, true, true, true, true, true, true, true, true, true, true, true, false]) (K := 1) (by kernel_rfl) (by kernel_rfl) (atV_st ?hstL23) ?hstepL23 (by kernel_rfl) ?hLPL23 (by kernel_rfl) ?hendL23
         case hstL23 =>
          intro W h
          simp only [List.mem_cons, List.not_mem_nil, or_false] at h
          rcases h with rfl | rfl | rfl | rfl | rfl | rfl | rfl | rfl | rfl | rfl | rfl | rfl <;> first | exact EqV.st _ | exact EqV.st _
         case hLPL23 => exact upTo_spec (by kernel_rfl)
         case hstepL23 =>
          intro i o ho hp a u hk hoff hdep
          have e7 : a.tmps[7]?.getD undef = (.func (.func 81) #[] #[.pointer (some ⟨bn, 0, none⟩), .pointer (some ⟨ba, 0, none⟩)]) := slot_at (hoff 7 (noDst_spec (by kernel_rfl)))
          have e12 : a.tmps[12]?.getD undef = (.func (.func 82) #[] #[.pointer (some ⟨ba, 0, none⟩)]) := slot_at (hoff 12 (noDst_spec (by kernel_rfl)))
          have e15 : a.tmps[15]?.getD undef = (.pointer (some ⟨gb, 0, none⟩)) := slot_at (hoff 15 (noDst_spec (by kernel_rfl)))
          clear hoff
          match i, ho with
          |0, ho =>
           obtain rfl := Option.some.inj ho
           refine lw_value (v := (.func (.func 81) #[] #[.pointer (some ⟨bn, 0, none⟩), .pointer (some ⟨ba, 0, none⟩)])) (u' := u) ?_ (Kp.refl _ _) rfl
           go_simp
          |1, ho =>
           obtain rfl := Option.some.inj ho
           refine lw_value (v := .pointer (some ⟨gb, 0, none⟩)) (u' := u) ?_ (Kp.refl _ _) rfl
           go_simp
          |2, ho =>
           obtain rfl := Option.some.inj ho
           have e69 : a.tmps[69]?.getD undef = .pointer (some ⟨gb, 0, none⟩) := slot_at (hdep ⟨1, .data⟩ (by simp) rfl _ 69 rfl rfl)
           have c1 := (HGb.out.kp hk (fun h => h)).cell (i := 0) (v := .int .i64 x0) rfl
           refine lw_value (v := .int .i64 x0) (u' := u) ?_ (Kp.refl _ _) rfl
           go_simp
          |3, ho =>
           obtain rfl := Option.some.inj ho
           refine lw_value (v := (.func (.func 82) #[] #[.pointer (some ⟨ba, 0, none⟩)])) (u' := u) ?_ (Kp.refl _ _) rfl
           go_simp
          |4, ho =>
           obtain rfl := Option.some.inj ho
           refine lw_value (v := .pointer (some ⟨gb, 1, none⟩)) (u' := u) ?_ (Kp.refl _ _) rfl
           go_simp
          |5, ho =>
           obtain rfl := Option.some.inj ho
           have e72 : a.tmps[72]?.getD undef = .pointer (some ⟨gb, 1, none⟩) := slot_at (hdep ⟨4, .data⟩ (by simp) rfl _ 72 rfl rfl)
           have c1 := (HGb.out.kp hk (fun h => h)).cell (i := 1) (v := .int .i64 x1) rfl
           refine lw_value (v := .int .i64 x1) (u' := u) ?_ (Kp.refl _ _) rfl
           go_simp
          |6, ho =>
           obtain rfl := Option.some.inj ho
           have e71 : a.tmps[71]?.getD undef = (.func (.func 82) #[] #[.pointer (some ⟨ba, 0, none⟩)]) := slot_at (hdep ⟨3, .data⟩ (by simp) rfl _ 71 rfl rfl)
           have e73 : a.tmps[73]?.getD undef = .int .i64 x1 := slot_at (hdep ⟨5, .data⟩ (by simp) rfl _ 73 rfl rfl)
           refine lw_call (f := 82) (args := #[.int .i64 x1, .pointer (some ⟨ba, 0, none⟩)]) ?_ ?_
           ·go_simp
           ·exact (net_f2 ba g (k + 1) (k + 1) (netG C r).2 x1 u (hk.cellK HM.out.cells.2.2.2) (by omega) (fun j hj => hk.cellK (HM.out.cells.1 j hj)) HA1.out.1 HA1.out.2.1 HA1.out.2.2).mono (by
             rintro e u' ⟨rfl, rfl⟩
             exact ⟨_, rfl, Kp.refl _ _, rfl⟩)
          |7, ho =>
           obtain rfl := Option.some.inj ho
           refine lw_value (v := (.func (.func 82) #[] #[.pointer (some ⟨ba, 0, none⟩)])) (u' := u) ?_ (Kp.refl _ _) rfl
           go_simp
          |8, ho =>
           obtain rfl := Option.some.inj ho
           refine lw_value (v := .pointer (some ⟨gb, 2, none⟩)) (u' := u) ?_ (Kp.refl _ _) rfl
           go_simp
          |9, ho =>
           obtain rfl := Option.some.inj ho
           have e76 : a.tmps[76]?.getD undef = .pointer (some ⟨gb, 2, none⟩) := slot_at (hdep ⟨8, .data⟩ (by simp) rfl _ 76 rfl rfl)
           have c1 := (HGb.out.kp hk (fun h => h)).cell (i := 2) (v := .int .i64 x2) rfl
           refine lw_value (v := .int .i64 x2) (u' := u) ?_ (Kp.refl _ _) rfl
           go_simp
          |10, ho =>
           obtain rfl := Option.some.inj ho
           have e75 : a.tmps[75]?.getD undef = (.func (.func 82) #[] #[.pointer (some ⟨ba, 0, none⟩)]) := slot_at (hdep ⟨7, .data⟩ (by simp) rfl _ 75 rfl rfl)
           have e77 : a.tmps[77]?.getD undef = .int .i64 x2 := slot_at (hdep ⟨9, .data⟩ (by simp) rfl _ 77 rfl rfl)
           refine lw_call (f := 82) (args := #[.int .i64 x2, .pointer (some ⟨ba, 0, none⟩)]) ?_ ?_
           ·go_simp
           ·exact (net_f2 ba g (k + 1) (k + 1) (netG C r).2 x2 u (hk.cellK HM.out.cells.2.2.2) (by omega) (fun j hj => hk.cellK (HM.out.cells.1 j hj)) HB1.out.1 HB1.out.2.1 HB1.out.2.2).mono (by
             rintro e u' ⟨rfl, rfl⟩
             exact ⟨_, rfl, Kp.refl _ _, rfl⟩)
          |11, ho =>
           obtain rfl := Option.some.inj ho
           have e74 : a.tmps[74]?.getD undef = .int .i64 (ofN (netG C r).2 x1) := slot_at (hdep ⟨6, .data⟩ (by simp) rfl _ 74 rfl rfl)
           have e78 : a.tmps[78]?.getD undef = .int .i64 (ofN (netG C r).2 x2) := slot_at (hdep ⟨10, .data⟩ (by simp) rfl _ 78 rfl rfl)
           refine lw_value (v := .agg #[.int .i64 (ofN (netG C r).2 x1), .int .i64 (ofN (netG C r).2 x2)]) (u' := u) ?_ (Kp.refl _ _) rfl
           go_simp
          |n + 12, _ => exact absurd hp (by simp [upTo])
         intro a u hI
         have hsz : a.tmps.size = 84 := hI.size
         have hdf : a.defers = [] := hI.defers
         have f0 := hI.o 0 (by kernel_rfl)
         have f1 := hI.o 1 (by kernel_rfl)
         have f2 := hI.o 2 (by kernel_rfl)
         have f3 := hI.o 3 (by kernel_rfl)
         have f4 := hI.o 4 (by kernel_rfl)
         have f5 := hI.o 5 (by kernel_rfl)
         have f6 := hI.o 6 (by kernel_rfl)
         have f7 := hI.o 7 (by kernel_rfl)
         have f8 := hI.o 8 (by kernel_rfl)
         have f9 := hI.o 9 (by kernel_rfl)
         have f10 := hI.o 10 (by kernel_rfl)
         have f11 := hI.o 11 (by kernel_rfl)
         have f12 := hI.o 12 (by kernel_rfl)
         have f13 := hI.o 13 (by kernel_rfl)
         have f14 := hI.o 14 (by kernel_rfl)
         have f15 := hI.o 15 (by kernel_rfl)
         have f16 := hI.o 16 (by kernel_rfl)
         have f17 := hI.o 17 (by kernel_rfl)
         have f18 := hI.o 18 (by kernel_rfl)
         have f19 := hI.o 19 (by kernel_rfl)
         have f20 := hI.o 20 (by kernel_rfl)
         have f21 := hI.o 21 (by kernel_rfl)
         have f22 := hI.o 22 (by kernel_rfl)
         have f23 := hI.o 23 (by kernel_rfl)
         have f24 := hI.o 24 (by kernel_rfl)
         have f25 := hI.o 25 (by kernel_rfl)
         have f26 := hI.o 26 (by kernel_rfl)
         have f27 := hI.o 27 (by kernel_rfl)
         have f28 := hI.o 28 (by kernel_rfl)
         have f29 := hI.o 29 (by kernel_rfl)
         have f30 := hI.o 30 (by kernel_rfl)
         have f31 := hI.o 31 (by kernel_rfl)
         have f32 := hI.o 32 (by kernel_rfl)
         have f33 := hI.o 33 (by kernel_rfl)
         have f34 := hI.o 34 (by kernel_rfl)
         have f35 := hI.o 35 (by kernel_rfl)
         have f36 := hI.o 36 (by kernel_rfl)
         have f37 := hI.o 37 (by kernel_rfl)
         have f38 := hI.o 38 (by kernel_rfl)
         have f39 := hI.o 39 (by kernel_rfl)
         have f40 := hI.o 40 (by kernel_rfl)
         have f41 := hI.o 41 (by kernel_rfl)
         have f42 := hI.o 42 (by kernel_rfl)
         have f43 := hI.o 43 (by kernel_rfl)
         have f44 := hI.o 44 (by kernel_rfl)
         have f45 := hI.o 45 (by kernel_rfl)
         have f46 := hI.o 46 (by kernel_rfl)
         have f47 := hI.o 47 (by kernel_rfl)
         have f48 := hI.o 48 (by kernel_rfl)
         have f49 := hI.o 49 (by kernel_rfl)
         have f50 := hI.o 50 (by kernel_rfl)
         have f51 := hI.o 51 (by kernel_rfl)
         have f52 := hI.o 52 (by kernel_rfl)
         have f53 := hI.o 53 (by kernel_rfl)
         have f54 := hI.o 54 (by kernel_rfl)
         have f55 := hI.o 55 (by kernel_rfl)
         have f56 := hI.o 56 (by kernel_rfl)
         have f57 := hI.o 57 (by kernel_rfl)
         have f58 := hI.o 58 (by kernel_rfl)
         have f59 := hI.o 59 (by kernel_rfl)
         have f60 := hI.o 60 (by kernel_rfl)
         have f61 := hI.o 61 (by kernel_rfl)
         have f62 := hI.o 62 (by kernel_rfl)
         have f63 := hI.o 63 (by kernel_rfl)
         have f64 := hI.o 64 (by kernel_rfl)
         have f65 := hI.o 65 (by kernel_rfl)
         have f66 := hI.o 66 (by kernel_rfl)
         have f67 := hI.o 67 (by kernel_rfl)
         have f80 := hI.o 80 (by kernel_rfl)
         have f81 := hI.o 81 (by kernel_rfl)
         have f82 := hI.o 82 (by kernel_rfl)
         have f83 := hI.o 83 (by kernel_rfl)
         have f68 : a.tmps.getD 68 undef = (.func (.func 81) #[] #[.pointer (some ⟨bn, 0, none⟩), .pointer (some ⟨ba, 0, none⟩)]) := hI.val 0 _ 68 rfl rfl rfl
         have f69 : a.tmps.getD 69 undef = .pointer (some ⟨gb, 0, none⟩) := hI.val 1 _ 69 rfl rfl rfl
         have f70 : a.tmps.getD 70 undef = .int .i64 x0 := hI.val 2 _ 70 rfl rfl rfl
         have f71 : a.tmps.getD 71 undef = (.func (.func 82) #[] #[.pointer (some ⟨ba, 0, none⟩)]) := hI.val 3 _ 71 rfl rfl rfl
         have f72 : a.tmps.getD 72 undef = .pointer (some ⟨gb, 1, none⟩) := hI.val 4 _ 72 rfl rfl rfl
         have f73 : a.tmps.getD 73 undef = .int .i64 x1 := hI.val 5 _ 73 rfl rfl rfl
         have f74 : a.tmps.getD 74 undef = .int .i64 (ofN (netG C r).2 x1) := hI.val 6 _ 74 rfl rfl rfl
         have f75 : a.tmps.getD 75 undef = (.func (.func 82) #[] #[.pointer (some ⟨ba, 0, none⟩)]) := hI.val 7 _ 75 rfl rfl rfl
         have f76 : a.tmps.getD 76 undef = .pointer (some ⟨gb, 2, none⟩) := hI.val 8 _ 76 rfl rfl rfl
         have f77 : a.tmps.getD 77 undef = .int .i64 x2 := hI.val 9 _ 77 rfl rfl rfl
         have f78 : a.tmps.getD 78 undef = .int .i64 (ofN (netG C r).2 x2) := hI.val 10 _ 78 rfl rfl rfl
         have f79 : a.tmps.getD 79 undef = .agg #[.int .i64 (ofN (netG C r).2 x1), .int .i64 (ofN (netG C r).2 x2)] := hI.val 11 _ 79 rfl rfl rfl
         have ha := act_list84 a hsz
         rw [hdf, f0, f1, f2, f3, f4, f5, f6, f7, f8, f9, f10, f11, f12, f13, f14, f15, f16, f17, f18, f19, f20, f21, f22, f23, f24, f25, f26, f27, f28, f29, f30, f31, f32, f33, f34, f35, f36, f37, f38, f39, f40, f41, f42, f43, f44, f45, f46, f47, f48, f49, f50, f51, f52, f53, f54, f55, f56, f57, f58, f59, f60, f61, f62, f63, f64, f65, f66, f67, f68, f69, f70, f71, f72, f73, f74, f75, f76, f77, f78, f79, f80, f81, f82, f83] at ha
         have hku := hI.kp
         clear hI hsz hdf f0 f1 f2 f3 f4 f5 f6 f7 f8 f9 f10 f11 f12 f13 f14 f15 f16 f17 f18 f19 f20 f21 f22 f23 f24 f25 f26 f27 f28 f29 f30 f31 f32 f33 f34 f35 f36 f37 f38 f39 f40 f41 f42 f43 f44 f45 f46 f47 f48 f49 f50 f51 f52 f53 f54 f55 f56 f57 f58 f59 f60 f61 f62 f63 f64 f65 f66 f67 f68 f69 f70 f71 f72 f73 f74 f75 f76 f77 f78 f79 f80 f81 f82 f83 
         subst ha
         refine wpAny_tail 12 rfl (by kernel_rfl) ?_
         simp only [List.drop_succ_cons, List.drop_zero]
         have HMu := Lib.hid (HM.out.fr hku)
         have HOu := Lib.hid (HO2.out.kp hku (fun _ _ h => h))
         clear hku
         go_wp2_with (go_at_call 81; refine (net_f1 V C w bn ba g (k + 1) (k + 1) (q + p + r) (netG C r) v5 x0 (ofN (netG C r).2 x1) (ofN (netG C r).2 x2) _ HMu.out HLn.out (by omega) (by have := HR.out; omega) (by have := HR.out; omega) (by omega)).mono ?_; rintro e w2 ⟨rfl, ⟨v', hP⟩, hK⟩)
         have HP := Lib.hid hP
         have HO3 := Lib.hid (HOu.out.kp hK (fun j hj hs => by
          have h1 := (HOu.out.lt j hj).1
          have h2 := HG5.out
          rcases hs with h4 | h4 | h4
          ·obtain ⟨c, hc⟩ := HMu.out.n.blkN h4
           obtain ⟨c', hc'⟩ := HOu.out.rows.blkN hj
           exact absurd (blkN_type hc hc') (by decide)
          ·omega
          ·omega))
         clear hP hK
         go_wp2_with fail
         go_roundw
         case rel => exact ⟨r + 1, by go_num, by omega, ⟨v', by rw [HS.out]; exact HP.out⟩, HO3.out⟩
         case measure => simp [intOf]; omega
        ·obtain rfl : r = no := by omega
         have HE := Lib.hid (show OwnK wy w.heap.size 102 2 v5 ((netOf C).1.map pr2) ∧ Own wy w.heap.size 3 (.slice (some ⟨g, 0, none⟩) (k + 1) (k + 1)) (iv (netOf C).2) ∧ Kp (fun _ => False) w wy from by
          have h1 := HM.out
          rw [← HNo.out] at h1
          exact ⟨h1.n.mono (by omega), h1.a.mono (by omega), h1.kp⟩)
         have cn := HM.out.cells.2.2.1
         have ca := HM.out.cells.2.2.2
         go_upto_region 25 with fail
         go_quiet (fail)
         go_wp2_with fail
         go_ret2
         exact ⟨_, _, rfl, HE.out.1.drewN _, HE.out.2.1.drewN _, HE.out.2.2.drewN _⟩

end Go.Proofs.YtnoknecfdnjomaaGreat

/-
  step: Inputs, Latches, values.is, values.all.
-/
namespace Go.Proofs.YtnoknecfdnjomaaGreat
open Go.RowKit

theorem step_Inputs (V : CV) (C : Circ) (p : Nat) (a4 a5 : Option Addr) (c4 c5 : Nat) (w : World) (hM : MAt w 99 V C p a4 c4 a5 c5) (hf : CFew C 1000000) :
  Calls Tryz.prog 35 #[.pointer (some ⟨p, 0, none⟩)] w fun e w' => e = .returned (.int .i64 (C.ins.length : Int)) ∧ w = w' := by
 obtain ⟨n, hn⟩ : ∃ n, C.ins.length = n := ⟨_, rfl⟩
 have hn1 : n ≤ 1000000 := by have := hf.i; omega
 have hB : w.cell? ⟨p, 1, none⟩ = some (.slice V.ai n V.ci) := hM.blk.cell (i := 1) (by rw [← hn]; rfl)
 rw [hn]
 clear hM hf hn
 go_enter Tryz.func35, Tryz.ntmps35
 go_wp2_with fail
 go_ret
 exact ⟨rfl, rfl⟩

theorem step_Latches (V : CV) (C : Circ) (p : Nat) (a4 a5 : Option Addr) (c4 c5 : Nat) (w : World) (hM : MAt w 99 V C p a4 c4 a5 c5) (hf : CFew C 1000000) :
  Calls Tryz.prog 34 #[.pointer (some ⟨p, 0, none⟩)] w fun e w' => e = .returned (.int .i64 (C.lats.length : Int)) ∧ w = w' := by
 obtain ⟨n, hn⟩ : ∃ n, C.lats.length = n := ⟨_, rfl⟩
 have hn1 : n ≤ 1000000 := by have := hf.l; omega
 have hB : w.cell? ⟨p, 2, none⟩ = some (.slice V.al n V.cl) := hM.blk.cell (i := 2) (by rw [← hn]; rfl)
 rw [hn]
 clear hM hf hn
 go_enter Tryz.func34, Tryz.ntmps34
 go_wp2_with fail
 go_ret
 exact ⟨rfl, rfl⟩

set_option maxRecDepth 100000 in
set_option maxHeartbeats 1000000 in
theorem step_is (va : Option Addr) (vn vc : Nat) (vals : List Bool) (a5 : Option Addr) (n5 c5 : Nat) (at_ : List Int) (l : Int) (w : World) (hv : RowAt w va (bv vals)) (hvn : vals.length = vn) (hv1 : vn ≤ 100000000) (h0 : vb vals 0 = false) (ha : RowAt w a5 (iv at_)) (han : at_.length = n5) (ha1 : n5 ≤ 100000000) (l0 : 0 ≤ l) (lq : (l / 2).toNat < n5) (hx : 0 ≤ gi at_ (l / 2).toNat ∧ gi at_ (l / 2).toNat % 2 = 0 ∧ gi at_ (l / 2).toNat ≤ 1000000000) (hp : 0 ≤ ofN at_ l) (hq : (ofN at_ l / 2).toNat < vn) :
  Calls Tryz.prog 85 #[.agg #[.slice va vn vc, .slice a5 n5 c5], .int .i64 l] w fun e w' => e = .returned (.bool (litN vals (ofN at_ l))) ∧ Kp (fun _ => False) w w' := by
 obtain ⟨wz, hwz⟩ : ∃ wz : World, wz = w.alloc (.cells #[.slice va vn vc, .slice a5 n5 c5] 116) := ⟨_, rfl⟩
 have HK0 := Lib.hid (show Kp (fun _ => False) w wz by rw [hwz]; exact (Kp.refl _ w).alloc _)
 have HBk := Lib.hid (show Blk wz w.heap.size #[.slice va vn vc, .slice a5 n5 c5] 116 by rw [hwz]; exact Blk.new _ _ _)
 obtain ⟨q, hqq⟩ : ∃ q : Nat, (l / 2).toNat = q := ⟨_, rfl⟩
 have hd : l / 2 = (q : Int) := by omega
 have hld : l.tdiv 2 = (q : Int) := by rw [Int.tdiv_eq_ediv_of_nonneg l0]; exact hd
 have hl9 : l ≤ 200000002 := by omega
 have hand : bits .and .i64 l 1 = l % 2 := i64_and1 l l0 (by omega)
 have hz : ofN at_ l = gi at_ q + l % 2 := by unfold ofN; rw [hqq]; rw [hqq] at hx; split <;> omega
 rw [hqq] at lq hx
 obtain ⟨b, off, rfl, e0⟩ := ha q _ (iv_at (by omega))
 obtain ⟨y, hy⟩ : ∃ y, gi at_ q = y := ⟨_, rfl⟩
 rw [hy] at e0 hx hz
 have hxor : bits .xor .i64 y (l % 2) = ofN at_ l := by rw [i64_xor1 y l hx.1 hx.2.1 hx.2.2, hz]
 obtain ⟨z, hzz⟩ : ∃ z, ofN at_ l = z := ⟨_, rfl⟩
 rw [hzz] at hp hq hxor ⊢
 have HL := Lib.hid (fun u (hu : Kp (fun _ => False) w u) => sim_Lit va vn vc vals z u (hv.kp hu (fun _ _ h => h)) hvn hv1 h0 hp hq)
 have q0 : (0 : Int) ≤ (q : Int) := by omega
 have q1 : (q : Int) < (n5 : Int) := by omega
 have y0 := hx.1
 have y2 := hx.2.2
 have HZ := Lib.hid hwz
 have HE0 := Lib.hid e0
 clear hv hvn ha han hqq hx hy hz hzz hwz e0
 obtain ⟨F, hF1, hF2⟩ := still_class wz
 have HF1 := Lib.hid hF1
 have HF2 := Lib.hid hF2
 clear hF1 hF2
 have m0 : ∀ y, (F y).cell? ⟨w.heap.size, 0, none⟩ = some (.slice va vn vc) := fun y => (HBk.out.kp (HF1.out y) (fun h => h)).cell rfl
 have m1 : ∀ y, (F y).cell? ⟨w.heap.size, 1, none⟩ = some (.slice (some ⟨b, off, none⟩) n5 c5) := fun y => (HBk.out.kp (HF1.out y) (fun h => h)).cell rfl
 have m2 := fun y => (HF1.out y).cellK (HK0.out.cellK HE0.out)
 have HW := Lib.hid (fun y => (HL.out (F y) (HK0.out.trans (HF1.out y) (fun _ _ h => h))).mono (R' := fun e w' => e = .returned (.bool (litN vals z)) ∧ Kp (fun _ => False) (F y) w') (fun e w' ⟨h1, h2⟩ => ⟨h1, h2 ▸ Kp.refl _ _⟩))
 go_enter Tryz.func85, Tryz.ntmps85
 go_upto_region 1 with fail
 rw [← HZ.out]
 clear HZ
 refine wp_region_kept (by kernel_rfl) (by kernel_rfl) HF2.out ?_
 repeat (go_big_quiet_step (with_reducible first | exact Calls.still_of HF1.out HF2.out (HW.out _)))
 refine wpQuiet_nil ?_
 rintro wB ⟨y, rfl⟩
 have HE := Lib.hid (HK0.out.trans (HF1.out y) (fun _ _ h => h))
 clear m0 m1 m2
 go_wp2_with fail
 go_ret
 exact ⟨rfl, HE.out⟩

end Go.Proofs.YtnoknecfdnjomaaGreat

/-
  latchetref17.number; explore's state and input.
-/
namespace Go.Proofs.YtnoknecfdnjomaaGreat
open Go.RowKit

set_option maxRecDepth 100000 in
set_option maxHeartbeats 2000000 in
theorem ref17_number (a : Option Addr) (m c : Nat) (l : List Bool) (w : World) (hr : RowAt w a (bv l)) (hl : l.length = m) (hm : m ≤ 20) :
  Calls Tryz.prog 45 #[.slice a m c] w fun e w' => e = .returned (.int .i64 (numP l)) ∧ w = w' := by
 have HR := Lib.hid hr
 have HL := Lib.hid hl
 clear hr hl
 obtain ⟨P, hP⟩ : ∃ P, numP l = P := ⟨_, rfl⟩
 have HP := Lib.hid hP
 rw [hP]
 clear hP
 have w0 : IntKind.i64.wrap ((m : Int) - 1) = (m : Int) - 1 := by rw [IntKind.wrap_i64]; omega
 go_enter Tryz.func45, Tryz.ntmps45
 go_wp2_with fail
 go_loop [3, 4] (fun v3 v4 => ∃ k x : Nat, v4 = .int .i64 ((k : Int) - 1) ∧ k ≤ m ∧ v3 = .int .i64 (x : Int) ∧ x = numP (l.drop k)) (fun _ v4 => (intOf v4 + 1).toNat)
 case atStart => exact ⟨m, 0, rfl, Nat.le_refl _, rfl, by rw [← HL.out, List.drop_length]; rfl⟩
 case round =>
  obtain ⟨k, x, rfl, hk, rfl, hx⟩ := hrel
  have HX := Lib.hid hx
  by_cases hlt : 0 < k
  ·obtain ⟨i, rfl⟩ : ∃ i, k = i + 1 := ⟨k - 1, by omega⟩
   have hil : i < l.length := by rw [HL.out]; omega
   obtain ⟨b, off, rfl, hcell⟩ := HR.out i _ (bv_at hil)
   have hx9 : x < 1048576 := by
    rw [hx]
    refine Nat.lt_of_lt_of_le (numP_lt _) ?_
    have := Nat.pow_le_pow_right (n := 2) (by decide) (show (l.drop (i + 1)).length ≤ 20 by rw [List.length_drop, HL.out]; omega)
    exact this
   have HD := Lib.hid (show numP (l.drop i) = (if vb l i = true then 1 else 0) + 2 * numP (l.drop (i + 1)) from numP_drop (by unfold vb; rw [List.getElem?_eq_getElem hil]; rfl))
   obtain ⟨y, hy⟩ : ∃ y, vb l i = y := ⟨_, rfl⟩
   rw [hy] at hcell HD
   obtain ⟨z, hz⟩ : ∃ z : Int, ((i + 1 : Nat) : Int) - 1 = z := ⟨_, rfl⟩
   have hzi : z = (i : Int) := by omega
   rw [hz]
   subst hzi
   have i0 : (0 : Int) ≤ (i : Int) := by omega
   have i1 : (i : Int) < (m : Int) := by omega
   have d0 : decide ((0 : Int) ≤ (i : Int)) = true := by simp
   have w2 : IntKind.i64.wrap (2 * (x : Int)) = 2 * (x : Int) := by rw [IntKind.wrap_i64]; omega
   have w3 : IntKind.i64.wrap (2 * (x : Int) + 1) = 2 * (x : Int) + 1 := by rw [IntKind.wrap_i64]; omega
   have w4 : IntKind.i64.wrap ((i : Int) - 1) = (i : Int) - 1 := by rw [IntKind.wrap_i64]; omega
   clear hx hy hil hz
   cases y with
   |true =>
    go_wp2_with fail
    go_round
    case rel => exact ⟨i, 2 * x + 1, by go_num, by omega, by go_num, by rw [HD.out, HX.out, if_pos rfl]; omega⟩
    case measure => simp [intOf]
   |false =>
    go_wp2_with fail
    go_round
    case rel => exact ⟨i, 2 * x, by go_num, by omega, by go_num, by rw [HD.out, HX.out, if_neg (by decide)]; omega⟩
    case measure => simp [intOf]
  ·have hk0 : k = 0 := by omega
   subst hk0
   have HE := Lib.hid (show x = P by rw [hx, ← HP.out, List.drop_zero])
   have hno : decide ((0 : Int) ≤ ((0 : Nat) : Int) - 1) = false := by decide
   clear hx
   go_wp2_with fail
   go_ret
   exact ⟨by rw [HE.out]; rfl, rfl⟩

end Go.Proofs.YtnoknecfdnjomaaGreat

/-
  What a state does by itself: the states behind it, and an input that leads to each. No program in sight.
-/
namespace Go.Proofs.YtnoknecfdnjomaaGreat
open Go.RowKit

def succK (H : Nat → Bool) (X : Nat → Nat) : Nat → Int → Option Int
  | 0, _ => none
  | k + 1, u => if (succK H X k u).isSome = true then succK H X k u else if H k = true ∧ (X k : Int) = u then some (k : Int) else none
def badK (H B : Nat → Bool) : Nat → Int
  | 0 => -1
  | k + 1 => if badK H B k = -1 ∧ H k = true ∧ B k = true then (k : Int) else badK H B k
theorem succK_skip {H : Nat → Bool} {X : Nat → Nat} {k : Nat} (h : H k = false) : succK H X (k + 1) = succK H X k := by
 funext u
 show (if _ then _ else if H k = true ∧ (X k : Int) = u then _ else none) = _
 rw [if_neg (show ¬ (H k = true ∧ (X k : Int) = u) from fun q => by rw [h] at q; cases q.1)]
 cases e : succK H X k u <;> simp
theorem succK_there {H : Nat → Bool} {X : Nat → Nat} {k : Nat} (h : (succK H X k (X k)).isSome = true) : succK H X (k + 1) = succK H X k := by
 funext u
 show (if _ then _ else if H k = true ∧ (X k : Int) = u then _ else none) = _
 by_cases e : (succK H X k u).isSome = true
 ·rw [if_pos e]
 ·rw [if_neg e, if_neg (show ¬ (H k = true ∧ (X k : Int) = u) from fun q => e (by rw [← q.2]; exact h))]
  cases e2 : succK H X k u with
  |none => rfl
  |some x => rw [e2] at e; exact absurd rfl e
theorem succK_put {H : Nat → Bool} {X : Nat → Nat} {k : Nat} (hH : H k = true) (h : (succK H X k (X k)).isSome = false) : succK H X (k + 1) = fun u => if u = (X k : Int) then some (k : Int) else succK H X k u := by
 funext u
 show (if _ then _ else if H k = true ∧ (X k : Int) = u then _ else none) = _
 by_cases e : u = (X k : Int)
 ·subst e
  rw [if_neg (by rw [h]; decide), if_pos ⟨hH, rfl⟩, if_pos rfl]
 ·rw [if_neg (show ¬ (H k = true ∧ (X k : Int) = u) from fun q => e q.2.symm), if_neg e]
  cases e2 : succK H X k u <;> simp
theorem succK_some {H : Nat → Bool} {X : Nat → Nat} : ∀ {k : Nat} {u i : Int}, succK H X k u = some i → ∃ j : Nat, i = (j : Int) ∧ j < k ∧ H j = true ∧ (X j : Int) = u
 |0, _, _, h => by cases h
 |k + 1, u, i, h => by
  have h2 : (if (succK H X k u).isSome = true then succK H X k u else if H k = true ∧ (X k : Int) = u then some (k : Int) else none) = some i := h
  split at h2
  ·obtain ⟨j, h3, h4, h5⟩ := succK_some h2
   exact ⟨j, h3, by omega, h5⟩
  ·split at h2
   ·rename_i q
    cases h2
    exact ⟨k, rfl, Nat.lt_succ_self k, q⟩
   ·cases h2
theorem succK_is {H : Nat → Bool} {X : Nat → Nat} : ∀ {k : Nat} {u : Int}, (succK H X k u).isSome = true ↔ ∃ j, j < k ∧ H j = true ∧ (X j : Int) = u
 |0, u => ⟨fun h => (by cases h), fun ⟨j, hj, _⟩ => absurd hj (Nat.not_lt_zero j)⟩
 |k + 1, u => by
  show (if (succK H X k u).isSome = true then succK H X k u else if H k = true ∧ (X k : Int) = u then some (k : Int) else none).isSome = true ↔ _
  by_cases e : (succK H X k u).isSome = true
  ·rw [if_pos e]
   constructor
   ·intro _
    obtain ⟨j, hj, h⟩ := succK_is.1 e
    exact ⟨j, by omega, h⟩
   ·intro _; exact e
  ·rw [if_neg e]
   by_cases q : H k = true ∧ (X k : Int) = u
   ·rw [if_pos q]
    exact ⟨fun _ => ⟨k, Nat.lt_succ_self k, q⟩, fun _ => rfl⟩
   ·rw [if_neg q]
    constructor
    ·intro h; cases h
    ·rintro ⟨j, hj, h⟩
     by_cases e2 : j = k
     ·subst e2; exact absurd h q
     ·exact absurd (succK_is.2 ⟨j, by omega, h⟩) e
theorem badK_cases {H B : Nat → Bool} : ∀ k, (badK H B k = -1 ∧ ∀ j, j < k → ¬ (H j = true ∧ B j = true)) ∨ ∃ j : Nat, badK H B k = (j : Int) ∧ j < k ∧ H j = true ∧ B j = true
 |0 => .inl ⟨rfl, fun j hj => absurd hj (Nat.not_lt_zero j)⟩
 |k + 1 => by
  unfold badK
  rcases badK_cases (H := H) (B := B) k with ⟨h1, h2⟩ | ⟨j, h1, h2, h3⟩
  ·by_cases q : H k = true ∧ B k = true
   ·rw [if_pos ⟨h1, q⟩]
    exact .inr ⟨k, rfl, Nat.lt_succ_self k, q⟩
   ·rw [if_neg (fun z => q z.2)]
    refine .inl ⟨h1, fun j hj => ?_⟩
    by_cases e : j = k
    ·rw [e]; exact q
    ·exact h2 j (by omega)
  ·rw [if_neg (fun z => by rw [h1] at z; omega)]
   exact .inr ⟨j, h1, by omega, h3⟩

def stN (C : Circ) (t : Nat) : List Bool := bitsP t C.lats.length
def inN2 (C : Circ) (i : Nat) : List Bool := bitsP i C.ins.length
def hldN (C : Circ) (t i : Nat) : Bool := holdsM C (stN C t) (inN2 C i)
def nxtN (C : Circ) (t i : Nat) : Nat := numP (nextM C (stN C t) (inN2 C i))
def bdN (C : Circ) (p : Int) (t i : Nat) : Bool := badM C (stN C t) (inN2 C i) p
def rowF2 (C : Circ) (t : Nat) : Int → Option Int := succK (hldN C t) (nxtN C t) (2 ^ C.ins.length)
def rowB (C : Circ) (p : Int) (t : Nat) : Int := badK (hldN C t) (bdN C p t) (2 ^ C.ins.length)

end Go.Proofs.YtnoknecfdnjomaaGreat

/-
  explore: the bits of a state, and of an input.
-/
namespace Go.Proofs.YtnoknecfdnjomaaGreat
open Go.RowKit

set_option maxRecDepth 100000 in
theorem ex_state {V : CV} {C : Circ} {p sp : Nat} {a4 a5 : Option Addr} {c4 c5 : Nat} {w : World} (hM : MAt w 99 V C p a4 c4 a5 c5) (hf : CFew C 1000000) (hs : w.cell? ⟨sp, 0, none⟩ = some (.pointer (some ⟨p, 0, none⟩))) (hl : C.lats.length ≤ 10) (n : Nat) (hn : n < 2 ^ C.lats.length) :
  Calls Tryz.prog 52 #[.pointer (some ⟨sp, 0, none⟩), .int .i64 n] w fun e w' => ∃ v, e = .returned v ∧ Own w' w.heap.size 4 v (bv (stN C n)) ∧ Kp (fun _ => False) w w' := by
 have HL := Lib.hid (step_Latches V C p a4 a5 c4 c5 w hM hf)
 have HB := Lib.hid (ex_bits n C.lats.length hn (by omega) w)
 have e : stN C n = bitsP n C.lats.length := rfl
 rw [← e] at HB
 obtain ⟨m, hm⟩ : ∃ m, C.lats.length = m := ⟨_, rfl⟩
 rw [hm] at HL HB
 clear hM hf hl hn hm e
 go_enter Tryz.func52, Tryz.ntmps52
 go_wp2_with (first
  |(go_at_call 34; refine HL.out.mono ?_; rintro e w' ⟨rfl, rfl⟩)
  |(go_at_call 70; refine HB.out.mono ?_; rintro e w' ⟨v, rfl, hO, hK⟩; have HO := Lib.hid hO; have HK := Lib.hid hK; clear hO hK))
 go_ret
 exact ⟨_, rfl, HO.out, HK.out⟩

set_option maxRecDepth 100000 in
theorem ex_input {V : CV} {C : Circ} {p sp : Nat} {a4 a5 : Option Addr} {c4 c5 : Nat} {w : World} (hM : MAt w 99 V C p a4 c4 a5 c5) (hf : CFew C 1000000) (hs : w.cell? ⟨sp, 0, none⟩ = some (.pointer (some ⟨p, 0, none⟩))) (hl : C.ins.length ≤ 8) (n : Nat) (hn : n < 2 ^ C.ins.length) :
  Calls Tryz.prog 53 #[.pointer (some ⟨sp, 0, none⟩), .int .i64 n] w fun e w' => ∃ v, e = .returned v ∧ Own w' w.heap.size 4 v (bv (inN2 C n)) ∧ Kp (fun _ => False) w w' := by
 have HL := Lib.hid (step_Inputs V C p a4 a5 c4 c5 w hM hf)
 have HB := Lib.hid (ex_bits n C.ins.length hn (by omega) w)
 have e : inN2 C n = bitsP n C.ins.length := rfl
 rw [← e] at HB
 obtain ⟨m, hm⟩ : ∃ m, C.ins.length = m := ⟨_, rfl⟩
 rw [hm] at HL HB
 clear hM hf hl hn hm e
 go_enter Tryz.func53, Tryz.ntmps53
 go_wp2_with (first
  |(go_at_call 35; refine HL.out.mono ?_; rintro e w' ⟨rfl, rfl⟩)
  |(go_at_call 70; refine HB.out.mono ?_; rintro e w' ⟨v, rfl, hO, hK⟩; have HO := Lib.hid hO; have HK := Lib.hid hK; clear hO hK))
 go_ret
 exact ⟨_, rfl, HO.out, HK.out⟩

end Go.Proofs.YtnoknecfdnjomaaGreat

/-
  step: values.all; the literals of a moment.
-/
namespace Go.Proofs.YtnoknecfdnjomaaGreat
open Go.RowKit

theorem valsK_head {N : List (Int × Int)} {ins : List Bool} : ∀ k, k ≤ N.length → vb (valsK N ins k).1 0 = false
 |0, _ => rfl
 |k + 1, h => by
  have ih := valsK_head (N := N) (ins := ins) k (by omega)
  have hl := valsK_len (N := N) (ins := ins) k (by omega)
  rw [valsK_succ (by omega)]
  unfold vb at ih ⊢
  unfold stepV
  split
  ·show ((valsK N ins k).1 ++ _)[0]?.getD false = false
   rw [List.getElem?_append_left (by omega)]; exact ih
  ·show ((valsK N ins k).1 ++ _)[0]?.getD false = false
   rw [List.getElem?_append_left (by omega)]; exact ih

theorem net_few {C : Circ} (hf : CFew C 1000000) (hg : GoodC C) : (netOf C).1.length ≤ 3000000 ∧ (netOf C).2.length ≤ 20000000 := by
 have hnl := nodes_len C
 have hol := (ordO_at C.gates).len
 have hfi := hf.i
 have hfl := hf.l
 have hfg := hf.g
 refine ⟨by omega, ?_⟩
 have h1 := (netG_inv hg (ordO C.gates).length (Nat.le_refl _)).size
 have h2 := hg.mx
 have h3 := hg.rng.max1
 show (netG C _).2.length ≤ _
 omega

theorem step_lit {C : Circ} {a5 : Option Addr} {c5 : Nat} {va : Option Addr} {vc : Nat} {st ip : List Bool} {w : World} (hf : CFew C 1000000) (hg : GoodC C) (ha : RowAt w a5 (iv (netOf C).2)) (hv : RowAt w va (bv (valsM C st ip))) :
  ∀ u, Kp (fun _ => False) w u → ∀ l, l ∈ C.used → Calls Tryz.prog 85 #[.agg #[.slice va ((netOf C).1.length + 1) vc, .slice a5 (netOf C).2.length c5], .int .i64 l] u fun e w' => e = .returned (.bool (litM C st ip l)) ∧ Kp (fun _ => False) u w' := fun u hu l hl => by
 obtain ⟨l0, lq, ly0, ly1, ly2, lo0, lo1⟩ := lit_place hg hl
 obtain ⟨h4, h5⟩ := net_few hf hg
 exact step_is va _ vc (valsM C st ip) a5 _ c5 (netOf C).2 l u (hv.kp hu (fun _ _ h => h)) (valsOf_len _ _) (by omega) (valsK_head _ (Nat.le_refl _)) (ha.kp hu (fun _ _ h => h)) rfl (by omega) l0 lq ⟨ly0, ly1, by omega⟩ lo0 (by omega)

set_option maxRecDepth 100000 in
set_option maxHeartbeats 2000000 in
theorem step_all (vs : Array Value) (x0 x1 : Value) (hvs : vs = #[x0, x1]) (la : Option Addr) (ln lc : Nat) (L : List Int) (f : Int → Bool) (w : World) (hL : IntsAt w la L) (hln : L.length = ln) (hl1 : ln ≤ 1000000) (hx0 : x0.oneCell' = true) (hx1 : x1.oneCell' = true)
  (his : ∀ u, Kp (fun _ => False) w u → ∀ l, l ∈ L → Calls Tryz.prog 85 #[.agg vs, .int .i64 l] u fun e w' => e = .returned (.bool (f l)) ∧ Kp (fun _ => False) u w') (sa sb : Option Addr) (m0 d0 m1 d1 : Nat) (e0 : x0 = .slice sa m0 d0) (e1 : x1 = .slice sb m1 d1) :
  Calls Tryz.prog 84 #[.agg vs, .slice la ln lc] w fun e w' => e = .returned (.bool (L.all f)) ∧ Kp (fun _ => False) w w' := by
 subst hvs e0 e1
 obtain ⟨wz, hwz⟩ : ∃ wz : World, wz = w.alloc (.cells #[.slice sa m0 d0, .slice sb m1 d1] 116) := ⟨_, rfl⟩
 have HK0 := Lib.hid (show Kp (fun _ => False) w wz by rw [hwz]; exact (Kp.refl _ w).alloc _)
 have HBk := Lib.hid (show Blk wz w.heap.size #[.slice sa m0 d0, .slice sb m1 d1] 116 by rw [hwz]; exact Blk.new _ _ _)
 have HZ := Lib.hid hwz
 have HL := Lib.hid hL
 have HLn := Lib.hid hln
 have HIs := Lib.hid his
 clear hL hln his hwz hx0 hx1
 go_enter Tryz.func84, Tryz.ntmps84
 go_upto_region 1 with fail
 rw [← HZ.out]
 clear HZ
 go_wp2_with fail
 go_loopw [9] (fun v9 wr => ∃ k : Nat, v9 = .int .i64 k ∧ k ≤ ln ∧ (L.take k).all f = true ∧ Kp (fun _ => False) wz wr) (fun v9 _ => ln - (intOf v9).toNat)
 case atStart => exact ⟨0, rfl, by omega, rfl, Kp.refl _ _⟩
 case round =>
  obtain ⟨k, rfl, hk, hall, hK⟩ := hrel
  obtain ⟨wp, rfl⟩ : ∃ wp : World, wp = wr := ⟨_, rfl⟩
  have HK := Lib.hid hK
  have HKw := Lib.hid (HK0.out.trans hK (fun _ _ h => h))
  have b0 := (HBk.out.kp hK (fun h => h)).cell (i := 0) (v := .slice sa m0 d0) rfl
  have b1 := (HBk.out.kp hK (fun h => h)).cell (i := 1) (v := .slice sb m1 d1) rfl
  clear hK
  by_cases hlt : k < ln
  ·have hkl : k < L.length := by rw [HLn.out]; exact hlt
   obtain ⟨b, off, rfl, e0⟩ := IntsAt.get (RowAt.kp HL.out HKw.out (fun _ _ h => h)) hkl
   have hc := HIs.out _ HKw.out _ (gi_mem hkl)
   have hS : (L.take (k + 1)).all f = f (gi L k) := by rw [take_gi hkl, List.all_append, hall]; simp
   have hF : f (gi L k) = false → L.all f = false := fun h => by
    rw [List.all_eq_false]
    exact ⟨_, gi_mem hkl, by rw [h]; simp⟩
   obtain ⟨x, hx⟩ : ∃ x, gi L k = x := ⟨_, rfl⟩
   rw [hx] at e0 hc hS hF
   obtain ⟨y, hy⟩ : ∃ y, f x = y := ⟨_, rfl⟩
   rw [hy] at hc hS hF
   have HC := Lib.hid hc
   have HS := Lib.hid hS
   have HFl := Lib.hid hF
   have i0 : (0 : Int) ≤ (k : Int) := by omega
   have i2 : (k : Int) < (ln : Int) := by omega
   clear hx hy hc hS hF hkl hall
   cases y with
   |true =>
    go_wp2_with (go_at_call 85; with_reducible refine Calls.mono HC.out ?_; rintro e w1 ⟨rfl, hK1⟩; have HK1 := Lib.hid (HK.out.trans hK1 (fun _ _ h => h)); clear hK1)
    go_roundw
    case rel => exact ⟨k + 1, by go_num, by omega, HS.out, HK1.out⟩
    case measure => simp [intOf]; omega
   |false =>
    go_wp2_with (go_at_call 85; with_reducible refine Calls.mono HC.out ?_; rintro e w1 ⟨rfl, hK1⟩; have HK1 := Lib.hid (HK.out.trans hK1 (fun _ _ h => h)); clear hK1)
    go_ret
    exact ⟨by rw [HFl.out (by simp)]; rfl, HK0.out.trans HK1.out (fun _ _ h => h)⟩
  ·obtain rfl : k = ln := by omega
   have HE := Lib.hid (show L.all f = true from by rw [List.take_of_length_le (by rw [HLn.out]; exact Nat.le_refl _)] at hall; exact hall)
   clear hall
   go_wp2_with fail
   go_ret
   exact ⟨by rw [HE.out]; rfl, HKw.out⟩

end Go.Proofs.YtnoknecfdnjomaaGreat

/-
  step.brought.
-/
namespace Go.Proofs.YtnoknecfdnjomaaGreat
open Go.RowKit

theorem brought_take (l : List Bool) (m : Nat) : brought l m = l.take (Nat.min l.length m) ++ List.replicate (m - Nat.min l.length m) false := by
 have hmin : Nat.min l.length m ≤ l.length ∧ Nat.min l.length m ≤ m ∧ (Nat.min l.length m = l.length ∨ Nat.min l.length m = m) := by
  simp only [Nat.min_def]; split <;> omega
 apply List.ext_getElem?
 intro i
 unfold brought
 rw [List.getElem?_map]
 by_cases hi : i < m
 ·rw [List.getElem?_range hi]
  show some (vb l i) = _
  by_cases h2 : i < Nat.min l.length m
  ·rw [List.getElem?_append_left (by simp; omega), List.getElem?_take, if_pos h2]
   unfold vb
   rw [List.getElem?_eq_getElem (by omega)]; rfl
  ·have hlen : (l.take (Nat.min l.length m)).length = Nat.min l.length m := by rw [List.length_take]; omega
   rw [List.getElem?_append_right (by omega), hlen, List.getElem?_replicate, if_pos (by omega)]
   rw [vb_far (by omega)]
 ·rw [List.getElem?_eq_none (by simp; omega)]
  rw [List.getElem?_eq_none (by simp; omega)]; rfl

theorem splice_bools (l : List Bool) (m : Nat) : splice (bv (List.replicate m false)) 0 (bv (l.take (Nat.min l.length m))) = bv (brought l m) := by
 have hmin : Nat.min l.length m ≤ l.length ∧ Nat.min l.length m ≤ m := by
  simp only [Nat.min_def]; split <;> omega
 rw [brought_take]
 unfold splice
 have hlen : (bv (l.take (Nat.min l.length m))).length = Nat.min l.length m := by rw [bv_length, List.length_take]; omega
 rw [List.take_zero, List.nil_append, hlen, Nat.zero_add, bv_append]
 congr 1
 unfold bv
 rw [← List.map_drop, List.drop_replicate]

set_option maxRecDepth 100000 in
theorem step_brought (a : Option Addr) (n c : Nat) (l : List Bool) (m : Nat) (w : World) (hr : RowAt w a (bv l)) (hn : l.length = n) (hm : n ≤ 100000000) (hmm : m ≤ 10000000) :
  Calls Tryz.prog 95 #[.slice a n c, .int .i64 m] w fun e w' => ∃ v, e = .returned v ∧ Own w' w.heap.size 4 v (bv (brought l m)) ∧ Kp (fun _ => False) w w' := by
 obtain ⟨i0, hi0, hz0, hz1, hz2⟩ := info_parts (show (Tryz.prog.info? 4).map (fun i => (i.zero, i.size, i.bytes)) = some (some (.bool false), 1, 1) by kernel_rfl)
 have hsz := Lib.hid (show (Tryz.prog.info? 4).map (·.size) = some 1 by kernel_rfl)
 have hmk : ∀ u : World, (Instr.makeSlice 38 (.int .i64 (m : Int)) (.int .i64 (m : Int))).run Tryz.prog u =
   .ok (.slice (some ⟨u.heap.size, 0, none⟩) m m) (u.alloc (.cells (madeCells #[.bool false] m) 4)) := fun u => by
  have h := run_make (P := Tryz.prog) u 38 4 i0 (.bool false) Tryz.underlying38 hi0 hz0 .i64 .i64 (m : Int) (m : Int) (by omega) (Int.le_refl _) (by rw [hz2]; omega) (by omega)
  simpa [hz1, Value.cells] using h
 clear hi0 hz0 hz1 hz2 i0
 obtain ⟨wz, hwz⟩ : ∃ wz : World, wz = w.alloc (.cells (madeCells #[.bool false] m) 4) := ⟨_, rfl⟩
 have HK0 := Lib.hid (show Kp (fun _ => False) w wz by rw [hwz]; exact (Kp.refl _ w).alloc _)
 have HB := Lib.hid (show Blk wz w.heap.size (bv (List.replicate m false)).toArray 4 by rw [hwz, bv_rep, ← made_row]; exact Blk.new _ _ _)
 have HBw := Lib.hid (show Below w.heap.size w wz by rw [hwz]; exact ⟨rfl, rfl, rfl, by simp, fun j hj => Below.heap_alloc w _ j hj⟩)
 obtain ⟨cs, hcs⟩ : ∃ cs, cs = bv (l.take (Nat.min l.length m)) := ⟨_, rfl⟩
 have hmin : Nat.min l.length m ≤ l.length ∧ Nat.min l.length m ≤ m := by
  simp only [Nat.min_def]; split <;> omega
 have hcl : cs.length = Nat.min n m := by rw [hcs, bv_length, ← hn, List.length_take]; omega
 have HCs := Lib.hid hcs
 have HCl := Lib.hid hcl
 have HR := Lib.hid (show RowAt wz a cs from by
  rw [hcs]
  unfold bv
  rw [List.map_take]
  exact (hr.kp HK0.out (fun _ _ h => h)).take _)
 have HOne := Lib.hid (show ∀ v ∈ cs, v.oneCell' = true from by rw [hcs]; exact bv_one _)
 have HLe := Lib.hid (show cs.length ≤ m by rw [hcl, ← hn]; exact hmin.2)
 have HZ := Lib.hid hwz
 clear hr hwz hcs hcl hmin
 go_enter Tryz.func95, Tryz.ntmps95
 go_upto_region 2 with fail
 rw [← HZ.out]
 clear HZ hmk
 go_wp2_with (refine wpList_copy_splice rfl (.tmp 8) (.tmp 9) 38 38 rfl 4 Tryz.underlying38 hsz.out (some ⟨w.heap.size, 0, none⟩) a m m n c rfl rfl w.heap.size 0 (bv (List.replicate m false)) 4 HB.out cs HCl.out ?p1 ?p2 HOne.out w.heap.size w HBw.out (Nat.le_refl _) ?_)
 case p1 =>
  intro h0
  try refine ⟨rfl, ?_⟩
  obtain ⟨b, off, ea, -⟩ := HR.out 0 cs[0] (List.getElem?_eq_getElem h0)
  refine ⟨⟨b, off, none⟩, ea, fun j v hj => ?_⟩
  obtain ⟨b', off', ea', e⟩ := HR.out j v hj
  rw [ea] at ea'
  simp only [Option.some.injEq, Addr.mk.injEq, and_true] at ea'
  obtain ⟨rfl, rfl⟩ := ea'
  rw [add_plain']
  exact e
 case p2 => rw [bv_length]; simp; exact HLe.out
 intro w2 hB2 hBe
 have HE := Lib.hid (show Own w2 w.heap.size 4 (.slice (some ⟨w.heap.size, 0, none⟩) m m) (bv (brought l m)) ∧ Kp (fun _ => False) w w2 from by
  refine ⟨?_, Kp.of_below hBe _⟩
  have h1 : Blk w2 w.heap.size (splice (bv (List.replicate m false)) 0 cs).toArray 4 := hB2.out
  rw [HCs.out, splice_bools] at h1
  have hl : (bv (brought l m)).length = m := by rw [bv_length, brought_len]
  have := Own.lit (base := w.heap.size) h1 (Nat.le_refl _) (by rw [hl]; unfold maxLen; omega)
  rw [hl] at this
  exact this)
 clear hB2 hBe
 go_wp2_with fail
 go_ret
 exact ⟨_, rfl, HE.out⟩

end Go.Proofs.YtnoknecfdnjomaaGreat
