/-
  latchetref07.Values.
-/
import Derived.Test.YtnoknecfdnjomaaGreatM3
import Derived.Test.YtnoknecfdnjomaaGreatM1
import Derived.BigRegion
set_option linter.unusedVariables false
set_option linter.unusedSimpArgs false
namespace Go.Proofs.YtnoknecfdnjomaaGreat
open Go.RowKit

set_option maxRecDepth 100000 in
set_option maxHeartbeats 4000000 in
/-- latchetref07.Values -/
theorem ref07_Values (a : Option Addr) (n c : Nat) (N : List (Int × Int)) (b : Option Addr) (m d : Nat) (ins : List Bool) (w : World) (hr : RowAt w a (N.map pr2).flatten) (hn : N.length = n) (hm : n ≤ 10000000) (hN : GoodN N) (hi : RowAt w b (bv ins)) (him : ins.length = m) (hmm : m ≤ 9223372036854775807) :
    Calls Tryz.prog 88 #[.slice a n c, .slice b m d] w fun e w' => ∃ v, e = .returned v ∧ Own w' w.heap.size 4 v (bv (valsOf N ins)) ∧ Kp (fun _ => False) w w' := by
  have HI := Lib.hid (show (Tryz.prog.info? 4).map (fun i => (i.zero, i.size, i.bytes)) = some (some (.bool false), 1, 1) by kernel_rfl)
  have HR := Lib.hid hr
  have HN := Lib.hid hn
  have HGN := Lib.hid hN
  have HIn := Lib.hid hi
  have HIm := Lib.hid him
  obtain ⟨wz, hwz⟩ : ∃ wz : World, wz = w.alloc (.cells #[.bool false] 4) := ⟨_, rfl⟩
  have HK0 := Lib.hid (show Kp (fun _ => False) w wz by rw [hwz]; exact (Kp.refl _ w).alloc _)
  have HO0 : Hid (Own wz w.heap.size 4 (.slice (some ⟨w.heap.size, 0, none⟩) 1 1) (bv (valsK N ins 0).1)) := Lib.hid (by rw [hwz]; exact Own.lit (cs := [.bool false]) (Blk.new w _ _) (Nat.le_refl _) (by decide))
  have HZ := Lib.hid hwz
  clear hr hn hN hi him hwz
  go_enter Tryz.func88, Tryz.ntmps88
  go_upto_region 2 with fail
  rw [← HZ.out]
  clear HZ
  go_wp2_with fail
  go_loopw [5, 6, 7] (fun v5 v6 v7 wr => ∃ k : Nat, v7 = .int .i64 k ∧ k ≤ n ∧ v6 = .int .i64 ((valsK N ins k).2 : Int) ∧ Own wr w.heap.size 4 v5 (bv (valsK N ins k).1) ∧ Kp (fun _ => False) w wr) (fun _ _ v7 _ => n - (intOf v7).toNat)
  case atStart => exact ⟨0, rfl, by omega, rfl, HO0.out, HK0.out⟩
  case round =>
    obtain ⟨k, rfl, hk, rfl, hO, hK⟩ := hrel
    clear HO0 HK0
    obtain ⟨wp, rfl⟩ : ∃ wp : World, wp = wr := ⟨_, rfl⟩
    have HO := Lib.hid hO
    have HK := Lib.hid hK
    clear hO hK
    by_cases hlt : k < n
    · have hkl : k < N.length := by rw [HN.out]; exact hlt
      obtain ⟨bb, off, rfl, e0, e1⟩ := pr2_cells (HR.out.kp HK.out (fun _ _ h => h)) hkl
      have hS := valsK_succ (ins := ins) hkl
      have hln := valsK_len (N := N) (ins := ins) k (by omega)
      have hct := valsK_cnt (N := N) (ins := ins) k (by omega)
      have hg := HGN.out k hkl
      obtain ⟨x1, hx1⟩ : ∃ x, (g2 N k).1 = x := ⟨_, rfl⟩
      obtain ⟨x2, hx2⟩ : ∃ x, (g2 N k).2 = x := ⟨_, rfl⟩
      obtain ⟨cn, hcn⟩ : ∃ x, (valsK N ins k).2 = x := ⟨_, rfl⟩
      unfold stepV at hS
      rw [hx1, hx2, hcn] at hS
      rw [hx1, hx2] at hg
      rw [hx1] at e0
      rw [hx2] at e1
      rw [hcn] at hct ⊢
      obtain ⟨vals, hvals⟩ : ∃ x, (valsK N ins k).1 = x := ⟨_, rfl⟩
      rw [hvals] at hS hln
      have HO2 := Lib.hid (show Own wp w.heap.size 4 u5 (bv vals) by rw [← hvals]; exact HO.out)
      have HLn := Lib.hid hln
      have i0 : (0 : Int) ≤ (k : Int) := by omega
      have i2 : (k : Int) < (n : Int) := by omega
      have HKs := Lib.hid HK.out.size
      clear hx1 hx2 hcn hvals hln HO hkl
      by_cases hneg : x1 < 0
      · rw [if_pos hneg] at hS
        have q1 : decide (x1 < 0) = true := decide_eq_true hneg
        by_cases hc : cn < m
        · have c0 : (0 : Int) ≤ (cn : Int) := by omega
          have c1 : (cn : Int) < (m : Int) := by omega
          obtain ⟨b3, off3, rfl, e3⟩ := HIn.out cn _ (bv_at (by rw [HIm.out]; exact hc))
          have e4 := HK.out.cellK e3
          obtain ⟨x, hx⟩ : ∃ x, vb ins cn = x := ⟨_, rfl⟩
          rw [hx] at e3 e4 hS
          have HS := Lib.hid hS
          have HNew := Lib.hid (Blk.new wp #[.bool x] 4)
          have HOw := Lib.hid (HO2.out.alloc (.cells #[.bool x] 4))
          clear hx hS e3
          cases x with
          | true =>
            go_wp2_with (at_builtin; refine wpList_append1_at rfl _ _ 38 4 rfl Tryz.underlying38 HI.out rfl HOw.out rfl ⟨wp.heap.size, 0, none⟩ (.bool true) rfl (HNew.out.cell rfl) rfl ?d1 ?d2 ?d3 ?_)
            case d1 => rw [bv_length, HLn.out]; omega
            case d2 => rw [bv_length, HLn.out]; unfold maxLen; omega
            case d3 => have := HKs.out; simp; omega
            intro v' w2 hO3 hg2 hat2
            have HR2 := Lib.hid (show ∃ k' : Nat, Value.int .i64 ((k : Int) + 1) = .int .i64 k' ∧ k' ≤ n ∧ Value.int .i64 ((cn : Int) + 1) = .int .i64 ((valsK N ins k').2 : Int) ∧ Own w2 w.heap.size 4 v' (bv (valsK N ins k').1) ∧ Kp (fun _ => False) w w2 from
              ⟨k + 1, by go_num, by omega, by rw [HS.out]; go_num, by rw [HS.out]; show Own _ _ _ _ (bv (vals ++ [true])); rw [bv_append]; exact hO3, (HK.out.alloc _).grown hg2 (fun j hj hl => by have := (HO2.out.lt j hj).1; omega)⟩)
            clear hO3 hg2 hat2 HNew HOw
            go_wp2_with fail
            go_roundw
            case rel => exact HR2.out
            case measure => simp [intOf]; omega
          | false =>
            go_wp2_with (at_builtin; refine wpList_append1_at rfl _ _ 38 4 rfl Tryz.underlying38 HI.out rfl HOw.out rfl ⟨wp.heap.size, 0, none⟩ (.bool false) rfl (HNew.out.cell rfl) rfl ?d1 ?d2 ?d3 ?_)
            case d1 => rw [bv_length, HLn.out]; omega
            case d2 => rw [bv_length, HLn.out]; unfold maxLen; omega
            case d3 => have := HKs.out; simp; omega
            intro v' w2 hO3 hg2 hat2
            have HR2 := Lib.hid (show ∃ k' : Nat, Value.int .i64 ((k : Int) + 1) = .int .i64 k' ∧ k' ≤ n ∧ Value.int .i64 ((cn : Int) + 1) = .int .i64 ((valsK N ins k').2 : Int) ∧ Own w2 w.heap.size 4 v' (bv (valsK N ins k').1) ∧ Kp (fun _ => False) w w2 from
              ⟨k + 1, by go_num, by omega, by rw [HS.out]; go_num, by rw [HS.out]; show Own _ _ _ _ (bv (vals ++ [false])); rw [bv_append]; exact hO3, (HK.out.alloc _).grown hg2 (fun j hj hl => by have := (HO2.out.lt j hj).1; omega)⟩)
            clear hO3 hg2 hat2 HNew HOw
            go_wp2_with fail
            go_roundw
            case rel => exact HR2.out
            case measure => simp [intOf]; omega
        · have c1 : decide ((cn : Int) < (m : Int)) = false := decide_eq_false (by omega)
          have hx : vb ins cn = false := vb_far (by rw [HIm.out]; omega)
          rw [hx] at hS
          have HS := Lib.hid hS
          have HNew := Lib.hid (Blk.new wp #[.bool false] 4)
          have HOw := Lib.hid (HO2.out.alloc (.cells #[.bool false] 4))
          clear hx hS
          go_wp2_with (at_builtin; refine wpList_append1_at rfl _ _ 38 4 rfl Tryz.underlying38 HI.out rfl HOw.out rfl ⟨wp.heap.size, 0, none⟩ (.bool false) rfl (HNew.out.cell rfl) rfl ?d1 ?d2 ?d3 ?_)
          case d1 => rw [bv_length, HLn.out]; omega
          case d2 => rw [bv_length, HLn.out]; unfold maxLen; omega
          case d3 => have := HKs.out; simp; omega
          intro v' w2 hO3 hg2 hat2
          have HR2 := Lib.hid (show ∃ k' : Nat, Value.int .i64 ((k : Int) + 1) = .int .i64 k' ∧ k' ≤ n ∧ Value.int .i64 ((cn : Int) + 1) = .int .i64 ((valsK N ins k').2 : Int) ∧ Own w2 w.heap.size 4 v' (bv (valsK N ins k').1) ∧ Kp (fun _ => False) w w2 from
            ⟨k + 1, by go_num, by omega, by rw [HS.out]; go_num, by rw [HS.out]; show Own _ _ _ _ (bv (vals ++ [false])); rw [bv_append]; exact hO3, (HK.out.alloc _).grown hg2 (fun j hj hl => by have := (HO2.out.lt j hj).1; omega)⟩)
          clear hO3 hg2 hat2 HNew HOw
          go_wp2_with fail
          go_roundw
          case rel => exact HR2.out
          case measure => simp [intOf]; omega
      · rw [if_neg hneg] at hS
        have q1 : decide (x1 < 0) = false := decide_eq_false hneg
        have hgg : 0 ≤ x1 ∧ x1 ≤ 2 * (k : Int) + 1 ∧ 0 ≤ x2 ∧ x2 ≤ 2 * (k : Int) + 1 := hg.resolve_left hneg
        obtain ⟨av, cv, ev, lv, mv, -, hrv⟩ := HO2.out.form
        rw [bv_length, HLn.out] at ev lv
        subst ev
        have HA1 := Lib.hid (ref07_Of av (k + 1) cv vals x1 wp hrv HLn.out (by omega) hgg.1 (by omega))
        have HA2 := Lib.hid (ref07_Of av (k + 1) cv vals x2 wp hrv HLn.out (by omega) hgg.2.2.1 (by omega))
        obtain ⟨r1, hr1⟩ : ∃ x, litN vals x1 = x := ⟨_, rfl⟩
        obtain ⟨r2, hr2⟩ : ∃ x, litN vals x2 = x := ⟨_, rfl⟩
        rw [hr1] at HA1 hS
        rw [hr2] at HA2 hS
        obtain ⟨rr, hrr⟩ : ∃ x, (r1 && r2) = x := ⟨_, rfl⟩
        rw [hrr] at hS
        have HS := Lib.hid hS
        have HRR := Lib.hid hrr
        have HNew := Lib.hid (Blk.new wp #[.bool rr] 4)
        have HOw := Lib.hid (HO2.out.alloc (.cells #[.bool rr] 4))
        have HFin := Lib.hid (show ∀ v' w2, Own w2 w.heap.size 4 v' (bv vals ++ [.bool rr]) → (wp.alloc (.cells #[.bool rr] 4)).grownBy w2 (Value.slice av (k + 1) cv).ownBlock → ∃ k' : Nat, Value.int .i64 ((k : Int) + 1) = .int .i64 k' ∧ k' ≤ n ∧ Value.int .i64 (cn : Int) = .int .i64 ((valsK N ins k').2 : Int) ∧ Own w2 w.heap.size 4 v' (bv (valsK N ins k').1) ∧ Kp (fun _ => False) w w2 from fun v' w2 hO3 hg2 =>
          ⟨k + 1, by go_num, by omega, by rw [HS.out], by rw [HS.out]; show Own _ _ _ _ (bv (vals ++ [rr])); rw [bv_append]; exact hO3, (HK.out.alloc _).grown hg2 (fun j hj hl => by have := (HO2.out.lt j hj).1; omega)⟩)
        clear hr1 hr2 hrr hS hgg hg hrv
        cases r1 with
        | true =>
          obtain rfl : rr = r2 := by rw [← HRR.out]; rfl
          cases rr with
          | true =>
            go_wp2_with (first | (go_at_call 87; with_reducible refine Calls.mono HA1.out ?_; rintro e w2 ⟨rfl, rfl⟩) | (go_at_call 87; with_reducible refine Calls.mono HA2.out ?_; rintro e w2 ⟨rfl, rfl⟩) | (at_builtin; refine wpList_append1_at rfl _ _ 38 4 rfl Tryz.underlying38 HI.out rfl HOw.out rfl ⟨wp.heap.size, 0, none⟩ (.bool true) rfl (HNew.out.cell rfl) rfl ?d1 ?d2 ?d3 ?_))
            case d1 => rw [bv_length, HLn.out]; omega
            case d2 => rw [bv_length, HLn.out]; unfold maxLen; omega
            case d3 => have := HKs.out; simp; omega
            intro v' w2 hO3 hg2 hat2
            have HR2 := Lib.hid (HFin.out v' w2 hO3 hg2)
            clear hO3 hg2 hat2 HNew HOw HFin
            go_wp2_with fail
            go_roundw
            case rel => exact HR2.out
            case measure => simp [intOf]; omega
          | false =>
            go_wp2_with (first | (go_at_call 87; with_reducible refine Calls.mono HA1.out ?_; rintro e w2 ⟨rfl, rfl⟩) | (go_at_call 87; with_reducible refine Calls.mono HA2.out ?_; rintro e w2 ⟨rfl, rfl⟩) | (at_builtin; refine wpList_append1_at rfl _ _ 38 4 rfl Tryz.underlying38 HI.out rfl HOw.out rfl ⟨wp.heap.size, 0, none⟩ (.bool false) rfl (HNew.out.cell rfl) rfl ?d1 ?d2 ?d3 ?_))
            case d1 => rw [bv_length, HLn.out]; omega
            case d2 => rw [bv_length, HLn.out]; unfold maxLen; omega
            case d3 => have := HKs.out; simp; omega
            intro v' w2 hO3 hg2 hat2
            have HR2 := Lib.hid (HFin.out v' w2 hO3 hg2)
            clear hO3 hg2 hat2 HNew HOw HFin
            go_wp2_with fail
            go_roundw
            case rel => exact HR2.out
            case measure => simp [intOf]; omega
        | false =>
          obtain rfl : rr = false := by rw [← HRR.out]; rfl
          go_wp2_with (first | (go_at_call 87; with_reducible refine Calls.mono HA1.out ?_; rintro e w2 ⟨rfl, rfl⟩) | (at_builtin; refine wpList_append1_at rfl _ _ 38 4 rfl Tryz.underlying38 HI.out rfl HOw.out rfl ⟨wp.heap.size, 0, none⟩ (.bool false) rfl (HNew.out.cell rfl) rfl ?d1 ?d2 ?d3 ?_))
          case d1 => rw [bv_length, HLn.out]; omega
          case d2 => rw [bv_length, HLn.out]; unfold maxLen; omega
          case d3 => have := HKs.out; simp; omega
          intro v' w2 hO3 hg2 hat2
          have HR2 := Lib.hid (HFin.out v' w2 hO3 hg2)
          clear hO3 hg2 hat2 HNew HOw HFin
          go_wp2_with fail
          go_roundw
          case rel => exact HR2.out
          case measure => simp [intOf]; omega
    · obtain rfl : k = n := by omega
      have HE := Lib.hid (show Own wp w.heap.size 4 u5 (bv (valsOf N ins)) from by unfold valsOf; rw [HN.out]; exact HO.out)
      go_wp2_with fail
      go_ret
      exact ⟨_, rfl, HE.out, HK.out⟩

end Go.Proofs.YtnoknecfdnjomaaGreat

/-
  A circuit's machine: what it computes, plainly; where it lies; latchetref17.New.
-/
namespace Go.Proofs.YtnoknecfdnjomaaGreat
open Go.RowKit

def insOf (C : Circ) (s i : List Bool) : List Bool := brought i C.ins.length ++ brought s C.lats.length
theorem insOf_len (C : Circ) (s i : List Bool) : (insOf C s i).length = C.ins.length + C.lats.length := by unfold insOf; rw [List.length_append, brought_len, brought_len]
def valsM (C : Circ) (s i : List Bool) : List Bool := valsOf (netOf C).1 (insOf C s i)
def litM (C : Circ) (s i : List Bool) (l : Int) : Bool := litN (valsM C s i) (ofN (netOf C).2 l)
def nextM (C : Circ) (s i : List Bool) : List Bool := C.lats.map (fun x => litM C s i x.2.1)
def holdsM (C : Circ) (s i : List Bool) : Bool := C.cons.all (litM C s i)
def badM (C : Circ) (s i : List Bool) (p : Int) : Bool := decide (0 ≤ p ∧ p < (C.bads.length : Int)) && litM C s i (gi C.bads p.toNat)
/-- latch k may begin as x -/
def startOk (r : Int) (x : Bool) : Bool := !(decide (r = 0) && x) && !(decide (r = 1) && !x)
def startsM (C : Circ) (s : List Bool) : Bool := decide (s.length = C.lats.length) && (List.range s.length).all (fun k => startOk (g3 C.lats k).2.2 (vb s k))
/-- the state at step k -/
def stateM (C : Circ) (start : List Bool) (rows : List (List Bool)) : Nat → List Bool
  | 0 => brought start C.lats.length
  | k + 1 => nextM C (stateM C start rows k) (rows[k]?.getD [])
def breaksM (C : Circ) (start : List Bool) (rows : List (List Bool)) (p : Int) : Bool :=
  startsM C start && decide (rows.length ≠ 0) && (List.range rows.length).all (fun k => decide ((rows[k]?.getD []).length = C.ins.length) && holdsM C (stateM C start rows k) (rows[k]?.getD [])) && badM C (stateM C start rows (rows.length - 1)) (rows[rows.length - 1]?.getD []) p

theorem lit_split {at_ : List Int} {vals : List Bool} {l : Int} (h0 : 0 ≤ gi at_ (l / 2).toNat) (h1 : gi at_ (l / 2).toNat % 2 = 0) : (litN vals (gi at_ (l / 2).toNat) != decide (l % 2 = 1)) = litN vals (ofN at_ l) := by
  unfold litN ofN
  by_cases e : l % 2 = 1
  · rw [if_pos e]
    have e1 : ((gi at_ (l / 2).toNat + 1 - 2 * (gi at_ (l / 2).toNat % 2)) / 2).toNat = (gi at_ (l / 2).toNat / 2).toNat := by omega
    have e2 : (gi at_ (l / 2).toNat + 1 - 2 * (gi at_ (l / 2).toNat % 2)) % 2 = 1 := by omega
    have e3 : ¬ gi at_ (l / 2).toNat % 2 = 1 := by omega
    rw [e1, decide_eq_true e2, decide_eq_false e3, decide_eq_true e]
    cases vb vals (gi at_ (l / 2).toNat / 2).toNat <;> rfl
  · rw [if_neg e]
    have e3 : ¬ gi at_ (l / 2).toNat % 2 = 1 := by omega
    rw [decide_eq_false e3, decide_eq_false e]
    cases vb vals (gi at_ (l / 2).toNat / 2).toNat <;> rfl

/-- what is known of a variable that is placed -/
theorem lit_place {C : Circ} (h : GoodC C) {l : Int} (hl : l ∈ C.used) : 0 ≤ l ∧ (l / 2).toNat < (netOf C).2.length ∧ 0 ≤ gi (netOf C).2 (l / 2).toNat ∧ gi (netOf C).2 (l / 2).toNat % 2 = 0 ∧ gi (netOf C).2 (l / 2).toNat ≤ 2 * ((netOf C).1.length : Int) ∧ 0 ≤ ofN (netOf C).2 l ∧ ofN (netOf C).2 l ≤ 2 * ((netOf C).1.length : Int) + 1 := by
  have hi := netG_inv h (ordO C.gates).length (Nat.le_refl _)
  have hr := h.rng.use l hl
  have hmx := h.mx
  have hsz : (netOf C).2.length = MX C + 1 := hi.size
  have hd : DG C (ordO C.gates).length (l / 2).toNat := by
    have hn := h.known l hl
    unfold knownB at hn
    simp only [Bool.or_eq_true, decide_eq_true_eq, List.any_eq_true] at hn
    rcases hn with e | ⟨y, hy, e⟩
    · left; omega
    · unfold Circ.owned at hy
      rcases List.mem_append.1 hy with hy | hy
      · rcases List.mem_append.1 hy with hy | hy
        · exact .inr (.inl ⟨y, hy, by rw [e]⟩)
        · exact .inr (.inr (.inl ⟨y, hy, by rw [e]⟩))
      · obtain ⟨g, hg, rfl⟩ := List.mem_map.1 hy
        obtain ⟨i, hi⟩ := List.mem_iff_getElem?.1 hg
        have hil : i < C.gates.length := (List.getElem?_eq_some_iff.1 hi).1
        have hgi : g3 C.gates i = g := by unfold g3; rw [hi]; rfl
        refine .inr (.inr (.inr ⟨i, ?_, by rw [hgi, e]⟩))
        rw [List.take_length]
        refine Classical.byContradiction fun hm => ?_
        have hA := ordO_at C.gates
        have := nodup_lt hA.nd hA.lt hil hm
        rw [h.ord] at this
        omega
  have h1 := ofL_ok hi hr.1 (by omega) hd
  have h2 := hi.val (l / 2).toNat (by omega)
  refine ⟨hr.1, by omega, h1.1, h1.2.1, ?_, h1.2.2.2.1, h1.2.2.2.2⟩
  rcases h2 with h2 | h2
  · have := h1.1
    unfold netOf at this ⊢
    omega
  · exact h2.2.2

/-- where a machine lies -/
structure MAt (w : World) (t : TypeId) (V : CV) (C : Circ) (p : Nat) (a4 : Option Addr) (c4 : Nat) (a5 : Option Addr) (c5 : Nat) : Prop where
  blk : Blk w p (cvals V C ++ #[.slice a4 (netOf C).1.length c4, .slice a5 (netOf C).2.length c5]) t
  circ : CAt w V C
  net : RowAt w a4 ((netOf C).1.map pr2).flatten
  ats : RowAt w a5 (iv (netOf C).2)

theorem MAt.kp {w w' : World} {t : TypeId} {V : CV} {C : Circ} {p : Nat} {a4 a5 : Option Addr} {c4 c5 : Nat} (h : MAt w t V C p a4 c4 a5 c5) (k : Kp (fun _ => False) w w') : MAt w' t V C p a4 c4 a5 c5 :=
  ⟨h.blk.kp k (fun h => h), h.circ.kp k, h.net.kp k (fun _ _ h => h), h.ats.kp k (fun _ _ h => h)⟩

/-- what Net tells, as slices -/
def NetP (C : Circ) (w : World) (e : Ending) (w' : World) : Prop := ∃ a4 c4 a5 c5, e = .returned (.tuple #[.slice a4 (netOf C).1.length c4, .slice a5 (netOf C).2.length c5]) ∧ RowAt w' a4 ((netOf C).1.map pr2).flatten ∧ RowAt w' a5 (iv (netOf C).2) ∧ Kp (fun _ => False) w w'
theorem NetP.of {C : Circ} {w : World} {e : Ending} {w' : World} (h : ∃ v4 v5, e = .returned (.tuple #[v4, v5]) ∧ OwnK w' w.heap.size 102 2 v4 ((netOf C).1.map pr2) ∧ Own w' w.heap.size 3 v5 (iv (netOf C).2) ∧ Kp (fun _ => False) w w') : NetP C w e w' := by
  obtain ⟨v4, v5, rfl, h4, h5, hK⟩ := h
  obtain ⟨a4, c4, e4, -, -, -, -, hr4⟩ := h4.form
  obtain ⟨a5, c5, e5, -, -, -, hr5⟩ := h5.form
  rw [List.length_map] at e4
  rw [iv_length] at e5
  subst e4
  subst e5
  exact ⟨a4, c4, a5, c5, rfl, hr4, hr5, hK⟩

set_option maxRecDepth 100000 in
theorem ref17_New (V : CV) (C : Circ) (w : World) (h : CAt w V C) (hf : CFew C 1000000) (hg : GoodC C) :
    Calls Tryz.prog 10 #[.agg (cvals V C)] w fun e w' => ∃ p a4 c4 a5 c5, e = .returned (.pointer (some ⟨p, 0, none⟩)) ∧ MAt w' 81 V C p a4 c4 a5 c5 ∧ Kp (fun _ => False) w w' := by
  obtain ⟨wz, hwz⟩ : ∃ wz : World, wz = w.alloc (.cells (cvals V C) 27) := ⟨_, rfl⟩
  have HK0 := Lib.hid (show Kp (fun _ => False) w wz by rw [hwz]; exact (Kp.refl _ w).alloc _)
  have HC0 := Lib.hid (show Blk wz w.heap.size (cvals V C) 27 by rw [hwz]; exact Blk.new _ _ _)
  have HA := Lib.hid h
  have HN := Lib.hid ((ref11_Net V C wz (h.kp HK0.out) hf hg).mono (fun e w' h => NetP.of h))
  obtain ⟨d0, d1, d2, d3, d4, d5, d6, d7, d8⟩ := Blk.cells9 (show Blk wz w.heap.size #[.int .i64 C.max, .slice V.ai C.ins.length V.ci, .slice V.al C.lats.length V.cl, .slice V.ao C.outs.length V.co, .slice V.ab C.bads.length V.cb, .slice V.ac C.cons.length V.cc, .slice V.ag C.gates.length V.cg, .slice V.ay V.ny V.cy, .string V.cm] 27 from HC0.out)
  have HF9 := Lib.hid (fun w1 (k : Kp (fun _ => False) wz w1) => Blk.cells9 (show Blk w1 w.heap.size #[.int .i64 C.max, .slice V.ai C.ins.length V.ci, .slice V.al C.lats.length V.cl, .slice V.ao C.outs.length V.co, .slice V.ab C.bads.length V.cb, .slice V.ac C.cons.length V.cc, .slice V.ag C.gates.length V.cg, .slice V.ay V.ny V.cy, .string V.cm] 27 from HC0.out.kp k (fun h => h)))
  have HZ := Lib.hid hwz
  clear h hwz
  go_enter Tryz.func10, Tryz.ntmps10
  go_upto_region 1 with fail
  rw [← HZ.out]
  clear HZ
  go_wp2_with (go_at_call 39; refine Calls.mono HN.out ?_; rintro e w1 ⟨a4, c4, a5, c5, rfl, hr4, hr5, hK1⟩; obtain ⟨f0, f1, f2, f3, f4, f5, f6, f7, f8⟩ := HF9.out w1 hK1)
  have HK1 := Lib.hid (HK0.out.trans hK1 (fun _ _ h => h))
  have H4 := Lib.hid hr4
  have H5 := Lib.hid hr5
  go_ret
  have hka := (Kp.refl (fun _ => False) w1).alloc (.cells (cvals V C ++ #[.slice a4 (netOf C).1.length c4, .slice a5 (netOf C).2.length c5]) 81)
  exact ⟨_, a4, c4, a5, c5, rfl, ⟨Blk.new w1 _ _, HA.out.kp (HK1.out.trans hka (fun _ _ h => h)), H4.out.kp hka (fun _ _ h => h), H5.out.kp hka (fun _ _ h => h)⟩, HK1.out.trans hka (fun _ _ h => h)⟩

end Go.Proofs.YtnoknecfdnjomaaGreat

/-
  latchetref17.Lit.
-/
namespace Go.Proofs.YtnoknecfdnjomaaGreat
open Go.RowKit

set_option maxRecDepth 100000 in
set_option maxHeartbeats 4000000 in
theorem ref17_Lit (V : CV) (C : Circ) (p : Nat) (a4 a5 : Option Addr) (c4 c5 : Nat) (sa : Option Addr) (sn sc : Nat) (ia : Option Addr) (in_ ic : Nat) (st ip : List Bool) (l : Int) (w : World) (hM : MAt w 81 V C p a4 c4 a5 c5) (hf : CFew C 1000000) (hg : GoodC C) (hs : RowAt w sa (bv st)) (hsn : st.length = sn) (hs1 : sn ≤ 100000000) (hi : RowAt w ia (bv ip)) (hin : ip.length = in_) (hi1 : in_ ≤ 100000000) (hl : l ∈ C.used) :
    Calls Tryz.prog 66 #[.pointer (some ⟨p, 0, none⟩), .slice sa sn sc, .slice ia in_ ic, .int .i64 l] w fun e w' => e = .returned (.bool (litM C st ip l)) ∧ Kp (fun _ => False) w w' := by
  have HIb := Lib.hid (show (Tryz.prog.info? 4).map (fun i => (i.zero, i.size, i.bytes)) = some (some (.bool false), 1, 1) by kernel_rfl)
  obtain ⟨l0, lq, ly0, ly1, ly2, -, -⟩ := lit_place hg hl
  have hnl := nodes_len C
  have hol := (ordO_at C.gates).len
  have hfi := hf.i
  have hfl := hf.l
  have hfg := hf.g
  have hN4 : (netOf C).1.length ≤ 3000000 := by omega
  have hN5 : (netOf C).2.length ≤ 20000000 := by
    have h1 := (netG_inv hg (ordO C.gates).length (Nat.le_refl _)).size
    have h2 := hg.mx
    have h3 := hg.rng.max1
    show (netG C _).2.length ≤ _
    omega
  obtain ⟨q, hq⟩ : ∃ q : Nat, (l / 2).toNat = q := ⟨_, rfl⟩
  have hld : l / 2 = (q : Int) := by omega
  have hsp := lit_split (vals := valsM C st ip) ly0 ly1
  rw [hq] at lq ly0 ly1 ly2 hsp
  obtain ⟨b5, o5, ha5, hY⟩ := hM.ats q _ (iv_at lq)
  obtain ⟨y, hy⟩ : ∃ y, gi (netOf C).2 q = y := ⟨_, rfl⟩
  rw [hy] at hY ly0 ly1 ly2 hsp
  have HY0 := Lib.hid hY
  have HPl := Lib.hid (show 0 ≤ y ∧ (y / 2).toNat < (netOf C).1.length + 1 from ⟨ly0, by omega⟩)
  have HLd := Lib.hid (show l.tdiv 2 = (q : Int) by rw [Int.tdiv_eq_ediv_of_nonneg l0]; exact hld)
  have HLm := Lib.hid (show l.tmod 2 = l % 2 from Int.tmod_eq_emod_of_nonneg l0)
  have HSp := Lib.hid (show (litN (valsM C st ip) y != (l % 2 == 1)) = litM C st ip l from by
    have e : (l % 2 == 1) = decide (l % 2 = 1) := by by_cases e : l % 2 = 1 <;> simp [e]
    rw [e]; exact hsp)
  have HM := Lib.hid hM
  have HF := Lib.hid hf
  have HG := Lib.hid hg
  have HS := Lib.hid hs
  have HSn := Lib.hid hsn
  have HI := Lib.hid hi
  have HIn := Lib.hid hin
  have q0 : (0 : Int) ≤ (q : Int) := by omega
  have q1 : (q : Int) < ((netOf C).2.length : Int) := by omega
  subst ha5
  clear hM hf hg hs hsn hi hin hl hq hY hy hsp hnl hol hfi hfl hfg ly0 ly1 ly2
  have HK0 := Lib.hid (Kp.refl (fun _ => False) w)
  have HB := Lib.hid HM.out.blk
  have HIn' := HIn
  go_enter Tryz.func66, Tryz.ntmps66
  go_upto_region 1 with fail
  refine wp_region_loose (p := upTo 16) (V := atV [EqV ((.slice ia in_ ic)), EqV ((.pointer (some ⟨p, 0, none⟩))), EqV (.pointer (some ⟨p, 0, none⟩)), EqV (.pointer (some ⟨p, 0, none⟩)), EqV (.pointer (some ⟨p, 1, none⟩)), EqV (.slice V.ai C.ins.length V.ci), EqV (.int .i64 (C.ins.length : Int)), (fun u v => Own u w.heap.size 4 v (bv (brought ip C.ins.length))), EqV ((.slice sa sn sc)), EqV ((.pointer (some ⟨p, 0, none⟩))), EqV (.pointer (some ⟨p, 0, none⟩)), EqV (.pointer (some ⟨p, 0, none⟩)), EqV (.pointer (some ⟨p, 2, none⟩)), EqV (.slice V.al C.lats.length V.cl), EqV (.int .i64 (C.lats.length : Int)), (fun u v => Own u w.heap.size 4 v (bv (brought st C.lats.length)))]) (LP := #[true, true, true, true, true, true, true, true, true, true, true, true, true, true, true, true, false, false]) (K := 2) (by kernel_rfl) (by kernel_rfl) (atV_st ?hstL1) ?hstepL1 (by kernel_rfl) ?hLPL1 (by kernel_rfl) ?hendL1
  case hstL1 =>
    intro W h
    simp only [List.mem_cons, List.not_mem_nil, or_false] at h
    rcases h with rfl | rfl | rfl | rfl | rfl | rfl | rfl | rfl | rfl | rfl | rfl | rfl | rfl | rfl | rfl | rfl <;> first | exact EqV.st _ | exact fun _ _ _ k h => Own.kp h k (fun _ _ h => h)
  case hLPL1 => exact upTo_spec (by kernel_rfl)
  case hstepL1 =>
    intro i o ho hp a u hk hoff hdep
    have e0 : a.tmps[0]?.getD undef = (.pointer (some ⟨p, 0, none⟩)) := slot_at (hoff 0 (noDst_spec (by kernel_rfl)))
    have e1 : a.tmps[1]?.getD undef = (.slice sa sn sc) := slot_at (hoff 1 (noDst_spec (by kernel_rfl)))
    have e2 : a.tmps[2]?.getD undef = (.slice ia in_ ic) := slot_at (hoff 2 (noDst_spec (by kernel_rfl)))
    clear hoff
    match i, ho with
    | 0, ho =>
      obtain rfl := Option.some.inj ho
      refine lw_value (v := (.slice ia in_ ic)) (u' := u) ?_ (Kp.refl _ _) rfl
      go_simp
    | 1, ho =>
      obtain rfl := Option.some.inj ho
      refine lw_value (v := (.pointer (some ⟨p, 0, none⟩))) (u' := u) ?_ (Kp.refl _ _) rfl
      go_simp
    | 2, ho =>
      obtain rfl := Option.some.inj ho
      have e11 : a.tmps[11]?.getD undef = (.pointer (some ⟨p, 0, none⟩)) := slot_at (hdep ⟨1, .data⟩ (by simp) rfl _ 11 rfl rfl)
      refine lw_value (v := .pointer (some ⟨p, 0, none⟩)) (u' := u) ?_ (Kp.refl _ _) rfl
      go_simp
    | 3, ho =>
      obtain rfl := Option.some.inj ho
      have e12 : a.tmps[12]?.getD undef = .pointer (some ⟨p, 0, none⟩) := slot_at (hdep ⟨2, .data⟩ (by simp) rfl _ 12 rfl rfl)
      refine lw_value (v := .pointer (some ⟨p, 0, none⟩)) (u' := u) ?_ (Kp.refl _ _) rfl
      go_simp
    | 4, ho =>
      obtain rfl := Option.some.inj ho
      have e13 : a.tmps[13]?.getD undef = .pointer (some ⟨p, 0, none⟩) := slot_at (hdep ⟨3, .data⟩ (by simp) rfl _ 13 rfl rfl)
      refine lw_value (v := .pointer (some ⟨p, 1, none⟩)) (u' := u) ?_ (Kp.refl _ _) rfl
      go_simp
    | 5, ho =>
      obtain rfl := Option.some.inj ho
      have e14 : a.tmps[14]?.getD undef = .pointer (some ⟨p, 1, none⟩) := slot_at (hdep ⟨4, .data⟩ (by simp) rfl _ 14 rfl rfl)
      have c1 := (HB.out.kp hk (fun h => h)).cell (i := 1) (v := .slice V.ai C.ins.length V.ci) rfl
      refine lw_value (v := .slice V.ai C.ins.length V.ci) (u' := u) ?_ (Kp.refl _ _) rfl
      go_simp
    | 6, ho =>
      obtain rfl := Option.some.inj ho
      have e15 : a.tmps[15]?.getD undef = .slice V.ai C.ins.length V.ci := slot_at (hdep ⟨5, .data⟩ (by simp) rfl _ 15 rfl rfl)
      refine lw_value (v := .int .i64 (C.ins.length : Int)) (u' := u) ?_ (Kp.refl _ _) rfl
      go_simp
    | 7, ho =>
      obtain rfl := Option.some.inj ho
      have e10 : a.tmps[10]?.getD undef = (.slice ia in_ ic) := slot_at (hdep ⟨0, .data⟩ (by simp) rfl _ 10 rfl rfl)
      have e16 : a.tmps[16]?.getD undef = .int .i64 (C.ins.length : Int) := slot_at (hdep ⟨6, .data⟩ (by simp) rfl _ 16 rfl rfl)
      refine lw_call (f := 71) (args := #[.slice ia in_ ic, .int .i64 (C.ins.length : Int)]) ?_ ?_
      · go_simp
      · exact (ref17_Brought ia in_ ic ip C.ins.length u (HI.out.kp (HK0.out.trans hk (fun _ _ h => h)) (fun _ _ h => h)) HIn.out (by omega) (by have := HF.out.i; omega)).mono (by
          rintro e u' ⟨v, rfl, hO, hK⟩
          exact ⟨v, rfl, hK, hO.mono (by have := hk.size; have := HK0.out.size; omega)⟩)
    | 8, ho =>
      obtain rfl := Option.some.inj ho
      refine lw_value (v := (.slice sa sn sc)) (u' := u) ?_ (Kp.refl _ _) rfl
      go_simp
    | 9, ho =>
      obtain rfl := Option.some.inj ho
      refine lw_value (v := (.pointer (some ⟨p, 0, none⟩))) (u' := u) ?_ (Kp.refl _ _) rfl
      go_simp
    | 10, ho =>
      obtain rfl := Option.some.inj ho
      have e19 : a.tmps[19]?.getD undef = (.pointer (some ⟨p, 0, none⟩)) := slot_at (hdep ⟨9, .data⟩ (by simp) rfl _ 19 rfl rfl)
      refine lw_value (v := .pointer (some ⟨p, 0, none⟩)) (u' := u) ?_ (Kp.refl _ _) rfl
      go_simp
    | 11, ho =>
      obtain rfl := Option.some.inj ho
      have e20 : a.tmps[20]?.getD undef = .pointer (some ⟨p, 0, none⟩) := slot_at (hdep ⟨10, .data⟩ (by simp) rfl _ 20 rfl rfl)
      refine lw_value (v := .pointer (some ⟨p, 0, none⟩)) (u' := u) ?_ (Kp.refl _ _) rfl
      go_simp
    | 12, ho =>
      obtain rfl := Option.some.inj ho
      have e21 : a.tmps[21]?.getD undef = .pointer (some ⟨p, 0, none⟩) := slot_at (hdep ⟨11, .data⟩ (by simp) rfl _ 21 rfl rfl)
      refine lw_value (v := .pointer (some ⟨p, 2, none⟩)) (u' := u) ?_ (Kp.refl _ _) rfl
      go_simp
    | 13, ho =>
      obtain rfl := Option.some.inj ho
      have e22 : a.tmps[22]?.getD undef = .pointer (some ⟨p, 2, none⟩) := slot_at (hdep ⟨12, .data⟩ (by simp) rfl _ 22 rfl rfl)
      have c1 := (HB.out.kp hk (fun h => h)).cell (i := 2) (v := .slice V.al C.lats.length V.cl) rfl
      refine lw_value (v := .slice V.al C.lats.length V.cl) (u' := u) ?_ (Kp.refl _ _) rfl
      go_simp
    | 14, ho =>
      obtain rfl := Option.some.inj ho
      have e23 : a.tmps[23]?.getD undef = .slice V.al C.lats.length V.cl := slot_at (hdep ⟨13, .data⟩ (by simp) rfl _ 23 rfl rfl)
      refine lw_value (v := .int .i64 (C.lats.length : Int)) (u' := u) ?_ (Kp.refl _ _) rfl
      go_simp
    | 15, ho =>
      obtain rfl := Option.some.inj ho
      have e18 : a.tmps[18]?.getD undef = (.slice sa sn sc) := slot_at (hdep ⟨8, .data⟩ (by simp) rfl _ 18 rfl rfl)
      have e24 : a.tmps[24]?.getD undef = .int .i64 (C.lats.length : Int) := slot_at (hdep ⟨14, .data⟩ (by simp) rfl _ 24 rfl rfl)
      refine lw_call (f := 71) (args := #[.slice sa sn sc, .int .i64 (C.lats.length : Int)]) ?_ ?_
      · go_simp
      · exact (ref17_Brought sa sn sc st C.lats.length u (HS.out.kp (HK0.out.trans hk (fun _ _ h => h)) (fun _ _ h => h)) HSn.out (by omega) (by have := HF.out.l; omega)).mono (by
          rintro e u' ⟨v, rfl, hO, hK⟩
          exact ⟨v, rfl, hK, hO.mono (by have := hk.size; have := HK0.out.size; omega)⟩)
    | n + 16, _ => exact absurd hp (by simp [upTo])
  intro a u hI
  have hsz : a.tmps.size = 46 := hI.size
  have hdf : a.defers = [] := hI.defers
  have f0 : a.tmps.getD 0 undef = _ := hI.off 0 (noDst_spec (p := upTo 16) (by kernel_rfl))
  have f1 : a.tmps.getD 1 undef = _ := hI.off 1 (noDst_spec (p := upTo 16) (by kernel_rfl))
  have f2 : a.tmps.getD 2 undef = _ := hI.off 2 (noDst_spec (p := upTo 16) (by kernel_rfl))
  have f3 : a.tmps.getD 3 undef = _ := hI.off 3 (noDst_spec (p := upTo 16) (by kernel_rfl))
  have f4 : a.tmps.getD 4 undef = _ := hI.off 4 (noDst_spec (p := upTo 16) (by kernel_rfl))
  have f5 : a.tmps.getD 5 undef = _ := hI.off 5 (noDst_spec (p := upTo 16) (by kernel_rfl))
  have f6 : a.tmps.getD 6 undef = _ := hI.off 6 (noDst_spec (p := upTo 16) (by kernel_rfl))
  have f7 : a.tmps.getD 7 undef = _ := hI.off 7 (noDst_spec (p := upTo 16) (by kernel_rfl))
  have f8 : a.tmps.getD 8 undef = _ := hI.off 8 (noDst_spec (p := upTo 16) (by kernel_rfl))
  have f9 : a.tmps.getD 9 undef = _ := hI.off 9 (noDst_spec (p := upTo 16) (by kernel_rfl))
  have f26 : a.tmps.getD 26 undef = _ := hI.off 26 (noDst_spec (p := upTo 16) (by kernel_rfl))
  have f27 : a.tmps.getD 27 undef = _ := hI.off 27 (noDst_spec (p := upTo 16) (by kernel_rfl))
  have f28 : a.tmps.getD 28 undef = _ := hI.off 28 (noDst_spec (p := upTo 16) (by kernel_rfl))
  have f29 : a.tmps.getD 29 undef = _ := hI.off 29 (noDst_spec (p := upTo 16) (by kernel_rfl))
  have f30 : a.tmps.getD 30 undef = _ := hI.off 30 (noDst_spec (p := upTo 16) (by kernel_rfl))
  have f31 : a.tmps.getD 31 undef = _ := hI.off 31 (noDst_spec (p := upTo 16) (by kernel_rfl))
  have f32 : a.tmps.getD 32 undef = _ := hI.off 32 (noDst_spec (p := upTo 16) (by kernel_rfl))
  have f33 : a.tmps.getD 33 undef = _ := hI.off 33 (noDst_spec (p := upTo 16) (by kernel_rfl))
  have f34 : a.tmps.getD 34 undef = _ := hI.off 34 (noDst_spec (p := upTo 16) (by kernel_rfl))
  have f35 : a.tmps.getD 35 undef = _ := hI.off 35 (noDst_spec (p := upTo 16) (by kernel_rfl))
  have f36 : a.tmps.getD 36 undef = _ := hI.off 36 (noDst_spec (p := upTo 16) (by kernel_rfl))
  have f37 : a.tmps.getD 37 undef = _ := hI.off 37 (noDst_spec (p := upTo 16) (by kernel_rfl))
  have f38 : a.tmps.getD 38 undef = _ := hI.off 38 (noDst_spec (p := upTo 16) (by kernel_rfl))
  have f39 : a.tmps.getD 39 undef = _ := hI.off 39 (noDst_spec (p := upTo 16) (by kernel_rfl))
  have f40 : a.tmps.getD 40 undef = _ := hI.off 40 (noDst_spec (p := upTo 16) (by kernel_rfl))
  have f41 : a.tmps.getD 41 undef = _ := hI.off 41 (noDst_spec (p := upTo 16) (by kernel_rfl))
  have f42 : a.tmps.getD 42 undef = _ := hI.off 42 (noDst_spec (p := upTo 16) (by kernel_rfl))
  have f43 : a.tmps.getD 43 undef = _ := hI.off 43 (noDst_spec (p := upTo 16) (by kernel_rfl))
  have f44 : a.tmps.getD 44 undef = _ := hI.off 44 (noDst_spec (p := upTo 16) (by kernel_rfl))
  have f45 : a.tmps.getD 45 undef = _ := hI.off 45 (noDst_spec (p := upTo 16) (by kernel_rfl))
  have f10 : a.tmps.getD 10 undef = (.slice ia in_ ic) := hI.val 0 _ 10 rfl rfl rfl
  have f11 : a.tmps.getD 11 undef = (.pointer (some ⟨p, 0, none⟩)) := hI.val 1 _ 11 rfl rfl rfl
  have f12 : a.tmps.getD 12 undef = .pointer (some ⟨p, 0, none⟩) := hI.val 2 _ 12 rfl rfl rfl
  have f13 : a.tmps.getD 13 undef = .pointer (some ⟨p, 0, none⟩) := hI.val 3 _ 13 rfl rfl rfl
  have f14 : a.tmps.getD 14 undef = .pointer (some ⟨p, 1, none⟩) := hI.val 4 _ 14 rfl rfl rfl
  have f15 : a.tmps.getD 15 undef = .slice V.ai C.ins.length V.ci := hI.val 5 _ 15 rfl rfl rfl
  have f16 : a.tmps.getD 16 undef = .int .i64 (C.ins.length : Int) := hI.val 6 _ 16 rfl rfl rfl
  have g17 : ((fun u v => Own u w.heap.size 4 v (bv (brought ip C.ins.length)))) u (a.tmps.getD 17 undef) := hI.val 7 _ 17 rfl rfl rfl
  have f18 : a.tmps.getD 18 undef = (.slice sa sn sc) := hI.val 8 _ 18 rfl rfl rfl
  have f19 : a.tmps.getD 19 undef = (.pointer (some ⟨p, 0, none⟩)) := hI.val 9 _ 19 rfl rfl rfl
  have f20 : a.tmps.getD 20 undef = .pointer (some ⟨p, 0, none⟩) := hI.val 10 _ 20 rfl rfl rfl
  have f21 : a.tmps.getD 21 undef = .pointer (some ⟨p, 0, none⟩) := hI.val 11 _ 21 rfl rfl rfl
  have f22 : a.tmps.getD 22 undef = .pointer (some ⟨p, 2, none⟩) := hI.val 12 _ 22 rfl rfl rfl
  have f23 : a.tmps.getD 23 undef = .slice V.al C.lats.length V.cl := hI.val 13 _ 23 rfl rfl rfl
  have f24 : a.tmps.getD 24 undef = .int .i64 (C.lats.length : Int) := hI.val 14 _ 24 rfl rfl rfl
  have g25 : ((fun u v => Own u w.heap.size 4 v (bv (brought st C.lats.length)))) u (a.tmps.getD 25 undef) := hI.val 15 _ 25 rfl rfl rfl
  have ha : a = ⟨#[a.tmps.getD 0 undef, a.tmps.getD 1 undef, a.tmps.getD 2 undef, a.tmps.getD 3 undef, a.tmps.getD 4 undef, a.tmps.getD 5 undef, a.tmps.getD 6 undef, a.tmps.getD 7 undef, a.tmps.getD 8 undef, a.tmps.getD 9 undef, a.tmps.getD 10 undef, a.tmps.getD 11 undef, a.tmps.getD 12 undef, a.tmps.getD 13 undef, a.tmps.getD 14 undef, a.tmps.getD 15 undef, a.tmps.getD 16 undef, a.tmps.getD 17 undef, a.tmps.getD 18 undef, a.tmps.getD 19 undef, a.tmps.getD 20 undef, a.tmps.getD 21 undef, a.tmps.getD 22 undef, a.tmps.getD 23 undef, a.tmps.getD 24 undef, a.tmps.getD 25 undef, a.tmps.getD 26 undef, a.tmps.getD 27 undef, a.tmps.getD 28 undef, a.tmps.getD 29 undef, a.tmps.getD 30 undef, a.tmps.getD 31 undef, a.tmps.getD 32 undef, a.tmps.getD 33 undef, a.tmps.getD 34 undef, a.tmps.getD 35 undef, a.tmps.getD 36 undef, a.tmps.getD 37 undef, a.tmps.getD 38 undef, a.tmps.getD 39 undef, a.tmps.getD 40 undef, a.tmps.getD 41 undef, a.tmps.getD 42 undef, a.tmps.getD 43 undef, a.tmps.getD 44 undef, a.tmps.getD 45 undef], a.defers⟩ := act_list a 46 hsz
  rw [hdf, f0, f1, f2, f3, f4, f5, f6, f7, f8, f9, f10, f11, f12, f13, f14, f15, f16, f18, f19, f20, f21, f22, f23, f24, f26, f27, f28, f29, f30, f31, f32, f33, f34, f35, f36, f37, f38, f39, f40, f41, f42, f43, f44, f45] at ha
  obtain ⟨x17, hx17⟩ : ∃ x, a.tmps.getD 17 undef = x := ⟨_, rfl⟩
  obtain ⟨x25, hx25⟩ : ∃ x, a.tmps.getD 25 undef = x := ⟨_, rfl⟩
  rw [hx17, hx25] at ha
  rw [hx17] at g17
  rw [hx25] at g25
  have hku := hI.kp
  clear hI hsz hdf f0 f1 f2 f3 f4 f5 f6 f7 f8 f9 f10 f11 f12 f13 f14 f15 f16 f18 f19 f20 f21 f22 f23 f24 f26 f27 f28 f29 f30 f31 f32 f33 f34 f35 f36 f37 f38 f39 f40 f41 f42 f43 f44 f45 hx17 hx25
  subst ha
  refine wpAny_tail 16 rfl (by kernel_rfl) ?_
  simp only [List.drop_succ_cons, List.drop_zero]
  obtain ⟨s2a, s2c, ev2, s2le, s2m, s2nil, -, hr2⟩ := ownForm g25
  have s2nil := s2nil
  rw [bv_length, brought_len] at ev2 s2le
  subst ev2
  have HO1 := Lib.hid g17
  have HR2 := Lib.hid hr2
  have HKu := Lib.hid hku
  have hlb := brought_len st C.lats.length
  clear g17 g25 hr2 hku
  go_wp2_with (at_builtin; refine wpList_append1s rfl _ _ 38 4 rfl Tryz.underlying38 HIb.out rfl HO1.out rfl s2a C.lats.length s2c (bv (brought st C.lats.length)) rfl (by rw [bv_length, brought_len]) HR2.out s2nil (bv_one _) ?k1 ?k2 ?k3 ?_)
  case k1 => have := HF.out.i; have := HF.out.l; rw [bv_length, brought_len]; omega
  case k2 => have := HF.out.i; have := HF.out.l; rw [bv_length, brought_len]; unfold maxLen; omega
  case k3 => have := HKu.out.size; simpa using this
  intro v9 w2 hO9 hg9 hat9
  have hO9' : Own w2 w.heap.size 4 v9 (bv (insOf C st ip)) := by unfold insOf; rw [bv_append]; exact hO9
  obtain ⟨n9, hn9⟩ : ∃ n, (insOf C st ip).length = n := ⟨_, rfl⟩
  obtain ⟨a9, c9, ev9, -, -, -, hr9⟩ := hO9'.form
  rw [bv_length, hn9] at ev9
  subst ev9
  have HK2 := Lib.hid (show Kp (fun _ => False) w w2 from ((Kp.refl (fun _ => False) w).trans HKu.out (fun _ _ h => h)).grown hg9 (fun j hj hl => by have := (HO1.out.lt j hj).1; omega))
  have HR9 := Lib.hid hr9
  have HN9 := Lib.hid hn9
  have hn91 : n9 ≤ 2000000 := by rw [← hn9, insOf_len]; have := HF.out.i; have := HF.out.l; omega
  have HY := Lib.hid (HK2.out.cellK HY0.out)
  have HB2 := Lib.hid (HB.out.kp HK2.out (fun h => h))
  clear hO9 hO9' hg9 hat9 hr9 hn9 hlb s2nil HB HO1 HR2 HKu
  have HB := HB2
  clear HB2
  go_upto_region 2 with fail
  refine wp_region_loose (p := upTo 19) (V := atV [EqV ((.pointer (some ⟨p, 0, none⟩))), EqV (.pointer (some ⟨p, 0, none⟩)), EqV (.pointer (some ⟨p, 9, none⟩)), EqV (.slice a4 (netOf C).1.length c4), EqV ((.slice a9 n9 c9)), (fun u v => Own u w.heap.size 4 v (bv (valsM C st ip))), EqV ((.pointer (some ⟨p, 0, none⟩))), EqV (.pointer (some ⟨p, 0, none⟩)), EqV (.pointer (some ⟨p, 10, none⟩)), EqV (.slice (some ⟨b5, o5, none⟩) (netOf C).2.length c5), EqV ((.int .i64 l)), EqV (.int .i64 (q : Int)), EqV (.pointer (some ⟨b5, o5 + q, none⟩)), EqV (.int .i64 y), EqV (.bool (litN (valsM C st ip) y)), EqV ((.int .i64 l)), EqV (.int .i64 (l % 2)), EqV (.bool (l % 2 == 1)), EqV (.bool (litN (valsM C st ip) y != (l % 2 == 1)))]) (LP := #[true, true, true, true, true, true, true, true, true, true, true, true, true, true, true, true, true, true, true, false]) (K := 1) (by kernel_rfl) (by kernel_rfl) (atV_st ?hstL2) ?hstepL2 (by kernel_rfl) ?hLPL2 (by kernel_rfl) ?hendL2
  case hstL2 =>
    intro W h
    simp only [List.mem_cons, List.not_mem_nil, or_false] at h
    rcases h with rfl | rfl | rfl | rfl | rfl | rfl | rfl | rfl | rfl | rfl | rfl | rfl | rfl | rfl | rfl | rfl | rfl | rfl | rfl <;> first | exact EqV.st _ | exact fun _ _ _ k h => Own.kp h k (fun _ _ h => h)
  case hLPL2 => exact upTo_spec (by kernel_rfl)
  case hstepL2 =>
    intro i o ho hp a u hk hoff hdep
    have e0 : a.tmps[0]?.getD undef = (.pointer (some ⟨p, 0, none⟩)) := slot_at (hoff 0 (noDst_spec (by kernel_rfl)))
    have e3 : a.tmps[3]?.getD undef = (.int .i64 l) := slot_at (hoff 3 (noDst_spec (by kernel_rfl)))
    have e9 : a.tmps[9]?.getD undef = (.slice a9 n9 c9) := slot_at (hoff 9 (noDst_spec (by kernel_rfl)))
    clear hoff
    match i, ho with
    | 0, ho =>
      obtain rfl := Option.some.inj ho
      refine lw_value (v := (.pointer (some ⟨p, 0, none⟩))) (u' := u) ?_ (Kp.refl _ _) rfl
      go_simp
    | 1, ho =>
      obtain rfl := Option.some.inj ho
      have e27 : a.tmps[27]?.getD undef = (.pointer (some ⟨p, 0, none⟩)) := slot_at (hdep ⟨0, .data⟩ (by simp) rfl _ 27 rfl rfl)
      refine lw_value (v := .pointer (some ⟨p, 0, none⟩)) (u' := u) ?_ (Kp.refl _ _) rfl
      go_simp
    | 2, ho =>
      obtain rfl := Option.some.inj ho
      have e28 : a.tmps[28]?.getD undef = .pointer (some ⟨p, 0, none⟩) := slot_at (hdep ⟨1, .data⟩ (by simp) rfl _ 28 rfl rfl)
      refine lw_value (v := .pointer (some ⟨p, 9, none⟩)) (u' := u) ?_ (Kp.refl _ _) rfl
      go_simp
    | 3, ho =>
      obtain rfl := Option.some.inj ho
      have e29 : a.tmps[29]?.getD undef = .pointer (some ⟨p, 9, none⟩) := slot_at (hdep ⟨2, .data⟩ (by simp) rfl _ 29 rfl rfl)
      have c1 := (HB.out.kp hk (fun h => h)).cell (i := 9) (v := .slice a4 (netOf C).1.length c4) rfl
      refine lw_value (v := .slice a4 (netOf C).1.length c4) (u' := u) ?_ (Kp.refl _ _) rfl
      go_simp
    | 4, ho =>
      obtain rfl := Option.some.inj ho
      refine lw_value (v := (.slice a9 n9 c9)) (u' := u) ?_ (Kp.refl _ _) rfl
      go_simp
    | 5, ho =>
      obtain rfl := Option.some.inj ho
      have e30 : a.tmps[30]?.getD undef = .slice a4 (netOf C).1.length c4 := slot_at (hdep ⟨3, .data⟩ (by simp) rfl _ 30 rfl rfl)
      have e31 : a.tmps[31]?.getD undef = (.slice a9 n9 c9) := slot_at (hdep ⟨4, .data⟩ (by simp) rfl _ 31 rfl rfl)
      refine lw_call (f := 88) (args := #[.slice a4 (netOf C).1.length c4, .slice a9 n9 c9]) ?_ ?_
      · go_simp
      · exact (ref07_Values a4 (netOf C).1.length c4 (netOf C).1 a9 n9 c9 (insOf C st ip) u (HM.out.net.kp (HK2.out.trans hk (fun _ _ h => h)) (fun _ _ h => h)) rfl (by omega) HG.out.net (HR9.out.kp hk (fun _ _ h => h)) HN9.out (by omega)).mono (by
          rintro e u' ⟨v, rfl, hO, hK⟩
          exact ⟨v, rfl, hK, hO.mono (by have := hk.size; have := HK2.out.size; omega)⟩)
    | 6, ho =>
      obtain rfl := Option.some.inj ho
      refine lw_value (v := (.pointer (some ⟨p, 0, none⟩))) (u' := u) ?_ (Kp.refl _ _) rfl
      go_simp
    | 7, ho =>
      obtain rfl := Option.some.inj ho
      have e33 : a.tmps[33]?.getD undef = (.pointer (some ⟨p, 0, none⟩)) := slot_at (hdep ⟨6, .data⟩ (by simp) rfl _ 33 rfl rfl)
      refine lw_value (v := .pointer (some ⟨p, 0, none⟩)) (u' := u) ?_ (Kp.refl _ _) rfl
      go_simp
    | 8, ho =>
      obtain rfl := Option.some.inj ho
      have e34 : a.tmps[34]?.getD undef = .pointer (some ⟨p, 0, none⟩) := slot_at (hdep ⟨7, .data⟩ (by simp) rfl _ 34 rfl rfl)
      refine lw_value (v := .pointer (some ⟨p, 10, none⟩)) (u' := u) ?_ (Kp.refl _ _) rfl
      go_simp
    | 9, ho =>
      obtain rfl := Option.some.inj ho
      have e35 : a.tmps[35]?.getD undef = .pointer (some ⟨p, 10, none⟩) := slot_at (hdep ⟨8, .data⟩ (by simp) rfl _ 35 rfl rfl)
      have c1 := (HB.out.kp hk (fun h => h)).cell (i := 10) (v := .slice (some ⟨b5, o5, none⟩) (netOf C).2.length c5) rfl
      refine lw_value (v := .slice (some ⟨b5, o5, none⟩) (netOf C).2.length c5) (u' := u) ?_ (Kp.refl _ _) rfl
      go_simp
    | 10, ho =>
      obtain rfl := Option.some.inj ho
      refine lw_value (v := (.int .i64 l)) (u' := u) ?_ (Kp.refl _ _) rfl
      go_simp
    | 11, ho =>
      obtain rfl := Option.some.inj ho
      have e37 : a.tmps[37]?.getD undef = (.int .i64 l) := slot_at (hdep ⟨10, .data⟩ (by simp) rfl _ 37 rfl rfl)
      have h2 := HLd.out
      have h3 : IntKind.i64.wrap (q : Int) = (q : Int) := by rw [IntKind.wrap_i64]; omega
      refine lw_value (v := .int .i64 (q : Int)) (u' := u) ?_ (Kp.refl _ _) rfl
      go_simp
    | 12, ho =>
      obtain rfl := Option.some.inj ho
      have e36 : a.tmps[36]?.getD undef = .slice (some ⟨b5, o5, none⟩) (netOf C).2.length c5 := slot_at (hdep ⟨9, .data⟩ (by simp) rfl _ 36 rfl rfl)
      have e38 : a.tmps[38]?.getD undef = .int .i64 (q : Int) := slot_at (hdep ⟨11, .data⟩ (by simp) rfl _ 38 rfl rfl)
      refine lw_value (v := .pointer (some ⟨b5, o5 + q, none⟩)) (u' := u) ?_ (Kp.refl _ _) rfl
      go_simp
    | 13, ho =>
      obtain rfl := Option.some.inj ho
      have e39 : a.tmps[39]?.getD undef = .pointer (some ⟨b5, o5 + q, none⟩) := slot_at (hdep ⟨12, .data⟩ (by simp) rfl _ 39 rfl rfl)
      have c1 := hk.cellK HY.out
      refine lw_value (v := .int .i64 y) (u' := u) ?_ (Kp.refl _ _) rfl
      go_simp
    | 14, ho =>
      obtain rfl := Option.some.inj ho
      have e40 : a.tmps[40]?.getD undef = .int .i64 y := slot_at (hdep ⟨13, .data⟩ (by simp) rfl _ 40 rfl rfl)
      have hV : Own u w.heap.size 4 (a.tmps.getD 32 undef) (bv (valsM C st ip)) := hdep ⟨5, .data⟩ (by simp) rfl _ 32 rfl rfl
      obtain ⟨vA, vC, ev, -, -, -, hvr⟩ := hV.form
      rw [bv_length, show (valsM C st ip).length = (netOf C).1.length + 1 from valsOf_len _ _] at ev
      have e32 := slot_at ev
      refine lw_call (f := 87) (args := #[.slice vA ((netOf C).1.length + 1) vC, .int .i64 y]) ?_ ?_
      · go_simp
      · exact (ref07_Of vA ((netOf C).1.length + 1) vC (valsM C st ip) y u hvr (valsOf_len _ _) (by omega) HPl.out.1 HPl.out.2).mono (by
          rintro e u' ⟨rfl, rfl⟩
          exact ⟨_, rfl, Kp.refl _ _, rfl⟩)
    | 15, ho =>
      obtain rfl := Option.some.inj ho
      refine lw_value (v := (.int .i64 l)) (u' := u) ?_ (Kp.refl _ _) rfl
      go_simp
    | 16, ho =>
      obtain rfl := Option.some.inj ho
      have e42 : a.tmps[42]?.getD undef = (.int .i64 l) := slot_at (hdep ⟨15, .data⟩ (by simp) rfl _ 42 rfl rfl)
      have h2 := HLm.out
      refine lw_value (v := .int .i64 (l % 2)) (u' := u) ?_ (Kp.refl _ _) rfl
      go_simp
    | 17, ho =>
      obtain rfl := Option.some.inj ho
      have e43 : a.tmps[43]?.getD undef = .int .i64 (l % 2) := slot_at (hdep ⟨16, .data⟩ (by simp) rfl _ 43 rfl rfl)
      refine lw_value (v := .bool (l % 2 == 1)) (u' := u) ?_ (Kp.refl _ _) rfl
      go_simp
    | 18, ho =>
      obtain rfl := Option.some.inj ho
      have e41 : a.tmps[41]?.getD undef = .bool (litN (valsM C st ip) y) := slot_at (hdep ⟨14, .data⟩ (by simp) rfl _ 41 rfl rfl)
      have e44 : a.tmps[44]?.getD undef = .bool (l % 2 == 1) := slot_at (hdep ⟨17, .data⟩ (by simp) rfl _ 44 rfl rfl)
      refine lw_value (v := .bool (litN (valsM C st ip) y != (l % 2 == 1))) (u' := u) ?_ (Kp.refl _ _) rfl
      go_simp
      generalize litN (valsM C st ip) y = A
      generalize (l % 2 == 1) = B
      cases A <;> cases B <;> rfl
    | n + 19, _ => exact absurd hp (by simp [upTo])
  intro a u hI
  have hsz : a.tmps.size = 46 := hI.size
  have hdf : a.defers = [] := hI.defers
  have f0 : a.tmps.getD 0 undef = _ := hI.off 0 (noDst_spec (p := upTo 19) (by kernel_rfl))
  have f1 : a.tmps.getD 1 undef = _ := hI.off 1 (noDst_spec (p := upTo 19) (by kernel_rfl))
  have f2 : a.tmps.getD 2 undef = _ := hI.off 2 (noDst_spec (p := upTo 19) (by kernel_rfl))
  have f3 : a.tmps.getD 3 undef = _ := hI.off 3 (noDst_spec (p := upTo 19) (by kernel_rfl))
  have f4 : a.tmps.getD 4 undef = _ := hI.off 4 (noDst_spec (p := upTo 19) (by kernel_rfl))
  have f5 : a.tmps.getD 5 undef = _ := hI.off 5 (noDst_spec (p := upTo 19) (by kernel_rfl))
  have f6 : a.tmps.getD 6 undef = _ := hI.off 6 (noDst_spec (p := upTo 19) (by kernel_rfl))
  have f7 : a.tmps.getD 7 undef = _ := hI.off 7 (noDst_spec (p := upTo 19) (by kernel_rfl))
  have f8 : a.tmps.getD 8 undef = _ := hI.off 8 (noDst_spec (p := upTo 19) (by kernel_rfl))
  have f9 : a.tmps.getD 9 undef = _ := hI.off 9 (noDst_spec (p := upTo 19) (by kernel_rfl))
  have f10 : a.tmps.getD 10 undef = _ := hI.off 10 (noDst_spec (p := upTo 19) (by kernel_rfl))
  have f11 : a.tmps.getD 11 undef = _ := hI.off 11 (noDst_spec (p := upTo 19) (by kernel_rfl))
  have f12 : a.tmps.getD 12 undef = _ := hI.off 12 (noDst_spec (p := upTo 19) (by kernel_rfl))
  have f13 : a.tmps.getD 13 undef = _ := hI.off 13 (noDst_spec (p := upTo 19) (by kernel_rfl))
  have f14 : a.tmps.getD 14 undef = _ := hI.off 14 (noDst_spec (p := upTo 19) (by kernel_rfl))
  have f15 : a.tmps.getD 15 undef = _ := hI.off 15 (noDst_spec (p := upTo 19) (by kernel_rfl))
  have f16 : a.tmps.getD 16 undef = _ := hI.off 16 (noDst_spec (p := upTo 19) (by kernel_rfl))
  have f17 : a.tmps.getD 17 undef = _ := hI.off 17 (noDst_spec (p := upTo 19) (by kernel_rfl))
  have f18 : a.tmps.getD 18 undef = _ := hI.off 18 (noDst_spec (p := upTo 19) (by kernel_rfl))
  have f19 : a.tmps.getD 19 undef = _ := hI.off 19 (noDst_spec (p := upTo 19) (by kernel_rfl))
  have f20 : a.tmps.getD 20 undef = _ := hI.off 20 (noDst_spec (p := upTo 19) (by kernel_rfl))
  have f21 : a.tmps.getD 21 undef = _ := hI.off 21 (noDst_spec (p := upTo 19) (by kernel_rfl))
  have f22 : a.tmps.getD 22 undef = _ := hI.off 22 (noDst_spec (p := upTo 19) (by kernel_rfl))
  have f23 : a.tmps.getD 23 undef = _ := hI.off 23 (noDst_spec (p := upTo 19) (by kernel_rfl))
  have f24 : a.tmps.getD 24 undef = _ := hI.off 24 (noDst_spec (p := upTo 19) (by kernel_rfl))
  have f25 : a.tmps.getD 25 undef = _ := hI.off 25 (noDst_spec (p := upTo 19) (by kernel_rfl))
  have f26 : a.tmps.getD 26 undef = _ := hI.off 26 (noDst_spec (p := upTo 19) (by kernel_rfl))
  have f27 : a.tmps.getD 27 undef = (.pointer (some ⟨p, 0, none⟩)) := hI.val 0 _ 27 rfl rfl rfl
  have f28 : a.tmps.getD 28 undef = .pointer (some ⟨p, 0, none⟩) := hI.val 1 _ 28 rfl rfl rfl
  have f29 : a.tmps.getD 29 undef = .pointer (some ⟨p, 9, none⟩) := hI.val 2 _ 29 rfl rfl rfl
  have f30 : a.tmps.getD 30 undef = .slice a4 (netOf C).1.length c4 := hI.val 3 _ 30 rfl rfl rfl
  have f31 : a.tmps.getD 31 undef = (.slice a9 n9 c9) := hI.val 4 _ 31 rfl rfl rfl
  have g32 : ((fun u v => Own u w.heap.size 4 v (bv (valsM C st ip)))) u (a.tmps.getD 32 undef) := hI.val 5 _ 32 rfl rfl rfl
  have f33 : a.tmps.getD 33 undef = (.pointer (some ⟨p, 0, none⟩)) := hI.val 6 _ 33 rfl rfl rfl
  have f34 : a.tmps.getD 34 undef = .pointer (some ⟨p, 0, none⟩) := hI.val 7 _ 34 rfl rfl rfl
  have f35 : a.tmps.getD 35 undef = .pointer (some ⟨p, 10, none⟩) := hI.val 8 _ 35 rfl rfl rfl
  have f36 : a.tmps.getD 36 undef = .slice (some ⟨b5, o5, none⟩) (netOf C).2.length c5 := hI.val 9 _ 36 rfl rfl rfl
  have f37 : a.tmps.getD 37 undef = (.int .i64 l) := hI.val 10 _ 37 rfl rfl rfl
  have f38 : a.tmps.getD 38 undef = .int .i64 (q : Int) := hI.val 11 _ 38 rfl rfl rfl
  have f39 : a.tmps.getD 39 undef = .pointer (some ⟨b5, o5 + q, none⟩) := hI.val 12 _ 39 rfl rfl rfl
  have f40 : a.tmps.getD 40 undef = .int .i64 y := hI.val 13 _ 40 rfl rfl rfl
  have f41 : a.tmps.getD 41 undef = .bool (litN (valsM C st ip) y) := hI.val 14 _ 41 rfl rfl rfl
  have f42 : a.tmps.getD 42 undef = (.int .i64 l) := hI.val 15 _ 42 rfl rfl rfl
  have f43 : a.tmps.getD 43 undef = .int .i64 (l % 2) := hI.val 16 _ 43 rfl rfl rfl
  have f44 : a.tmps.getD 44 undef = .bool (l % 2 == 1) := hI.val 17 _ 44 rfl rfl rfl
  have f45 : a.tmps.getD 45 undef = .bool (litN (valsM C st ip) y != (l % 2 == 1)) := hI.val 18 _ 45 rfl rfl rfl
  have ha : a = ⟨#[a.tmps.getD 0 undef, a.tmps.getD 1 undef, a.tmps.getD 2 undef, a.tmps.getD 3 undef, a.tmps.getD 4 undef, a.tmps.getD 5 undef, a.tmps.getD 6 undef, a.tmps.getD 7 undef, a.tmps.getD 8 undef, a.tmps.getD 9 undef, a.tmps.getD 10 undef, a.tmps.getD 11 undef, a.tmps.getD 12 undef, a.tmps.getD 13 undef, a.tmps.getD 14 undef, a.tmps.getD 15 undef, a.tmps.getD 16 undef, a.tmps.getD 17 undef, a.tmps.getD 18 undef, a.tmps.getD 19 undef, a.tmps.getD 20 undef, a.tmps.getD 21 undef, a.tmps.getD 22 undef, a.tmps.getD 23 undef, a.tmps.getD 24 undef, a.tmps.getD 25 undef, a.tmps.getD 26 undef, a.tmps.getD 27 undef, a.tmps.getD 28 undef, a.tmps.getD 29 undef, a.tmps.getD 30 undef, a.tmps.getD 31 undef, a.tmps.getD 32 undef, a.tmps.getD 33 undef, a.tmps.getD 34 undef, a.tmps.getD 35 undef, a.tmps.getD 36 undef, a.tmps.getD 37 undef, a.tmps.getD 38 undef, a.tmps.getD 39 undef, a.tmps.getD 40 undef, a.tmps.getD 41 undef, a.tmps.getD 42 undef, a.tmps.getD 43 undef, a.tmps.getD 44 undef, a.tmps.getD 45 undef], a.defers⟩ := act_list a 46 hsz
  rw [hdf, f0, f1, f2, f3, f4, f5, f6, f7, f8, f9, f10, f11, f12, f13, f14, f15, f16, f17, f18, f19, f20, f21, f22, f23, f24, f25, f26, f27, f28, f29, f30, f31, f33, f34, f35, f36, f37, f38, f39, f40, f41, f42, f43, f44, f45] at ha
  obtain ⟨x32, hx32⟩ : ∃ x, a.tmps.getD 32 undef = x := ⟨_, rfl⟩
  rw [hx32] at ha
  rw [hx32] at g32
  have hku := hI.kp
  clear hI hsz hdf f0 f1 f2 f3 f4 f5 f6 f7 f8 f9 f10 f11 f12 f13 f14 f15 f16 f17 f18 f19 f20 f21 f22 f23 f24 f25 f26 f27 f28 f29 f30 f31 f33 f34 f35 f36 f37 f38 f39 f40 f41 f42 f43 f44 f45 hx32
  subst ha
  refine wpAny_tail 19 rfl (by kernel_rfl) ?_
  simp only [List.drop_succ_cons, List.drop_zero]
  have HE := Lib.hid (show Kp (fun _ => False) w u from HK2.out.trans hku (fun _ _ h => h))
  clear hku g32
  go_wp2_with fail
  go_ret
  exact ⟨by rw [← HSp.out]; rfl, HE.out⟩

end Go.Proofs.YtnoknecfdnjomaaGreat

/-
  latchetref17: Next, Holds, Bad.
-/
namespace Go.Proofs.YtnoknecfdnjomaaGreat
open Go.RowKit

/-- a row of truths that a call is handed -/
structure BS (w : World) (a : Option Addr) (n : Nat) (l : List Bool) : Prop where
  row : RowAt w a (bv l)
  len : l.length = n
  most : n ≤ 100000000
theorem BS.kp {w w' : World} {a : Option Addr} {n : Nat} {l : List Bool} (h : BS w a n l) (k : Kp (fun _ => False) w w') : BS w' a n l := ⟨h.row.kp k (fun _ _ h => h), h.len, h.most⟩

theorem lat_used {C : Circ} {k : Nat} (h : k < C.lats.length) : (g3 C.lats k).2.1 ∈ C.used := by
  have hm : (g3 C.lats k).2.1 ∈ C.lats.map (fun x => x.2.1) := List.mem_map.2 ⟨_, g3_mem h, rfl⟩
  unfold Circ.used
  simp only [List.mem_append]
  exact .inl (.inr hm)
theorem gi_mem {l : List Int} {k : Nat} (h : k < l.length) : gi l k ∈ l := by unfold gi; rw [List.getElem?_eq_getElem h]; exact List.getElem_mem _
theorem con_used {C : Circ} {k : Nat} (h : k < C.cons.length) : gi C.cons k ∈ C.used := by
  have hm := gi_mem h
  unfold Circ.used
  simp only [List.mem_append]
  exact .inl (.inl (.inr hm))
theorem bad_used {C : Circ} {k : Nat} (h : k < C.bads.length) : gi C.bads k ∈ C.used := by
  have hm := gi_mem h
  unfold Circ.used
  simp only [List.mem_append]
  exact .inl (.inl (.inl (.inr hm)))

theorem ref17_lit (V : CV) (C : Circ) (p : Nat) (a4 a5 : Option Addr) (c4 c5 : Nat) (sa : Option Addr) (sn sc : Nat) (ia : Option Addr) (in_ ic : Nat) (st ip : List Bool) (w : World) (hM : MAt w 81 V C p a4 c4 a5 c5) (hf : CFew C 1000000) (hg : GoodC C) (hs : BS w sa sn st) (hi : BS w ia in_ ip) :
    ∀ u, Kp (fun _ => False) w u → ∀ l, l ∈ C.used → Calls Tryz.prog 66 #[.pointer (some ⟨p, 0, none⟩), .slice sa sn sc, .slice ia in_ ic, .int .i64 l] u fun e w' => e = .returned (.bool (litM C st ip l)) ∧ Kp (fun _ => False) u w' :=
  fun u hu l hl => ref17_Lit V C p a4 a5 c4 c5 sa sn sc ia in_ ic st ip l u (hM.kp hu) hf hg (hs.kp hu).row hs.len hs.most (hi.kp hu).row hi.len hi.most hl

def nextK (C : Circ) (st ip : List Bool) (k : Nat) : List Bool := (C.lats.take k).map (fun x => litM C st ip x.2.1)
theorem nextK_succ {C : Circ} {st ip : List Bool} {k : Nat} (h : k < C.lats.length) : nextK C st ip (k + 1) = nextK C st ip k ++ [litM C st ip (g3 C.lats k).2.1] := by
  unfold nextK; rw [take_g3 h, List.map_append]; rfl
theorem nextK_full (C : Circ) (st ip : List Bool) : nextK C st ip C.lats.length = nextM C st ip := by unfold nextK nextM; rw [List.take_length]
theorem nextK_len {C : Circ} {st ip : List Bool} {k : Nat} (h : k ≤ C.lats.length) : (nextK C st ip k).length = k := by unfold nextK; simp; omega
theorem nextM_len (C : Circ) (st ip : List Bool) : (nextM C st ip).length = C.lats.length := by unfold nextM; simp

set_option maxRecDepth 100000 in
set_option maxHeartbeats 2000000 in
theorem ref17_Next (V : CV) (C : Circ) (p : Nat) (a4 a5 : Option Addr) (c4 c5 : Nat) (sa : Option Addr) (sn sc : Nat) (ia : Option Addr) (in_ ic : Nat) (st ip : List Bool) (w : World) (hM : MAt w 81 V C p a4 c4 a5 c5) (hf : CFew C 1000000) (hg : GoodC C) (hs : BS w sa sn st) (hi : BS w ia in_ ip) :
    Calls Tryz.prog 46 #[.pointer (some ⟨p, 0, none⟩), .slice sa sn sc, .slice ia in_ ic] w fun e w' => ∃ v, e = .returned v ∧ Own w' w.heap.size 4 v (bv (nextM C st ip)) ∧ Kp (fun _ => False) w w' := by
  have HIb := Lib.hid (show (Tryz.prog.info? 4).map (fun i => (i.zero, i.size, i.bytes)) = some (some (.bool false), 1, 1) by kernel_rfl)
  have HL := Lib.hid (ref17_lit V C p a4 a5 c4 c5 sa sn sc ia in_ ic st ip w hM hf hg hs hi)
  have HM := Lib.hid hM
  obtain ⟨nl, hnl⟩ : ∃ n, C.lats.length = n := ⟨_, rfl⟩
  have hnl1 : nl ≤ 1000000 := by have := hf.l; omega
  have HNl := Lib.hid hnl
  have HB := Lib.hid (show ∀ u, Kp (fun _ => False) w u → u.cell? ⟨p, 2, none⟩ = some (.slice V.al nl V.cl) from fun u hu => (hM.blk.kp hu (fun h => h)).cell (i := 2) (by rw [← hnl]; rfl))
  obtain ⟨wz, hwz⟩ : ∃ wz : World, wz = w.alloc (.cells #[] 4) := ⟨_, rfl⟩
  have HK0 := Lib.hid (show Kp (fun _ => False) w wz by rw [hwz]; exact (Kp.refl _ w).alloc _)
  have HO0 : Hid (Own wz w.heap.size 4 (.slice (some ⟨w.heap.size, 0, none⟩) 0 0) (bv (nextK C st ip 0))) := Lib.hid (by rw [hwz]; exact Own.lit (cs := []) (Blk.new w _ _) (Nat.le_refl _) (by decide))
  have HZ := Lib.hid hwz
  clear hM hf hg hs hi hnl hwz
  go_enter Tryz.func46, Tryz.ntmps46
  go_upto_region 2 with fail
  rw [← HZ.out]
  clear HZ
  go_wp2_with fail
  go_loopw [7, 8] (fun v7 v8 wr => ∃ k : Nat, v8 = .int .i64 k ∧ k ≤ nl ∧ Own wr w.heap.size 4 v7 (bv (nextK C st ip k)) ∧ Kp (fun _ => False) w wr) (fun _ v8 _ => nl - (intOf v8).toNat)
  case atStart => exact ⟨0, rfl, by omega, HO0.out, HK0.out⟩
  case round =>
    obtain ⟨k, rfl, hk, hO, hK⟩ := hrel
    clear HO0 HK0
    obtain ⟨wp, rfl⟩ : ∃ wp : World, wp = wr := ⟨_, rfl⟩
    have HO := Lib.hid hO
    have HK := Lib.hid hK
    have c2 := HB.out _ hK
    clear hO hK
    by_cases hlt : k < nl
    · have hkl : k < C.lats.length := by rw [HNl.out]; exact hlt
      obtain ⟨b, off, ea, hE⟩ := HM.out.circ.latCell hkl
      have hc := HL.out _ HK.out _ (lat_used hkl)
      have hS := nextK_succ (st := st) (ip := ip) hkl
      have hln := nextK_len (C := C) (st := st) (ip := ip) (k := k) (by omega)
      obtain ⟨x, hx⟩ : ∃ x, (g3 C.lats k).2.1 = x := ⟨_, rfl⟩
      rw [hx] at hE hc hS
      obtain ⟨y, hy⟩ : ∃ y, litM C st ip x = y := ⟨_, rfl⟩
      rw [hy] at hc hS
      obtain ⟨-, e1, -⟩ := hE _ HK.out
      rw [ea] at c2
      have HC := Lib.hid hc
      have HS := Lib.hid hS
      have HLn := Lib.hid hln
      have i0 : (0 : Int) ≤ (k : Int) := by omega
      have i2 : (k : Int) < (nl : Int) := by omega
      clear hx hy hE hc hS hln ea hkl
      go_wp2_with (first
        | (go_at_call 66; with_reducible refine Calls.mono HC.out ?_; rintro e w1 ⟨rfl, hK1⟩; have HK1 := Lib.hid (HK.out.trans hK1 (fun _ _ h => h)); have HOw := Lib.hid ((HO.out.kp hK1 (fun _ _ h => h)).alloc (.cells #[.bool y] 4)); have HNew := Lib.hid (Blk.new w1 #[.bool y] 4); clear hK1)
        | (at_builtin; refine wpList_append1_at rfl _ _ 38 4 rfl Tryz.underlying38 HIb.out rfl HOw.out rfl ⟨w1.heap.size, 0, none⟩ (.bool y) rfl (HNew.out.cell rfl) rfl ?d1 ?d2 ?d3 ?_))
      case d1 => rw [bv_length, HLn.out]; omega
      case d2 => rw [bv_length, HLn.out]; unfold maxLen; omega
      case d3 => have := HK1.out.size; simp; omega
      intro v' w2 hO3 hg2 hat2
      have HR2 := Lib.hid (show Own w2 w.heap.size 4 v' (bv (nextK C st ip (k + 1))) ∧ Kp (fun _ => False) w w2 from ⟨by rw [HS.out, bv_append]; exact hO3, (HK1.out.alloc _).grown hg2 (fun j hj hl => by have := (HO.out.lt j hj).1; omega)⟩)
      clear hO3 hg2 hat2 HNew HOw
      go_wp2_with fail
      go_roundw
      case rel => exact ⟨k + 1, by go_num, by omega, HR2.out⟩
      case measure => simp [intOf]; omega
    · obtain rfl : k = nl := by omega
      have HE := Lib.hid (show Own wp w.heap.size 4 u7 (bv (nextM C st ip)) from by rw [← nextK_full, HNl.out]; exact HO.out)
      go_wp2_with fail
      go_ret
      exact ⟨_, rfl, HE.out, HK.out⟩

set_option maxRecDepth 100000 in
set_option maxHeartbeats 2000000 in
theorem ref17_Holds (V : CV) (C : Circ) (p : Nat) (a4 a5 : Option Addr) (c4 c5 : Nat) (sa : Option Addr) (sn sc : Nat) (ia : Option Addr) (in_ ic : Nat) (st ip : List Bool) (w : World) (hM : MAt w 81 V C p a4 c4 a5 c5) (hf : CFew C 1000000) (hg : GoodC C) (hs : BS w sa sn st) (hi : BS w ia in_ ip) :
    Calls Tryz.prog 43 #[.pointer (some ⟨p, 0, none⟩), .slice sa sn sc, .slice ia in_ ic] w fun e w' => e = .returned (.bool (holdsM C st ip)) ∧ Kp (fun _ => False) w w' := by
  have HL := Lib.hid (ref17_lit V C p a4 a5 c4 c5 sa sn sc ia in_ ic st ip w hM hf hg hs hi)
  have HM := Lib.hid hM
  obtain ⟨nc, hnc⟩ : ∃ n, C.cons.length = n := ⟨_, rfl⟩
  have hnc1 : nc ≤ 1000000 := by have := hf.c; omega
  have HNc := Lib.hid hnc
  have HB := Lib.hid (show ∀ u, Kp (fun _ => False) w u → u.cell? ⟨p, 5, none⟩ = some (.slice V.ac nc V.cc) from fun u hu => (hM.blk.kp hu (fun h => h)).cell (i := 5) (by rw [← hnc]; rfl))
  clear hM hf hg hs hi hnc
  go_enter Tryz.func43, Tryz.ntmps43
  go_wp2_with fail
  go_loopw [7] (fun v7 wr => ∃ k : Nat, v7 = .int .i64 k ∧ k ≤ nc ∧ (C.cons.take k).all (litM C st ip) = true ∧ Kp (fun _ => False) w wr) (fun v7 _ => nc - (intOf v7).toNat)
  case atStart => exact ⟨0, rfl, by omega, rfl, Kp.refl _ _⟩
  case round =>
    obtain ⟨k, rfl, hk, hall, hK⟩ := hrel
    obtain ⟨wp, rfl⟩ : ∃ wp : World, wp = wr := ⟨_, rfl⟩
    have HK := Lib.hid hK
    have c5 := HB.out _ hK
    clear hK
    by_cases hlt : k < nc
    · have hkl : k < C.cons.length := by rw [HNc.out]; exact hlt
      obtain ⟨b, off, ea, e0⟩ := (HM.out.circ.kp HK.out).c.get hkl
      have hc := HL.out _ HK.out _ (con_used hkl)
      have hS : (C.cons.take (k + 1)).all (litM C st ip) = litM C st ip (gi C.cons k) := by rw [take_gi hkl, List.all_append, hall]; simp
      have hF : litM C st ip (gi C.cons k) = false → holdsM C st ip = false := fun h => by
        unfold holdsM
        rw [List.all_eq_false]
        exact ⟨_, gi_mem hkl, by rw [h]; simp⟩
      obtain ⟨x, hx⟩ : ∃ x, gi C.cons k = x := ⟨_, rfl⟩
      rw [hx] at e0 hc hS hF
      obtain ⟨y, hy⟩ : ∃ y, litM C st ip x = y := ⟨_, rfl⟩
      rw [hy] at hc hS hF
      rw [ea] at c5
      have HC := Lib.hid hc
      have HS := Lib.hid hS
      have HFl := Lib.hid hF
      have i0 : (0 : Int) ≤ (k : Int) := by omega
      have i2 : (k : Int) < (nc : Int) := by omega
      clear hx hy hc hS hF ea hkl hall
      cases y with
      | true =>
        go_wp2_with (go_at_call 66; with_reducible refine Calls.mono HC.out ?_; rintro e w1 ⟨rfl, hK1⟩; have HK1 := Lib.hid (HK.out.trans hK1 (fun _ _ h => h)); clear hK1)
        go_roundw
        case rel => exact ⟨k + 1, by go_num, by omega, HS.out, HK1.out⟩
        case measure => simp [intOf]; omega
      | false =>
        go_wp2_with (go_at_call 66; with_reducible refine Calls.mono HC.out ?_; rintro e w1 ⟨rfl, hK1⟩; have HK1 := Lib.hid (HK.out.trans hK1 (fun _ _ h => h)); clear hK1)
        go_ret
        exact ⟨by rw [HFl.out (by simp)]; rfl, HK1.out⟩
    · obtain rfl : k = nc := by omega
      have HE := Lib.hid (show holdsM C st ip = true from by unfold holdsM; rw [List.take_of_length_le (by rw [HNc.out]; exact Nat.le_refl _)] at hall; exact hall)
      clear hall
      go_wp2_with fail
      go_ret
      exact ⟨by rw [HE.out]; rfl, HK.out⟩

set_option maxRecDepth 100000 in
set_option maxHeartbeats 2000000 in
theorem ref17_Bad (V : CV) (C : Circ) (p : Nat) (a4 a5 : Option Addr) (c4 c5 : Nat) (sa : Option Addr) (sn sc : Nat) (ia : Option Addr) (in_ ic : Nat) (st ip : List Bool) (pr : Int) (w : World) (hM : MAt w 81 V C p a4 c4 a5 c5) (hf : CFew C 1000000) (hg : GoodC C) (hs : BS w sa sn st) (hi : BS w ia in_ ip) :
    Calls Tryz.prog 44 #[.pointer (some ⟨p, 0, none⟩), .slice sa sn sc, .slice ia in_ ic, .int .i64 pr] w fun e w' => e = .returned (.bool (badM C st ip pr)) ∧ Kp (fun _ => False) w w' := by
  have HL := Lib.hid (ref17_lit V C p a4 a5 c4 c5 sa sn sc ia in_ ic st ip w hM hf hg hs hi)
  obtain ⟨nb, hnb⟩ : ∃ n, C.bads.length = n := ⟨_, rfl⟩
  have hnb1 : nb ≤ 1000000 := by have := hf.b; omega
  have hB : w.cell? ⟨p, 4, none⟩ = some (.slice V.ab nb V.cb) := hM.blk.cell (i := 4) (by rw [← hnb]; rfl)
  have HM := Lib.hid hM
  have HNb := Lib.hid hnb
  obtain ⟨r, hr⟩ : ∃ r, badM C st ip pr = r := ⟨_, rfl⟩
  rw [hr]
  unfold badM at hr
  rw [hnb] at hr
  clear hM hf hg hs hi hnb
  by_cases h0 : 0 ≤ pr
  · by_cases h1 : pr < (nb : Int)
    · obtain ⟨k, rfl⟩ : ∃ k : Nat, pr = (k : Int) := ⟨pr.toNat, by omega⟩
      have hkl : k < C.bads.length := by rw [HNb.out]; omega
      obtain ⟨b, off, ea, e0⟩ := HM.out.circ.b.get hkl
      have hc := HL.out _ (Kp.refl _ w) _ (bad_used hkl)
      obtain ⟨x, hx⟩ : ∃ x, gi C.bads k = x := ⟨_, rfl⟩
      rw [decide_eq_true (⟨h0, h1⟩ : 0 ≤ (k : Int) ∧ (k : Int) < (nb : Int)), Bool.true_and, Int.toNat_natCast, hx] at hr
      rw [hx] at e0 hc
      rw [hr] at hc
      rw [ea] at hB
      have HC := Lib.hid hc
      clear hr hc hx ea hkl
      go_enter Tryz.func44, Tryz.ntmps44
      go_wp2_with (go_at_call 66; with_reducible refine Calls.mono HC.out ?_; rintro e w1 ⟨rfl, hK1⟩; have HK1 := Lib.hid hK1; clear hK1)
      go_ret
      exact ⟨rfl, HK1.out⟩
    · have hd : decide (pr < (nb : Int)) = false := decide_eq_false h1
      rw [decide_eq_false (fun h => h1 h.2), Bool.false_and] at hr
      subst hr
      go_enter Tryz.func44, Tryz.ntmps44
      go_wp2_with fail
      go_ret
      exact ⟨rfl, Kp.refl _ _⟩
  · have hd : decide (0 ≤ pr) = false := decide_eq_false h0
    rw [decide_eq_false (fun h => h0 h.1), Bool.false_and] at hr
    subst hr
    go_enter Tryz.func44, Tryz.ntmps44
    go_wp2_with fail
    go_ret
    exact ⟨rfl, Kp.refl _ _⟩

theorem all_range_lt {f : Nat → Bool} {k n : Nat} (h : k < n) (hf : f k = false) : (List.range n).all f = false := by
  rw [List.all_eq_false]; exact ⟨k, List.mem_range.2 h, by rw [hf]; simp⟩
theorem all_range_succ (f : Nat → Bool) (k : Nat) : (List.range (k + 1)).all f = ((List.range k).all f && f k) := by
  rw [List.range_succ, List.all_append]; simp

set_option maxRecDepth 100000 in
set_option maxHeartbeats 4000000 in
theorem ref17_Starts (V : CV) (C : Circ) (p : Nat) (a4 a5 : Option Addr) (c4 c5 : Nat) (sa : Option Addr) (sn sc : Nat) (st : List Bool) (w : World) (hM : MAt w 81 V C p a4 c4 a5 c5) (hf : CFew C 1000000) (hs : BS w sa sn st) :
    Calls Tryz.prog 42 #[.pointer (some ⟨p, 0, none⟩), .slice sa sn sc] w fun e w' => e = .returned (.bool (startsM C st)) ∧ w = w' := by
  obtain ⟨nl, hnl⟩ : ∃ n, C.lats.length = n := ⟨_, rfl⟩
  have hnl1 : nl ≤ 1000000 := by have := hf.l; omega
  have HNl := Lib.hid hnl
  have hB : w.cell? ⟨p, 2, none⟩ = some (.slice V.al nl V.cl) := hM.blk.cell (i := 2) (by rw [← hnl]; rfl)
  have HM := Lib.hid hM
  have HS := Lib.hid hs
  have hsm := hs.most
  obtain ⟨r, hr⟩ : ∃ r, startsM C st = r := ⟨_, rfl⟩
  rw [hr]
  unfold startsM at hr
  rw [hnl, hs.len] at hr
  clear hM hf hs hnl
  by_cases hl : sn = nl
  · rw [decide_eq_true hl, Bool.true_and] at hr
    have HR := Lib.hid hr
    have q0 : ((sn : Int) == (nl : Int)) = true := by simp [hl]
    subst hl
    clear hr
    go_enter Tryz.func42, Tryz.ntmps42
    go_wp2_with fail
    go_loop [5] (fun v5 => ∃ k : Nat, v5 = .int .i64 k ∧ k ≤ sn ∧ (List.range k).all (fun k => startOk (g3 C.lats k).2.2 (vb st k)) = true) (fun v5 => sn - (intOf v5).toNat)
    case atStart => exact ⟨0, rfl, by omega, rfl⟩
    case round =>
      obtain ⟨k, rfl, hk, hall⟩ := hrel
      by_cases hlt : k < sn
      · have hkl : k < C.lats.length := by rw [HNl.out]; exact hlt
        obtain ⟨b, off, ea, hE⟩ := HM.out.circ.latCell hkl
        obtain ⟨-, -, e2⟩ := hE _ (Kp.refl _ w)
        obtain ⟨b3, off3, ea3, e3⟩ := HS.out.row k _ (bv_at (by rw [HS.out.len]; exact hlt))
        have hS := all_range_succ (fun k => startOk (g3 C.lats k).2.2 (vb st k)) k
        rw [hall, Bool.true_and] at hS
        have hF : startOk (g3 C.lats k).2.2 (vb st k) = false → r = false := fun h => by
          rw [← HR.out]; exact all_range_lt hlt h
        obtain ⟨x, hx⟩ : ∃ x, (g3 C.lats k).2.2 = x := ⟨_, rfl⟩
        obtain ⟨y, hy⟩ : ∃ y, vb st k = y := ⟨_, rfl⟩
        rw [hx] at e2
        rw [hy] at e3
        rw [hx, hy] at hS hF
        have HSS := Lib.hid hS
        have HFl := Lib.hid hF
        rw [ea] at hB
        subst ea3
        have i0 : (0 : Int) ≤ (k : Int) := by omega
        have i2 : (k : Int) < (sn : Int) := by omega
        clear hx hy hS hF hE ea hkl hall
        by_cases x0 : x = 0
        · subst x0
          cases y with
          | true =>
            obtain rfl : r = false := HFl.out rfl
            go_wp2_with fail
            go_ret
            exact ⟨rfl, rfl⟩
          | false =>
            go_wp2_with fail
            go_round
            case rel => exact ⟨k + 1, by go_num, by omega, by rw [HSS.out]; rfl⟩
            case measure => simp [intOf]; omega
        · have z0 : (x == 0) = false := by simp [x0]
          by_cases x1 : x = 1
          · subst x1
            cases y with
            | false =>
              obtain rfl : r = false := HFl.out rfl
              clear x0
              go_wp2_with fail
              go_ret
              exact ⟨rfl, rfl⟩
            | true =>
              clear x0
              go_wp2_with fail
              go_round
              case rel => exact ⟨k + 1, by go_num, by omega, by rw [HSS.out]; rfl⟩
              case measure => simp [intOf]; omega
          · have z1 : (x == 1) = false := by simp [x1]
            have HOk := Lib.hid (show startOk x y = true by unfold startOk; rw [decide_eq_false x0, decide_eq_false x1]; rfl)
            clear x0 x1
            go_wp2_with fail
            go_round
            case rel => exact ⟨k + 1, by go_num, by omega, by rw [HSS.out, HOk.out]⟩
            case measure => simp [intOf]; omega
      · obtain rfl : k = sn := by omega
        obtain rfl : r = true := by rw [← HR.out]; exact hall
        clear hall
        go_wp2_with fail
        go_ret
        exact ⟨rfl, rfl⟩
  · rw [decide_eq_false hl, Bool.false_and] at hr
    subst hr
    have q0 : ((sn : Int) == (nl : Int)) = false := by simp; omega
    clear hl
    go_enter Tryz.func42, Tryz.ntmps42
    go_wp2_with fail
    go_ret
    exact ⟨rfl, rfl⟩

end Go.Proofs.YtnoknecfdnjomaaGreat

/-
  explore.bits, explore.number; latchetref17.bits, number, power.
-/
namespace Go.Proofs.YtnoknecfdnjomaaGreat
open Go.RowKit

/-- the first k of m bits laid -/
def bitsK (n m k : Nat) : List Bool := bitsP n k ++ List.replicate (m - k) false
theorem bitsK_len {n m k : Nat} (h : k ≤ m) : (bitsK n m k).length = m := by unfold bitsK; rw [List.length_append, bitsP_len, List.length_replicate]; omega
theorem bitsK_set {n m k : Nat} (h : k < m) : (bitsK n m k).set k (decide (n / 2 ^ k % 2 = 1)) = bitsK n m (k + 1) := by
  unfold bitsK
  obtain ⟨d, hd⟩ : ∃ d, m - k = d + 1 := ⟨m - k - 1, by omega⟩
  rw [hd, show m - (k + 1) = d by omega, List.set_append, bitsP_len, if_neg (Nat.lt_irrefl k), Nat.sub_self, bitsP_succ, List.append_assoc, List.replicate_succ]
  rfl

set_option maxRecDepth 100000 in
set_option maxHeartbeats 2000000 in
theorem ex_bits (n m : Nat) (hn : n < 2 ^ m) (hm : m ≤ 20) (w : World) :
    Calls Tryz.prog 70 #[.int .i64 n, .int .i64 m] w fun e w' => ∃ v, e = .returned v ∧ Own w' w.heap.size 4 v (bv (bitsP n m)) ∧ Kp (fun _ => False) w w' := by
  obtain ⟨i0, hi0, hz0, hz1, hz2⟩ := info_parts (show (Tryz.prog.info? 4).map (fun i => (i.zero, i.size, i.bytes)) = some (some (.bool false), 1, 1) by kernel_rfl)
  have hmk : ∀ u : World, (Instr.makeSlice 38 (.int .i64 (m : Int)) (.int .i64 (m : Int))).run Tryz.prog u =
      .ok (.slice (some ⟨u.heap.size, 0, none⟩) m m) (u.alloc (.cells (madeCells #[.bool false] m) 4)) := fun u => by
    have h := run_make (P := Tryz.prog) u 38 4 i0 (.bool false) Tryz.underlying38 hi0 hz0 .i64 .i64 (m : Int) (m : Int) (by omega) (Int.le_refl _) (by rw [hz2]; omega) (by omega)
    simpa [hz1, Value.cells] using h
  clear hi0 hz0 hz1 hz2 i0
  obtain ⟨wz, hwz⟩ : ∃ wz : World, wz = w.alloc (.cells (madeCells #[.bool false] m) 4) := ⟨_, rfl⟩
  have HK0 := Lib.hid (show Kp (fun _ => False) w wz by rw [hwz]; exact (Kp.refl _ w).alloc _)
  have HO0 : Hid (Own wz w.heap.size 4 (.slice (some ⟨w.heap.size, 0, none⟩) m m) (bv (bitsK n m 0))) := Lib.hid (by rw [hwz]; exact made_bools0 (by unfold maxLen; omega) (Nat.le_refl _))
  have HZ := Lib.hid hwz
  have hn9 : n < 1048576 := Nat.lt_of_lt_of_le hn (by have := Nat.pow_le_pow_right (n := 2) (by decide) hm; exact this)
  clear hwz
  go_enter Tryz.func70, Tryz.ntmps70
  go_upto_region 2 with fail
  rw [← HZ.out]
  clear HZ hmk
  go_wp2_with fail
  go_loopw [11] (fun v11 wr => ∃ k : Nat, v11 = .int .i64 (k : Int) ∧ k ≤ m ∧ Own wr w.heap.size 4 (.slice (some ⟨w.heap.size, 0, none⟩) m m) (bv (bitsK n m k)) ∧ Kp (fun _ => False) w wr) (fun v11 _ => m - (intOf v11).toNat)
  case atStart => exact ⟨0, rfl, Nat.zero_le _, HO0.out, HK0.out⟩
  case round =>
    clear HO0 HK0
    obtain ⟨k, rfl, hk, hO, hK⟩ := hrel
    have HO := Lib.hid hO
    have HK := Lib.hid hK
    clear hO hK
    obtain ⟨wp, rfl⟩ : ∃ wp : World, wp = wr := ⟨_, rfl⟩
    by_cases hlt : k < m
    · have k0 : (0 : Int) ≤ (k : Int) := by omega
      have k1 : (k : Int) < (m : Int) := by omega
      have hk9 : k ≤ 20 := by omega
      have c0 := HO.out.cell (j := k) (u := .bool (vb (bitsK n m k) k)) (bv_at (by rw [bitsK_len hk]; exact hlt))
      have f0 := HO.out.free k
      have hb : (bits .and .i64 ((n : Int) / 2 ^ k) 1 == 1) = decide (n / 2 ^ k % 2 = 1) := by
        have e1 : (n : Int) / 2 ^ k = ((n / 2 ^ k : Nat) : Int) := by push_cast; rfl
        have e2 : n / 2 ^ k ≤ n := Nat.div_le_self _ _
        rw [e1]
        generalize n / 2 ^ k = q at e2 ⊢
        rw [i64_and1 _ (by omega) (by omega)]
        by_cases e : q % 2 = 1
        · rw [decide_eq_true e]; simp; omega
        · rw [decide_eq_false e]; simp; omega
      have HB := Lib.hid hb
      clear hb
      go_wp2_with fail
      rw [HB.out]
      refine ⟨⟨k + 1, by go_num, hlt, ?_, HK.out.setCell (fun h => absurd h (Nat.lt_irrefl _)) _⟩, by simp [intOf]; omega⟩
      have := HO.out.set k (.bool (decide (n / 2 ^ k % 2 = 1)))
      rw [← bitsK_set hlt]
      unfold bv at this ⊢
      rw [List.map_set]
      exact this
    · have hk' : k = m := by omega
      have hno : decide ((k : Int) < (m : Int)) = false := by simp; omega
      go_wp2_with fail
      go_ret
      have := HO.out
      rw [hk'] at this
      unfold bitsK at this
      rw [Nat.sub_self, List.replicate_zero, List.append_nil] at this
      exact ⟨_, rfl, this, HK.out⟩

theorem or_pow {a i : Nat} (h : a < 2 ^ i) : a ||| 2 ^ i = a + 2 ^ i := by
  have := Nat.two_pow_add_eq_or_of_lt h 1
  rw [Nat.mul_one] at this
  rw [Nat.or_comm, ← this, Nat.add_comm]

theorem i64_or_pow {a i : Nat} (h : a < 2 ^ i) (hi : i ≤ 20) : bits .or .i64 (a : Int) (2 ^ i) = ((a + 2 ^ i : Nat) : Int) := by
  have hp : 2 ^ i ≤ 1048576 := by have := Nat.pow_le_pow_right (n := 2) (by decide) hi; exact this
  obtain ⟨b, hb⟩ : ∃ b : Nat, 2 ^ i = b := ⟨_, rfl⟩
  have ho := or_pow h
  have e0 : ((2 : Int) ^ i) = ((2 ^ i : Nat) : Int) := by push_cast; rfl
  rw [e0]
  rw [hb] at h hp ho ⊢
  have e1 : ∀ x : Nat, x < 18446744073709551616 → (BitVec.ofInt 64 (x : Int)).toNat = x := fun x hx => by
    rw [BitVec.ofInt_natCast, BitVec.toNat_ofNat]; exact Nat.mod_eq_of_lt hx
  show IntKind.i64.wrap ((BitVec.ofInt 64 (a : Int) ||| BitVec.ofInt 64 (b : Int)).toNat : Int) = _
  rw [BitVec.toNat_or, e1 a (by omega), e1 b (by omega), ho, IntKind.wrap_i64]
  omega

set_option maxRecDepth 100000 in
set_option maxHeartbeats 2000000 in
theorem ex_number (a : Option Addr) (m c : Nat) (l : List Bool) (w : World) (hr : RowAt w a (bv l)) (hl : l.length = m) (hm : m ≤ 20) :
    Calls Tryz.prog 62 #[.slice a m c] w fun e w' => e = .returned (.int .i64 (numP l)) ∧ w = w' := by
  have HR := Lib.hid hr
  have HL := Lib.hid hl
  clear hr hl
  go_enter Tryz.func62, Tryz.ntmps62
  go_wp2_with fail
  go_loop [3, 8] (fun v3 v8 => ∃ k x : Nat, v8 = .int .i64 (k : Int) ∧ k ≤ m ∧ v3 = .int .i64 (x : Int) ∧ x = numP (l.take k)) (fun _ v8 => m - (intOf v8).toNat)
  case atStart => exact ⟨0, 0, rfl, Nat.zero_le _, rfl, rfl⟩
  case round =>
    obtain ⟨k, x, rfl, hk, rfl, hx⟩ := hrel
    have HX := Lib.hid hx
    by_cases hlt : k < m
    · have hkl : k < l.length := by rw [HL.out]; exact hlt
      obtain ⟨b, off, rfl, hcell⟩ := HR.out k _ (bv_at hkl)
      have HT := Lib.hid (show numP (l.take (k + 1)) = numP (l.take k) + (if vb l k = true then 2 ^ k else 0) by
        rw [List.take_succ_eq_append_getElem hkl, numP_snoc, List.length_take, Nat.min_eq_left (Nat.le_of_lt hkl)]
        unfold vb
        rw [List.getElem?_eq_getElem hkl]; rfl)
      obtain ⟨y, hy⟩ : ∃ y, vb l k = y := ⟨_, rfl⟩
      rw [hy] at hcell HT
      have hx2 : x < 2 ^ k := by
        rw [hx]
        have := numP_lt (l.take k)
        rw [List.length_take, Nat.min_eq_left (Nat.le_of_lt hkl)] at this
        exact this
      have HO := Lib.hid (i64_or_pow hx2 (by omega))
      have HW := Lib.hid (show wrap64 ((2 : Int) ^ k) = 2 ^ k by
        have hp : 2 ^ k ≤ 1048576 := by have := Nat.pow_le_pow_right (n := 2) (by decide) (show k ≤ 20 by omega); exact this
        have e0 : ((2 : Int) ^ k) = ((2 ^ k : Nat) : Int) := by push_cast; rfl
        rw [e0]
        generalize 2 ^ k = b at hp ⊢
        unfold wrap64; omega)
      have i0 : (0 : Int) ≤ (k : Int) := by omega
      have i1 : (k : Int) < (m : Int) := by omega
      clear hx hy hkl hx2
      cases y with
      | true =>
        go_wp2_with fail
        rw [HW.out, HO.out]
        exact ⟨⟨k + 1, x + 2 ^ k, by go_num, hlt, rfl, by rw [HT.out, HX.out, if_pos rfl]⟩, by simp [intOf]; omega⟩
      | false =>
        go_wp2_with fail
        go_round
        case rel => exact ⟨k + 1, x, by go_num, hlt, rfl, by rw [HT.out, HX.out]; simp⟩
        case measure => simp [intOf]; omega
    · have hk' : k = m := by omega
      have HE := Lib.hid (show x = numP l by rw [hx, hk', ← HL.out, List.take_length])
      have hno : decide ((k : Int) < (m : Int)) = false := by simp; omega
      clear hx hk'
      go_wp2_with fail
      go_ret
      exact ⟨by rw [HE.out]; rfl, rfl⟩

end Go.Proofs.YtnoknecfdnjomaaGreat

/-
  sim: Pack of one row, Eval.
-/
namespace Go.Proofs.YtnoknecfdnjomaaGreat
open Go.RowKit

def b1 (b : Bool) : Int := if b then 1 else 0
/-- m words, of which the first k have their values -/
def pk (ins : List Bool) (m k : Nat) : List Int := (ins.take k).map b1 ++ List.replicate (m - k) 0
theorem pk_zero (ins : List Bool) (m : Nat) : pk ins m 0 = List.replicate m 0 := by simp [pk]
theorem pk_len {ins : List Bool} {m k : Nat} (hn : ins.length = m) (h : k ≤ m) : (pk ins m k).length = m := by unfold pk; simp; omega
theorem pk_full {ins : List Bool} {m : Nat} (hn : ins.length = m) : pk ins m m = ins.map b1 := by unfold pk; simp [← hn]
theorem pk_gi {ins : List Bool} {m k : Nat} (hn : ins.length = m) (h : k < m) : gi (pk ins m k) k = 0 := by
  unfold pk gi
  have hl : ((ins.take k).map b1).length = k := by simp; omega
  rw [List.getElem?_append_right (by omega), hl, Nat.sub_self, List.getElem?_replicate, if_pos (by omega)]; rfl
theorem pk_step {ins : List Bool} {m k : Nat} (hn : ins.length = m) (h : k < m) : (pk ins m k).set k (b1 (vb ins k)) = pk ins m (k + 1) := by
  unfold pk
  have hl : ((ins.take k).map b1).length = k := by simp; omega
  rw [List.set_append_right _ _ (by omega), hl, Nat.sub_self, show m - k = (m - (k + 1)) + 1 by omega, List.replicate_succ, List.set_cons_zero]
  rw [List.take_succ_eq_append_getElem (by omega), List.map_append]
  unfold vb
  rw [List.getElem?_eq_getElem (by omega)]
  simp only [List.append_assoc, List.singleton_append, Option.getD_some, List.map_cons, List.map_nil]
theorem pk_same {ins : List Bool} {m k : Nat} (hn : ins.length = m) (h : k < m) (hv : vb ins k = false) : pk ins m (k + 1) = pk ins m k := by
  rw [← pk_step hn h, hv]
  have hg := pk_gi hn h
  have hl := pk_len hn (Nat.le_of_lt h)
  apply List.ext_getElem?
  intro i
  rw [List.getElem?_set]
  by_cases e : k = i
  · subst e
    rw [if_pos rfl, if_pos (by omega)]
    unfold gi at hg
    rw [List.getElem?_eq_getElem (by omega)] at hg ⊢
    have : (pk ins m k)[k]'(by omega) = 0 := hg
    rw [this]; rfl
  · rw [if_neg e]
theorem uv_set (l : List Int) (j : Nat) (x : Int) : (uv l).set j (.int .u64 x) = uv (l.set j x) := by unfold uv; rw [List.map_set]

theorem pk_bits (ins : List Bool) : BitsOf (ins.map b1) ins := by
  refine ⟨by simp, fun i hi => ?_⟩
  have hl : i < ins.length := by simpa using hi
  unfold gi vb
  rw [List.getElem?_map, List.getElem?_eq_getElem hl]
  show BitOf (b1 ins[i]) ins[i]
  cases ins[i]
  · exact BitOf.zero
  · exact ⟨by decide, by decide, by decide⟩

set_option maxRecDepth 100000 in
set_option maxHeartbeats 4000000 in
theorem sim_Pack (g : Nat) (b : Option Addr) (m d : Nat) (ins : List Bool) (w : World) (hg : w.cell? ⟨g, 0, none⟩ = some (.slice b m d)) (hr : RowAt w b (bv ins)) (hn : ins.length = m) (hm : m ≤ 10000000) :
    Calls Tryz.prog 116 #[.slice (some ⟨g, 0, none⟩) 1 1] w fun e w' => ∃ v, e = .returned v ∧ Own w' w.heap.size 142 v (uv (ins.map b1)) ∧ Kp (fun _ => False) w w' := by
  have HI := Lib.hid (show (Tryz.prog.info? 142).map (fun i => (i.zero, i.size, i.bytes)) = some (some (.int .u64 0), 1, 8) by kernel_rfl)
  have HG := Lib.hid hg
  have HR := Lib.hid hr
  have HN := Lib.hid hn
  clear hr hn hg
  go_enter Tryz.func116, Tryz.ntmps116
  go_wp2_with fail
  go_loopw [3, 14] (fun v3 v14 wr => (v14 = .int .i64 0 ∧ v3 = .slice none 0 0 ∧ Kp (fun _ => False) w wr) ∨ (v14 = .int .i64 1 ∧ Own wr w.heap.size 142 v3 (uv (ins.map b1)) ∧ Kp (fun _ => False) w wr)) (fun _ v14 _ => 1 - (intOf v14).toNat)
  case atStart => exact .inl ⟨rfl, rfl, Kp.refl _ _⟩
  case round =>
    rcases hrel with ⟨rfl, rfl, hK⟩ | ⟨rfl, hO, hK⟩
    · obtain ⟨wp, rfl⟩ : ∃ wp : World, wp = wr := ⟨_, rfl⟩
      have HK := Lib.hid hK
      have cg := hK.cellK HG.out
      clear hK
      go_wp2_with fail
      clear cg
      go_loopw [3] (fun v3 wr => ∃ j : Nat, j ≤ m ∧ Own wr w.heap.size 142 v3 (uv (List.replicate j 0)) ∧ Kp (fun _ => False) w wr) (fun v3 _ => m - lenV v3)
      case atStart => exact ⟨0, Nat.zero_le _, Own.nil _ _ _, HK.out⟩
      case round =>
        obtain ⟨j, hj, hO, hK⟩ := hrel
        clear HK
        obtain ⟨wq, rfl⟩ : ∃ wp : World, wp = wr := ⟨_, rfl⟩
        have HO := Lib.hid hO
        have HK := Lib.hid hK
        obtain ⟨av, cv, ev, -, -, -, -⟩ := hO.form
        have hjl : (uv (List.replicate j 0)).length = j := by rw [uv_length]; simp
        rw [hjl] at ev
        subst ev
        clear hO hK
        by_cases hlt : j < m
        · have i0 : (j : Int) < (m : Int) := by omega
          have HNew := Lib.hid (Blk.new wq #[.int .u64 0] 142)
          have HOw := Lib.hid (HO.out.alloc (.cells #[.int .u64 0] 142))
          have HSz := Lib.hid HK.out.size
          go_wp2_with (at_builtin; refine wpList_append1_at rfl _ _ 149 142 rfl Tryz.underlying149 HI.out rfl HOw.out rfl ⟨wq.heap.size, 0, none⟩ (.int .u64 0) rfl (HNew.out.cell rfl) rfl ?d1 ?d2 ?d3 ?_)
          case d1 => rw [hjl]; omega
          case d2 => rw [hjl]; unfold maxLen; omega
          case d3 => have := HSz.out; simp; omega
          intro v' w2 hO3 hg2 hat2
          have hO4 : Own w2 w.heap.size 142 v' (uv (List.replicate (j + 1) 0)) := by rw [List.replicate_succ', uv_append]; exact hO3
          have HR2 := Lib.hid (show Own w2 w.heap.size 142 v' (uv (List.replicate (j + 1) 0)) ∧ Kp (fun _ => False) w w2 from ⟨hO4, (HK.out.alloc _).grown hg2 (fun i hi hl => by have := (HO.out.lt i hi).1; omega)⟩)
          obtain ⟨av2, cv2, ev2, -⟩ := hO4.form
          have hjl2 : (uv (List.replicate (j + 1) 0)).length = j + 1 := by rw [uv_length]; simp
          rw [hjl2] at ev2
          subst ev2
          clear hO3 hg2 hat2 HNew HOw hO4
          go_wp2_with fail
          go_roundw
          case rel => exact ⟨j + 1, by omega, HR2.out⟩
          case measure => simp [lenV]; omega
        · obtain rfl : j = m := by omega
          have i0 : ¬ (j : Int) < (j : Int) := by omega
          have HO0 := Lib.hid (show Own wq w.heap.size 142 (.slice av j cv) (uv (pk ins j 0)) by rw [pk_zero]; exact HO.out)
          clear HO
          go_wp2_with fail
          go_loopw [29] (fun v29 wr => ∃ q : Nat, v29 = .int .i64 (q : Int) ∧ q ≤ j ∧ Own wr w.heap.size 142 (.slice av j cv) (uv (pk ins j q)) ∧ Kp (fun _ => False) w wr) (fun v29 _ => j - (intOf v29).toNat)
          case atStart => exact ⟨0, rfl, Nat.zero_le _, HO0.out, HK.out⟩
          case round =>
            obtain ⟨q, rfl, hq, hO, hK⟩ := hrel
            clear HK HO0
            obtain ⟨wx, rfl⟩ : ∃ wp : World, wp = wr := ⟨_, rfl⟩
            have HO := Lib.hid hO
            have HK := Lib.hid hK
            clear hO hK
            by_cases hlt : q < j
            · obtain ⟨bb, off, rfl, e0⟩ := (HR.out.kp HK.out (fun _ _ h => h)) q _ (bv_at (by rw [HN.out]; exact hlt))
              have i1 : (0 : Int) ≤ (q : Int) := by omega
              have i2 : (q : Int) < (j : Int) := by omega
              cases hv : vb ins q with
              | true =>
                rw [hv] at e0
                obtain ⟨gv, cv', evv, hgb, -⟩ := HO.out.leads (by rw [uv_length, pk_len HN.out hq]; omega)
                simp only [Value.slice.injEq] at evv
                obtain ⟨rfl, -, -⟩ := evv
                have ck := HO.out.cell (j := q) (uv_at (by rw [pk_len HN.out hq]; exact hlt))
                rw [pk_gi HN.out hlt] at ck
                have fk := HO.out.free q
                have HR2 := Lib.hid (show Own (wx.setCell ⟨gv, q, none⟩ (.int .u64 1)) w.heap.size 142 (.slice (some ⟨gv, 0, none⟩) j cv) (uv (pk ins j (q + 1))) ∧ Kp (fun _ => False) w (wx.setCell ⟨gv, q, none⟩ (.int .u64 1)) from by
                  have h1 := HO.out.set q (.int .u64 1)
                  have h2 := pk_step HN.out hlt
                  rw [hv] at h2
                  rw [uv_set, show (1 : Int) = b1 true from rfl, h2] at h1
                  exact ⟨h1, HK.out.setCell (p := ⟨gv, q, none⟩) (fun hl => by have h3 : gv < w.heap.size := hl; omega) _⟩)
                have hor : bits .or .u64 0 1 = 1 := by decide
                clear HO
                go_upto_region 11 with fail
                go_region
                all_goals go_wp2_with fail
                all_goals exact ⟨⟨q + 1, by go_num, by omega, HR2.out.1.drew, HR2.out.2.drew⟩, by simp [intOf]; omega⟩
              | false =>
                rw [hv] at e0
                have HR2 := Lib.hid (show Own wx w.heap.size 142 (.slice av j cv) (uv (pk ins j (q + 1))) from by rw [pk_same HN.out hlt hv]; exact HO.out)
                go_wp2_with fail
                go_roundw
                case rel => exact ⟨q + 1, by go_num, by omega, HR2.out, HK.out⟩
                case measure => simp [intOf]; omega
            · obtain rfl : q = j := by omega
              have HE := Lib.hid (show Own wx w.heap.size 142 (.slice av q cv) (uv (ins.map b1)) from by have := HO.out; rw [pk_full HN.out] at this; exact this)
              go_wp2_with fail
              go_roundw
              case rel => exact .inr ⟨rfl, HE.out, HK.out⟩
              case measure => simp [intOf]
    · have HO := Lib.hid hO
      have HK := Lib.hid hK
      clear hO hK
      go_wp2_with fail
      go_ret
      exact ⟨_, rfl, HO.out, HK.out⟩

set_option maxRecDepth 100000 in
theorem sim_Eval (a : Option Addr) (n c : Nat) (N : List (Int × Int)) (b : Option Addr) (m d : Nat) (ins : List Bool) (w : World) (hr : RowAt w a (N.map pr2).flatten) (hn : N.length = n) (hm : n ≤ 10000000) (hN : GoodN N) (hi : RowAt w b (bv ins)) (him : ins.length = m) (hmm : m ≤ 10000000) :
    Calls Tryz.prog 96 #[.slice a n c, .slice b m d] w fun e w' => ∃ v, e = .returned v ∧ Own w' w.heap.size 4 v (bv (valsOf N ins)) ∧ Kp (fun _ => False) w w' := by
  obtain ⟨wz, hwz⟩ : ∃ wz : World, wz = w.alloc (.cells #[.slice b m d] 38) := ⟨_, rfl⟩
  have HK0 := Lib.hid (show Kp (fun _ => False) w wz by rw [hwz]; exact (Kp.refl _ w).alloc _)
  have HP := Lib.hid (sim_Pack w.heap.size b m d ins wz (by rw [hwz]; exact (Blk.new w _ _).cell rfl) (hi.kp HK0.out (fun _ _ h => h)) him hmm)
  have HW := Lib.hid (fun v w1 (hO : Own w1 wz.heap.size 142 v (uv (ins.map b1))) (hK : Kp (fun _ => False) wz w1) => (show ∃ b' d', v = .slice b' m d' ∧ Calls Tryz.prog 115 #[.slice a n c, .slice b' m d'] w1 fun e w' => ∃ v, e = .returned v ∧ (∃ ws, Own w' w1.heap.size 142 v (uv ws) ∧ BitsOf ws (valsOf N ins)) ∧ Kp (fun _ => False) w1 w' from by
    obtain ⟨b', d', ev, hle, hml, -, hrow⟩ := hO.form
    rw [uv_length, List.length_map, him] at ev hle
    exact ⟨b', d', ev, sim_Words a n c N b' m d' (ins.map b1) ins w1 (hr.kp (HK0.out.trans hK (fun _ _ h => h)) (fun _ _ h => h)) hn hm hN hrow (by rw [List.length_map]; exact him) (by omega) hle hml (pk_bits ins)⟩))
  have HL := Lib.hid (fun v w1 w2 ws (hO : Own w2 w1 142 v (uv ws)) (hB : BitsOf ws (valsOf N ins)) => (show ∃ b' d', v = .slice b' (n + 1) d' ∧ Calls Tryz.prog 114 #[.slice b' (n + 1) d', .int .i64 0] w2 fun e w' => ∃ v, e = .returned v ∧ Own w' w2.heap.size 4 v (bv (valsOf N ins)) ∧ Kp (fun _ => False) w2 w' from by
    have hl : ws.length = n + 1 := by rw [hB.1, valsOf_len, hn]
    obtain ⟨b', d', ev, hle, hml, -, hrow⟩ := hO.form
    rw [uv_length, hl] at ev
    exact ⟨b', d', ev, sim_Lane b' (n + 1) d' ws (valsOf N ins) w2 hrow hl (by omega) hB⟩))
  have HZ := Lib.hid hwz
  clear hr hn hN hi him hwz
  go_enter Tryz.func96, Tryz.ntmps96
  go_wp2_with (go_at_call 116; rw [← HZ.out]; with_reducible refine Calls.mono HP.out ?_; rintro e w1 ⟨v1, rfl, hO1, hK1⟩)
  obtain ⟨b', d', rfl, hC1⟩ := HW.out v1 w1 hO1 hK1
  have HC1 := Lib.hid hC1
  have HK1 := Lib.hid hK1
  clear hC1 hO1 hK1 HP HW
  go_wp2_with (go_at_call 115; with_reducible refine Calls.mono HC1.out ?_; rintro e w2 ⟨v2, rfl, ⟨ws, hO2, hB2⟩, hK2⟩)
  obtain ⟨b2, d2, rfl, hC2⟩ := HL.out v2 _ w2 ws hO2 hB2
  have HC2 := Lib.hid hC2
  have HK2 := Lib.hid hK2
  clear hC2 hO2 hB2 hK2 HL HC1
  go_wp2_with (go_at_call 114; with_reducible refine Calls.mono HC2.out ?_; rintro e w3 ⟨v3, rfl, hO3, hK3⟩)
  have HE := Lib.hid (show Own w3 w.heap.size 4 v3 (bv (valsOf N ins)) ∧ Kp (fun _ => False) w w3 from ⟨hO3.mono (Nat.le_trans HK0.out.size (Nat.le_trans HK1.out.size HK2.out.size)), ((HK0.out.trans HK1.out (fun _ _ h => h)).trans HK2.out (fun _ _ h => h)).trans hK3 (fun _ _ h => h)⟩)
  clear hO3 hK3
  go_wp2_with fail
  go_ret
  exact ⟨_, rfl, HE.out⟩

end Go.Proofs.YtnoknecfdnjomaaGreat

/-
  latchetref17.States.
-/
namespace Go.Proofs.YtnoknecfdnjomaaGreat
open Go.RowKit

/-- rows of truths that came in -/
structure GS (w : World) (a : Option Addr) (n c : Nat) (L : List (List Bool)) : Prop where
  row : ∃ vs : List Value, RowAt w a vs ∧ vs.length = n ∧ ∀ k, k < n → ∃ b m d, vs[k]? = some (.slice b m d) ∧ BS w b m (L[k]?.getD [])
  len : L.length = n
  most : n ≤ 1000000

/-- the states so far -/
structure SL (C : Circ) (st : List Bool) (rows : List (List Bool)) (B : Nat) (k : Nat) (v5 v6 : Value) (wr : World) : Prop where
  own : ∃ vs : List Value, Own wr B 38 v5 vs ∧ vs.length = k ∧ ∀ j, j < k → ∃ x, vs[j]? = some x ∧ Own wr B 4 x (bv (stateM C st rows j))
  now : Own wr B 4 v6 (bv (stateM C st rows k))

theorem SL.kp {C : Circ} {st : List Bool} {rows : List (List Bool)} {B k : Nat} {v5 v6 : Value} {wr w' : World} (h : SL C st rows B k v5 v6 wr) (hk : Kp (fun _ => False) wr w') : SL C st rows B k v5 v6 w' := by
  obtain ⟨⟨vs, h1, h2, h3⟩, h4⟩ := h
  exact ⟨⟨vs, h1.kp hk (fun _ _ h => h), h2, fun j hj => by obtain ⟨x, e, hx⟩ := h3 j hj; exact ⟨x, e, hx.kp hk (fun _ _ h => h)⟩⟩, h4.kp hk (fun _ _ h => h)⟩

theorem stateM_len (C : Circ) (st : List Bool) (rows : List (List Bool)) : ∀ k, (stateM C st rows k).length = C.lats.length
  | 0 => brought_len _ _
  | k + 1 => nextM_len _ _ _

set_option maxRecDepth 100000 in
set_option maxHeartbeats 4000000 in
theorem ref17_States (V : CV) (C : Circ) (p : Nat) (a4 a5 : Option Addr) (c4 c5 : Nat) (sa : Option Addr) (sn sc : Nat) (ga : Option Addr) (gn_ gc : Nat) (st : List Bool) (rows : List (List Bool)) (w : World) (hM : MAt w 81 V C p a4 c4 a5 c5) (hf : CFew C 1000000) (hg : GoodC C) (hs : BS w sa sn st) (hi : GS w ga gn_ gc rows) :
    Calls Tryz.prog 55 #[.pointer (some ⟨p, 0, none⟩), .agg #[.slice sa sn sc, .slice ga gn_ gc]] w fun e w' => ∃ v, e = .returned v ∧ (∃ v6, SL C st rows w.heap.size gn_ v v6 w') ∧ Kp (fun _ => False) w w' := by
  have HIs := Lib.hid (show (Tryz.prog.info? 38).map (fun i => (i.zero, i.size, i.bytes)) = some (some (.slice none 0 0), 1, 24) by kernel_rfl)
  obtain ⟨nl, hnl⟩ : ∃ n, C.lats.length = n := ⟨_, rfl⟩
  have hnl1 : nl ≤ 1000000 := by have := hf.l; omega
  have HNl := Lib.hid hnl
  have HB := Lib.hid (show ∀ u, Kp (fun _ => False) w u → u.cell? ⟨p, 2, none⟩ = some (.slice V.al nl V.cl) from fun u hu => (hM.blk.kp hu (fun h => h)).cell (i := 2) (by rw [← hnl]; rfl))
  obtain ⟨wz, hwz⟩ : ∃ wz : World, wz = w.alloc (.cells #[.slice sa sn sc, .slice ga gn_ gc] 56) := ⟨_, rfl⟩
  have HK0 := Lib.hid (show Kp (fun _ => False) w wz by rw [hwz]; exact (Kp.refl _ w).alloc _)
  have HRb := Lib.hid (show Blk wz w.heap.size #[.slice sa sn sc, .slice ga gn_ gc] 56 by rw [hwz]; exact Blk.new _ _ _)
  have HZ := Lib.hid hwz
  have HM := Lib.hid hM
  have HF := Lib.hid hf
  have HG := Lib.hid hg
  have HS := Lib.hid hs
  have HGs := Lib.hid hi
  have HLt := Lib.hid (show wz.heap.size = w.heap.size + 1 by rw [hwz]; simp)
  have hgn := hi.most
  clear hM hf hg hs hi hnl hwz
  go_enter Tryz.func55, Tryz.ntmps55
  go_upto_region 1 with fail
  rw [← HZ.out]
  clear HZ
  refine wp_region_loose (p := upTo 10) (V := atV [(LitC wz.heap.size #[] 0 38), EqV (.pointer (some ⟨w.heap.size, 0, none⟩)), EqV (.slice sa sn sc), EqV ((.pointer (some ⟨p, 0, none⟩))), EqV (.pointer (some ⟨p, 0, none⟩)), EqV (.pointer (some ⟨p, 0, none⟩)), EqV (.pointer (some ⟨p, 2, none⟩)), EqV (.slice V.al nl V.cl), EqV (.int .i64 (nl : Int)), (fun u v => Own u wz.heap.size 4 v (bv (stateM C st rows 0)))]) (LP := #[true, true, true, true, true, true, true, true, true, true, false, false]) (K := 2) (by kernel_rfl) (by kernel_rfl) (atV_st ?hstL1) ?hstepL1 (by kernel_rfl) ?hLPL1 (by kernel_rfl) ?hendL1
  case hstL1 =>
    intro W h
    simp only [List.mem_cons, List.not_mem_nil, or_false] at h
    rcases h with rfl | rfl | rfl | rfl | rfl | rfl | rfl | rfl | rfl | rfl <;> first | exact EqV.st _ | exact LitC.st _ _ _ _ | exact fun _ _ _ k h => Own.kp h k (fun _ _ h => h)
  case hLPL1 => exact upTo_spec (by kernel_rfl)
  case hstepL1 =>
    intro i o ho hp a u hk hoff hdep
    have e0 : a.tmps[0]?.getD undef = (.pointer (some ⟨p, 0, none⟩)) := slot_at (hoff 0 (noDst_spec (by kernel_rfl)))
    have e3 : a.tmps[3]?.getD undef = (.pointer (some ⟨w.heap.size, 0, none⟩)) := slot_at (hoff 3 (noDst_spec (by kernel_rfl)))
    clear hoff
    match i, ho with
    | 0, ho =>
      obtain rfl := Option.some.inj ho
      refine lw_value (v := .slice (some ⟨u.heap.size, 0, none⟩) 0 0) (u' := u.alloc (.cells #[] 38)) ?_ ((Kp.refl _ _).alloc _) ⟨_, rfl, Blk.new _ _ _, hk.size⟩
      go_simp
    | 1, ho =>
      obtain rfl := Option.some.inj ho
      refine lw_value (v := .pointer (some ⟨w.heap.size, 0, none⟩)) (u' := u) ?_ (Kp.refl _ _) rfl
      go_simp
    | 2, ho =>
      obtain rfl := Option.some.inj ho
      have e9 : a.tmps[9]?.getD undef = .pointer (some ⟨w.heap.size, 0, none⟩) := slot_at (hdep ⟨1, .data⟩ (by simp) rfl _ 9 rfl rfl)
      have c1 := (HRb.out.kp hk (fun h => h)).cell (i := 0) (v := .slice sa sn sc) rfl
      refine lw_value (v := .slice sa sn sc) (u' := u) ?_ (Kp.refl _ _) rfl
      go_simp
    | 3, ho =>
      obtain rfl := Option.some.inj ho
      refine lw_value (v := (.pointer (some ⟨p, 0, none⟩))) (u' := u) ?_ (Kp.refl _ _) rfl
      go_simp
    | 4, ho =>
      obtain rfl := Option.some.inj ho
      have e11 : a.tmps[11]?.getD undef = (.pointer (some ⟨p, 0, none⟩)) := slot_at (hdep ⟨3, .data⟩ (by simp) rfl _ 11 rfl rfl)
      refine lw_value (v := .pointer (some ⟨p, 0, none⟩)) (u' := u) ?_ (Kp.refl _ _) rfl
      go_simp
    | 5, ho =>
      obtain rfl := Option.some.inj ho
      have e12 : a.tmps[12]?.getD undef = .pointer (some ⟨p, 0, none⟩) := slot_at (hdep ⟨4, .data⟩ (by simp) rfl _ 12 rfl rfl)
      refine lw_value (v := .pointer (some ⟨p, 0, none⟩)) (u' := u) ?_ (Kp.refl _ _) rfl
      go_simp
    | 6, ho =>
      obtain rfl := Option.some.inj ho
      have e13 : a.tmps[13]?.getD undef = .pointer (some ⟨p, 0, none⟩) := slot_at (hdep ⟨5, .data⟩ (by simp) rfl _ 13 rfl rfl)
      refine lw_value (v := .pointer (some ⟨p, 2, none⟩)) (u' := u) ?_ (Kp.refl _ _) rfl
      go_simp
    | 7, ho =>
      obtain rfl := Option.some.inj ho
      have e14 : a.tmps[14]?.getD undef = .pointer (some ⟨p, 2, none⟩) := slot_at (hdep ⟨6, .data⟩ (by simp) rfl _ 14 rfl rfl)
      have c1 := HB.out _ (HK0.out.trans hk (fun _ _ h => h))
      refine lw_value (v := .slice V.al nl V.cl) (u' := u) ?_ (Kp.refl _ _) rfl
      go_simp
    | 8, ho =>
      obtain rfl := Option.some.inj ho
      have e15 : a.tmps[15]?.getD undef = .slice V.al nl V.cl := slot_at (hdep ⟨7, .data⟩ (by simp) rfl _ 15 rfl rfl)
      refine lw_value (v := .int .i64 (nl : Int)) (u' := u) ?_ (Kp.refl _ _) rfl
      go_simp
    | 9, ho =>
      obtain rfl := Option.some.inj ho
      have e10 : a.tmps[10]?.getD undef = .slice sa sn sc := slot_at (hdep ⟨2, .data⟩ (by simp) rfl _ 10 rfl rfl)
      have e16 : a.tmps[16]?.getD undef = .int .i64 (nl : Int) := slot_at (hdep ⟨8, .data⟩ (by simp) rfl _ 16 rfl rfl)
      refine lw_call (f := 71) (args := #[.slice sa sn sc, .int .i64 (nl : Int)]) ?_ ?_
      · go_simp
      · exact (ref17_Brought sa sn sc st nl u ((HS.out.kp (HK0.out.trans hk (fun _ _ h => h))).row) HS.out.len HS.out.most (by omega)).mono (by
          rintro e u' ⟨v, rfl, hO, hK⟩
          rw [← HNl.out] at hO
          exact ⟨v, rfl, hK, hO.mono hk.size⟩)
    | n + 10, _ => exact absurd hp (by simp [upTo])
  intro a u hI
  have hsz : a.tmps.size = 38 := hI.size
  have hdf : a.defers = [] := hI.defers
  have f0 : a.tmps.getD 0 undef = _ := hI.off 0 (noDst_spec (p := upTo 10) (by kernel_rfl))
  have f1 : a.tmps.getD 1 undef = _ := hI.off 1 (noDst_spec (p := upTo 10) (by kernel_rfl))
  have f2 : a.tmps.getD 2 undef = _ := hI.off 2 (noDst_spec (p := upTo 10) (by kernel_rfl))
  have f3 : a.tmps.getD 3 undef = _ := hI.off 3 (noDst_spec (p := upTo 10) (by kernel_rfl))
  have f4 : a.tmps.getD 4 undef = _ := hI.off 4 (noDst_spec (p := upTo 10) (by kernel_rfl))
  have f5 : a.tmps.getD 5 undef = _ := hI.off 5 (noDst_spec (p := upTo 10) (by kernel_rfl))
  have f6 : a.tmps.getD 6 undef = _ := hI.off 6 (noDst_spec (p := upTo 10) (by kernel_rfl))
  have f7 : a.tmps.getD 7 undef = _ := hI.off 7 (noDst_spec (p := upTo 10) (by kernel_rfl))
  have f18 : a.tmps.getD 18 undef = _ := hI.off 18 (noDst_spec (p := upTo 10) (by kernel_rfl))
  have f19 : a.tmps.getD 19 undef = _ := hI.off 19 (noDst_spec (p := upTo 10) (by kernel_rfl))
  have f20 : a.tmps.getD 20 undef = _ := hI.off 20 (noDst_spec (p := upTo 10) (by kernel_rfl))
  have f21 : a.tmps.getD 21 undef = _ := hI.off 21 (noDst_spec (p := upTo 10) (by kernel_rfl))
  have f22 : a.tmps.getD 22 undef = _ := hI.off 22 (noDst_spec (p := upTo 10) (by kernel_rfl))
  have f23 : a.tmps.getD 23 undef = _ := hI.off 23 (noDst_spec (p := upTo 10) (by kernel_rfl))
  have f24 : a.tmps.getD 24 undef = _ := hI.off 24 (noDst_spec (p := upTo 10) (by kernel_rfl))
  have f25 : a.tmps.getD 25 undef = _ := hI.off 25 (noDst_spec (p := upTo 10) (by kernel_rfl))
  have f26 : a.tmps.getD 26 undef = _ := hI.off 26 (noDst_spec (p := upTo 10) (by kernel_rfl))
  have f27 : a.tmps.getD 27 undef = _ := hI.off 27 (noDst_spec (p := upTo 10) (by kernel_rfl))
  have f28 : a.tmps.getD 28 undef = _ := hI.off 28 (noDst_spec (p := upTo 10) (by kernel_rfl))
  have f29 : a.tmps.getD 29 undef = _ := hI.off 29 (noDst_spec (p := upTo 10) (by kernel_rfl))
  have f30 : a.tmps.getD 30 undef = _ := hI.off 30 (noDst_spec (p := upTo 10) (by kernel_rfl))
  have f31 : a.tmps.getD 31 undef = _ := hI.off 31 (noDst_spec (p := upTo 10) (by kernel_rfl))
  have f32 : a.tmps.getD 32 undef = _ := hI.off 32 (noDst_spec (p := upTo 10) (by kernel_rfl))
  have f33 : a.tmps.getD 33 undef = _ := hI.off 33 (noDst_spec (p := upTo 10) (by kernel_rfl))
  have f34 : a.tmps.getD 34 undef = _ := hI.off 34 (noDst_spec (p := upTo 10) (by kernel_rfl))
  have f35 : a.tmps.getD 35 undef = _ := hI.off 35 (noDst_spec (p := upTo 10) (by kernel_rfl))
  have f36 : a.tmps.getD 36 undef = _ := hI.off 36 (noDst_spec (p := upTo 10) (by kernel_rfl))
  have f37 : a.tmps.getD 37 undef = _ := hI.off 37 (noDst_spec (p := upTo 10) (by kernel_rfl))
  have g8 : ((LitC wz.heap.size #[] 0 38)) u (a.tmps.getD 8 undef) := hI.val 0 _ 8 rfl rfl rfl
  have f9 : a.tmps.getD 9 undef = .pointer (some ⟨w.heap.size, 0, none⟩) := hI.val 1 _ 9 rfl rfl rfl
  have f10 : a.tmps.getD 10 undef = .slice sa sn sc := hI.val 2 _ 10 rfl rfl rfl
  have f11 : a.tmps.getD 11 undef = (.pointer (some ⟨p, 0, none⟩)) := hI.val 3 _ 11 rfl rfl rfl
  have f12 : a.tmps.getD 12 undef = .pointer (some ⟨p, 0, none⟩) := hI.val 4 _ 12 rfl rfl rfl
  have f13 : a.tmps.getD 13 undef = .pointer (some ⟨p, 0, none⟩) := hI.val 5 _ 13 rfl rfl rfl
  have f14 : a.tmps.getD 14 undef = .pointer (some ⟨p, 2, none⟩) := hI.val 6 _ 14 rfl rfl rfl
  have f15 : a.tmps.getD 15 undef = .slice V.al nl V.cl := hI.val 7 _ 15 rfl rfl rfl
  have f16 : a.tmps.getD 16 undef = .int .i64 (nl : Int) := hI.val 8 _ 16 rfl rfl rfl
  have g17 : ((fun u v => Own u wz.heap.size 4 v (bv (stateM C st rows 0)))) u (a.tmps.getD 17 undef) := hI.val 9 _ 17 rfl rfl rfl
  have ha : a = ⟨#[a.tmps.getD 0 undef, a.tmps.getD 1 undef, a.tmps.getD 2 undef, a.tmps.getD 3 undef, a.tmps.getD 4 undef, a.tmps.getD 5 undef, a.tmps.getD 6 undef, a.tmps.getD 7 undef, a.tmps.getD 8 undef, a.tmps.getD 9 undef, a.tmps.getD 10 undef, a.tmps.getD 11 undef, a.tmps.getD 12 undef, a.tmps.getD 13 undef, a.tmps.getD 14 undef, a.tmps.getD 15 undef, a.tmps.getD 16 undef, a.tmps.getD 17 undef, a.tmps.getD 18 undef, a.tmps.getD 19 undef, a.tmps.getD 20 undef, a.tmps.getD 21 undef, a.tmps.getD 22 undef, a.tmps.getD 23 undef, a.tmps.getD 24 undef, a.tmps.getD 25 undef, a.tmps.getD 26 undef, a.tmps.getD 27 undef, a.tmps.getD 28 undef, a.tmps.getD 29 undef, a.tmps.getD 30 undef, a.tmps.getD 31 undef, a.tmps.getD 32 undef, a.tmps.getD 33 undef, a.tmps.getD 34 undef, a.tmps.getD 35 undef, a.tmps.getD 36 undef, a.tmps.getD 37 undef], a.defers⟩ := act_list a 38 hsz
  rw [hdf, f0, f1, f2, f3, f4, f5, f6, f7, f9, f10, f11, f12, f13, f14, f15, f16, f18, f19, f20, f21, f22, f23, f24, f25, f26, f27, f28, f29, f30, f31, f32, f33, f34, f35, f36, f37] at ha
  obtain ⟨x8, hx8⟩ : ∃ x, a.tmps.getD 8 undef = x := ⟨_, rfl⟩
  obtain ⟨x17, hx17⟩ : ∃ x, a.tmps.getD 17 undef = x := ⟨_, rfl⟩
  rw [hx8, hx17] at ha
  rw [hx8] at g8
  rw [hx17] at g17
  have hku := hI.kp
  clear hI hsz hdf f0 f1 f2 f3 f4 f5 f6 f7 f9 f10 f11 f12 f13 f14 f15 f16 f18 f19 f20 f21 f22 f23 f24 f25 f26 f27 f28 f29 f30 f31 f32 f33 f34 f35 f36 f37 hx8 hx17
  subst ha
  refine wpAny_tail 10 rfl (by kernel_rfl) ?_
  simp only [List.drop_succ_cons, List.drop_zero]
  simp only [Array.getD_eq_getD_getElem?, List.getElem?_toArray, List.getElem?_cons_zero, List.getElem?_cons_succ, Option.getD_some]
  obtain ⟨g8_, rfl, hB8, hg8⟩ := g8
  have HKu := Lib.hid (HK0.out.trans hku (fun _ _ h => h))
  have HRu := Lib.hid (HRb.out.kp hku (fun h => h))
  have HSL := Lib.hid (show SL C st rows wz.heap.size 0 (.slice (some ⟨g8_, 0, none⟩) 0 0) x17 u from ⟨⟨[], Own.lit (cs := []) hB8 hg8 (Nat.zero_le _), rfl, fun j hj => by omega⟩, g17⟩)
  clear hB8 hg8 g17 hku HRb
  go_wp2_with fail
  go_loopw [5, 6, 7] (fun v5 v6 v7 wr => ∃ k : Nat, v7 = .int .i64 k ∧ k ≤ gn_ ∧ SL C st rows wz.heap.size k v5 v6 wr ∧ Kp (fun _ => False) w wr ∧ Blk wr w.heap.size #[.slice sa sn sc, .slice ga gn_ gc] 56) (fun _ _ v7 _ => gn_ - (intOf v7).toNat)
  case atStart => exact ⟨0, rfl, by omega, HSL.out, HKu.out, HRu.out⟩
  case round =>
    obtain ⟨k, rfl, hk, hL, hK, hR⟩ := hrel
    clear HSL HKu HRu
    obtain ⟨wp, rfl⟩ : ∃ wp : World, wp = wr := ⟨_, rfl⟩
    have HL := Lib.hid hL
    have HK := Lib.hid hK
    have HR := Lib.hid hR
    have r1 : wp.cell? ⟨w.heap.size, 1, none⟩ = some (.slice ga gn_ gc) := hR.cell rfl
    clear hL hK hR
    by_cases hlt : k < gn_
    · obtain ⟨⟨vs, h1, h2, h3⟩, h4⟩ := HL.out
      obtain ⟨a6, c6, e6, l6, m6, -, r6⟩ := h4.form
      rw [bv_length, stateM_len, HNl.out] at e6
      subst e6
      obtain ⟨gvs, hgr, hgl, hgk⟩ := HGs.out.row
      obtain ⟨b, m, d, eg, hbs⟩ := hgk k hlt
      obtain ⟨bg, og, ega, eg2⟩ := hgr k _ eg
      subst ega
      have i0 : (0 : Int) ≤ (k : Int) := by omega
      have i2 : (k : Int) < (gn_ : Int) := by omega
      have H1 := Lib.hid h1
      have H2 := Lib.hid h2
      have H3 := Lib.hid h3
      have H4 := Lib.hid h4
      have HEg := Lib.hid (fun u (hu : Kp (fun _ => False) w u) => hu.cellK eg2)
      have HBs := Lib.hid hbs
      have HNew := Lib.hid (Blk.new wp #[.slice a6 nl c6] 38)
      have HOw := Lib.hid (h1.alloc (.cells #[.slice a6 nl c6] 38))
      have hwzp : wz.heap.size ≤ wp.heap.size := by have := HR.out.lt; have := HLt.out; omega
      have HWz := Lib.hid hwzp
      clear h1 h2 h3 h4 hgr hgl hgk eg eg2 hbs hwzp r6
      go_wp2_with (at_builtin; refine wpList_append1_at rfl _ _ 54 38 rfl Tryz.underlying54 HIs.out rfl HOw.out rfl ⟨wp.heap.size, 0, none⟩ (.slice a6 nl c6) rfl (HNew.out.cell rfl) rfl ?d1 ?d2 ?d3 ?_)
      case d1 => rw [H2.out]; omega
      case d2 => rw [H2.out]; unfold maxLen; omega
      case d3 => have := HWz.out; simp; omega
      intro v' w2 hO3 hg2 hat2
      have hkg : Kp (fun j => u5.ownBlock = some j) (wp.alloc (.cells #[.slice a6 nl c6] 38)) w2 := (Kp.refl _ _).grown hg2 (fun j hj _ => hj)
      have hap : ∀ x cs, Own (wp.alloc (.cells #[.slice a6 nl c6] 38)) wz.heap.size 4 x cs → Own w2 wz.heap.size 4 x cs := fun x cs hx => hx.kp hkg (fun j hj h5 => by
        obtain ⟨c, hc⟩ := hx.rows.blkN hj
        obtain ⟨c', hc'⟩ := HOw.out.rows.blkN h5
        exact absurd (blkN_type hc hc') (by decide))
      have hK2 : Kp (fun _ => False) w w2 := (HK.out.alloc _).grown hg2 (fun j hj hl => by have := (H1.out.lt j hj).1; have := HLt.out; omega)
      have hR2 : Blk w2 w.heap.size #[.slice sa sn sc, .slice (some ⟨bg, og, none⟩) gn_ gc] 56 := (HR.out.alloc _).kp hkg (fun e => by have := (H1.out.lt _ e).1; have := HLt.out; omega)
      have h42 := hap _ _ (H4.out.alloc _)
      obtain ⟨a6', c6', e6', -, -, -, r62⟩ := h42.form
      simp only [Value.slice.injEq] at e6'
      obtain ⟨rfl, -, rfl⟩ := e6'
      have HNx := Lib.hid (ref17_Next V C p a4 a5 c4 c5 a6 nl c6 b m d (stateM C st rows k) (rows[k]?.getD []) w2 (HM.out.kp hK2) HF.out HG.out ⟨r62, by rw [stateM_len]; exact HNl.out, by omega⟩ (HBs.out.kp hK2))
      have HS2 := Lib.hid (show Own w2 wz.heap.size 38 v' (vs ++ [.slice a6 nl c6]) ∧ (∀ j, j < k → ∃ x, vs[j]? = some x ∧ Own w2 wz.heap.size 4 x (bv (stateM C st rows j))) ∧ Own w2 wz.heap.size 4 (.slice a6 nl c6) (bv (stateM C st rows k)) from
        ⟨hO3, fun j hj => by obtain ⟨x, e, hx⟩ := H3.out j hj; exact ⟨x, e, hap _ _ (hx.alloc _)⟩, h42⟩)
      have HK2 := Lib.hid hK2
      have HR2 := Lib.hid hR2
      have r1 := hR2.cell (i := 1) (v := .slice (some ⟨bg, og, none⟩) gn_ gc) rfl
      have eg := HEg.out _ hK2
      have HWz2 := Lib.hid (show wz.heap.size ≤ w2.heap.size by have := hkg.size; have := HWz.out; simp at *; omega)
      clear hO3 hg2 hat2 hkg hap hK2 hR2 h42 r62 HNew HOw
      go_wp2_with (go_at_call 46; with_reducible refine Calls.mono HNx.out ?_; rintro e w3 ⟨v3, rfl, hO3, hK3⟩)
      have HS3 := Lib.hid (show SL C st rows wz.heap.size (k + 1) v' v3 w3 ∧ Kp (fun _ => False) w w3 ∧ Blk w3 w.heap.size #[.slice sa sn sc, .slice (some ⟨bg, og, none⟩) gn_ gc] 56 from by
        obtain ⟨q1, q2, q3⟩ := HS2.out
        refine ⟨⟨⟨vs ++ [.slice a6 nl c6], q1.kp hK3 (fun _ _ h => h), by rw [List.length_append, H2.out]; rfl, fun j hj => ?_⟩, hO3.mono HWz2.out⟩, HK2.out.trans hK3 (fun _ _ h => h), HR2.out.kp hK3 (fun h => h)⟩
        by_cases e : j < k
        · obtain ⟨x, ex, hx⟩ := q2 j e
          exact ⟨x, by rw [List.getElem?_append_left (by rw [H2.out]; exact e)]; exact ex, hx.kp hK3 (fun _ _ h => h)⟩
        · obtain rfl : j = k := by omega
          exact ⟨_, by rw [List.getElem?_append_right (by rw [H2.out]; exact Nat.le_refl _), H2.out, Nat.sub_self]; rfl, q3.kp hK3 (fun _ _ h => h)⟩)
      clear hO3 hK3
      go_wp2_with fail
      go_roundw
      case rel => exact ⟨k + 1, by go_num, by omega, HS3.out⟩
      case measure => simp [intOf]; omega
    · obtain rfl : k = gn_ := by omega
      have HE := Lib.hid (show SL C st rows w.heap.size k u5 u6 wp from by
        obtain ⟨⟨vs, h1, h2, h3⟩, h4⟩ := HL.out
        have hle := HLt.out
        exact ⟨⟨vs, h1.mono (by omega), h2, fun j hj => by obtain ⟨x, e, hx⟩ := h3 j hj; exact ⟨x, e, hx.mono (by omega)⟩⟩, h4.mono (by omega)⟩)
      go_wp2_with fail
      go_ret
      exact ⟨_, rfl, ⟨_, HE.out⟩, HK.out⟩

end Go.Proofs.YtnoknecfdnjomaaGreat

/-
  circ.Net.
-/
namespace Go.Proofs.YtnoknecfdnjomaaGreat
open Go.RowKit

/-- the places before anything is put: the first k are none -/
def blank (m k : Nat) : List Int := 0 :: (List.replicate k (-1) ++ List.replicate (m - k) 0)
theorem blank_zero (m : Nat) : blank m 0 = List.replicate (m + 1) 0 := by unfold blank; simp [List.replicate_succ]
theorem blank_step {m k : Nat} (h : k < m) : (blank m k).set (k + 1) (-1) = blank m (k + 1) := by
  unfold blank
  rw [List.set_cons_succ, List.set_append_right _ _ (by simp)]
  simp only [List.length_replicate, Nat.sub_self]
  rw [show m - k = (m - (k + 1)) + 1 by omega, List.replicate_succ, List.set_cons_zero, List.replicate_succ']
  simp
theorem blank_full (m : Nat) : blank m m = 0 :: List.replicate m (-1) := by unfold blank; simp
theorem iv_rep (n : Nat) : iv (List.replicate n 0) = rowF (fun _ => .int .i64 0) n := by
  unfold iv rowF
  rw [List.map_replicate]
  apply List.ext_getElem
  · simp
  · intro i h1 h2; simp

set_option maxRecDepth 100000 in
set_option maxHeartbeats 4000000 in
theorem circ_Net (V : CV) (C : Circ) (w : World) (h : CAt w V C) (hf : CFew C 1000000) (hg : GoodC C) :
    Calls Tryz.prog 59 #[.agg (cvals V C)] w fun e w' => ∃ v4 v5, e = .returned (.tuple #[v4, v5]) ∧ OwnK w' w.heap.size 102 2 v4 ((netOf C).1.map pr2) ∧ Own w' w.heap.size 3 v5 (iv (netOf C).2) ∧ Kp (fun _ => False) w w' := by
  obtain ⟨m, hm⟩ : ∃ m, MX C = m := ⟨_, rfl⟩
  obtain ⟨ni, hni⟩ : ∃ n, C.ins.length = n := ⟨_, rfl⟩
  obtain ⟨nl, hnl⟩ : ∃ n, C.lats.length = n := ⟨_, rfl⟩
  obtain ⟨ng, hng⟩ : ∃ n, C.gates.length = n := ⟨_, rfl⟩
  have hmi : C.max = (m : Int) := by rw [← hm]; exact hg.mx.symm
  have hm1 : m ≤ 16777216 := by have := hg.rng.max1; omega
  have hi1 : ni ≤ 1000000 := by have := hf.i; omega
  have hl1 : nl ≤ 1000000 := by have := hf.l; omega
  have hg1 : ng ≤ 1000000 := by have := hf.g; omega
  obtain ⟨i0, hi, hz0, hz1, hz2⟩ := info_parts (show (Tryz.prog.info? 3).map (fun i => (i.zero, i.size, i.bytes)) = some (some (.int .i64 0), 1, 8) by kernel_rfl)
  have hmk : ∀ u : World, (Instr.makeSlice 22 (.int .i64 ((m : Int) + 1)) (.int .i64 ((m : Int) + 1))).run Tryz.prog u =
      .ok (.slice (some ⟨u.heap.size, 0, none⟩) (m + 1) (m + 1)) (u.alloc (.cells (madeCells #[.int .i64 0] (m + 1)) 3)) := fun u => by
    have h := run_make (P := Tryz.prog) u 22 3 i0 (.int .i64 0) Tryz.underlying22 hi hz0 .i64 .i64 ((m + 1 : Nat) : Int) ((m + 1 : Nat) : Int) (by omega) (Int.le_refl _) (by rw [hz2]; omega) (by omega)
    simpa [hz1, Value.cells] using h
  clear hi hz0 hz1 hz2 i0
  have HU : Hid (cvals V C = #[.int .i64 (m : Int), .slice V.ai ni V.ci, .slice V.al nl V.cl, .slice V.ao C.outs.length V.co, .slice V.ab C.bads.length V.cb, .slice V.ac C.cons.length V.cc, .slice V.ag ng V.cg, .slice V.ay V.ny V.cy, .string V.cm]) := Lib.hid (by unfold cvals; rw [hmi, hni, hnl, hng])
  have HA := Lib.hid h
  have HF := Lib.hid hf
  have HG := Lib.hid hg
  have HMi := Lib.hid hmi
  have HNi := Lib.hid hni
  have HNl := Lib.hid hnl
  have HNg := Lib.hid hng
  obtain ⟨wa, hwa⟩ : ∃ wa : World, wa = w.alloc (.cells (cvals V C) 27) := ⟨_, rfl⟩
  obtain ⟨wz, hwz⟩ : ∃ wz : World, wz = ((wa.alloc (.cells #[.slice none 0 0] 77)).alloc (.cells (madeCells #[.int .i64 0] (m + 1)) 3)).alloc (.cells #[.slice (some ⟨wa.heap.size + 1, 0, none⟩) (m + 1) (m + 1)] 22) := ⟨_, rfl⟩
  have hws : wa.heap.size = w.heap.size + 1 := by rw [hwa]; simp
  have hCa : Blk wa w.heap.size (cvals V C) 27 := by rw [hwa]; exact Blk.new _ _ _
  have hKa : Kp (fun _ => False) w wa := by rw [hwa]; exact (Kp.refl _ w).alloc _
  have c0 : (wa.alloc (.cells #[.slice none 0 0] 77)).cell? ⟨w.heap.size, 0, none⟩ = some (.int .i64 (m : Int)) := (hCa.alloc _).cell (by rw [HU.out]; rfl)
  have HM0 : Hid (NP V C w (w.heap.size + 1) (wa.heap.size + 1 + 1) (wa.heap.size + 1) (m + 1) (m + 1) ([], blank m 0) (.slice none 0 0) wz) := Lib.hid (by
    rw [hwz, ← hws]
    have hB2 : Blk ((wa.alloc (.cells #[.slice none 0 0] 77)).alloc (.cells (madeCells #[.int .i64 0] (m + 1)) 3)) (wa.heap.size + 1) (madeCells #[.int .i64 0] (m + 1)) 3 := two_blk _ _ _ _ _
    refine ⟨OwnK.nil _ _ _ _, ?_, ((Blk.new wa _ _).alloc _).alloc _, ?_, ((hCa.alloc _).alloc _).alloc _, ((hKa.alloc _).alloc _).alloc _, by omega, by omega⟩
    · show Own _ _ _ _ (iv (blank m 0))
      rw [blank_zero, iv_rep]
      have hl : (rowF (fun _ => Value.int .i64 0) (m + 1)).length = m + 1 := rowF_length _ _
      have := Own.lit (base := w.heap.size + 1) (cs := rowF (fun _ => Value.int .i64 0) (m + 1)) (by rw [← made_row]; exact hB2.alloc (.cells #[.slice (some ⟨wa.heap.size + 1, 0, none⟩) (m + 1) (m + 1)] 22)) (by omega) (by rw [hl]; unfold maxLen; omega)
      rw [hl] at this
      exact this
    · have := Blk.new ((wa.alloc (.cells #[.slice none 0 0] 77)).alloc (.cells (madeCells #[.int .i64 0] (m + 1)) 3)) #[.slice (some ⟨wa.heap.size + 1, 0, none⟩) (m + 1) (m + 1)] 22
      simpa using this)
  have HZa := Lib.hid hwa
  have HZ := Lib.hid hwz
  clear h hf hg hm hmi hni hnl hng hwz hwa hws hCa hKa
  go_enter Tryz.func59, Tryz.ntmps59
  go_upto_region 2 with fail
  rw [← HZa.out]
  go_upto_region 3 with fail
  rw [← HZ.out]
  generalize wa.heap.size + 1 + 1 = ba at HM0 ⊢
  generalize wa.heap.size + 1 = g at HM0 ⊢
  generalize w.heap.size + 1 = bn at HM0 ⊢
  clear HZ HZa c0 hmk
  go_wp2_with fail
  go_loopw [6] (fun v6 wr => ∃ k : Nat, v6 = .int .i64 ((k : Int) + 1) ∧ k ≤ m ∧ NP V C w bn ba g (m + 1) (m + 1) ([], blank m k) (.slice none 0 0) wr) (fun v6 _ => m + 1 - (intOf v6).toNat)
  case atStart => exact ⟨0, rfl, by omega, HM0.out⟩
  case round =>
    obtain ⟨k, rfl, hk, hM⟩ := hrel
    clear HM0
    obtain ⟨wp, rfl⟩ : ∃ wp : World, wp = wr := ⟨_, rfl⟩
    have HM := Lib.hid hM
    have ca := hM.cells.2.2.2
    by_cases hlt : k < m
    · have i0 : (k : Int) + 1 < ((m + 1 : Nat) : Int) := by omega
      have i1 : (0 : Int) ≤ (k : Int) + 1 := by omega
      have ck := hM.cells.1 (k + 1) (by omega)
      have fk := hM.cells.2.1 (k + 1)
      have HM2 := Lib.hid (hM.put (k + 1) (-1))
      clear hM
      go_wp2_with fail
      go_roundw
      case rel => exact ⟨k + 1, by go_num, by omega, by have := HM2.out; rw [blank_step hlt] at this; exact this⟩
      case measure => simp [intOf]; omega
    · obtain rfl : k = m := by omega
      have i0 : ¬ (k : Int) + 1 < ((k + 1 : Nat) : Int) := by omega
      have hM1 : NP V C w bn ba g (k + 1) (k + 1) (netI C 0) (.slice none 0 0) wp := by
        have := HM.out
        have e : netI C 0 = ([], blank k k) := by unfold netI net0; rw [HMi.out, blank_full]; rfl
        rw [e]; exact this
      have HM1 := Lib.hid hM1
      have c1 := hM1.circ.cell (i := 1) (v := .slice V.ai ni V.ci) (by rw [HU.out]; rfl)
      clear hM hM1 HM
      have hmf : ∀ (fn : Fn) (first cap : Array Value) (w : World), (Instr.makeFunc fn first cap).run Tryz.prog w = .ok (.func fn first cap) w := fun _ _ _ _ => rfl
      go_wp2_with fail
      clear ca
      go_loopw [33] (fun v33 wr => ∃ q : Nat, v33 = .int .i64 (q : Int) ∧ q ≤ ni ∧ ∃ v4, NP V C w bn ba g (k + 1) (k + 1) (netI C q) v4 wr) (fun v33 _ => ni - (intOf v33).toNat)
      case atStart => exact ⟨0, rfl, by omega, _, HM1.out⟩
      case round =>
        obtain ⟨q, rfl, hq, v4, hM⟩ := hrel
        clear HM1 hlt i0 c1
        obtain ⟨wq, rfl⟩ : ∃ wp : World, wp = wr := ⟨_, rfl⟩
        have HM := Lib.hid hM
        clear hM
        by_cases hlt : q < ni
        · have hql : q < C.ins.length := by rw [HNi.out]; exact hlt
          obtain ⟨b, off, ea, hE⟩ := HA.out.inCell hql
          have hr := HG.out.rng.own (gi C.ins q) (in_own hql)
          rw [HMi.out] at hr
          have HS := Lib.hid (netI_succ hql)
          have HL := Lib.hid (netI_len C q (by omega))
          obtain ⟨x0, hx0⟩ : ∃ x, gi C.ins q = x := ⟨_, rfl⟩
          rw [hx0] at hE hr HS
          have e0 := hE _ HM.out.kp
          have HR := Lib.hid hr
          have i0 : (0 : Int) ≤ (q : Int) := by omega
          have i2 : (q : Int) < (ni : Int) := by omega
          rw [ea]
          clear hx0 ea hr hE hql
          go_wp2_with (go_at_call 81; refine (net_f1 V C w bn ba g (k + 1) (k + 1) q (netI C q) v4 x0 (-1) 0 _ HM.out HL.out (by omega) (by have := HR.out; omega) (by have := HR.out; omega) (by omega)).mono ?_; rintro e w2 ⟨rfl, ⟨v', hP⟩, -⟩)
          have HP := Lib.hid hP
          clear hP e0
          go_wp2_with fail
          go_roundw
          case rel => exact ⟨q + 1, by go_num, by omega, v', by rw [HS.out]; exact HP.out⟩
          case measure => simp [intOf]; omega
        · obtain rfl : q = ni := by omega
          obtain ⟨w3, rfl⟩ : ∃ w3 : World, w3 = wq := ⟨_, rfl⟩
          have HM1 := Lib.hid (show NP V C w bn ba g (k + 1) (k + 1) (netL C 0) v4 w3 by rw [netL_zero, HNi.out]; exact HM.out)
          have c2 := HM1.out.circ.cell (i := 2) (v := .slice V.al nl V.cl) (by rw [HU.out]; rfl)
          clear HM
          go_wp2_with fail
          go_loopw [45] (fun v45 wr => ∃ p : Nat, v45 = .int .i64 (p : Int) ∧ p ≤ nl ∧ ∃ v4, NP V C w bn ba g (k + 1) (k + 1) (netL C p) v4 wr) (fun v45 _ => nl - (intOf v45).toNat)
          case atStart => exact ⟨0, rfl, by omega, _, HM1.out⟩
          case round =>
            obtain ⟨p, rfl, hp, v4, hM⟩ := hrel
            clear HM1 hlt c2
            obtain ⟨wx, rfl⟩ : ∃ wp : World, wp = wr := ⟨_, rfl⟩
            have HM := Lib.hid hM
            clear hM
            by_cases hlt : p < nl
            · have hql : p < C.lats.length := by rw [HNl.out]; exact hlt
              obtain ⟨b, off, ea, hE⟩ := HA.out.latCell hql
              have hr := HG.out.rng.own _ (lat_own hql)
              rw [HMi.out] at hr
              have HS := Lib.hid (netL_succ hql)
              have HL := Lib.hid (show (netL C p).1.length = q + p by rw [netL_len C p (by omega), HNi.out])
              obtain ⟨x0, hx0⟩ : ∃ x, (g3 C.lats p).1 = x := ⟨_, rfl⟩
              obtain ⟨x1, hx1⟩ : ∃ x, (g3 C.lats p).2.1 = x := ⟨_, rfl⟩
              obtain ⟨x2, hx2⟩ : ∃ x, (g3 C.lats p).2.2 = x := ⟨_, rfl⟩
              rw [hx0, hx1, hx2] at hE
              rw [hx0] at hr HS
              obtain ⟨e0, e1, e2⟩ := hE _ HM.out.kp
              have HR := Lib.hid hr
              have i0 : (0 : Int) ≤ (p : Int) := by omega
              have i2 : (p : Int) < (nl : Int) := by omega
              have hnb := (Blk.new wx #[.int .i64 x0, .int .i64 x1, .int .i64 x2] 64).cell (i := 0) (v := .int .i64 x0) rfl
              have HMa := Lib.hid (HM.out.fr ((Kp.refl _ wx).alloc (.cells #[.int .i64 x0, .int .i64 x1, .int .i64 x2] 64)))
              rw [ea]
              clear hx0 hx1 hx2 ea hr hE hql
              go_wp2_with (go_at_call 81; refine (net_f1 V C w bn ba g (k + 1) (k + 1) (q + p) (netL C p) v4 x0 (-1) 0 _ HMa.out HL.out (by omega) (by have := HR.out; omega) (by have := HR.out; omega) (by omega)).mono ?_; rintro e w2 ⟨rfl, ⟨v', hP⟩, -⟩)
              have HP := Lib.hid hP
              clear hP e0 e1 e2 hnb
              go_wp2_with fail
              go_roundw
              case rel => exact ⟨p + 1, by go_num, by omega, v', by rw [HS.out]; exact HP.out⟩
              case measure => simp [intOf]; omega
            · obtain rfl : p = nl := by omega
              have HM1 := Lib.hid (show NP V C w bn ba g (k + 1) (k + 1) (netG C 0) v4 wx by rw [netG_zero, HNl.out]; exact HM.out)
              obtain ⟨no, hno⟩ : ∃ g, (ordO C.gates).length = g := ⟨_, rfl⟩
              have hno1 : no ≤ ng := by rw [← HNg.out, ← hno]; exact (ordO_at C.gates).len
              have HO := Lib.hid (show ∀ u, Kp (fun _ => False) w u → Calls Tryz.prog 76 #[.agg #[.int .i64 (k : Int), .slice V.ai q V.ci, .slice V.al p V.cl, .slice V.ao C.outs.length V.co, .slice V.ab C.bads.length V.cb, .slice V.ac C.cons.length V.cc, .slice V.ag ng V.cg, .slice V.ay V.ny V.cy, .string V.cm]] u fun e u' => (∃ a c, e = .returned (.slice a no c) ∧ Own u' u.heap.size 3 (.slice a no c) (nv (ordO C.gates))) ∧ Kp (fun _ => False) u u' from fun u hu => by
                have hor := (circ_Order V C u (HA.out.kp hu) HF.out.g (HG.out.rng.good HG.out.nd) (fun i hi => by
                  have h1 := HG.out.rng.own _ (gate_own hi)
                  have h2 := HG.out.rng.use _ (gate_useA hi)
                  have h3 := HG.out.rng.use _ (gate_useB hi)
                  have h4 := HMi.out
                  omega)).mono (R' := fun e u' => (∃ a c, e = .returned (.slice a no c) ∧ Own u' u.heap.size 3 (.slice a no c) (nv (ordO C.gates))) ∧ Kp (fun _ => False) u u') (by
                    rintro e u' ⟨v, rfl, hO, hK⟩
                    obtain ⟨a, c, e, -⟩ := hO.form
                    rw [nv_length, hno] at e
                    subst e
                    exact ⟨⟨a, c, rfl, hO⟩, hK⟩)
                rw [HU.out] at hor
                exact hor)
              have HNo := Lib.hid hno
              obtain ⟨d0, d1, d2, d3, d4, d5, d6, d7, d8⟩ := Blk.cells9 (show Blk wx w.heap.size #[.int .i64 (k : Int), .slice V.ai q V.ci, .slice V.al p V.cl, .slice V.ao C.outs.length V.co, .slice V.ab C.bads.length V.cb, .slice V.ac C.cons.length V.cc, .slice V.ag ng V.cg, .slice V.ay V.ny V.cy, .string V.cm] 27 by have := HM.out.circ; rw [HU.out] at this; exact this)
              clear HM hno
              go_wp2_with (go_at_call 76; refine (HO.out _ HM1.out.kp).mono ?_; rintro e w9 ⟨⟨a9, c9, rfl, hO9⟩, hK9⟩)
              have HM9 := Lib.hid (HM1.out.fr hK9)
              have HO9 := Lib.hid (show Own w9 wx.heap.size 3 (.slice a9 no c9) (nv (ordO C.gates)) from hO9)
              have HG5 := Lib.hid (show g < wx.heap.size ∧ bn < wx.heap.size from ⟨(HM1.out.a.lt g rfl).2, HM1.out.xn.lt⟩)
              clear hO9 hK9 d0 d1 d2 d3 d4 d5 d6 d7 d8 HM1 HO
              go_wp2_with fail
              go_loopw [59] (fun v59 wr => ∃ r : Nat, v59 = .int .i64 (r : Int) ∧ r ≤ no ∧ (∃ v4, NP V C w bn ba g (k + 1) (k + 1) (netG C r) v4 wr) ∧ Own wr wx.heap.size 3 (.slice a9 no c9) (nv (ordO C.gates))) (fun v59 _ => no - (intOf v59).toNat)
              case atStart => exact ⟨0, rfl, by omega, ⟨_, HM9.out⟩, HO9.out⟩
              case round =>
                obtain ⟨r, rfl, hrk, ⟨v5, hM⟩, hO⟩ := hrel
                clear HM9 HO9 hlt
                obtain ⟨wy, rfl⟩ : ∃ wp : World, wp = wr := ⟨_, rfl⟩
                have HM := Lib.hid hM
                have HO := Lib.hid hO
                have c6 := hM.circ.cell (i := 6) (v := .slice V.ag ng V.cg) (by rw [HU.out]; rfl)
                clear hM hO
                by_cases hlt : r < no
                · have hol : r < (ordO C.gates).length := by rw [HNo.out]; exact hlt
                  obtain ⟨t, ht⟩ : ∃ t, gno (ordO C.gates) r = t := ⟨_, rfl⟩
                  have htn := turn_ok HG.out hol
                  rw [ht] at htn
                  obtain ⟨htg, hdA, hdB⟩ := htn
                  have hinv := netG_inv HG.out r (by omega)
                  have rA := HG.out.rng.use _ (gate_useA htg)
                  have rB := HG.out.rng.use _ (gate_useB htg)
                  have rO := HG.out.rng.own _ (gate_own htg)
                  rw [HMi.out] at rA rB rO
                  have hmx := HG.out.mx
                  rw [HMi.out] at hmx
                  have hmk : MX C = k := by omega
                  rw [hmk] at hinv
                  have hLn := netG_len C r (by omega)
                  rw [HNi.out, HNl.out] at hLn
                  have hS := netG_succ hol
                  rw [ht] at hS
                  have hno9 : (nv (ordO C.gates))[r]? = some (.int .i64 (t : Int)) := by
                    have h1 := nv_at hol
                    have h2 : gn (ordO C.gates) r = t := ht
                    rw [h2] at h1; exact h1
                  obtain ⟨a9', c9', ev9, -, -, -, hrow9⟩ := HO.out.form
                  simp only [Value.slice.injEq] at ev9
                  obtain ⟨rfl, -, rfl⟩ := ev9
                  obtain ⟨bo, offo, ea9, eo⟩ := hrow9 r _ hno9
                  obtain ⟨b, off, ea, hE⟩ := HA.out.gateCell htg
                  have hAx := ofL_ok hinv rA.1 (by omega) hdA
                  have hBx := ofL_ok hinv rB.1 (by omega) hdB
                  have hvA := hinv.val ((g3 C.gates t).2.1 / 2).toNat (by omega)
                  have hvB := hinv.val ((g3 C.gates t).2.2 / 2).toNat (by omega)
                  obtain ⟨x0, hx0⟩ : ∃ x, (g3 C.gates t).1 = x := ⟨_, rfl⟩
                  obtain ⟨x1, hx1⟩ : ∃ x, (g3 C.gates t).2.1 = x := ⟨_, rfl⟩
                  obtain ⟨x2, hx2⟩ : ∃ x, (g3 C.gates t).2.2 = x := ⟨_, rfl⟩
                  rw [hx0] at rO hE
                  rw [hx1] at rA hE hAx hvA
                  rw [hx2] at rB hE hBx hvB
                  have HS := Lib.hid (show netG C (r + 1) = putN (netG C r) x0 (ofN (netG C r).2 x1, ofN (netG C r).2 x2) by rw [hS]; unfold gateN; rw [hx0, hx1, hx2])
                  have HA1 := Lib.hid (show 0 ≤ x1 ∧ (x1 / 2).toNat < k + 1 ∧ 0 ≤ gi (netG C r).2 (x1 / 2).toNat ∧ gi (netG C r).2 (x1 / 2).toNat % 2 = 0 ∧ gi (netG C r).2 (x1 / 2).toNat ≤ 1000000000 from ⟨rA.1, by omega, hAx.1, hAx.2.1, by omega⟩)
                  have HB1 := Lib.hid (show 0 ≤ x2 ∧ (x2 / 2).toNat < k + 1 ∧ 0 ≤ gi (netG C r).2 (x2 / 2).toNat ∧ gi (netG C r).2 (x2 / 2).toNat % 2 = 0 ∧ gi (netG C r).2 (x2 / 2).toNat ≤ 1000000000 from ⟨rB.1, by omega, hBx.1, hBx.2.1, by omega⟩)
                  have HLn := Lib.hid hLn
                  have HR := Lib.hid (show 0 ≤ x0 ∧ (x0 / 2).toNat < k + 1 from ⟨by omega, by omega⟩)
                  obtain ⟨e0, e1, e2⟩ := hE _ HM.out.kp
                  have t0 : (0 : Int) ≤ (t : Int) := by omega
                  have t1 : (t : Int) < (ng : Int) := by have := HNg.out; omega
                  have r0 : (0 : Int) ≤ (r : Int) := by omega
                  have r1 : (r : Int) < (no : Int) := by omega
                  rw [ea] at c6
                  subst ea9
                  have HEA := Lib.hid ea
                  clear ea hE hrow9 hno9 hS hx0 hx1 hx2 hAx hBx hvA hvB rA rB rO hLn hinv hmx hmk hdA hdB htg ht hol
                  go_upto_region 23 with fail
                  have HGb := Lib.hid (Blk.new wy #[.int .i64 x0, .int .i64 x1, .int .i64 x2] 95)
                  have HM2 := Lib.hid (HM.out.fr ((Kp.refl _ wy).alloc (.cells #[.int .i64 x0, .int .i64 x1, .int .i64 x2] 95)))
                  have HO2 := Lib.hid (HO.out.alloc (.cells #[.int .i64 x0, .int .i64 x1, .int .i64 x2] 95))
                  clear HM HO e0 e1 e2 eo c6
                  have HM := HM2
                  clear HM2
                  generalize hwv : wy.alloc (.cells #[.int .i64 x0, .int .i64 x1, .int .i64 x2] 95) = wv at HGb HM HO2 ⊢
                  generalize hgb : wy.heap.size = gb at HGb ⊢
                  refine wp_region_loose (p := upTo 12) (V := atV [EqV ((.func (.func 81) #[] #[.pointer (some ⟨bn, 0, none⟩), .pointer (some ⟨ba, 0, none⟩)])), EqV (.pointer (some ⟨gb, 0, none⟩)), EqV (.int .i64 x0), EqV ((.func (.func 82) #[] #[.pointer (some ⟨ba, 0, none⟩)])), EqV (.pointer (some ⟨gb, 1, none⟩)), EqV (.int .i64 x1), EqV (.int .i64 (ofN (netG C r).2 x1)), EqV ((.func (.func 82) #[] #[.pointer (some ⟨ba, 0, none⟩)])), EqV (.pointer (some ⟨gb, 2, none⟩)), EqV (.int .i64 x2), EqV (.int .i64 (ofN (netG C r).2 x2)), EqV (.agg #[.int .i64 (ofN (netG C r).2 x1), .int .i64 (ofN (netG C r).2 x2)])]) (LP := #[true, true, true, true, true, true, true, true, true, true, true, true, false]) (K := 1) (by kernel_rfl) (by kernel_rfl) (atV_st ?hstL23) ?hstepL23 (by kernel_rfl) ?hLPL23 (by kernel_rfl) ?hendL23
                  case hstL23 =>
                    intro W h
                    simp only [List.mem_cons, List.not_mem_nil, or_false] at h
                    rcases h with rfl | rfl | rfl | rfl | rfl | rfl | rfl | rfl | rfl | rfl | rfl | rfl <;> first | exact EqV.st _ | exact EqV.st _
                  case hLPL23 => exact upTo_spec (by kernel_rfl)
                  case hstepL23 =>
                    intro i o ho hp a u hk hoff hdep
                    have e7 : a.tmps[7]?.getD undef = (.func (.func 81) #[] #[.pointer (some ⟨bn, 0, none⟩), .pointer (some ⟨ba, 0, none⟩)]) := slot_at (hoff 7 (noDst_spec (by kernel_rfl)))
                    have e12 : a.tmps[12]?.getD undef = (.func (.func 82) #[] #[.pointer (some ⟨ba, 0, none⟩)]) := slot_at (hoff 12 (noDst_spec (by kernel_rfl)))
                    have e15 : a.tmps[15]?.getD undef = (.pointer (some ⟨gb, 0, none⟩)) := slot_at (hoff 15 (noDst_spec (by kernel_rfl)))
                    clear hoff
                    match i, ho with
                    | 0, ho =>
                      obtain rfl := Option.some.inj ho
                      refine lw_value (v := (.func (.func 81) #[] #[.pointer (some ⟨bn, 0, none⟩), .pointer (some ⟨ba, 0, none⟩)])) (u' := u) ?_ (Kp.refl _ _) rfl
                      go_simp
                    | 1, ho =>
                      obtain rfl := Option.some.inj ho
                      refine lw_value (v := .pointer (some ⟨gb, 0, none⟩)) (u' := u) ?_ (Kp.refl _ _) rfl
                      go_simp
                    | 2, ho =>
                      obtain rfl := Option.some.inj ho
                      have e69 : a.tmps[69]?.getD undef = .pointer (some ⟨gb, 0, none⟩) := slot_at (hdep ⟨1, .data⟩ (by simp) rfl _ 69 rfl rfl)
                      have c1 := (HGb.out.kp hk (fun h => h)).cell (i := 0) (v := .int .i64 x0) rfl
                      refine lw_value (v := .int .i64 x0) (u' := u) ?_ (Kp.refl _ _) rfl
                      go_simp
                    | 3, ho =>
                      obtain rfl := Option.some.inj ho
                      refine lw_value (v := (.func (.func 82) #[] #[.pointer (some ⟨ba, 0, none⟩)])) (u' := u) ?_ (Kp.refl _ _) rfl
                      go_simp
                    | 4, ho =>
                      obtain rfl := Option.some.inj ho
                      refine lw_value (v := .pointer (some ⟨gb, 1, none⟩)) (u' := u) ?_ (Kp.refl _ _) rfl
                      go_simp
                    | 5, ho =>
                      obtain rfl := Option.some.inj ho
                      have e72 : a.tmps[72]?.getD undef = .pointer (some ⟨gb, 1, none⟩) := slot_at (hdep ⟨4, .data⟩ (by simp) rfl _ 72 rfl rfl)
                      have c1 := (HGb.out.kp hk (fun h => h)).cell (i := 1) (v := .int .i64 x1) rfl
                      refine lw_value (v := .int .i64 x1) (u' := u) ?_ (Kp.refl _ _) rfl
                      go_simp
                    | 6, ho =>
                      obtain rfl := Option.some.inj ho
                      have e71 : a.tmps[71]?.getD undef = (.func (.func 82) #[] #[.pointer (some ⟨ba, 0, none⟩)]) := slot_at (hdep ⟨3, .data⟩ (by simp) rfl _ 71 rfl rfl)
                      have e73 : a.tmps[73]?.getD undef = .int .i64 x1 := slot_at (hdep ⟨5, .data⟩ (by simp) rfl _ 73 rfl rfl)
                      refine lw_call (f := 82) (args := #[.int .i64 x1, .pointer (some ⟨ba, 0, none⟩)]) ?_ ?_
                      · go_simp
                      · exact (net_f2 ba g (k + 1) (k + 1) (netG C r).2 x1 u (hk.cellK HM.out.cells.2.2.2) (by omega) (fun j hj => hk.cellK (HM.out.cells.1 j hj)) HA1.out.1 HA1.out.2.1 HA1.out.2.2).mono (by
                          rintro e u' ⟨rfl, rfl⟩
                          exact ⟨_, rfl, Kp.refl _ _, rfl⟩)
                    | 7, ho =>
                      obtain rfl := Option.some.inj ho
                      refine lw_value (v := (.func (.func 82) #[] #[.pointer (some ⟨ba, 0, none⟩)])) (u' := u) ?_ (Kp.refl _ _) rfl
                      go_simp
                    | 8, ho =>
                      obtain rfl := Option.some.inj ho
                      refine lw_value (v := .pointer (some ⟨gb, 2, none⟩)) (u' := u) ?_ (Kp.refl _ _) rfl
                      go_simp
                    | 9, ho =>
                      obtain rfl := Option.some.inj ho
                      have e76 : a.tmps[76]?.getD undef = .pointer (some ⟨gb, 2, none⟩) := slot_at (hdep ⟨8, .data⟩ (by simp) rfl _ 76 rfl rfl)
                      have c1 := (HGb.out.kp hk (fun h => h)).cell (i := 2) (v := .int .i64 x2) rfl
                      refine lw_value (v := .int .i64 x2) (u' := u) ?_ (Kp.refl _ _) rfl
                      go_simp
                    | 10, ho =>
                      obtain rfl := Option.some.inj ho
                      have e75 : a.tmps[75]?.getD undef = (.func (.func 82) #[] #[.pointer (some ⟨ba, 0, none⟩)]) := slot_at (hdep ⟨7, .data⟩ (by simp) rfl _ 75 rfl rfl)
                      have e77 : a.tmps[77]?.getD undef = .int .i64 x2 := slot_at (hdep ⟨9, .data⟩ (by simp) rfl _ 77 rfl rfl)
                      refine lw_call (f := 82) (args := #[.int .i64 x2, .pointer (some ⟨ba, 0, none⟩)]) ?_ ?_
                      · go_simp
                      · exact (net_f2 ba g (k + 1) (k + 1) (netG C r).2 x2 u (hk.cellK HM.out.cells.2.2.2) (by omega) (fun j hj => hk.cellK (HM.out.cells.1 j hj)) HB1.out.1 HB1.out.2.1 HB1.out.2.2).mono (by
                          rintro e u' ⟨rfl, rfl⟩
                          exact ⟨_, rfl, Kp.refl _ _, rfl⟩)
                    | 11, ho =>
                      obtain rfl := Option.some.inj ho
                      have e74 : a.tmps[74]?.getD undef = .int .i64 (ofN (netG C r).2 x1) := slot_at (hdep ⟨6, .data⟩ (by simp) rfl _ 74 rfl rfl)
                      have e78 : a.tmps[78]?.getD undef = .int .i64 (ofN (netG C r).2 x2) := slot_at (hdep ⟨10, .data⟩ (by simp) rfl _ 78 rfl rfl)
                      refine lw_value (v := .agg #[.int .i64 (ofN (netG C r).2 x1), .int .i64 (ofN (netG C r).2 x2)]) (u' := u) ?_ (Kp.refl _ _) rfl
                      go_simp
                    | n + 12, _ => exact absurd hp (by simp [upTo])
                  intro a u hI
                  have hsz : a.tmps.size = 84 := hI.size
                  have hdf : a.defers = [] := hI.defers
                  have f0 : a.tmps.getD 0 undef = _ := hI.off 0 (noDst_spec (p := upTo 12) (by kernel_rfl))
                  have f1 : a.tmps.getD 1 undef = _ := hI.off 1 (noDst_spec (p := upTo 12) (by kernel_rfl))
                  have f2 : a.tmps.getD 2 undef = _ := hI.off 2 (noDst_spec (p := upTo 12) (by kernel_rfl))
                  have f3 : a.tmps.getD 3 undef = _ := hI.off 3 (noDst_spec (p := upTo 12) (by kernel_rfl))
                  have f4 : a.tmps.getD 4 undef = _ := hI.off 4 (noDst_spec (p := upTo 12) (by kernel_rfl))
                  have f5 : a.tmps.getD 5 undef = _ := hI.off 5 (noDst_spec (p := upTo 12) (by kernel_rfl))
                  have f6 : a.tmps.getD 6 undef = _ := hI.off 6 (noDst_spec (p := upTo 12) (by kernel_rfl))
                  have f7 : a.tmps.getD 7 undef = _ := hI.off 7 (noDst_spec (p := upTo 12) (by kernel_rfl))
                  have f8 : a.tmps.getD 8 undef = _ := hI.off 8 (noDst_spec (p := upTo 12) (by kernel_rfl))
                  have f9 : a.tmps.getD 9 undef = _ := hI.off 9 (noDst_spec (p := upTo 12) (by kernel_rfl))
                  have f10 : a.tmps.getD 10 undef = _ := hI.off 10 (noDst_spec (p := upTo 12) (by kernel_rfl))
                  have f11 : a.tmps.getD 11 undef = _ := hI.off 11 (noDst_spec (p := upTo 12) (by kernel_rfl))
                  have f12 : a.tmps.getD 12 undef = _ := hI.off 12 (noDst_spec (p := upTo 12) (by kernel_rfl))
                  have f13 : a.tmps.getD 13 undef = _ := hI.off 13 (noDst_spec (p := upTo 12) (by kernel_rfl))
                  have f14 : a.tmps.getD 14 undef = _ := hI.off 14 (noDst_spec (p := upTo 12) (by kernel_rfl))
                  have f15 : a.tmps.getD 15 undef = _ := hI.off 15 (noDst_spec (p := upTo 12) (by kernel_rfl))
                  have f16 : a.tmps.getD 16 undef = _ := hI.off 16 (noDst_spec (p := upTo 12) (by kernel_rfl))
                  have f17 : a.tmps.getD 17 undef = _ := hI.off 17 (noDst_spec (p := upTo 12) (by kernel_rfl))
                  have f18 : a.tmps.getD 18 undef = _ := hI.off 18 (noDst_spec (p := upTo 12) (by kernel_rfl))
                  have f19 : a.tmps.getD 19 undef = _ := hI.off 19 (noDst_spec (p := upTo 12) (by kernel_rfl))
                  have f20 : a.tmps.getD 20 undef = _ := hI.off 20 (noDst_spec (p := upTo 12) (by kernel_rfl))
                  have f21 : a.tmps.getD 21 undef = _ := hI.off 21 (noDst_spec (p := upTo 12) (by kernel_rfl))
                  have f22 : a.tmps.getD 22 undef = _ := hI.off 22 (noDst_spec (p := upTo 12) (by kernel_rfl))
                  have f23 : a.tmps.getD 23 undef = _ := hI.off 23 (noDst_spec (p := upTo 12) (by kernel_rfl))
                  have f24 : a.tmps.getD 24 undef = _ := hI.off 24 (noDst_spec (p := upTo 12) (by kernel_rfl))
                  have f25 : a.tmps.getD 25 undef = _ := hI.off 25 (noDst_spec (p := upTo 12) (by kernel_rfl))
                  have f26 : a.tmps.getD 26 undef = _ := hI.off 26 (noDst_spec (p := upTo 12) (by kernel_rfl))
                  have f27 : a.tmps.getD 27 undef = _ := hI.off 27 (noDst_spec (p := upTo 12) (by kernel_rfl))
                  have f28 : a.tmps.getD 28 undef = _ := hI.off 28 (noDst_spec (p := upTo 12) (by kernel_rfl))
                  have f29 : a.tmps.getD 29 undef = _ := hI.off 29 (noDst_spec (p := upTo 12) (by kernel_rfl))
                  have f30 : a.tmps.getD 30 undef = _ := hI.off 30 (noDst_spec (p := upTo 12) (by kernel_rfl))
                  have f31 : a.tmps.getD 31 undef = _ := hI.off 31 (noDst_spec (p := upTo 12) (by kernel_rfl))
                  have f32 : a.tmps.getD 32 undef = _ := hI.off 32 (noDst_spec (p := upTo 12) (by kernel_rfl))
                  have f33 : a.tmps.getD 33 undef = _ := hI.off 33 (noDst_spec (p := upTo 12) (by kernel_rfl))
                  have f34 : a.tmps.getD 34 undef = _ := hI.off 34 (noDst_spec (p := upTo 12) (by kernel_rfl))
                  have f35 : a.tmps.getD 35 undef = _ := hI.off 35 (noDst_spec (p := upTo 12) (by kernel_rfl))
                  have f36 : a.tmps.getD 36 undef = _ := hI.off 36 (noDst_spec (p := upTo 12) (by kernel_rfl))
                  have f37 : a.tmps.getD 37 undef = _ := hI.off 37 (noDst_spec (p := upTo 12) (by kernel_rfl))
                  have f38 : a.tmps.getD 38 undef = _ := hI.off 38 (noDst_spec (p := upTo 12) (by kernel_rfl))
                  have f39 : a.tmps.getD 39 undef = _ := hI.off 39 (noDst_spec (p := upTo 12) (by kernel_rfl))
                  have f40 : a.tmps.getD 40 undef = _ := hI.off 40 (noDst_spec (p := upTo 12) (by kernel_rfl))
                  have f41 : a.tmps.getD 41 undef = _ := hI.off 41 (noDst_spec (p := upTo 12) (by kernel_rfl))
                  have f42 : a.tmps.getD 42 undef = _ := hI.off 42 (noDst_spec (p := upTo 12) (by kernel_rfl))
                  have f43 : a.tmps.getD 43 undef = _ := hI.off 43 (noDst_spec (p := upTo 12) (by kernel_rfl))
                  have f44 : a.tmps.getD 44 undef = _ := hI.off 44 (noDst_spec (p := upTo 12) (by kernel_rfl))
                  have f45 : a.tmps.getD 45 undef = _ := hI.off 45 (noDst_spec (p := upTo 12) (by kernel_rfl))
                  have f46 : a.tmps.getD 46 undef = _ := hI.off 46 (noDst_spec (p := upTo 12) (by kernel_rfl))
                  have f47 : a.tmps.getD 47 undef = _ := hI.off 47 (noDst_spec (p := upTo 12) (by kernel_rfl))
                  have f48 : a.tmps.getD 48 undef = _ := hI.off 48 (noDst_spec (p := upTo 12) (by kernel_rfl))
                  have f49 : a.tmps.getD 49 undef = _ := hI.off 49 (noDst_spec (p := upTo 12) (by kernel_rfl))
                  have f50 : a.tmps.getD 50 undef = _ := hI.off 50 (noDst_spec (p := upTo 12) (by kernel_rfl))
                  have f51 : a.tmps.getD 51 undef = _ := hI.off 51 (noDst_spec (p := upTo 12) (by kernel_rfl))
                  have f52 : a.tmps.getD 52 undef = _ := hI.off 52 (noDst_spec (p := upTo 12) (by kernel_rfl))
                  have f53 : a.tmps.getD 53 undef = _ := hI.off 53 (noDst_spec (p := upTo 12) (by kernel_rfl))
                  have f54 : a.tmps.getD 54 undef = _ := hI.off 54 (noDst_spec (p := upTo 12) (by kernel_rfl))
                  have f55 : a.tmps.getD 55 undef = _ := hI.off 55 (noDst_spec (p := upTo 12) (by kernel_rfl))
                  have f56 : a.tmps.getD 56 undef = _ := hI.off 56 (noDst_spec (p := upTo 12) (by kernel_rfl))
                  have f57 : a.tmps.getD 57 undef = _ := hI.off 57 (noDst_spec (p := upTo 12) (by kernel_rfl))
                  have f58 : a.tmps.getD 58 undef = _ := hI.off 58 (noDst_spec (p := upTo 12) (by kernel_rfl))
                  have f59 : a.tmps.getD 59 undef = _ := hI.off 59 (noDst_spec (p := upTo 12) (by kernel_rfl))
                  have f60 : a.tmps.getD 60 undef = _ := hI.off 60 (noDst_spec (p := upTo 12) (by kernel_rfl))
                  have f61 : a.tmps.getD 61 undef = _ := hI.off 61 (noDst_spec (p := upTo 12) (by kernel_rfl))
                  have f62 : a.tmps.getD 62 undef = _ := hI.off 62 (noDst_spec (p := upTo 12) (by kernel_rfl))
                  have f63 : a.tmps.getD 63 undef = _ := hI.off 63 (noDst_spec (p := upTo 12) (by kernel_rfl))
                  have f64 : a.tmps.getD 64 undef = _ := hI.off 64 (noDst_spec (p := upTo 12) (by kernel_rfl))
                  have f65 : a.tmps.getD 65 undef = _ := hI.off 65 (noDst_spec (p := upTo 12) (by kernel_rfl))
                  have f66 : a.tmps.getD 66 undef = _ := hI.off 66 (noDst_spec (p := upTo 12) (by kernel_rfl))
                  have f67 : a.tmps.getD 67 undef = _ := hI.off 67 (noDst_spec (p := upTo 12) (by kernel_rfl))
                  have f80 : a.tmps.getD 80 undef = _ := hI.off 80 (noDst_spec (p := upTo 12) (by kernel_rfl))
                  have f81 : a.tmps.getD 81 undef = _ := hI.off 81 (noDst_spec (p := upTo 12) (by kernel_rfl))
                  have f82 : a.tmps.getD 82 undef = _ := hI.off 82 (noDst_spec (p := upTo 12) (by kernel_rfl))
                  have f83 : a.tmps.getD 83 undef = _ := hI.off 83 (noDst_spec (p := upTo 12) (by kernel_rfl))
                  have f68 : a.tmps.getD 68 undef = (.func (.func 81) #[] #[.pointer (some ⟨bn, 0, none⟩), .pointer (some ⟨ba, 0, none⟩)]) := hI.val 0 _ 68 rfl rfl rfl
                  have f69 : a.tmps.getD 69 undef = .pointer (some ⟨gb, 0, none⟩) := hI.val 1 _ 69 rfl rfl rfl
                  have f70 : a.tmps.getD 70 undef = .int .i64 x0 := hI.val 2 _ 70 rfl rfl rfl
                  have f71 : a.tmps.getD 71 undef = (.func (.func 82) #[] #[.pointer (some ⟨ba, 0, none⟩)]) := hI.val 3 _ 71 rfl rfl rfl
                  have f72 : a.tmps.getD 72 undef = .pointer (some ⟨gb, 1, none⟩) := hI.val 4 _ 72 rfl rfl rfl
                  have f73 : a.tmps.getD 73 undef = .int .i64 x1 := hI.val 5 _ 73 rfl rfl rfl
                  have f74 : a.tmps.getD 74 undef = .int .i64 (ofN (netG C r).2 x1) := hI.val 6 _ 74 rfl rfl rfl
                  have f75 : a.tmps.getD 75 undef = (.func (.func 82) #[] #[.pointer (some ⟨ba, 0, none⟩)]) := hI.val 7 _ 75 rfl rfl rfl
                  have f76 : a.tmps.getD 76 undef = .pointer (some ⟨gb, 2, none⟩) := hI.val 8 _ 76 rfl rfl rfl
                  have f77 : a.tmps.getD 77 undef = .int .i64 x2 := hI.val 9 _ 77 rfl rfl rfl
                  have f78 : a.tmps.getD 78 undef = .int .i64 (ofN (netG C r).2 x2) := hI.val 10 _ 78 rfl rfl rfl
                  have f79 : a.tmps.getD 79 undef = .agg #[.int .i64 (ofN (netG C r).2 x1), .int .i64 (ofN (netG C r).2 x2)] := hI.val 11 _ 79 rfl rfl rfl
                  have ha : a = ⟨#[a.tmps.getD 0 undef, a.tmps.getD 1 undef, a.tmps.getD 2 undef, a.tmps.getD 3 undef, a.tmps.getD 4 undef, a.tmps.getD 5 undef, a.tmps.getD 6 undef, a.tmps.getD 7 undef, a.tmps.getD 8 undef, a.tmps.getD 9 undef, a.tmps.getD 10 undef, a.tmps.getD 11 undef, a.tmps.getD 12 undef, a.tmps.getD 13 undef, a.tmps.getD 14 undef, a.tmps.getD 15 undef, a.tmps.getD 16 undef, a.tmps.getD 17 undef, a.tmps.getD 18 undef, a.tmps.getD 19 undef, a.tmps.getD 20 undef, a.tmps.getD 21 undef, a.tmps.getD 22 undef, a.tmps.getD 23 undef, a.tmps.getD 24 undef, a.tmps.getD 25 undef, a.tmps.getD 26 undef, a.tmps.getD 27 undef, a.tmps.getD 28 undef, a.tmps.getD 29 undef, a.tmps.getD 30 undef, a.tmps.getD 31 undef, a.tmps.getD 32 undef, a.tmps.getD 33 undef, a.tmps.getD 34 undef, a.tmps.getD 35 undef, a.tmps.getD 36 undef, a.tmps.getD 37 undef, a.tmps.getD 38 undef, a.tmps.getD 39 undef, a.tmps.getD 40 undef, a.tmps.getD 41 undef, a.tmps.getD 42 undef, a.tmps.getD 43 undef, a.tmps.getD 44 undef, a.tmps.getD 45 undef, a.tmps.getD 46 undef, a.tmps.getD 47 undef, a.tmps.getD 48 undef, a.tmps.getD 49 undef, a.tmps.getD 50 undef, a.tmps.getD 51 undef, a.tmps.getD 52 undef, a.tmps.getD 53 undef, a.tmps.getD 54 undef, a.tmps.getD 55 undef, a.tmps.getD 56 undef, a.tmps.getD 57 undef, a.tmps.getD 58 undef, a.tmps.getD 59 undef, a.tmps.getD 60 undef, a.tmps.getD 61 undef, a.tmps.getD 62 undef, a.tmps.getD 63 undef, a.tmps.getD 64 undef, a.tmps.getD 65 undef, a.tmps.getD 66 undef, a.tmps.getD 67 undef, a.tmps.getD 68 undef, a.tmps.getD 69 undef, a.tmps.getD 70 undef, a.tmps.getD 71 undef, a.tmps.getD 72 undef, a.tmps.getD 73 undef, a.tmps.getD 74 undef, a.tmps.getD 75 undef, a.tmps.getD 76 undef, a.tmps.getD 77 undef, a.tmps.getD 78 undef, a.tmps.getD 79 undef, a.tmps.getD 80 undef, a.tmps.getD 81 undef, a.tmps.getD 82 undef, a.tmps.getD 83 undef], a.defers⟩ := act_list a 84 hsz
                  rw [hdf, f0, f1, f2, f3, f4, f5, f6, f7, f8, f9, f10, f11, f12, f13, f14, f15, f16, f17, f18, f19, f20, f21, f22, f23, f24, f25, f26, f27, f28, f29, f30, f31, f32, f33, f34, f35, f36, f37, f38, f39, f40, f41, f42, f43, f44, f45, f46, f47, f48, f49, f50, f51, f52, f53, f54, f55, f56, f57, f58, f59, f60, f61, f62, f63, f64, f65, f66, f67, f68, f69, f70, f71, f72, f73, f74, f75, f76, f77, f78, f79, f80, f81, f82, f83] at ha
                  have hku := hI.kp
                  clear hI hsz hdf f0 f1 f2 f3 f4 f5 f6 f7 f8 f9 f10 f11 f12 f13 f14 f15 f16 f17 f18 f19 f20 f21 f22 f23 f24 f25 f26 f27 f28 f29 f30 f31 f32 f33 f34 f35 f36 f37 f38 f39 f40 f41 f42 f43 f44 f45 f46 f47 f48 f49 f50 f51 f52 f53 f54 f55 f56 f57 f58 f59 f60 f61 f62 f63 f64 f65 f66 f67 f68 f69 f70 f71 f72 f73 f74 f75 f76 f77 f78 f79 f80 f81 f82 f83 
                  subst ha
                  refine wpAny_tail 12 rfl (by kernel_rfl) ?_
                  simp only [List.drop_succ_cons, List.drop_zero]
                  have HMu := Lib.hid (HM.out.fr hku)
                  have HOu := Lib.hid (HO2.out.kp hku (fun _ _ h => h))
                  clear hku
                  go_wp2_with (go_at_call 81; refine (net_f1 V C w bn ba g (k + 1) (k + 1) (q + p + r) (netG C r) v5 x0 (ofN (netG C r).2 x1) (ofN (netG C r).2 x2) _ HMu.out HLn.out (by omega) (by have := HR.out; omega) (by have := HR.out; omega) (by omega)).mono ?_; rintro e w2 ⟨rfl, ⟨v', hP⟩, hK⟩)
                  have HP := Lib.hid hP
                  have HO3 := Lib.hid (HOu.out.kp hK (fun j hj hs => by
                    have h1 := (HOu.out.lt j hj).1
                    have h2 := HG5.out
                    rcases hs with h4 | h4 | h4
                    · obtain ⟨c, hc⟩ := HMu.out.n.blkN h4
                      obtain ⟨c', hc'⟩ := HOu.out.rows.blkN hj
                      exact absurd (blkN_type hc hc') (by decide)
                    · omega
                    · omega))
                  clear hP hK
                  go_wp2_with fail
                  go_roundw
                  case rel => exact ⟨r + 1, by go_num, by omega, ⟨v', by rw [HS.out]; exact HP.out⟩, HO3.out⟩
                  case measure => simp [intOf]; omega
                · obtain rfl : r = no := by omega
                  have HE := Lib.hid (show OwnK wy w.heap.size 102 2 v5 ((netOf C).1.map pr2) ∧ Own wy w.heap.size 3 (.slice (some ⟨g, 0, none⟩) (k + 1) (k + 1)) (iv (netOf C).2) ∧ Kp (fun _ => False) w wy from by
                    have h1 := HM.out
                    rw [← HNo.out] at h1
                    exact ⟨h1.n.mono (by omega), h1.a.mono (by omega), h1.kp⟩)
                  have cn := HM.out.cells.2.2.1
                  have ca := HM.out.cells.2.2.2
                  go_upto_region 25 with fail
                  go_quiet (fail)
                  go_wp2_with fail
                  go_ret2
                  exact ⟨_, _, rfl, HE.out.1.drewN _, HE.out.2.1.drewN _, HE.out.2.2.drewN _⟩

end Go.Proofs.YtnoknecfdnjomaaGreat
