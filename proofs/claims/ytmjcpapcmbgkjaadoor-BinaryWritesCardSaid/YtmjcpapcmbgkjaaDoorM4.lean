/-
  latchetref11: waits, Order.
-/
import Derived.Test.YtmjcpapcmbgkjaaDoorM3
import Derived.Test.YtmjcpapcmbgkjaaDoorM1
import Derived.Orders
import Derived.RegionTactic
import Derived.ArgAppend
import Derived.StillTail
import Derived.Test.YtmjcpapcmbgkjaaDoorM2
import Derived.Shelf.Strings.Builder1
import Derived.Shelf.Small.Strs
import Derived.Shelf.Strconv.Atoi
import Derived.Shelf.Strconv.Itoa0
import Derived.Shelf.Strconv.Itoa1
import Derived.Shelf.LaysM
import Derived.Shelf.Strconv.Itoa2
import Derived.Shelf.Strconv.Itoa3
import Derived.Shelf.Strings.Search1
import Derived.Ground.Names2Prog
import Derived.Shelf.Slices.Clone
import Derived.Test.YtmjcpapcmbgkjaaDoorProg
import Derived.Lib.Builder
import Derived.Lib.AppendStr
import Derived.WalkKit
import Derived.WalkSmall
import Derived.Deep.RegionWith
set_option linter.unusedVariables false
set_option linter.unusedSimpArgs false
namespace Go.Proofs.YtmjcpapcmbgkjaaDoor
open Go.RowKit

/-- which gates are told, as cells -/
def toldC (out : List Nat) (n : Nat) : List Value := rowF (fun i => .bool (decide (i ∈ out))) n
theorem toldC_at {out : List Nat} {n i : Nat} (h : i < n) : (toldC out n)[i]? = some (.bool (decide (i ∈ out))) := rowF_at h

theorem any_range_succ (f : Nat → Bool) (k : Nat) : (List.range (k + 1)).any f = ((List.range k).any f || f k) := by
  rw [List.range_succ, List.any_append]; simp

theorem any_range_le {f : Nat → Bool} {k n : Nat} (h : k ≤ n) (ht : (List.range k).any f = true) : (List.range n).any f = true := by
  rw [List.any_eq_true] at ht ⊢
  obtain ⟨x, hx, hf⟩ := ht
  exact ⟨x, List.mem_range.2 (Nat.lt_of_lt_of_le (List.mem_range.1 hx) h), hf⟩

set_option maxRecDepth 100000 in
set_option maxHeartbeats 2000000 in
theorem ref11_waits (V : CV) (C : Circ) (out : List Nat) (gt n c : Nat) (l : Int) (w : World) (h : CAt w V C) (hn : C.gates.length = n) (hn1 : n ≤ 1000000) (hb : GBnd C.gates) (ht : Blk w gt (toldC out n).toArray 4) (l0 : 0 ≤ l) (l1 : l ≤ 100000000) :
    Calls Tryd.prog 41 #[.agg (cvals V C), .slice (some ⟨gt, 0, none⟩) n c, .int .i64 l] w fun e w' => e = .returned (.bool (waitsB C.gates out l)) ∧ Kp (fun _ => False) w w' := by
  have HN := Lib.hid hn
  have HB := Lib.hid hb
  obtain ⟨wz, hwz⟩ : ∃ wz : World, wz = w.alloc (.cells (cvals V C) 27) := ⟨_, rfl⟩
  have HK := Lib.hid (show Kp (fun _ => False) w wz by rw [hwz]; exact (Kp.refl _ w).alloc _)
  have HC := Lib.hid (show Blk wz w.heap.size (cvals V C) 27 by rw [hwz]; exact Blk.new w _ _)
  have HT := Lib.hid (ht.kp HK.out (fun h => h))
  have HA := Lib.hid (h.kp HK.out)
  have HZ := Lib.hid hwz
  obtain ⟨r, hr⟩ : ∃ r, waitsB C.gates out l = r := ⟨_, rfl⟩
  rw [hr]
  have HR := Lib.hid hr
  clear h hn hb ht hwz hr
  go_enter Tryd.func41, Tryd.ntmps41
  go_upto_region 1 with fail
  rw [← HZ.out]
  have c6 : wz.cell? ⟨w.heap.size, 6, none⟩ = some (.slice V.ag n V.cg) := HC.out.cell (by rw [← HN.out]; rfl)
  clear HZ
  go_wp2_with fail
  go_loop [7] (fun v7 => ∃ k : Nat, v7 = .int .i64 k ∧ k ≤ n ∧ (List.range k).any (fun i => !out.contains i && decide ((g3 C.gates i).1 / 2 = l / 2)) = false) (fun v7 => n - (intOf v7).toNat)
  case atStart => exact ⟨0, rfl, by omega, by simp⟩
  case round =>
    obtain ⟨k, rfl, hk, hf⟩ := hrel
    by_cases hlt : k < n
    · have hkl : k < C.gates.length := by rw [HN.out]; exact hlt
      obtain ⟨b, off, ea, e0, -, -⟩ := tri_cells HA.out.g hkl
      have hbd := HB.out k hkl
      have hsucc := any_range_succ (fun i => !out.contains i && decide ((g3 C.gates i).1 / 2 = l / 2)) k
      have hle := fun h => any_range_le (f := fun i => !out.contains i && decide ((g3 C.gates i).1 / 2 = l / 2)) (k := k + 1) (n := C.gates.length) (by omega) h
      rw [hf, Bool.false_or] at hsucc
      obtain ⟨x, hx⟩ : ∃ x, (g3 C.gates k).1 = x := ⟨_, rfl⟩
      rw [hx] at e0 hbd hsucc
      have x0 := hbd.1
      have x1 := hbd.2.1
      have ct : wz.cell? ⟨gt, k, none⟩ = some (.bool (decide (k ∈ out))) := HT.out.cell (by have := toldC_at (out := out) hlt; simpa using this)
      have i0 : (0 : Int) ≤ (k : Int) := by omega
      have i1 : (k : Int) < (n : Int) := by omega
      have HE := Lib.hid (show (∀ r', (!out.contains k && decide (x / 2 = l / 2)) = r' → (r' = true → r = true) ∧ (r' = false → (List.range (k + 1)).any (fun i => !out.contains i && decide ((g3 C.gates i).1 / 2 = l / 2)) = false)) from fun r' hr' => ⟨fun e => by
        have h1 := hle (by rw [hsucc, hr', e])
        rw [← HR.out]; exact h1, fun e => by rw [hsucc, hr', e]⟩)
      rw [ea] at c6
      have HEA := Lib.hid ea
      clear hf hsucc hle hx hbd hkl ea
      by_cases ht : k ∈ out
      · rw [decide_eq_true ht] at ct
        have HF := Lib.hid ((HE.out false (by simp [ht])).2 rfl)
        clear ht
        go_wp2_with fail
        go_round
        case rel => exact ⟨k + 1, by go_num, by omega, HF.out⟩
        case measure => simp [intOf]; omega
      · rw [decide_eq_false ht] at ct
        by_cases hq : x / 2 = l / 2
        · obtain rfl : r = true := (HE.out true (by simp [ht, hq])).1 rfl
          have q : ((x / 2 : Int) == l / 2) = true := by simp [hq]
          clear ht hq
          go_wp2_with fail
          go_ret
          exact ⟨rfl, HK.out⟩
        · have HF := Lib.hid ((HE.out false (by simp [hq])).2 rfl)
          have q : ((x / 2 : Int) == l / 2) = false := by simp [hq]
          clear ht hq
          go_wp2_with fail
          go_round
          case rel => exact ⟨k + 1, by go_num, by omega, HF.out⟩
          case measure => simp [intOf]; omega
    · obtain rfl : k = n := by omega
      obtain rfl : r = false := by
        rw [← HR.out]; unfold waitsB; rw [HN.out]; exact hf
      clear hf
      go_wp2_with fail
      go_ret
      exact ⟨rfl, HK.out⟩

/-- what ref11.Order has made so far -/
structure RO (V : CV) (C : Circ) (w : World) (n gt : Nat) (out : List Nat) (v3 : Value) (wr : World) : Prop where
  mid : OrdAt C.gates out
  own : Own wr w.heap.size 3 v3 (nv out)
  told : Blk wr gt (toldC out n).toArray 4
  low : w.heap.size < gt
  far : ∀ j, v3.ownBlock = some j → w.heap.size < j ∧ j ≠ gt
  circ : Blk wr w.heap.size (cvals V C) 27
  kp : Kp (fun _ => False) w wr

theorem RO.fr {V : CV} {C : Circ} {w wr wr' : World} {n gt : Nat} {out : List Nat} {v3 : Value} (h : RO V C w n gt out v3 wr) (k : Kp (fun _ => False) wr wr') : RO V C w n gt out v3 wr' :=
  ⟨h.mid, h.own.kp k (fun _ _ h => h), h.told.kp k (fun h => h), h.low, h.far, h.circ.kp k (fun h => h), h.kp.trans k (fun _ _ h => h)⟩

theorem RO.more {V : CV} {C : Circ} {w wr wr' w2 : World} {n gt i : Nat} {out : List Nat} {v3 v' : Value} (h : RO V C w n gt out v3 wr) (hn : nextO C.gates out = some i) (hi : i < n) (hK : Kp (fun _ => False) wr wr')
    (hO : Own w2 w.heap.size 3 v' (nv out ++ [.int .i64 (i : Int)])) (hg : wr'.grownBy w2 v3.ownBlock) (hat : v'.ownBlock = v3.ownBlock ∨ v'.ownBlock = some wr'.heap.size) : RO V C w n gt (out ++ [i]) v' (w2.setCell ⟨gt, i, none⟩ (.bool true)) := by
  have h1 := h.fr hK
  have hKg : Kp (fun j => v3.ownBlock = some j) wr' w2 := (Kp.refl _ wr').grown hg (fun j hj _ => hj)
  have hKs := Kp.set w2 ⟨gt, i, none⟩ (.bool true)
  have hlt := h1.told.lt
  have hfar : ∀ j, v'.ownBlock = some j → w.heap.size < j ∧ j ≠ gt := fun j hj => by
    rcases hat with e | e
    · exact h.far j (e ▸ hj)
    · rw [e] at hj
      have : wr'.heap.size = j := by simpa using hj
      have := h.low
      omega
  refine ⟨h.mid.step hn, by rw [nv_snoc]; exact hO.kp hKs (fun j hj e => (hfar j hj).2 e), ?_, h.low, hfar, (h1.circ.kp hKg (fun e => by have := (h.far _ e).1; omega)).kp hKs (fun e => by have := h.low; have e2 : w.heap.size = gt := e; omega), (h1.kp.grown hg (fun j hj hl => by have := (h.far j hj).1; omega)).setCell (p := ⟨gt, i, none⟩) (fun hl => by have := h.low; exact absurd hl (Nat.not_lt.2 (Nat.le_of_lt this))) _⟩
  have ht := (h1.told.kp hKg (fun e => (h.far _ e).2 rfl)).set_same i (.bool true)
  have e : (toldC out n).toArray.setIfInBounds i (.bool true) = (toldC (out ++ [i]) n).toArray := by
    have e1 : (toldC out n).toArray.setIfInBounds i (.bool true) = ((toldC out n).set i (.bool true)).toArray := by simp
    rw [e1]
    congr 1
    unfold toldC
    rw [rowF_set]
    apply rowF_congr
    intro j _
    by_cases ej : j = i
    · subst ej; rw [up1_at]; simp
    · rw [up1_off _ _ ej]; simp [ej]
  rw [e] at ht
  exact ht

/-- the place that the inner loop has found -/
def Found (G : List (Int × Int × Int)) (out : List Nat) (k : Nat) (v5 : Value) : Prop :=
  (v5 = .int .i64 (-1) ∧ ∀ j, j < k → readyB G out j = false) ∨ ∃ j : Nat, v5 = .int .i64 j ∧ nextO G out = some j

theorem ordr_a (C : Circ) (V : CV) (w wz : World) (n : Nat) (hz : wz = w.alloc (.cells (cvals V C) 27)) (hn : n ≤ maxLen) :
    RO V C w n (wz.heap.size + 1) [] (.slice (some ⟨wz.heap.size, 0, none⟩) 0 0) ((wz.alloc (.cells #[] 3)).alloc (.cells (madeCells #[.bool false] n) 4)).drew := by
  have hs : wz.heap.size = w.heap.size + 1 := by rw [hz]; simp
  have hB : Blk wz w.heap.size (cvals V C) 27 := by rw [hz]; exact Blk.new _ _ _
  have hK : Kp (fun _ => False) w wz := by rw [hz]; exact (Kp.refl _ w).alloc _
  refine ⟨OrdAt.start _, (Own.lit (cs := []) ((Blk.new wz #[] 3).alloc (.cells (madeCells #[.bool false] n) 4)).drew (by omega) (Nat.zero_le _)), ?_, by omega, fun j hj => by simp [Value.ownBlock] at hj; omega, ((hB.alloc _).alloc _).drew, ((hK.alloc _).alloc _).drew⟩
  show Blk _ _ (rowF (fun i => .bool (decide (i ∈ ([] : List Nat)))) n).toArray _
  have : (fun (i : Nat) => Value.bool (decide (i ∈ ([] : List Nat)))) = fun _ => Value.bool false := by funext i; simp
  rw [this, ← made_row]
  exact (two_blk wz #[] (madeCells #[.bool false] n) 3 4).drew

theorem ordr_b (C : Circ) (V : CV) (w wz : World) (n : Nat) (hz : wz = w.alloc (.cells (cvals V C) 27)) (hn : n ≤ maxLen) :
    RO V C w n wz.heap.size [] (.slice (some ⟨wz.heap.size + 1, 0, none⟩) 0 0) ((wz.alloc (.cells (madeCells #[.bool false] n) 4)).alloc (.cells #[] 3)).drew := by
  have hs : wz.heap.size = w.heap.size + 1 := by rw [hz]; simp
  have hB : Blk wz w.heap.size (cvals V C) 27 := by rw [hz]; exact Blk.new _ _ _
  have hK : Kp (fun _ => False) w wz := by rw [hz]; exact (Kp.refl _ w).alloc _
  refine ⟨OrdAt.start _, (Own.lit (cs := []) (two_blk wz (madeCells #[.bool false] n) #[] 4 3).drew (by omega) (Nat.zero_le _)), ?_, by omega, fun j hj => by simp [Value.ownBlock] at hj; omega, ((hB.alloc _).alloc _).drew, ((hK.alloc _).alloc _).drew⟩
  show Blk _ _ (rowF (fun i => .bool (decide (i ∈ ([] : List Nat)))) n).toArray _
  have : (fun (i : Nat) => Value.bool (decide (i ∈ ([] : List Nat)))) = fun _ => Value.bool false := by funext i; simp
  rw [this, ← made_row]
  exact ((Blk.new wz (madeCells #[.bool false] n) 4).alloc (.cells #[] 3)).drew

set_option maxRecDepth 100000 in
set_option maxHeartbeats 4000000 in
theorem ref11_Order (V : CV) (C : Circ) (w : World) (h : CAt w V C) (hf : C.gates.length ≤ 1000000) (hb : GBnd C.gates) :
    Calls Tryd.prog 30 #[.agg (cvals V C)] w fun e w' => ∃ v, e = .returned v ∧ Own w' w.heap.size 3 v (nv (ordO C.gates)) ∧ Kp (fun _ => False) w w' := by
  obtain ⟨n, hn⟩ : ∃ n, C.gates.length = n := ⟨_, rfl⟩
  have hn1 : n ≤ 1000000 := by omega
  obtain ⟨i0, hi, hz0, hz1, hz2⟩ := info_parts (show (Tryd.prog.info? 4).map (fun i => (i.zero, i.size, i.bytes)) = some (some (.bool false), 1, 1) by kernel_rfl)
  have hmk : ∀ u : World, (Instr.makeSlice 87 (.int .i64 (n : Int)) (.int .i64 (n : Int))).run Tryd.prog u =
      .ok (.slice (some ⟨u.heap.size, 0, none⟩) n n) (u.alloc (.cells (madeCells #[.bool false] n) 4)) := fun u => by
    have h := run_make (P := Tryd.prog) u 87 4 i0 (.bool false) Tryd.underlying87 hi hz0 .i64 .i64 (n : Int) (n : Int) (by omega) (Int.le_refl _) (by rw [hz2]; omega) (by omega)
    simpa [hz1, Value.cells] using h
  clear hi hz0 hz1 hz2 i0
  have HMk := Lib.hid hmk
  have HI := Lib.hid (show (Tryd.prog.info? 3).map (fun i => (i.zero, i.size, i.bytes)) = some (some (.int .i64 0), 1, 8) by kernel_rfl)
  obtain ⟨wz, hwz⟩ : ∃ wz : World, wz = w.alloc (.cells (cvals V C) 27) := ⟨_, rfl⟩
  have HC := Lib.hid (show Blk wz w.heap.size (cvals V C) 27 by rw [hwz]; exact Blk.new w _ _)
  have HRa := Lib.hid (ordr_a C V w wz n hwz (by unfold maxLen; omega))
  have HRb := Lib.hid (ordr_b C V w wz n hwz (by unfold maxLen; omega))
  have HZ := Lib.hid hwz
  have HA := Lib.hid h
  have HN := Lib.hid hn
  have HB := Lib.hid hb
  have HU : Hid (cvals V C = #[.int .i64 C.max, .slice V.ai C.ins.length V.ci, .slice V.al C.lats.length V.cl, .slice V.ao C.outs.length V.co, .slice V.ab C.bads.length V.cb, .slice V.ac C.cons.length V.cc, .slice V.ag n V.cg, .slice V.ay V.ny V.cy, .string V.cm]) := Lib.hid (by unfold cvals; rw [hn])
  clear hwz h hf hn hb hmk
  go_enter Tryd.func30, Tryd.ntmps30
  go_upto_region 1 with fail
  rw [← HZ.out]
  clear HZ
  have c6 := HC.out.cell (i := 6) (v := .slice V.ag n V.cg) (by rw [HU.out]; rfl)
  go_cut [3, 4] from 7 to 11 (fun s3 s4 wx => ∃ gt, s4 = .slice (some ⟨gt, 0, none⟩) n n ∧ RO V C w n gt [] s3 wx)
  case first =>
    have hmk := HMk.out
    go_region_held3 (fun u => u.cell? ⟨w.heap.size, 6, none⟩ = some (.slice V.ag n V.cg)) (first | exact HC.out.cell (by rw [HU.out]; rfl) | exact HC.out.drew.cell (by rw [HU.out]; rfl) | exact ((HC.out).alloc _).cell (by rw [HU.out]; rfl) | exact ((HC.out).alloc _).drew.cell (by rw [HU.out]; rfl) | exact (((HC.out).alloc _).alloc _).cell (by rw [HU.out]; rfl) | exact (((HC.out).alloc _).alloc _).drew.cell (by rw [HU.out]; rfl)) (fail)
    all_goals go_wp2_with fail
    all_goals go_meet
    all_goals first | exact ⟨_, rfl, HRa.out⟩ | exact ⟨_, rfl, HRb.out⟩
  case rest =>
  obtain ⟨gt, rfl, hRO⟩ := hcut
  have HR0 := Lib.hid hRO
  clear hRO HRa HRb HC c6
  obtain ⟨wa, rfl⟩ : ∃ wa : World, wa = wc := ⟨_, rfl⟩
  go_wp2_with fail
  go_loopw [3] (fun v3 wr => ∃ out, RO V C w n gt out v3 wr) (fun v3 _ => n - lenV v3)
  case atStart => exact ⟨[], HR0.out⟩
  case round =>
    obtain ⟨out, hR⟩ := hrel
    clear HR0
    obtain ⟨wp, rfl⟩ : ∃ wp : World, wp = wr := ⟨_, rfl⟩
    have HR := Lib.hid hR
    clear hR
    go_wp2_with fail
    go_loopw [5, 6] (fun v5 v6 wr => ∃ k : Nat, v6 = .int .i64 k ∧ k ≤ n ∧ Found C.gates out k v5 ∧ Kp (fun _ => False) wp wr) (fun _ v6 _ => n - (intOf v6).toNat)
    case atStart => exact ⟨0, rfl, by omega, .inl ⟨rfl, fun j hj => by omega⟩, Kp.refl _ _⟩
    case round =>
      obtain ⟨k, rfl, hk, hF, hK⟩ := hrel
      obtain ⟨wq, rfl⟩ : ∃ wp : World, wp = wr := ⟨_, rfl⟩
      have HK := Lib.hid hK
      have HRq := Lib.hid (HR.out.fr hK)
      have c6 := HRq.out.circ.cell (i := 6) (v := .slice V.ag n V.cg) (by rw [HU.out]; rfl)
      clear hK
      rcases hF with ⟨rfl, hno⟩ | ⟨j, rfl, hj⟩
      · by_cases hlt : k < n
        · have hkl : k < C.gates.length := by rw [HN.out]; exact hlt
          obtain ⟨b, off, ea, -, e1, e2⟩ := tri_cells (HA.out.kp HRq.out.kp).g hkl
          have hbd := HB.out k hkl
          have hready : readyB C.gates out k = (!decide (k ∈ out) && !waitsB C.gates out (g3 C.gates k).2.1 && !waitsB C.gates out (g3 C.gates k).2.2) := by unfold readyB; rw [List.contains_eq_mem]
          obtain ⟨x1, hx1⟩ : ∃ x, (g3 C.gates k).2.1 = x := ⟨_, rfl⟩
          obtain ⟨x2, hx2⟩ : ∃ x, (g3 C.gates k).2.2 = x := ⟨_, rfl⟩
          rw [hx1] at e1 hbd hready
          rw [hx2] at e2 hbd hready
          obtain ⟨F, hF1, hF2⟩ := still_class wq
          have ca := fun x => (hF1 x).cellK e1
          have cb := fun x => (hF1 x).cellK e2
          have hCu : ∀ x, Blk (F x) w.heap.size #[.int .i64 C.max, .slice V.ai C.ins.length V.ci, .slice V.al C.lats.length V.cl, .slice V.ao C.outs.length V.co, .slice V.ab C.bads.length V.cb, .slice V.ac C.cons.length V.cc, .slice (some ⟨b, off, none⟩) n V.cg, .slice V.ay V.ny V.cy, .string V.cm] 27 := fun x => by
            have := HRq.out.circ.kp (hF1 x) (fun h => h)
            rw [HU.out, ea] at this
            exact this
          have m0 := fun x => (hCu x).cell (i := 0) rfl
          have m1 := fun x => (hCu x).cell (i := 1) rfl
          have m2 := fun x => (hCu x).cell (i := 2) rfl
          have m3 := fun x => (hCu x).cell (i := 3) rfl
          have m4 := fun x => (hCu x).cell (i := 4) rfl
          have m5 := fun x => (hCu x).cell (i := 5) rfl
          have m6 := fun x => (hCu x).cell (i := 6) rfl
          have m7 := fun x => (hCu x).cell (i := 7) rfl
          have m8 := fun x => (hCu x).cell (i := 8) rfl
          have ct : ∀ x, (F x).cell? ⟨gt, k, none⟩ = some (.bool (decide (k ∈ out))) := fun x => (HRq.out.told.kp (hF1 x) (fun h => h)).cell (by have := toldC_at (out := out) hlt; simpa using this)
          have hW : ∀ l, 0 ≤ l → l ≤ 100000000 → ∀ x, Calls Tryd.prog 41 #[.agg #[.int .i64 C.max, .slice V.ai C.ins.length V.ci, .slice V.al C.lats.length V.cl, .slice V.ao C.outs.length V.co, .slice V.ab C.bads.length V.cb, .slice V.ac C.cons.length V.cc, .slice (some ⟨b, off, none⟩) n V.cg, .slice V.ay V.ny V.cy, .string V.cm], .slice (some ⟨gt, 0, none⟩) n n, .int .i64 l] (F x) fun e w' => e = .returned (.bool (waitsB C.gates out l)) ∧ Kp (fun _ => False) (F x) w' := fun l l0 l1 x => by
            have := ref11_waits V C out gt n n l (F x) (HA.out.kp (HRq.out.kp.trans (hF1 x) (fun _ _ h => h))) HN.out hn1 HB.out (HRq.out.told.kp (hF1 x) (fun h => h)) l0 l1
            rw [HU.out, ea] at this
            exact this
          have HWA := Lib.hid (hW x1 hbd.2.2.1 hbd.2.2.2.1)
          have HWB := Lib.hid (hW x2 hbd.2.2.2.2.1 hbd.2.2.2.2.2)
          have HNo := Lib.hid (fun (hf : readyB C.gates out k = false) => show ∀ j, j < k + 1 → readyB C.gates out j = false from fun j hj => by
            by_cases e : j = k
            · subst e; exact hf
            · exact hno j (by omega))
          have HYes := Lib.hid (fun (ht : readyB C.gates out k = true) => show nextO C.gates out = some k from find_least hkl ht hno)
          have HF1 := Lib.hid hF1
          have HF2 := Lib.hid hF2
          have HReady := Lib.hid hready
          have i0 : (0 : Int) ≤ (k : Int) := by omega
          have i1 : (k : Int) < (n : Int) := by omega
          obtain ⟨wA, hwA⟩ : ∃ b, waitsB C.gates out x1 = b := ⟨_, rfl⟩
          obtain ⟨wB_, hwB⟩ : ∃ b, waitsB C.gates out x2 = b := ⟨_, rfl⟩
          rw [hwA] at HWA HReady
          rw [hwB] at HWB HReady
          rw [ea] at c6
          clear hF1 hF2 hready hW hno hx1 hx2 ea e1 e2 hbd hCu hwA hwB hkl
          by_cases ht : k ∈ out
          · have HNo := Lib.hid (HNo.out (by rw [HReady.out]; simp [ht]))
            rw [decide_eq_true ht] at ct
            clear ht
            go_upto_region 6 with fail
            refine wp_region_kept (by kernel_rfl) (by kernel_rfl) HF2.out ?_
            repeat (go_big_quiet_step (with_reducible first | exact Calls.still_of HF1.out HF2.out (HWA.out _) | exact Calls.still_of HF1.out HF2.out (HWB.out _)))
            refine wpQuiet_nil ?_
            rintro wB ⟨x, rfl⟩
            have HKx := Lib.hid (HK.out.trans (HF1.out x) (fun _ _ h => h))
            clear m0 m1 m2 m3 m4 m5 m6 m7 m8 ct ca cb
            go_wp2_with fail
            go_roundw
            case rel => exact ⟨k + 1, by go_num, by omega, .inl ⟨rfl, HNo.out⟩, HKx.out⟩
            case measure => simp [intOf]; omega
          · rw [decide_eq_false ht] at ct
            cases wA with
            | true =>
              have HNo := Lib.hid (HNo.out (by rw [HReady.out]; simp))
              clear ht
              go_upto_region 6 with fail
              refine wp_region_kept (by kernel_rfl) (by kernel_rfl) HF2.out ?_
              repeat (go_big_quiet_step (with_reducible first | exact Calls.still_of HF1.out HF2.out (HWA.out _) | exact Calls.still_of HF1.out HF2.out (HWB.out _)))
              refine wpQuiet_nil ?_
              rintro wB ⟨x, rfl⟩
              have HKx := Lib.hid (HK.out.trans (HF1.out x) (fun _ _ h => h))
              clear m0 m1 m2 m3 m4 m5 m6 m7 m8 ct ca cb
              go_wp2_with fail
              go_roundw
              case rel => exact ⟨k + 1, by go_num, by omega, .inl ⟨rfl, HNo.out⟩, HKx.out⟩
              case measure => simp [intOf]; omega
            | false =>
              cases wB_ with
              | true =>
                have HNo := Lib.hid (HNo.out (by rw [HReady.out]; simp))
                clear ht
                go_upto_region 6 with fail
                refine wp_region_kept (by kernel_rfl) (by kernel_rfl) HF2.out ?_
                repeat (go_big_quiet_step (with_reducible first | exact Calls.still_of HF1.out HF2.out (HWA.out _) | exact Calls.still_of HF1.out HF2.out (HWB.out _)))
                refine wpQuiet_nil ?_
                rintro wB ⟨x, rfl⟩
                have HKx := Lib.hid (HK.out.trans (HF1.out x) (fun _ _ h => h))
                clear m0 m1 m2 m3 m4 m5 m6 m7 m8 ct ca cb
                go_wp2_with fail
                go_roundw
                case rel => exact ⟨k + 1, by go_num, by omega, .inl ⟨rfl, HNo.out⟩, HKx.out⟩
                case measure => simp [intOf]; omega
              | false =>
                have HYes := Lib.hid (HYes.out (by rw [HReady.out]; simp [ht]))
                clear ht
                go_upto_region 6 with fail
                refine wp_region_kept (by kernel_rfl) (by kernel_rfl) HF2.out ?_
                repeat (go_big_quiet_step (with_reducible first | exact Calls.still_of HF1.out HF2.out (HWA.out _) | exact Calls.still_of HF1.out HF2.out (HWB.out _)))
                refine wpQuiet_nil ?_
                rintro wB ⟨x, rfl⟩
                have HKx := Lib.hid (HK.out.trans (HF1.out x) (fun _ _ h => h))
                clear m0 m1 m2 m3 m4 m5 m6 m7 m8 ct ca cb
                go_wp2_with fail
                go_roundw
                case rel => exact ⟨k + 1, by go_num, by omega, .inr ⟨k, rfl, HYes.out⟩, HKx.out⟩
                case measure => simp [intOf]; omega
        · obtain rfl : k = n := by omega
          have hnone : nextO C.gates out = none := by
            unfold nextO
            rw [List.find?_eq_none, HN.out]
            intro j hj
            rw [hno j (List.mem_range.1 hj)]
            simp
          have hend := HRq.out.mid.done hnone
          have HE := Lib.hid (show Own wq w.heap.size 3 u3 (nv (ordO C.gates)) ∧ Kp (fun _ => False) w wq from ⟨by rw [hend]; exact HRq.out.own, HRq.out.kp⟩)
          clear hend hnone hno
          go_wp2_with fail
          go_ret
          exact ⟨_, rfl, HE.out.1, HE.out.2⟩
      · have hjn : j < n := by have := (nextO_some hj).1; rw [HN.out] at this; exact this
        have hol : out.length < n := by have := HRq.out.mid.lenlt hj; rw [HN.out] at this; exact this
        have j0 : (0 : Int) ≤ (j : Int) := by omega
        have j1 : decide ((j : Int) < 0) = false := decide_eq_false (by omega)
        have j2 : (j : Int) < (n : Int) := by omega
        have HOw := Lib.hid ((HRq.out.fr ((Kp.refl _ _).alloc (.cells #[.int .i64 (j : Int)] 3))).own)
        have HSz := Lib.hid (show w.heap.size ≤ wq.heap.size from HRq.out.kp.size)
        have HJ := Lib.hid hj
        have hlv : lenV u3 = out.length := by
          obtain ⟨a, c, e, -⟩ := HRq.out.own.form
          rw [e]; exact nv_length out
        have HLV := Lib.hid hlv
        clear hj hlv
        by_cases hlt : k < n
        all_goals
          go_wp2_with (at_builtin; refine wpList_append1_at rfl _ _ 22 3 rfl Tryd.underlying22 HI.out rfl HOw.out rfl ⟨wq.heap.size, 0, none⟩ (.int .i64 (j : Int)) rfl (World.cell?_alloc_at _ _ _ _ rfl) rfl (by rw [nv_length]; omega) (by rw [nv_length]; unfold maxLen; omega) (by have := HSz.out; simp; omega) ?_)
          intro v' w6 hO2 hgr hat
          have hkg : Kp (fun x => u3.ownBlock = some x) (wq.alloc (.cells #[.int .i64 (j : Int)] 3)) w6 := (Kp.refl _ _).grown hgr (fun x hx _ => hx)
          have htold := (HRq.out.told.alloc (.cells #[.int .i64 (j : Int)] 3)).kp hkg (fun e => (HRq.out.far _ e).2 rfl)
          have ctj : w6.cell? ⟨gt, j, none⟩ = some (.bool (decide (j ∈ out))) := htold.cell (by have := toldC_at (out := out) hjn; simpa using this)
          have ftj := htold.free j
          have hM := HRq.out.more HJ.out hjn ((Kp.refl _ wq).alloc (.cells #[.int .i64 (j : Int)] 3)) hO2 hgr (by simpa using hat)
          have hlv' : lenV v' = out.length + 1 := by
            obtain ⟨a, c, e, -⟩ := hO2.form
            rw [e]; show (nv out ++ [Value.int .i64 (j : Int)]).length = _
            rw [List.length_append, nv_length]; rfl
          have HLV' := Lib.hid hlv'
          have HM := Lib.hid hM
          clear hM hlv' hO2 hgr hat hkg htold
          go_wp2_with fail
          go_roundw
          case rel => exact ⟨_, HM.out⟩
          case measure => have h1 := HLV.out; have h2 := HLV'.out; simp [h1, h2]; omega

end Go.Proofs.YtmjcpapcmbgkjaaDoor

/-
  A region that draws its order, whose operations up to a row of last ones load, compute, make memory of their own, or call what
  makes memory of its own: what each yields is told by a predicate that no new memory spoils. One proof an operation, no orders.
-/
namespace Go.Proofs.YtmjcpapcmbgkjaaDoor
open Go Go.RowKit

def unl (listed : Array Bool) (i : Nat) : Bool := !listed.getD i false
def cntU (n : Nat) (listed : Array Bool) : Nat := (List.range n).countP (unl listed)

theorem cntU_succ (n : Nat) (listed : Array Bool) : cntU (n + 1) listed = cntU n listed + (if unl listed n = true then 1 else 0) := by
  unfold cntU
  rw [List.range_succ, List.countP_append]
  simp [List.countP_cons]

theorem unl_set_ne {listed : Array Bool} {i j : Nat} (h : j ≠ i) : unl (listed.setIfInBounds i true) j = unl listed j := by
  unfold unl
  simp only [Array.getD_eq_getD_getElem?, Array.getElem?_setIfInBounds]
  rw [if_neg (fun e => h e.symm)]

theorem cntU_far {listed : Array Bool} {i : Nat} : ∀ n, n ≤ i → cntU n (listed.setIfInBounds i true) = cntU n listed
  | 0, _ => rfl
  | n + 1, h => by rw [cntU_succ, cntU_succ, cntU_far n (by omega), unl_set_ne (by omega)]

theorem cntU_set {listed : Array Bool} {i : Nat} (hi : i < listed.size) (hu : listed.getD i false = false) : ∀ n, i < n → cntU n (listed.setIfInBounds i true) + 1 = cntU n listed
  | 0, h => by omega
  | n + 1, h => by
    rw [cntU_succ, cntU_succ]
    by_cases e : i = n
    · subst e
      rw [cntU_far i (Nat.le_refl _)]
      have h1 : unl (listed.setIfInBounds i true) i = false := by
        unfold unl
        simp [Array.getD_eq_getD_getElem?, hi]
      have h2 : unl listed i = true := by unfold unl; rw [hu]; rfl
      rw [h1, h2]
      simp
    · have := cntU_set hi hu n (by omega)
      rw [unl_set_ne (fun h => e h.symm)]
      omega

theorem least_of {R : Nat → Prop} (h : ∃ n, R n) : ∃ n, R n ∧ ∀ m, m < n → ¬ R m := by
  obtain ⟨n, hn⟩ := h
  induction n using Nat.strongRecOn with
  | _ n ih =>
    by_cases h : ∃ m, m < n ∧ R m
    · obtain ⟨m, hm, hr⟩ := h
      exact ih m hm hr
    · exact ⟨n, hn, fun m hm hr => h ⟨m, hm, hr⟩⟩

/-- on what an operation waits -/
def edgesOf (ops : Array Oper) (i : Nat) : List Nat := match ops[i]? with
  | none => []
  | some o => (o.after.toList.filter (Region.binds .any)).map (·.on)
def cloStep (ops : Array Oper) (l : List Nat) : List Nat := (List.range ops.size).filter (fun j => l.contains j || l.any (fun i => (edgesOf ops i).contains j))
def clo (ops : Array Oper) : Nat → List Nat → List Nat
  | 0, l => l
  | n + 1, l => clo ops n (cloStep ops l)

theorem clo_listed {ops : Array Oper} {listed : Nat → Prop} (hc : ∀ j, listed j → ∀ k, k ∈ edgesOf ops j → listed k) : ∀ (n : Nat) (l : List Nat), (∀ j, j ∈ l → listed j) → ∀ j, j ∈ clo ops n l → listed j
  | 0, _, h, j, hj => h j hj
  | n + 1, l, h, j, hj => by
    refine clo_listed hc n _ (fun k hk => ?_) j hj
    unfold cloStep at hk
    have h2 := (List.mem_filter.1 hk).2
    simp only [Bool.or_eq_true, List.contains_eq_mem, decide_eq_true_eq, List.any_eq_true] at h2
    rcases h2 with h2 | ⟨i, hi, h3⟩
    · exact h k h2
    · exact hc i (h i hi) k h3

theorem mem_edgesOf {ops : Array Oper} {i : Nat} {o : Oper} (ho : ops[i]? = some o) {k : Nat} : k ∈ edgesOf ops i ↔ ∃ e ∈ o.after, Region.binds .any e = true ∧ e.on = k := by
  unfold edgesOf
  rw [ho]
  simp only [List.mem_map, List.mem_filter, Array.mem_toList_iff]
  exact ⟨fun ⟨e, ⟨h1, h2⟩, h3⟩ => ⟨e, h1, h2, h3⟩, fun ⟨e, h1, h2, h3⟩ => ⟨e, ⟨h1, h2⟩, h3⟩⟩

/-- how the operations hang together: those of p come first -/
structure LooseOK (ops : Array Oper) (p : Nat → Bool) (N : Nat) : Prop where
  ng : ∀ (i : Nat) (o : Oper), ops[i]? = some o → o.guard = none
  low : ∀ (i : Nat) (o : Oper), ops[i]? = some o → p i = true → ∀ e ∈ o.after, Region.binds .any e = true → e.on < i ∧ p e.on = true
  dst : ∀ (i : Nat) (o : Oper), ops[i]? = some o → p i = true → ∃ d, o.dst = some d ∧ d < N
  inj : ∀ (i j : Nat) (o o' : Oper), ops[i]? = some o → ops[j]? = some o' → p i = true → p j = true → o.dst = o'.dst → i = j
  bar : ∀ (i : Nat) (o : Oper), ops[i]? = some o → p i = false → ∀ j, j < ops.size → p j = true → j ∈ clo ops 6 (edgesOf ops i)

def looseB (ops : Array Oper) (p : Nat → Bool) (N : Nat) : Bool :=
  (List.range ops.size).all fun i => match ops[i]? with
    | none => true
    | some o => o.guard.isNone && (if p i then
        o.after.all (fun e => !Region.binds .any e || (decide (e.on < i) && p e.on)) &&
          (match o.dst with
            | none => false
            | some d => decide (d < N) && (List.range ops.size).all (fun j => !p j || decide (j = i) || (match ops[j]? with | none => true | some o' => decide (o'.dst ≠ some d))))
      else (List.range ops.size).all (fun j => !p j || (clo ops 6 (edgesOf ops i)).contains j))

theorem looseB_spec {ops : Array Oper} {p : Nat → Bool} {N : Nat} (h : looseB ops p N = true) : LooseOK ops p N := by
  unfold looseB at h
  rw [List.all_eq_true] at h
  have get : ∀ (i : Nat) (o : Oper), ops[i]? = some o → o.guard.isNone = true ∧ (if p i then
        o.after.all (fun e => !Region.binds .any e || (decide (e.on < i) && p e.on)) &&
          (match o.dst with
            | none => false
            | some d => decide (d < N) && (List.range ops.size).all (fun j => !p j || decide (j = i) || (match ops[j]? with | none => true | some o' => decide (o'.dst ≠ some d))))
      else (List.range ops.size).all (fun j => !p j || (clo ops 6 (edgesOf ops i)).contains j)) = true := fun i o ho => by
    have hi : i < ops.size := (Array.getElem?_eq_some_iff.1 ho).1
    have := h i (List.mem_range.2 hi)
    simp only [ho, Bool.and_eq_true] at this
    exact this
  refine ⟨fun i o ho => ?_, fun i o ho hp e he hb => ?_, fun i o ho hp => ?_, fun i j o o' ho ho' hp hp' hd => ?_, fun i o ho hp j hj hpj => ?_⟩
  · have := (get i o ho).1
    simpa using this
  · have := (get i o ho).2
    rw [if_pos hp, Bool.and_eq_true] at this
    have h1 := this.1
    rw [Array.all_eq_true_iff_forall_mem] at h1
    have h2 := h1 e he
    rw [hb] at h2
    simpa using h2
  · have := (get i o ho).2
    rw [if_pos hp, Bool.and_eq_true] at this
    have h1 := this.2
    cases hd : o.dst with
    | none => rw [hd] at h1; cases h1
    | some d =>
      rw [hd] at h1
      simp only [Bool.and_eq_true, decide_eq_true_eq] at h1
      exact ⟨d, rfl, h1.1⟩
  · have := (get i o ho).2
    rw [if_pos hp, Bool.and_eq_true] at this
    have h1 := this.2
    cases hdd : o.dst with
    | none => rw [hdd] at h1; cases h1
    | some d =>
      rw [hdd] at h1
      simp only [Bool.and_eq_true] at h1
      have h2 := h1.2
      rw [List.all_eq_true] at h2
      have h3 := h2 j (List.mem_range.2 (Array.getElem?_eq_some_iff.1 ho').1)
      rw [hp', ho'] at h3
      simp only [Bool.not_true, Bool.false_or, Bool.or_eq_true, decide_eq_true_eq] at h3
      rcases h3 with h3 | h3
      · exact h3.symm
      · exact absurd (hd.symm.trans hdd) h3
  · have := (get i o ho).2
    rw [if_neg (by simp [hp]), List.all_eq_true] at this
    have h1 := this j (List.mem_range.2 hj)
    rw [hpj, Bool.not_true, Bool.false_or] at h1
    simpa using h1

/-- behind those that are listed -/
structure LInv (ops : Array Oper) (V : Nat → World → Value → Prop) (w0 : World) (a0 : Act) (L : Nat → Prop) (a : Act) (u : World) : Prop where
  kp : Kp (fun _ => False) w0 u
  val : ∀ (i : Nat) (o : Oper) (d : Nat), ops[i]? = some o → L i → o.dst = some d → V i u (a.tmps.getD d undef)
  off : ∀ s, (∀ (i : Nat) (o : Oper), ops[i]? = some o → L i → o.dst ≠ some s) → a.tmps.getD s undef = a0.tmps.getD s undef
  size : a.tmps.size = a0.tmps.size
  defers : a.defers = a0.defers

theorem put_getD_same {a : Act} {d : Nat} {v : Value} (h : d < a.tmps.size) : (a.put (some d) v).tmps.getD d undef = v := by
  show (a.tmps.setIfInBounds d v).getD d undef = v
  simp [Array.getD_eq_getD_getElem?, h]
theorem put_getD_ne {a : Act} {x : Option Tmp} {d : Nat} {v : Value} (h : x ≠ some d) : (a.put x v).tmps.getD d undef = a.tmps.getD d undef := by
  cases x with
  | none => rfl
  | some e =>
    show (a.tmps.setIfInBounds e v).getD d undef = _
    simp only [Array.getD_eq_getD_getElem?, Array.getElem?_setIfInBounds]
    rw [if_neg (fun h' => h (by rw [h']))]
theorem put_size (a : Act) (x : Option Tmp) (v : Value) : (a.put x v).tmps.size = a.tmps.size := by
  cases x with
  | none => rfl
  | some e => show (a.tmps.setIfInBounds e v).size = _; simp
theorem put_defers (a : Act) (x : Option Tmp) (v : Value) : (a.put x v).defers = a.defers := by cases x <;> rfl

theorem getD_true_false {listed : Array Bool} {i : Nat} (h : i < listed.size) : listed.getD i true = listed.getD i false := by
  simp [Array.getD_eq_getD_getElem?, Array.getElem?_eq_getElem h]

theorem listed_ext {a b : Array Bool} (hs : a.size = b.size) (h : ∀ i, i < a.size → a.getD i false = b.getD i false) : a = b := by
  apply Array.ext hs
  intro i h1 h2
  have := h i h1
  simpa [Array.getD_eq_getD_getElem?, Array.getElem?_eq_getElem h1, Array.getElem?_eq_getElem h2] using this

theorem wpAny_loose {P : Program} {ops : Array Oper} {Q : Exit → Act → World → Prop} {p : Nat → Bool} {V : Nat → World → Value → Prop} {w0 : World} {a0 : Act} {LP : Array Bool} (L : LooseOK ops p a0.tmps.size)
    (stable : ∀ i u u' v, Kp (fun _ => False) u u' → V i u v → V i u' v)
    (hstep : ∀ (i : Nat) (o : Oper), ops[i]? = some o → p i = true → ∀ a u, Kp (fun _ => False) w0 u →
      (∀ s, (∀ (j : Nat) (oj : Oper), ops[j]? = some oj → p j = true → oj.dst ≠ some s) → a.tmps.getD s undef = a0.tmps.getD s undef) →
      (∀ e ∈ o.after, Region.binds .any e = true → ∀ (oj : Oper) (d : Nat), ops[e.on]? = some oj → oj.dst = some d → V e.on u (a.tmps.getD d undef)) →
      o.wp P a u (fun a' u' => ∃ v, a' = a.put o.dst v ∧ Kp (fun _ => False) u u' ∧ V i u' v) Q)
    (hLs : LP.size = ops.size) (hLP : ∀ i, i < ops.size → LP.getD i false = p i)
    (hend : ∀ a u, LInv ops V w0 a0 (fun i => p i = true) a u → wpAny P .any ops Q (cntU ops.size LP) LP a u) :
    ∀ (fuel : Nat) (listed : Array Bool) (a : Act) (u : World), listed.size = ops.size → fuel = cntU ops.size listed → (∀ i, i < ops.size → listed.getD i false = true → p i = true) → (∀ j, listed.getD j false = true → ∀ k, k ∈ edgesOf ops j → listed.getD k false = true) →
      LInv ops V w0 a0 (fun i => listed.getD i false = true) a u → wpAny P .any ops Q fuel listed a u := by
  intro fuel
  induction fuel with
  | zero =>
    intro listed a u hs hf hl hcl hI
    have hall : ∀ i, i < ops.size → listed.getD i false = true := fun i hi => by
      by_cases h : listed.getD i false = true
      · exact h
      · have := cntU_set (listed := listed) (by omega) (by simpa using h) ops.size hi
        omega
    have e : listed = LP := listed_ext (by omega) (fun i hi => by
      rw [hall i (by omega), hLP i (by omega)]
      exact (hl i (by omega) (hall i (by omega))).symm)
    subst e
    have := hend a u ⟨hI.kp, fun i o d ho _ hd => hI.val i o d ho (hall i (Array.getElem?_eq_some_iff.1 ho).1) hd, fun s hs' => hI.off s (fun i o ho hi => hs' i o ho (hl i (Array.getElem?_eq_some_iff.1 ho).1 hi)), hI.size, hI.defers⟩
    rwa [← hf] at this
  | succ fuel ih =>
    intro listed a u hs hf hl hcl hI
    by_cases hall : ∀ i, i < ops.size → p i = true → listed.getD i false = true
    · have e : listed = LP := listed_ext (by omega) (fun i hi => by
        rw [hLP i (by omega)]
        by_cases h : p i = true
        · rw [h, hall i (by omega) h]
        · by_cases h2 : listed.getD i false = true
          · exact absurd (hl i (by omega) h2) h
          · have h3 : p i = false := by simpa using h
            have h4 : listed.getD i false = false := by simpa using h2
            rw [h3, h4])
      subst e
      have := hend a u ⟨hI.kp, fun i o d ho hp hd => hI.val i o d ho (hall i (Array.getElem?_eq_some_iff.1 ho).1 hp) hd, fun s hs' => hI.off s (fun i o ho hi => hs' i o ho (hl i (Array.getElem?_eq_some_iff.1 ho).1 hi)), hI.size, hI.defers⟩
      rwa [← hf] at this
    · obtain ⟨i0, ⟨hi0, hp0, hu0⟩, hmin⟩ := least_of (R := fun i => i < ops.size ∧ p i = true ∧ listed.getD i false = false) (by
        refine Classical.byContradiction fun hno => hall fun i hi hp => ?_
        by_cases h : listed.getD i false = true
        · exact h
        · exact absurd ⟨i, hi, hp, by simpa using h⟩ hno)
      have hready : i0 ∈ Region.ready .any ops listed := by
        rw [mem_ready]
        refine ⟨by rw [getD_true_false (by omega)]; exact hu0, ops[i0], Array.getElem?_eq_getElem hi0, fun e he hb => ?_⟩
        obtain ⟨h1, h2⟩ := L.low i0 _ (Array.getElem?_eq_getElem hi0) hp0 e he hb
        by_cases h : listed.getD e.on false = true
        · exact h
        · exact absurd ⟨by omega, h2, by simpa using h⟩ (hmin e.on h1)
      refine ⟨fun h => (by rw [h] at hready; cases hready), fun i hi => ?_⟩
      obtain ⟨h1, o, ho, hedge⟩ := mem_ready.1 hi
      have hisz : i < ops.size := (Array.getElem?_eq_some_iff.1 ho).1
      rw [getD_true_false (by omega)] at h1
      have hpi : p i = true := by
        by_cases h : p i = true
        · exact h
        · have h3 := clo_listed (listed := fun j => listed.getD j false = true) hcl 6 (edgesOf ops i) (fun k hk => by
            obtain ⟨e, he, hb, hon⟩ := (mem_edgesOf ho).1 hk
            have := hedge e he hb
            rwa [hon] at this) i0 (L.bar i o ho (by simpa using h) i0 hi0 hp0)
          rw [hu0] at h3
          cases h3
      obtain ⟨d, hd, hdN⟩ := L.dst i o ho hpi
      have hw : Region.wanted o (yielded ops a.tmps) = true := by simp [Region.wanted, L.ng i o ho]
      unfold wpOp
      rw [ho]
      simp only
      rw [if_pos hw]
      refine .inl (Oper.wp_mono ?_ (hstep i o ho hpi a u hI.kp (fun s hs' => hI.off s (fun j oj hoj hj => hs' j oj hoj (hl j (Array.getElem?_eq_some_iff.1 hoj).1 hj))) (fun e he hb oj d' hoj hd' => hI.val e.on oj d' hoj (hedge e he hb) hd')))
      rintro a' u' ⟨v, rfl, hK, hV⟩
      have hset : ∀ j, (listed.setIfInBounds i true).getD j false = true ↔ j = i ∨ listed.getD j false = true := fun j => by
        simp only [Array.getD_eq_getD_getElem?, Array.getElem?_setIfInBounds]
        by_cases e : i = j
        · subst e; simp [show i < listed.size by omega]
        · rw [if_neg e]
          exact ⟨.inr, fun h => h.resolve_left (fun h => e h.symm)⟩
      refine ih _ _ _ (by simp [hs]) ?_ (fun j hj hlj => ?_) (fun j hj k hk => ?_) ⟨hI.kp.trans hK (fun _ _ h => h), fun j oj dj hoj hj hdj => ?_, fun s hs' => ?_, by rw [put_size]; exact hI.size, by rw [put_defers]; exact hI.defers⟩
      · have := cntU_set (listed := listed) (by omega) h1 ops.size hisz
        omega
      · rcases (hset j).1 hlj with e | e
        · rw [e]; exact hpi
        · exact hl j hj e
      · rcases (hset j).1 hj with e | e
        · subst e
          obtain ⟨e, he, hb, hon⟩ := (mem_edgesOf ho).1 hk
          refine (hset k).2 (.inr ?_)
          rw [← hon]
          exact hedge e he hb
        · exact (hset k).2 (.inr (hcl j e k hk))
      · rcases (hset j).1 hj with e | e
        · subst e
          have : oj = o := by rw [hoj] at ho; exact Option.some.inj ho
          subst this
          rw [hdj] at hd
          have : dj = d := Option.some.inj hd
          subst this
          rw [hdj, put_getD_same (by rw [hI.size]; exact hdN)]
          exact hV
        · by_cases eji : j = i
          · subst eji
            rw [h1] at e; cases e
          · rw [put_getD_ne (fun h => eji (L.inj j i oj o hoj ho (hl j (Array.getElem?_eq_some_iff.1 hoj).1 e) hpi (by rw [hdj, h])))]
            exact stable j u u' _ hK (hI.val j oj dj hoj e hdj)
      · rw [put_getD_ne (hs' i o ho ((hset i).2 (.inl rfl)))]
        exact hI.off s (fun j oj hoj hj => hs' j oj hoj ((hset j).2 (.inr hj)))

/-- the region, whose last ones (not of p) stay to be walked -/
theorem wp_region_loose {P : Program} {id : Nat} {ops : Array Oper} {Q : Exit → Act → World → Prop} {p : Nat → Bool} {V : Nat → World → Value → Prop} {w : World} {a0 : Act} {LP : Array Bool} {K : Nat} (hm : P.follows .mixedOrders = true) (hB : looseB ops p a0.tmps.size = true)
    (stable : ∀ i u u' v, Kp (fun _ => False) u u' → V i u v → V i u' v)
    (hstep : ∀ (i : Nat) (o : Oper), ops[i]? = some o → p i = true → ∀ a u, Kp (fun _ => False) w u →
      (∀ s, (∀ (j : Nat) (oj : Oper), ops[j]? = some oj → p j = true → oj.dst ≠ some s) → a.tmps.getD s undef = a0.tmps.getD s undef) →
      (∀ e ∈ o.after, Region.binds .any e = true → ∀ (oj : Oper) (d : Nat), ops[e.on]? = some oj → oj.dst = some d → V e.on u (a.tmps.getD d undef)) →
      o.wp P a u (fun a' u' => ∃ v, a' = a.put o.dst v ∧ Kp (fun _ => False) u u' ∧ V i u' v) Q)
    (hLs : LP.size = ops.size) (hLP : ∀ i, i < ops.size → LP.getD i false = p i) (hK : cntU ops.size LP = K)
    (hend : ∀ a u, LInv ops V w a0 (fun i => p i = true) a u → wpAny P .any ops Q K LP a u) : (Code.region id ops true).wp P Q a0 w := by
  refine wp_region_any hm ?_
  refine wpAny_loose (looseB_spec hB) stable hstep hLs hLP (fun a u h => by rw [hK]; exact hend a u h) ops.size _ a0 _ (by simp) ?_ (fun i hi h => ?_) (fun i h => ?_) ⟨(Kp.refl (fun _ => False) w).drew, fun i o d ho h => ?_, fun _ _ => rfl, rfl, rfl⟩
  · have : ∀ n, cntU n (Array.replicate ops.size false) = n := fun n => by
      induction n with
      | zero => rfl
      | succ n ih => rw [cntU_succ, ih]; simp [unl, Array.getD_eq_getD_getElem?, Array.getElem?_replicate]; split <;> simp
    rw [this]
  · simp [Array.getD_eq_getD_getElem?, Array.getElem?_replicate] at h
    split at h <;> simp at h
  · simp [Array.getD_eq_getD_getElem?, Array.getElem?_replicate] at h
    split at h <;> simp at h
  · simp [Array.getD_eq_getD_getElem?, Array.getElem?_replicate] at h
    split at h <;> simp at h

def noDst (ops : Array Oper) (p : Nat → Bool) (s : Nat) : Bool := (List.range ops.size).all fun j => !p j || (match ops[j]? with | none => true | some o => decide (o.dst ≠ some s))
theorem noDst_spec {ops : Array Oper} {p : Nat → Bool} {s : Nat} (h : noDst ops p s = true) : ∀ (j : Nat) (oj : Oper), ops[j]? = some oj → p j = true → oj.dst ≠ some s := by
  intro j oj hj hp
  unfold noDst at h
  rw [List.all_eq_true] at h
  have := h j (List.mem_range.2 (Array.getElem?_eq_some_iff.1 hj).1)
  rw [hp, hj] at this
  simpa using this

theorem slot_at {a : Act} {s : Nat} {v : Value} (h : a.tmps.getD s undef = v) : a.tmps[s]?.getD undef = v := by rw [← Array.getD_eq_getD_getElem?]; exact h

/-- a frame, slot by slot -/
theorem act_list (a : Act) (n : Nat) (h : a.tmps.size = n) : a = ⟨((List.range n).map (fun s => a.tmps.getD s undef)).toArray, a.defers⟩ := by
  obtain ⟨t, ds⟩ := a
  simp only at h
  subst h
  simp only [Act.mk.injEq, and_true]
  apply Array.ext
  · simp
  · intro i h1 h2
    simp [Array.getD_eq_getD_getElem?, Array.getElem?_eq_getElem h1]

end Go.Proofs.YtmjcpapcmbgkjaaDoor

/-
  What the operations of a loose region yield: lists of their own, copies of lists.
-/
namespace Go.Proofs.YtmjcpapcmbgkjaaDoor
open Go Go.RowKit

/-- an empty list of the call's own -/
def LitV (t : TypeId) (u : World) (v : Value) : Prop := ∃ g, v = .slice (some ⟨g, 0, none⟩) 0 0 ∧ Blk u g #[] t
/-- a list of the call's own, of n elements that are the cells cs -/
def LitC (B : Nat) (cs : Array Value) (n : Nat) (t : TypeId) (u : World) (v : Value) : Prop := ∃ g, v = .slice (some ⟨g, 0, none⟩) n n ∧ Blk u g cs t ∧ B ≤ g
/-- a slice that reads ints -/
def SlI (L : List Int) (n : Nat) (u : World) (v : Value) : Prop := ∃ a c, v = .slice a n c ∧ SlOK a n c ∧ IntsAt u a L
/-- a slice that reads rows -/
def SlK (rows : List (List Value)) (n : Nat) (u : World) (v : Value) : Prop := ∃ a c, v = .slice a n c ∧ SlOK a n c ∧ RowAt u a rows.flatten
def EqV (x : Value) (_ : World) (v : Value) : Prop := v = x
def AnyV (_ : World) (_ : Value) : Prop := True

def Stable (V : World → Value → Prop) : Prop := ∀ u u' v, Kp (fun _ => False) u u' → V u v → V u' v
theorem LitV.st (t : TypeId) : Stable (LitV t) := fun _ _ _ k ⟨g, h1, h2⟩ => ⟨g, h1, h2.kp k (fun h => h)⟩
theorem LitC.st (B : Nat) (cs : Array Value) (n : Nat) (t : TypeId) : Stable (LitC B cs n t) := fun _ _ _ k ⟨g, h1, h2, h3⟩ => ⟨g, h1, h2.kp k (fun h => h), h3⟩
theorem SlI.st (L : List Int) (n : Nat) : Stable (SlI L n) := fun _ _ _ k ⟨a, c, h1, h2, h3⟩ => ⟨a, c, h1, h2, h3.kp k (fun _ _ h => h)⟩
theorem SlK.st (L : List (List Value)) (n : Nat) : Stable (SlK L n) := fun _ _ _ k ⟨a, c, h1, h2, h3⟩ => ⟨a, c, h1, h2, h3.kp k (fun _ _ h => h)⟩
theorem EqV.st (x : Value) : Stable (EqV x) := fun _ _ _ _ h => h
theorem AnyV.st : Stable AnyV := fun _ _ _ _ _ => trivial

/-- a slice that reads rows, in memory from B on -/
def SlF (B : Nat) (rows : List (List Value)) (n : Nat) (u : World) (v : Value) : Prop := ∃ a c, v = .slice a n c ∧ SlOK a n c ∧ RowAt u a rows.flatten ∧ (rows ≠ [] → ∀ p, a = some p → B ≤ p.block)
theorem SlF.st (B : Nat) (L : List (List Value)) (n : Nat) : Stable (SlF B L n) := fun _ _ _ k ⟨a, c, h1, h2, h3, h4⟩ => ⟨a, c, h1, h2, h3.kp k (fun _ _ h => h), h4⟩
theorem SlF.kp {B n : Nat} {rows : List (List Value)} {S : Nat → Prop} {u u' : World} {v : Value} (h : SlF B rows n u v) (k : Kp S u u') (hS : ∀ j, S j → j < B) : SlF B rows n u' v := by
  obtain ⟨a, c, h1, h2, h3, h4⟩ := h
  refine ⟨a, c, h1, h2, ?_, h4⟩
  by_cases hn : rows = []
  · subst hn; exact RowAt.nil _ _
  · exact h3.kp k (fun p hp hs => by have := h4 hn p hp; have := hS _ hs; omega)
theorem SlF.low {B B' n : Nat} {rows : List (List Value)} {u : World} {v : Value} (h : SlF B rows n u v) (hb : B' ≤ B) : SlF B' rows n u v := by
  obtain ⟨a, c, h1, h2, h3, h4⟩ := h
  exact ⟨a, c, h1, h2, h3, fun hn p hp => Nat.le_trans hb (h4 hn p hp)⟩
theorem SlF.row {B n : Nat} {rows : List (List Value)} {u : World} {a : Option Addr} {c : Nat} (h : SlF B rows n u (.slice a n c)) : SlOK a n c ∧ RowAt u a rows.flatten := by
  obtain ⟨a2, c2, e, h2, h3, _⟩ := h
  simp only [Value.slice.injEq, true_and] at e
  obtain ⟨rfl, rfl⟩ := e
  exact ⟨h2, h3⟩

theorem ownForm {w : World} {base : Nat} {e : TypeId} {v : Value} {cs : List Value} (h : Own w base e v cs) : ∃ a cap, v = .slice a cs.length cap ∧ cs.length ≤ cap ∧ cap ≤ maxLen ∧ (a = none → cap = 0) ∧ (∀ p, a = some p → base ≤ p.block) ∧ RowAt w a cs := by
  rcases h.2 with ⟨rfl, hn⟩ | ⟨g, cap, cur, rfl, hb, hg, hnc, hcm, hcs, htake⟩
  · have : cs = [] := List.eq_nil_of_length_eq_zero hn
    subst this
    exact ⟨none, 0, rfl, Nat.le_refl _, Nat.zero_le _, fun _ => rfl, fun p hp => (by cases hp), RowAt.nil _ _⟩
  · have hB : Blk w g cur e := hg
    exact ⟨_, cap, rfl, hnc, hcm, (fun h => by cases h), fun p hp => by simp at hp; subst hp; exact hb, hB.rowAt (off := 0) (n := cs.length * 1) (by simpa using htake)⟩

/-- a list of predicates, by places -/
def atV (Vs : List (World → Value → Prop)) (i : Nat) : World → Value → Prop := Vs.getD i AnyV
theorem atV_st {Vs : List (World → Value → Prop)} (h : ∀ V ∈ Vs, Stable V) : ∀ i u u' v, Kp (fun _ => False) u u' → atV Vs i u v → atV Vs i u' v := by
  intro i u u' v k
  unfold atV
  rw [List.getD_eq_getElem?_getD]
  cases hi : Vs[i]? with
  | none => exact fun _ => trivial
  | some V => exact h V (List.mem_of_getElem? hi) u u' v k

theorem lit_append {P : Program} {u : World} {t ty e : TypeId} {z : Value} {k bytes g : Nat} (ht : P.underlying t = some (.slice e)) (hI : (P.info? e).map (fun i => (i.zero, i.size, i.bytes)) = some (some z, k, bytes)) (hzs : z.cells.size = k) (hk : 0 < k)
    (hB : Blk u g #[] e) {src : Option Addr} {n c : Nat} {rows : List (List Value)} (hn : rows.length = n) (hl : ∀ r ∈ rows, r.length = k) (h1 : ∀ r ∈ rows, ∀ x ∈ r, x.oneCell' = true) (hr : RowAt u src rows.flatten) (ho : SlOK src n c) (hm : n ≤ maxLen) (hb : n * bytes ≤ 140737488355328) :
    ∃ v' u', (Builtin.append_ #[t, t] ty #[.slice (some ⟨g, 0, none⟩) 0 0, .slice src n c]).run P u = .ok v' u' ∧ SlF u.heap.size rows n u' v' ∧ Kp (fun _ => False) u u' := by
  obtain ⟨i0, hi, hz0, hz1, hz2⟩ := info_parts hI
  have hfl : rows.flatten.length = n * k := by rw [flat_length hl, hn]
  have hone : ∀ x ∈ rows.flatten, x.oneCell' = true := fun x hx => by
    obtain ⟨r, hr, hxr⟩ := List.mem_flatten.1 hx
    exact h1 r hr x hxr
  have hOwn : OwnK u g e k (.slice (some ⟨g, 0, none⟩) 0 0) [] := OwnK.lit (rows := []) hB (Nat.le_refl _) (fun r h => by cases h) (Nat.zero_le _)
  cases src with
  | none =>
    have hc := ho.nil rfl
    have hn0 : n = 0 := by have := ho.le; omega
    subst hc hn0
    have hrw : rows = [] := List.eq_nil_of_length_eq_zero hn
    subst hrw
    refine ⟨.slice (some ⟨g, 0, none⟩) 0 0, u, run_append_owned_none (P := P) (w := u) g t ty e i0 k ht hi _ 0 [] hOwn.own, ⟨some ⟨g, 0, none⟩, 0, rfl, ⟨Nat.le_refl _, Nat.zero_le _, fun h => by cases h⟩, RowAt.nil _ _, fun h => absurd rfl h⟩, Kp.refl _ _⟩
  | some ad =>
    have hcells : ∀ j x, rows.flatten[j]? = some x → u.cell? (ad.add j) = some x := fun j x hj => by
      obtain ⟨b, off, hab, hc⟩ := hr j x hj
      simp only [Option.some.injEq] at hab
      subst hab
      rw [add_plain']
      exact hc
    by_cases hn0 : n = 0
    · subst hn0
      have hrw : rows = [] := List.eq_nil_of_length_eq_zero hn
      subst hrw
      have hrun := run_append_room_cells (P := P) (w := u) t ty e i0 ht hi g 0 0 0 ad 0 c [] (by simp) (fun j x hj => by simp at hj) (fun x hx => by cases hx) (Nat.le_refl _) (fun j hj => by simp at hj) (fun j hj => by simp at hj)
      refine ⟨_, _, hrun, ⟨some ⟨g, 0, none⟩, 0, rfl, ⟨Nat.le_refl _, Nat.zero_le _, fun h => by cases h⟩, RowAt.nil _ _, fun h => absurd rfl h⟩, ?_⟩
      exact Kp.refl _ _
    · obtain ⟨v', u', hrun, hown, hg⟩ := run_append_arg_grows (P := P) (w := u) t ty e i0 z k bytes ht hi hz0 hz1 hz2 hzs hk ⟨g, 0, none⟩ 0 0 [] (by simp) (fun j x hj => by simp at hj) ad n c rows.flatten hfl hcells (by omega) (by omega) (by rw [Nat.zero_add]; exact hb)
      have hO : OwnK u' u.heap.size e k v' rows := ⟨by simpa [hn] using hown, hl⟩
      obtain ⟨a, c', e1, h2, h3, h4, h5, h6⟩ := hO.form
      rw [hn] at e1 h2
      exact ⟨v', u', hrun, ⟨a, c', e1, ⟨h2, h3, h4⟩, h6, fun _ p hp => by obtain ⟨g', rfl, hb', -⟩ := h5 p hp; exact hb'⟩, (Kp.refl (fun _ => False) u).grown hg (fun j hj _ => by cases hj)⟩

/-- the last operations of a region, that stand in one order -/
theorem wpAny_tail {P : Program} {l : List Oper} {Q : Exit → Act → World → Prop} (n : Nat) {LP : Array Bool} {a : Act} {u : World} {K : Nat} (hK : (l.drop n).length = K) (hB : Region.seqB .any l.toArray K n LP = true) (h : wpList P l.toArray Q (l.drop n) a u) : wpAny P .any l.toArray Q K LP a u := by
  subst hK
  exact wpAny_of_seq (md := .any) (Q' := Q) (l.drop n) n LP a u (fun j => by simp [List.getElem?_drop]) hB h

theorem lw_append {P : Program} {o : Oper} {a : Act} {u : World} {Q : Exit → Act → World → Prop} (s x : Operand) (t e : TypeId) (hop : o.op = .call { callee := .builtin .append, args := #[s, x], argTypes := #[t, t] }) {z : Value} {k bytes : Nat}
    (ht : P.underlying t = some (.slice e)) (hI : (P.info? e).map (fun i => (i.zero, i.size, i.bytes)) = some (some z, k, bytes)) (hzs : z.cells.size = k) (hk : 0 < k)
    (hs : LitV e u (a.eval s)) {rows : List (List Value)} {n : Nat} (hx : SlK rows n u (a.eval x)) (hn : rows.length = n) (hl : ∀ r ∈ rows, r.length = k) (h1 : ∀ r ∈ rows, ∀ y ∈ r, y.oneCell' = true) (hm : n ≤ maxLen) (hb : n * bytes ≤ 140737488355328) {B : Nat} (hBu : B ≤ u.heap.size) :
    o.wp P a u (fun a' u' => ∃ v, a' = a.put o.dst v ∧ Kp (fun _ => False) u u' ∧ SlF B rows n u' v) Q := by
  obtain ⟨g, hg, hB⟩ := hs
  obtain ⟨src, c, hsrc, hok, hr⟩ := hx
  obtain ⟨v', u', hrun, hS, hK⟩ := lit_append (P := P) (u := u) (t := t) (ty := o.type) ht hI hzs hk hB hn hl h1 hr hok hm hb
  unfold Oper.wp execOp
  simp only [hop, resolve, invoke, builtin, Sem.run_bind, Sem.run_pure, Result.andThen_ok, List.map_toArray, List.map_cons, List.map_nil, hg, hsrc, hrun]
  obtain ⟨a1, c1, q1, q2, q3, q4⟩ := hS
  exact ⟨v', rfl, hK, a1, c1, q1, q2, q3, fun hn p hp => Nat.le_trans hBu (q4 hn p hp)⟩



def upTo (n i : Nat) : Bool := decide (i < n)

theorem upTo_spec {n m : Nat} {LP : Array Bool} (h : (List.range m).all (fun i => LP.getD i false == upTo n i) = true) : ∀ i, i < m → LP.getD i false = upTo n i := by
  intro i hi
  rw [List.all_eq_true] at h
  have := h i (List.mem_range.2 hi)
  simpa using this

/-- ints as rows of one -/
def ir (L : List Int) : List (List Value) := L.map (fun x => [Value.int .i64 x])
theorem ir_flat (L : List Int) : (ir L).flatten = L.map (Value.int .i64) := by
  unfold ir
  rw [← flat_ones (L.map (Value.int .i64)), List.map_map]
  rfl
theorem ir_len (L : List Int) : ∀ r ∈ ir L, r.length = 1 := fun r hr => by obtain ⟨x, _, rfl⟩ := List.mem_map.1 hr; rfl
theorem ir_one (L : List Int) : ∀ r ∈ ir L, ∀ y ∈ r, y.oneCell' = true := fun r hr y hy => by
  obtain ⟨x, _, rfl⟩ := List.mem_map.1 hr
  simp at hy; subst hy; rfl
theorem ir_length (L : List Int) : (ir L).length = L.length := List.length_map ..
theorem SlK.ints {L : List Int} {n : Nat} {u : World} {v : Value} (h : SlK (ir L) n u v) : ∃ a c, v = .slice a n c ∧ SlOK a n c ∧ IntsAt u a L := by
  obtain ⟨a, c, h1, h2, h3⟩ := h
  rw [ir_flat] at h3
  exact ⟨a, c, h1, h2, h3⟩
theorem SlK.of_ints {L : List Int} {n : Nat} {u : World} {a : Option Addr} {c : Nat} (h2 : SlOK a n c) (h3 : IntsAt u a L) : SlK (ir L) n u (.slice a n c) := ⟨a, c, rfl, h2, by rw [ir_flat]; exact h3⟩

/-- a call of what makes memory of its own -/
theorem lw_call {P : Program} {o : Oper} {a : Act} {u : World} {Q : Exit → Act → World → Prop} {V : World → Value → Prop} {f : FuncId} {args : Array Value} (h : (execOp a.eval o).run P u = .ok (.enter f args) u)
    (hc : Calls P f args u fun e u' => ∃ v, e = .returned v ∧ Kp (fun _ => False) u u' ∧ V u' v) : o.wp P a u (fun a' u' => ∃ v, a' = a.put o.dst v ∧ Kp (fun _ => False) u u' ∧ V u' v) Q := by
  unfold Oper.wp
  rw [h]
  refine hc.mono ?_
  rintro e u' ⟨v, rfl, hK, hV⟩
  exact ⟨v, rfl, hK, hV⟩

theorem lw_value {P : Program} {o : Oper} {a : Act} {u u' : World} {Q : Exit → Act → World → Prop} {V : World → Value → Prop} {v : Value} (h : (execOp a.eval o).run P u = .ok (.value v) u') (hK : Kp (fun _ => False) u u') (hV : V u' v) :
    o.wp P a u (fun a' u' => ∃ v, a' = a.put o.dst v ∧ Kp (fun _ => False) u u' ∧ V u' v) Q := by
  unfold Oper.wp
  rw [h]
  exact ⟨v, rfl, hK, hV⟩

end Go.Proofs.YtmjcpapcmbgkjaaDoor

/-
  A net on the way, in memory: its nodes, and where its circuit's variables are.
-/
namespace Go.Proofs.YtmjcpapcmbgkjaaDoor
open Go.RowKit

theorem OwnK.blkN {w : World} {base k : Nat} {e : TypeId} {v : Value} {rows : List (List Value)} (h : OwnK w base e k v rows) {j : Nat} (hj : v.ownBlock = some j) : ∃ c, Blk w j c e := by
  rcases h.own.2 with ⟨hv, _⟩ | ⟨g, cap, cur, hv, hb, hg, _⟩
  · rw [hv] at hj; cases hj
  · rw [hv] at hj
    have e : g = j := by simpa [Value.ownBlock] using hj
    subst e
    exact ⟨cur, hg⟩

theorem blkN_type {w : World} {j : Nat} {c c' : Array Value} {t t' : TypeId} (h : Blk w j c t) (h' : Blk w j c' t') : t = t' := by
  unfold Blk at h h'
  rw [h] at h'
  simp at h'
  exact h'.2

/-- a node as cells -/
def pr2 (x : Int × Int) : List Value := [.int .i64 x.1, .int .i64 x.2]
theorem pr2_len (L : List (Int × Int)) : ∀ r ∈ L.map pr2, r.length = 2 := fun r hr => by obtain ⟨x, _, rfl⟩ := List.mem_map.1 hr; rfl
theorem pr2_one (x : Int × Int) : ∀ u ∈ pr2 x, u.oneCell' = true := fun u hu => by
  unfold pr2 at hu
  simp at hu
  rcases hu with rfl | rfl <;> rfl

theorem iv_at {l : List Int} {j : Nat} (h : j < l.length) : (iv l)[j]? = some (.int .i64 (gi l j)) := by
  unfold iv gi
  rw [List.getElem?_map, List.getElem?_eq_getElem h]; rfl

theorem iv_set (l : List Int) (j : Nat) (x : Int) : (iv l).set j (.int .i64 x) = iv (l.set j x) := by
  unfold iv; rw [List.map_set]

section
variable {V : CV} {C : Circ} {w wr wr' w2 : World} {s : NS} {v4 v5 v' : Value}

end

theorem in_own {C : Circ} {i : Nat} (h : i < C.ins.length) : gi C.ins i ∈ C.owned := by
  unfold Circ.owned
  refine List.mem_append.2 (.inl (List.mem_append.2 (.inl ?_)))
  unfold gi; rw [List.getElem?_eq_getElem h]; exact List.getElem_mem _
theorem lat_own {C : Circ} {i : Nat} (h : i < C.lats.length) : (g3 C.lats i).1 ∈ C.owned := by
  unfold Circ.owned
  exact List.mem_append.2 (.inl (List.mem_append.2 (.inr (List.mem_map.2 ⟨_, g3_mem h, rfl⟩))))

theorem CAt.inCell {w : World} {V : CV} {C : Circ} (h : CAt w V C) {q : Nat} (hq : q < C.ins.length) : ∃ b off, V.ai = some ⟨b, off, none⟩ ∧ ∀ u, Kp (fun _ => False) w u → u.cell? ⟨b, off + q, none⟩ = some (.int .i64 (gi C.ins q)) := by
  obtain ⟨b, off, ea, e⟩ := h.i.get hq
  exact ⟨b, off, ea, fun u hu => hu.cellK e⟩
theorem CAt.latCell {w : World} {V : CV} {C : Circ} (h : CAt w V C) {q : Nat} (hq : q < C.lats.length) : ∃ b off, V.al = some ⟨b, off, none⟩ ∧ ∀ u, Kp (fun _ => False) w u → u.cell? ⟨b, off + q * 3, none⟩ = some (.int .i64 (g3 C.lats q).1) ∧ u.cell? ⟨b, off + q * 3 + 1, none⟩ = some (.int .i64 (g3 C.lats q).2.1) ∧ u.cell? ⟨b, off + q * 3 + 2, none⟩ = some (.int .i64 (g3 C.lats q).2.2) := by
  obtain ⟨b, off, ea, e0, e1, e2⟩ := tri_cells h.l hq
  exact ⟨b, off, ea, fun u hu => ⟨hu.cellK e0, hu.cellK e1, hu.cellK e2⟩⟩
theorem CAt.gateCell {w : World} {V : CV} {C : Circ} (h : CAt w V C) {q : Nat} (hq : q < C.gates.length) : ∃ b off, V.ag = some ⟨b, off, none⟩ ∧ ∀ u, Kp (fun _ => False) w u → u.cell? ⟨b, off + q * 3, none⟩ = some (.int .i64 (g3 C.gates q).1) ∧ u.cell? ⟨b, off + q * 3 + 1, none⟩ = some (.int .i64 (g3 C.gates q).2.1) ∧ u.cell? ⟨b, off + q * 3 + 2, none⟩ = some (.int .i64 (g3 C.gates q).2.2) := by
  obtain ⟨b, off, ea, e0, e1, e2⟩ := tri_cells h.g hq
  exact ⟨b, off, ea, fun u hu => ⟨hu.cellK e0, hu.cellK e1, hu.cellK e2⟩⟩

theorem div_row {l : Int} (h : 0 ≤ l) : l / 2 = ((l / 2).toNat : Int) := by omega

end Go.Proofs.YtmjcpapcmbgkjaaDoor

/-
  binary.Normal.
-/
namespace Go.Proofs.YtmjcpapcmbgkjaaDoor
open Go.RowKit

/-- numbered so, as far as k of those that are owned and j gates -/
def OkP (C : Circ) (k j : Nat) : Prop := (∀ i, i < k → gi C.owned i = 2 * (i : Int) + 2) ∧ ∀ i, i < j → (g3 C.gates i).2.2 ≤ (g3 C.gates i).2.1 ∧ (g3 C.gates i).2.1 < (g3 C.gates i).1

theorem OkP.zero (C : Circ) : OkP C 0 0 := ⟨fun i h => by omega, fun i h => by omega⟩
theorem okP_succ {C : Circ} {k j : Nat} {o : Bool} {l : Int} (h : o = true ↔ OkP C k j) (hl : gi C.owned k = l) : (o && decide (l = 2 * (k : Int) + 2)) = true ↔ OkP C (k + 1) j := by
  rw [Bool.and_eq_true, decide_eq_true_eq, h]
  constructor
  · rintro ⟨⟨h1, h2⟩, h3⟩
    exact ⟨fun i hi => by
      by_cases e : i < k
      · exact h1 i e
      · obtain rfl : i = k := by omega
        rw [hl, h3], h2⟩
  · rintro ⟨h1, h2⟩
    exact ⟨⟨fun i hi => h1 i (by omega), h2⟩, by rw [← hl, h1 k (by omega)]⟩
theorem okP_gate {C : Circ} {k j : Nat} {o : Bool} {a b c : Int} (h : o = true ↔ OkP C k j) (hg : g3 C.gates j = (a, b, c)) : (o && decide (c ≤ b) && decide (b < a)) = true ↔ OkP C k (j + 1) := by
  rw [Bool.and_eq_true, Bool.and_eq_true, decide_eq_true_eq, decide_eq_true_eq, h]
  constructor
  · rintro ⟨⟨⟨h1, h2⟩, h3⟩, h4⟩
    refine ⟨h1, fun i hi => ?_⟩
    by_cases e : i < j
    · exact h2 i e
    · obtain rfl : i = j := by omega
      rw [hg]
      exact ⟨h3, h4⟩
  · rintro ⟨h1, h2⟩
    have := h2 j (by omega)
    rw [hg] at this
    exact ⟨⟨⟨h1, fun i hi => h2 i (by omega)⟩, this.1⟩, this.2⟩
theorem normC_iff {C : Circ} : NormC C ↔ ckCode C = 0 ∧ C.max = (C.owned.length : Int) ∧ OkP C C.owned.length C.gates.length := by
  constructor
  · intro h
    exact ⟨h.good.code, h.max, h.own, fun i hi => h.gate _ (g3_mem hi)⟩
  · rintro ⟨h1, h2, h3, h4⟩
    refine ⟨GoodC.of h1, h2, h3, fun g hg => ?_⟩
    obtain ⟨i, hi⟩ := List.mem_iff_getElem?.1 hg
    have hil : i < C.gates.length := (List.getElem?_eq_some_iff.1 hi).1
    have := h4 i hil
    rw [g3_some hil] at hi
    rwa [Option.some.inj hi] at this

set_option maxRecDepth 100000 in
set_option maxHeartbeats 1000000 in
theorem bin_take (l n : Int) (o : Bool) (ob nb : Nat) (w : World) (h0 : 0 ≤ n) (h1 : n ≤ 1000000000) (hne : ob ≠ nb) (hO : Blk w ob #[.bool o] 4) (hN : Blk w nb #[.int .i64 n] 3) :
    Calls Tryd.prog 21 #[.int .i64 l, .pointer (some ⟨ob, 0, none⟩), .pointer (some ⟨nb, 0, none⟩)] w fun e w' => (∃ v, e = .returned v) ∧ Blk w' ob #[.bool (o && decide (l = n))] 4 ∧ Blk w' nb #[.int .i64 (n + 2)] 3 ∧ Kp (fun j => j = ob ∨ j = nb) w w' := by
  have o0 := hO.cell (i := 0) (v := .bool o) rfl
  have n0 := hN.cell (i := 0) (v := .int .i64 n) rfl
  have fo := Blk.free hO 0
  have fn := Blk.free hN 0
  have hne2 : nb ≠ ob := fun e => hne e.symm
  have HO := Lib.hid hO
  have HN := Lib.hid hN
  clear hO hN
  have fin : ∀ r : Bool, (o && decide (l = n)) = r → Blk ((w.setCell ⟨ob, 0, none⟩ (.bool r)).setCell ⟨nb, 0, none⟩ (.int .i64 (n + 2))) ob #[.bool (o && decide (l = n))] 4 ∧ Blk ((w.setCell ⟨ob, 0, none⟩ (.bool r)).setCell ⟨nb, 0, none⟩ (.int .i64 (n + 2))) nb #[.int .i64 (n + 2)] 3 ∧ Kp (fun j => j = ob ∨ j = nb) w ((w.setCell ⟨ob, 0, none⟩ (.bool r)).setCell ⟨nb, 0, none⟩ (.int .i64 (n + 2))) := fun r hr => by
    rw [hr]
    exact ⟨(HO.out.set_same 0 (.bool r)).set_other (by simpa using hne) _, (HN.out.set_other (by simpa using hne2) _).set_same 0 _, ((Kp.refl (fun j => j = ob ∨ j = nb) w).setCell (p := ⟨ob, 0, none⟩) (fun _ => .inl rfl) _).setCell (p := ⟨nb, 0, none⟩) (fun _ => .inr rfl) _⟩
  have HFin := Lib.hid fin
  clear fin
  cases o with
  | false =>
    go_enter Tryd.func21, Tryd.ntmps21
    go_wp2_with fail
    go_end0
    exact ⟨⟨_, rfl⟩, HFin.out false rfl⟩
  | true =>
    obtain ⟨r, hr⟩ : ∃ r, decide (l = n) = r := ⟨_, rfl⟩
    have q : ((l : Int) == n) = r := hr
    have HR := Lib.hid hr
    clear hr
    go_enter Tryd.func21, Tryd.ntmps21
    go_wp2_with fail
    go_end0
    exact ⟨⟨_, rfl⟩, HFin.out r (by rw [HR.out]; rfl)⟩

/-- what Normal keeps -/
structure NB (w wr : World) (C : Circ) (V : CV) (o : Bool) (n : Int) (k j : Nat) : Prop where
  c : Blk wr w.heap.size (cvals V C) 27
  x : Blk wr (w.heap.size + 1) #[.int .i64 n] 3
  bo : Blk wr (w.heap.size + 1 + 1) #[.bool o] 4
  ok : o = true ↔ OkP C k j
  nk : n = 2 * (k : Int) + 2
  kp : Kp (fun _ => False) w wr
theorem NB.kp0 {w wr w' : World} {C : Circ} {V : CV} {o : Bool} {n : Int} {k j : Nat} (h : NB w wr C V o n k j) (kk : Kp (fun _ => False) wr w') : NB w w' C V o n k j :=
  ⟨h.c.kp kk (fun h => h), h.x.kp kk (fun h => h), h.bo.kp kk (fun h => h), h.ok, h.nk, h.kp.trans kk (fun _ _ h => h)⟩
theorem NB.take {w wr w' : World} {C : Circ} {V : CV} {o : Bool} {n l : Int} {k j : Nat} (h : NB w wr C V o n k j) (hl : gi C.owned k = l) (ho : Blk w' (w.heap.size + 1 + 1) #[.bool (o && decide (l = n))] 4) (hx : Blk w' (w.heap.size + 1) #[.int .i64 (n + 2)] 3) (kk : Kp (fun j => j = w.heap.size + 1 + 1 ∨ j = w.heap.size + 1) wr w') : NB w w' C V (o && decide (l = n)) (n + 2) (k + 1) j :=
  ⟨h.c.kp kk (by omega), hx, ho, by rw [h.nk]; exact okP_succ h.ok hl, by rw [h.nk]; omega, h.kp.trans kk (fun j hj e => by omega)⟩

theorem owned_i {C : Circ} {k : Nat} (h : k < C.ins.length) : gi C.owned k = gi C.ins k := by
  unfold Circ.owned gi
  rw [List.append_assoc, List.getElem?_append_left h]
theorem owned_l {C : Circ} {k : Nat} (h : k < C.lats.length) : gi C.owned (C.ins.length + k) = (g3 C.lats k).1 := by
  unfold Circ.owned gi
  rw [List.append_assoc, List.getElem?_append_right (by omega), Nat.add_sub_cancel_left, List.getElem?_append_left (by simpa using h), List.getElem?_map, g3_some h]
  rfl
theorem owned_g {C : Circ} {k : Nat} (h : k < C.gates.length) : gi C.owned (C.ins.length + C.lats.length + k) = (g3 C.gates k).1 := by
  unfold Circ.owned gi
  rw [List.getElem?_append_right (by simp)]
  simp only [List.length_append, List.length_map, Nat.add_sub_cancel_left, List.getElem?_map, g3_some h]
  rfl
theorem owned_len (C : Circ) : C.owned.length = C.ins.length + C.lats.length + C.gates.length := by unfold Circ.owned; simp; omega

set_option maxRecDepth 100000 in
set_option maxHeartbeats 8000000 in
theorem bin_Normal (V : CV) (C : Circ) (w : World) (h : CAt w V C) (hf : CFew C 1000000) (hM : -9223372036854775808 ≤ C.max ∧ C.max ≤ 9223372036854775807) :
    Calls Tryd.prog 9 #[.agg (cvals V C)] w fun e w' => ∃ r : Bool, e = .returned (.bool r) ∧ (r = true ↔ NormC C) ∧ Kp (fun _ => False) w w' := by
  have HA := Lib.hid h
  have HF := Lib.hid hf
  have HM := Lib.hid hM
  obtain ⟨wz, hwz⟩ : ∃ wz : World, wz = ((w.alloc (.cells (cvals V C) 27)).alloc (.cells #[.int .i64 2] 3)).alloc (.cells #[.bool true] 4) := ⟨_, rfl⟩
  have n1 := Blk.new (w.alloc (.cells (cvals V C) 27)) #[.int .i64 2] 3
  rw [World.size_alloc] at n1
  have n2 := Blk.new ((w.alloc (.cells (cvals V C) 27)).alloc (.cells #[.int .i64 2] 3)) #[.bool true] 4
  rw [World.size_alloc, World.size_alloc] at n2
  have HB0 := Lib.hid (show NB w wz C V true 2 0 0 from ⟨by rw [hwz]; exact ((Blk.new w _ _).alloc _).alloc _, by rw [hwz]; exact n1.alloc _, by rw [hwz]; exact n2, ⟨fun _ => OkP.zero C, fun _ => rfl⟩, rfl, by rw [hwz]; exact (((Kp.refl _ w).alloc _).alloc _).alloc _⟩)
  obtain ⟨d0, d1, d2, d3, d4, d5, d6, d7, d8⟩ := Blk.cells9 (show Blk wz w.heap.size #[.int .i64 C.max, .slice V.ai C.ins.length V.ci, .slice V.al C.lats.length V.cl, .slice V.ao C.outs.length V.co, .slice V.ab C.bads.length V.cb, .slice V.ac C.cons.length V.cc, .slice V.ag C.gates.length V.cg, .slice V.ay V.ny V.cy, .string V.cm] 27 from HB0.out.c)
  have HZ := Lib.hid hwz
  have hni := hf.i
  have hnl := hf.l
  have hng := hf.g
  clear h hf hwz n1 n2 hM
  go_enter Tryd.func9, Tryd.ntmps9
  go_upto_region 3 with fail
  rw [← HZ.out]
  clear HZ
  go_wp2_with fail
  go_loopw [7, 16] (fun v7 v16 wr => ∃ (k : Nat) (o : Bool) (n : Int), v16 = .int .i64 k ∧ k ≤ C.ins.length ∧ NB w wr C V o n k 0) (fun _ v16 _ => C.ins.length - (intOf v16).toNat)
  case atStart => exact ⟨0, true, 2, rfl, by omega, HB0.out⟩
  case round =>
    obtain ⟨k, o, n, rfl, hk, hnb⟩ := hrel
    obtain ⟨wp, rfl⟩ : ∃ wp : World, wp = wr := ⟨_, rfl⟩
    clear d0 d1 d2 d3 d4 d5 d6 d7 d8
    have HBk := Lib.hid hnb
    clear hnb HB0
    by_cases hlt : k < C.ins.length
    · obtain ⟨b, off, ea, e0⟩ := HA.out.i.get hlt
      have e1 := HBk.out.kp.cellK e0
      obtain ⟨x, hx⟩ : ∃ x, gi C.ins k = x := ⟨_, rfl⟩
      have HOw := Lib.hid ((owned_i hlt).trans hx)
      rw [hx] at e1
      rw [ea]
      have i0 : (0 : Int) ≤ (k : Int) := by omega
      have i2 : (k : Int) < (C.ins.length : Int) := by omega
      have hn0 : 0 ≤ n := by have := HBk.out.nk; omega
      have hn1 : n ≤ 1000000000 := by have := HBk.out.nk; omega
      clear e0 ea hx
      go_wp2_with (go_at_call 21; (refine Calls.mono (bin_take _ n o (w.heap.size + 1 + 1) (w.heap.size + 1) _ hn0 hn1 (by omega) HBk.out.bo HBk.out.x) ?_; rintro e w2 ⟨⟨v, rfl⟩, ho2, hx2, hK2⟩; have HB2 := Lib.hid (NB.take HBk.out HOw.out ho2 hx2 hK2); clear ho2 hx2 hK2))
      go_roundw
      case rel => exact ⟨k + 1, _, n + 2, by go_num, by omega, HB2.out⟩
      case measure => simp [intOf]; omega
    · obtain rfl : k = C.ins.length := by omega
      have c2 := (show Blk wp w.heap.size #[.int .i64 C.max, .slice V.ai C.ins.length V.ci, .slice V.al C.lats.length V.cl, .slice V.ao C.outs.length V.co, .slice V.ab C.bads.length V.cb, .slice V.ac C.cons.length V.cc, .slice V.ag C.gates.length V.cg, .slice V.ay V.ny V.cy, .string V.cm] 27 from HBk.out.c).cell (i := 2) (v := .slice V.al C.lats.length V.cl) rfl
      go_wp2_with fail
      go_loopw [9, 27] (fun v9 v27 wr => ∃ (q : Nat) (o : Bool) (n : Int), v27 = .int .i64 q ∧ q ≤ C.lats.length ∧ NB w wr C V o n (C.ins.length + q) 0) (fun _ v27 _ => C.lats.length - (intOf v27).toNat)
      case atStart => exact ⟨0, o, n, rfl, by omega, HBk.out⟩
      case round =>
        obtain ⟨q, o, n, rfl, hq, hnb⟩ := hrel
        obtain ⟨wp, rfl⟩ : ∃ wp : World, wp = wr := ⟨_, rfl⟩
        clear c2 HBk
        have HBk := Lib.hid hnb
        clear hnb
        by_cases hlt : q < C.lats.length
        · obtain ⟨b, off, ea, hE⟩ := HA.out.latCell hlt
          obtain ⟨e0, e1, e2⟩ := hE _ HBk.out.kp
          obtain ⟨x0, hx0⟩ : ∃ x, (g3 C.lats q).1 = x := ⟨_, rfl⟩
          obtain ⟨x1, hx1⟩ : ∃ x, (g3 C.lats q).2.1 = x := ⟨_, rfl⟩
          obtain ⟨x2, hx2⟩ : ∃ x, (g3 C.lats q).2.2 = x := ⟨_, rfl⟩
          have HOw := Lib.hid ((owned_l hlt).trans hx0)
          rw [hx0] at e0
          rw [hx1] at e1
          rw [hx2] at e2
          have HG3 := Lib.hid (show g3 C.lats q = (x0, x1, x2) from by rw [← hx0, ← hx1, ← hx2])
          rw [ea]
          have i0 : (0 : Int) ≤ (q : Int) := by omega
          have i2 : (q : Int) < (C.lats.length : Int) := by omega
          obtain ⟨wv, hwv⟩ : ∃ wv : World, wv = wp.alloc (.cells #[.int .i64 x0, .int .i64 x1, .int .i64 x2] 51) := ⟨_, rfl⟩
          have HBv := Lib.hid (HBk.out.kp0 (by rw [hwv]; exact (Kp.refl _ wp).alloc _ : Kp (fun _ => False) wp wv))
          have hX : Blk wv wp.heap.size #[.int .i64 x0, .int .i64 x1, .int .i64 x2] 51 := by rw [hwv]; exact Blk.new _ _ _
          have nb0 := hX.cell (i := 0) (v := .int .i64 x0) rfl
          have HX := Lib.hid hX
          have HXa := Lib.hid (show w.heap.size + 1 + 1 < wp.heap.size from HBk.out.bo.lt)
          have HZv := Lib.hid hwv
          have hn0 : 0 ≤ n := by have := HBk.out.nk; omega
          have hn1 : n ≤ 1000000000 := by have := HBk.out.nk; omega
          clear hx0 hx1 hx2 hE ea hX hwv
          go_upto_region 11 with fail
          rw [← HZv.out]
          clear HZv e0 e1 e2
          go_wp2_with (go_at_call 21; (refine Calls.mono (bin_take _ n o (w.heap.size + 1 + 1) (w.heap.size + 1) _ hn0 hn1 (by omega) HBv.out.bo HBv.out.x) ?_; rintro e w2 ⟨⟨v, rfl⟩, ho2, hx2, hK2⟩; have HB2 := Lib.hid (NB.take HBv.out HOw.out ho2 hx2 hK2); clear ho2 hx2 hK2))
          go_roundw
          case rel => exact ⟨q + 1, _, n + 2, by go_num, by omega, HB2.out⟩
          case measure => simp [intOf]; omega
        · obtain rfl : q = C.lats.length := by omega
          have c6 := (show Blk wp w.heap.size #[.int .i64 C.max, .slice V.ai C.ins.length V.ci, .slice V.al C.lats.length V.cl, .slice V.ao C.outs.length V.co, .slice V.ab C.bads.length V.cb, .slice V.ac C.cons.length V.cc, .slice V.ag C.gates.length V.cg, .slice V.ay V.ny V.cy, .string V.cm] 27 from HBk.out.c).cell (i := 6) (v := .slice V.ag C.gates.length V.cg) rfl
          go_wp2_with fail
          go_loopw [11, 39] (fun v11 v39 wr => ∃ (q : Nat) (o : Bool) (n : Int), v39 = .int .i64 q ∧ q ≤ C.gates.length ∧ NB w wr C V o n (C.ins.length + C.lats.length + q) q) (fun _ v39 _ => C.gates.length - (intOf v39).toNat)
          case atStart => exact ⟨0, o, n, rfl, by omega, HBk.out⟩
          case round =>
            obtain ⟨q, o, n, rfl, hq, hnb⟩ := hrel
            obtain ⟨wp, rfl⟩ : ∃ wp : World, wp = wr := ⟨_, rfl⟩
            clear c6 HBk
            have HBk := Lib.hid hnb
            clear hnb
            by_cases hlt : q < C.gates.length
            · obtain ⟨b, off, ea, hE⟩ := HA.out.gateCell hlt
              obtain ⟨e0, e1, e2⟩ := hE _ HBk.out.kp
              obtain ⟨x0, hx0⟩ : ∃ x, (g3 C.gates q).1 = x := ⟨_, rfl⟩
              obtain ⟨x1, hx1⟩ : ∃ x, (g3 C.gates q).2.1 = x := ⟨_, rfl⟩
              obtain ⟨x2, hx2⟩ : ∃ x, (g3 C.gates q).2.2 = x := ⟨_, rfl⟩
              have HOw := Lib.hid ((owned_g hlt).trans hx0)
              rw [hx0] at e0
              rw [hx1] at e1
              rw [hx2] at e2
              have HG3 := Lib.hid (show g3 C.gates q = (x0, x1, x2) from by rw [← hx0, ← hx1, ← hx2])
              rw [ea]
              have i0 : (0 : Int) ≤ (q : Int) := by omega
              have i2 : (q : Int) < (C.gates.length : Int) := by omega
              obtain ⟨wv, hwv⟩ : ∃ wv : World, wv = wp.alloc (.cells #[.int .i64 x0, .int .i64 x1, .int .i64 x2] 43) := ⟨_, rfl⟩
              have HBv := Lib.hid (HBk.out.kp0 (by rw [hwv]; exact (Kp.refl _ wp).alloc _ : Kp (fun _ => False) wp wv))
              have hX : Blk wv wp.heap.size #[.int .i64 x0, .int .i64 x1, .int .i64 x2] 43 := by rw [hwv]; exact Blk.new _ _ _
              have nb0 := hX.cell (i := 0) (v := .int .i64 x0) rfl
              have HX := Lib.hid hX
              have HXa := Lib.hid (show w.heap.size + 1 + 1 < wp.heap.size from HBk.out.bo.lt)
              have HZv := Lib.hid hwv
              have hn0 : 0 ≤ n := by have := HBk.out.nk; omega
              have hn1 : n ≤ 1000000000 := by have := HBk.out.nk; omega
              clear hx0 hx1 hx2 hE ea hX hwv
              go_upto_region 16 with fail
              rw [← HZv.out]
              clear HZv e0 e1 e2
              go_upto_region 17 with (go_at_call 21; (refine Calls.mono (bin_take _ n o (w.heap.size + 1 + 1) (w.heap.size + 1) _ hn0 hn1 (by omega) HBv.out.bo HBv.out.x) ?_; rintro e w2 ⟨⟨v, rfl⟩, ho2, hx2, hK2⟩; have HB2 := Lib.hid (NB.take HBv.out HOw.out ho2 hx2 hK2); have HX2 := Lib.hid (HX.out.kp hK2 (by have := HXa.out; omega)); clear ho2 hx2 hK2))
              obtain ⟨o2, ho2⟩ : ∃ o2, (o && decide (x0 = n)) = o2 := ⟨_, rfl⟩
              rw [ho2] at HB2
              have HFin := Lib.hid (fun (r : Bool) (hr : (o2 && decide (x2 ≤ x1) && decide (x1 < x0)) = r) => show NB w (w2.setCell ⟨w.heap.size + 1 + 1, 0, none⟩ (.bool r)) C V r (n + 2) (C.ins.length + C.lats.length + (q + 1)) (q + 1) from by
                have k2 := Kp.set w2 ⟨w.heap.size + 1 + 1, 0, none⟩ (.bool r)
                exact ⟨HB2.out.c.kp k2 (by simp; omega), HB2.out.x.kp k2 (by simp), HB2.out.bo.set_same 0 _, by rw [← hr]; exact okP_gate HB2.out.ok HG3.out, HB2.out.nk, HB2.out.kp.trans k2 (fun j hj e => by have e2 : j = w.heap.size + 1 + 1 := e; omega)⟩)
              have c0 := HB2.out.bo.cell (i := 0) (v := .bool o2) rfl
              have f0 := Blk.free HB2.out.bo 0
              have x0' := HX2.out.cell (i := 0) (v := .int .i64 x0) rfl
              have x1' := HX2.out.cell (i := 1) (v := .int .i64 x1) rfl
              have x2' := HX2.out.cell (i := 2) (v := .int .i64 x2) rfl
              have HXs := HX2
              clear ho2 nb0
              cases o2 with
              | false =>
                have HF3 := Lib.hid (HFin.out false rfl)
                clear HFin HXs
                go_wp2_with fail
                go_roundw
                case rel => exact ⟨q + 1, false, n + 2, by go_num, by omega, HF3.out⟩
                case measure => simp [intOf]; omega
              | true =>
                cases g1 : decide (x2 ≤ x1) with
                | false =>
                  have HF3 := Lib.hid (HFin.out false (by rw [g1]; rfl))
                  clear HFin HXs
                  go_wp2_with fail
                  go_roundw
                  case rel => exact ⟨q + 1, false, n + 2, by go_num, by omega, HF3.out⟩
                  case measure => simp [intOf]; omega
                | true =>
                  obtain ⟨r3, g2⟩ : ∃ r, decide (x1 < x0) = r := ⟨_, rfl⟩
                  have HF3 := Lib.hid (HFin.out r3 (by rw [g1, g2]; rfl))
                  clear HFin HXs
                  go_wp2_with fail
                  go_roundw
                  case rel => exact ⟨q + 1, r3, n + 2, by go_num, by omega, HF3.out⟩
                  case measure => simp [intOf]; omega
            · obtain rfl : q = C.gates.length := by omega
              obtain ⟨a0, a1, a2, a3, a4, a5, a6, a7, a8⟩ := Blk.cells9 (show Blk wp w.heap.size #[.int .i64 C.max, .slice V.ai C.ins.length V.ci, .slice V.al C.lats.length V.cl, .slice V.ao C.outs.length V.co, .slice V.ab C.bads.length V.cb, .slice V.ac C.cons.length V.cc, .slice V.ag C.gates.length V.cg, .slice V.ay V.ny V.cy, .string V.cm] 27 from HBk.out.c)
              have b0 := HBk.out.bo.cell (i := 0) (v := .bool o) rfl
              have b1 := HBk.out.x.cell (i := 0) (v := .int .i64 n) rfl
              cases o with
              | false =>
                have HNo := Lib.hid (show ¬ NormC C from fun h => by
                  have h2 := (normC_iff.1 h).2.2
                  rw [owned_len] at h2
                  have := HBk.out.ok.2 h2
                  cases this)
                go_wp2_with fail
                go_ret
                exact ⟨false, rfl, ⟨fun h => (by cases h), fun h => absurd h HNo.out⟩, HBk.out.kp⟩
              | true =>
                have HCk := Lib.hid (circ_Chk V C wp (HA.out.kp HBk.out.kp) HF.out)
                unfold cvals at HCk
                have HOk := Lib.hid (HBk.out.ok.1 rfl)
                have HNk := Lib.hid (show n = 2 * ((C.owned.length : Nat) : Int) + 2 from by rw [owned_len]; exact HBk.out.nk)
                by_cases hq : n = wrap64 (wrap64 (2 * C.max) + 2)
                · have hq1 : (n == wrap64 (wrap64 (2 * C.max) + 2)) = true := by simpa using hq
                  obtain ⟨k, hk⟩ : ∃ k, ckCode C = k := ⟨_, rfl⟩
                  rw [hk] at HCk
                  obtain ⟨r, hr⟩ : ∃ r, ((k : Int) == 0) = r := ⟨_, rfl⟩
                  have HR := Lib.hid (show r = true ↔ NormC C from by
                    rw [← hr, beq_iff_eq, ← hk, normC_iff]
                    constructor
                    · intro h0
                      have hg := GoodC.of h0
                      have m0 := hg.rng.max0
                      have m1 := hg.rng.max1
                      have h2 := HNk.out
                      have h3 := hq
                      unfold wrap64 at h3
                      have h4 := HOk.out
                      rw [← owned_len] at h4
                      exact ⟨h0, by omega, h4⟩
                    · exact fun h => h.1)
                  have HQ := Lib.hid hq
                  clear hq hk
                  go_wp2_with (go_at_call 22; with_reducible refine Calls.mono HCk.out ?_; rintro e w2 ⟨rfl, hK2⟩)
                  go_ret
                  exact ⟨r, rfl, HR.out, HBk.out.kp.trans hK2 (fun _ _ h => h)⟩
                · have hq1 : (n == wrap64 (wrap64 (2 * C.max) + 2)) = false := by simpa using hq
                  have HNo := Lib.hid (show ¬ NormC C from fun h => hq (by
                    have m0 := h.good.rng.max0
                    have m1 := h.good.rng.max1
                    have h2 := HNk.out
                    have h3 := h.max
                    unfold wrap64
                    omega))
                  clear hq
                  go_wp2_with fail
                  go_ret
                  exact ⟨false, rfl, ⟨fun h => (by cases h), fun h => absurd h HNo.out⟩, HBk.out.kp⟩

end Go.Proofs.YtmjcpapcmbgkjaaDoor

/-
  latchetref11.Check: what is wrong with any circuit. (Printed by mkrefcheck.py.)
-/
namespace Go.Proofs.YtmjcpapcmbgkjaaDoor
open Go.RowKit

theorem ref02_HasQ (a : Option Addr) (n c q : Nat) (L : List Int) (x : Int) (w : World) (hr : IntsAt w a L) (hn : L.length = n) (hm : n ≤ 9000000000) :
    Calls Tryd.prog 29 #[.slice a n c, .int .i64 x] (w.drewN q) fun e w' => e = .returned (.bool (decide (x ∈ L))) ∧ w' = w.drewN q :=
  (ref02_Has a n c L x (w.drewN q) hr hn hm).mono fun _ _ ⟨h1, h2⟩ => ⟨h1, h2.symm⟩

theorem range_bad1 {C : Circ} {k : Nat} (hk : k < C.owned.length) (h : ownB C.max (gi C.owned k) = false) : rangeB C = false := by
  unfold rangeB
  have : C.owned.all (ownB C.max) = false := by
    rw [List.all_eq_false]
    refine ⟨gi C.owned k, ?_, by simp [h]⟩
    unfold gi; rw [List.getElem?_eq_getElem hk]; exact List.getElem_mem hk
  rw [this]; rfl
theorem range_bad2 {C : Circ} {k : Nat} (hk : k < C.used.length) (h : useB C.max (gi C.used k) = false) : rangeB C = false := by
  unfold rangeB
  have : C.used.all (useB C.max) = false := by
    rw [List.all_eq_false]
    refine ⟨gi C.used k, ?_, by simp [h]⟩
    unfold gi; rw [List.getElem?_eq_getElem hk]; exact List.getElem_mem hk
  rw [this, Bool.and_false]
theorem range_bad3 {C : Circ} {k : Nat} (hk : k < C.lats.length) (h : resB (g3 C.lats k) = false) : rangeB C = false := by
  unfold rangeB
  have : C.lats.all resB = false := by
    rw [List.all_eq_false]
    exact ⟨_, g3_mem hk, by simp [h]⟩
  rw [this, Bool.and_false, Bool.false_and]
theorem range_all {C : Circ} (h1 : C.owned.all (ownB C.max) = true) (h2 : C.used.all (useB C.max) = true) (h3 : C.lats.all resB = true) : rangeB C = true := by
  unfold rangeB; rw [h1, h2, h3]; rfl

theorem knownB_iff {C : Circ} (hR : InRange C) {x : Int} (hx : x ∈ C.used) : knownB C.owned x = (!(decide (1 < x)) || decide (x - x % 2 ∈ C.owned)) := by
  have h0 := hR.use x hx
  unfold knownB
  rw [Bool.eq_iff_iff]
  simp only [Bool.or_eq_true, decide_eq_true_eq, List.any_eq_true, Bool.not_eq_true', decide_eq_false_iff_not]
  constructor
  · rintro (h | ⟨y, hy, e⟩)
    · left; omega
    · right
      have h1 := hR.own y hy
      have : y = x - x % 2 := by omega
      rw [← this]; exact hy
  · rintro (h | h)
    · left; omega
    · by_cases h1 : x / 2 = 0
      · exact .inl h1
      · exact .inr ⟨_, h, by omega⟩

set_option maxRecDepth 100000 in
set_option maxHeartbeats 8000000 in
theorem ref11_Chk (V : CV) (C : Circ) (w : World) (h : CAt w V C) (hf : CFew C 1000000) :
    Calls Tryd.prog 15 #[.agg (cvals V C)] w fun e w' => e = .returned (.int .i64 (ckCode C)) ∧ Kp (fun _ => False) w w' := by
  obtain ⟨code, hcode⟩ : ∃ code, ckCode C = code := ⟨_, rfl⟩
  rw [hcode]
  have HCode := Lib.hid hcode
  clear hcode
  have HC0 := Lib.hid (Blk.new w (cvals V C) 27)
  have HK0 := Lib.hid ((Kp.refl (fun _ => False) w).alloc (.cells (cvals V C) 27))
  by_cases m0 : 0 ≤ C.max
  case neg =>
    have d1 : decide (C.max < 0) = true := decide_eq_true (by omega)
    obtain rfl : code = 5 := by rw [← HCode.out]; exact ck5 (.inl (by omega))
    have c0 := HC0.out.cell (i := 0) (v := .int .i64 C.max) rfl
    clear m0 h hf
    go_enter Tryd.func15, Tryd.ntmps15
    go_wp2_with fail
    go_ret
    exact ⟨rfl, HK0.out⟩
  have e1 : decide (C.max < 0) = false := decide_eq_false (by omega)
  by_cases m1 : C.max ≤ 16777216
  case neg =>
    have d1 : decide ((16777216 : Int) < C.max) = true := decide_eq_true (by omega)
    obtain rfl : code = 5 := by rw [← HCode.out]; exact ck5 (.inr (.inl (by omega)))
    have c0 := HC0.out.cell (i := 0) (v := .int .i64 C.max) rfl
    clear m1 h hf
    go_enter Tryd.func15, Tryd.ntmps15
    go_wp2_with fail
    go_ret
    exact ⟨rfl, HK0.out⟩
  have e2 : decide ((16777216 : Int) < C.max) = false := decide_eq_false (by omega)
  have HM := Lib.hid (And.intro m0 m1)
  have hl := (h.fl.le63).1
  have HA := Lib.hid h
  have HF := Lib.hid hf
  obtain ⟨n3, hn3⟩ : ∃ n, C.owned.length = n := ⟨_, rfl⟩
  obtain ⟨n4, hn4⟩ : ∃ n, C.used.length = n := ⟨_, rfl⟩
  obtain ⟨gn_, hgn⟩ : ∃ g, C.gates.length = g := ⟨_, rfl⟩
  have h3 : n3 ≤ 3000000 := by rw [← hn3]; have := hf.i; have := hf.l; have := hf.g; unfold Circ.owned; simp; omega
  have h4 : n4 ≤ 6000000 := by
    rw [← hn4]
    have := hf.o; have := hf.b; have := hf.c; have := hf.l; have := hf.g
    have e : (C.gates.flatMap (fun g => [g.2.1, g.2.2])).length = 2 * C.gates.length := by
      generalize C.gates = L
      induction L with
      | nil => rfl
      | cons a r ih => rw [List.flatMap_cons, List.length_append, ih]; simp; omega
    unfold Circ.used
    rw [List.length_append, e]
    simp
    omega
  have HN3 := Lib.hid hn3
  have HN4 := Lib.hid hn4
  have HGN := Lib.hid hgn
  have HU : Hid (cvals V C = #[.int .i64 C.max, .slice V.ai C.ins.length V.ci, .slice V.al C.lats.length V.cl, .slice V.ao C.outs.length V.co, .slice V.ab C.bads.length V.cb, .slice V.ac C.cons.length V.cc, .slice V.ag gn_ V.cg, .slice V.ay V.ny V.cy, .string V.cm]) := Lib.hid (by unfold cvals; rw [hgn])
  have HOw := Lib.hid (show ∀ u, Kp (fun _ => False) w u → Calls Tryd.prog 14 #[.agg #[.int .i64 C.max, .slice V.ai C.ins.length V.ci, .slice V.al C.lats.length V.cl, .slice V.ao C.outs.length V.co, .slice V.ab C.bads.length V.cb, .slice V.ac C.cons.length V.cc, .slice V.ag gn_ V.cg, .slice V.ay V.ny V.cy, .string V.cm]] u fun e u' => (∃ a c, e = .returned (.slice a n3 c) ∧ (n3 ≤ c ∧ c ≤ 9223372036854775807) ∧ IntsAt u' a C.owned) ∧ Kp (fun _ => False) u u' from fun u hu => by
    have := (ref11_Owned V C u (h.kp hu) hf).mono (R' := fun e u' => (∃ a c, e = .returned (.slice a n3 c) ∧ (n3 ≤ c ∧ c ≤ 9223372036854775807) ∧ IntsAt u' a C.owned) ∧ Kp (fun _ => False) u u') (by
      rintro e u' ⟨v, rfl, hO, hK⟩
      obtain ⟨a, c, e, hc1, hc2, -, hr⟩ := hO.form
      rw [iv_length, hn3] at e hc1
      unfold maxLen at hc2
      exact ⟨⟨a, c, by rw [e], ⟨hc1, hc2⟩, hr⟩, hK⟩)
    rw [HU.out] at this
    exact this)
  have HUs := Lib.hid (show ∀ u, Kp (fun _ => False) w u → Calls Tryd.prog 28 #[.agg #[.int .i64 C.max, .slice V.ai C.ins.length V.ci, .slice V.al C.lats.length V.cl, .slice V.ao C.outs.length V.co, .slice V.ab C.bads.length V.cb, .slice V.ac C.cons.length V.cc, .slice V.ag gn_ V.cg, .slice V.ay V.ny V.cy, .string V.cm]] u fun e u' => (∃ a c, e = .returned (.slice a n4 c) ∧ IntsAt u' a C.used) ∧ Kp (fun _ => False) u u' from fun u hu => by
    have := (ref11_Used V C u (h.kp hu) hf).mono (R' := fun e u' => (∃ a c, e = .returned (.slice a n4 c) ∧ IntsAt u' a C.used) ∧ Kp (fun _ => False) u u') (by
      rintro e u' ⟨v, rfl, hO, hK⟩
      obtain ⟨a, c, e, -, -, -, hr⟩ := hO.form
      rw [iv_length, hn4] at e
      exact ⟨⟨a, c, by rw [e], hr⟩, hK⟩)
    rw [HU.out] at this
    exact this)
  have HC1 : Hid (Blk (w.alloc (.cells (cvals V C) 27)) w.heap.size #[.int .i64 C.max, .slice V.ai C.ins.length V.ci, .slice V.al C.lats.length V.cl, .slice V.ao C.outs.length V.co, .slice V.ab C.bads.length V.cb, .slice V.ac C.cons.length V.cc, .slice V.ag gn_ V.cg, .slice V.ay V.ny V.cy, .string V.cm] 27) := Lib.hid (by have := HC0.out; rw [← HU.out]; exact this)
  clear h hf hn3 hn4 hgn
  have c0 := HC0.out.cell (i := 0) (v := .int .i64 C.max) rfl
  go_enter Tryd.func15, Tryd.ntmps15
  go_upto_region 3 with fail
  obtain ⟨wz, hwz⟩ : ∃ wz : World, wz = w.alloc (.cells (cvals V C) 27) := ⟨_, rfl⟩
  rw [← hwz] at HC1 HK0 c0 ⊢
  clear hwz HC0 e1 e2 c0
  go_cut [3, 4] from 19 to 22 (fun s3 s4 wx => ∃ a3 c3 a4 c4, s3 = .slice a3 n3 c3 ∧ s4 = .slice a4 n4 c4 ∧ (n3 ≤ c3 ∧ c3 ≤ 9223372036854775807) ∧ IntsAt wx a3 C.owned ∧ IntsAt wx a4 C.used ∧ Blk wx w.heap.size #[.int .i64 C.max, .slice V.ai C.ins.length V.ci, .slice V.al C.lats.length V.cl, .slice V.ao C.outs.length V.co, .slice V.ab C.bads.length V.cb, .slice V.ac C.cons.length V.cc, .slice V.ag gn_ V.cg, .slice V.ay V.ny V.cy, .string V.cm] 27 ∧ Kp (fun _ => False) w wx)
  case first =>
    go_region_held3 (fun u => u.cell? ⟨w.heap.size, 0, none⟩ = some (.int .i64 C.max) ∧ u.cell? ⟨w.heap.size, 1, none⟩ = some (.slice V.ai C.ins.length V.ci) ∧ u.cell? ⟨w.heap.size, 2, none⟩ = some (.slice V.al C.lats.length V.cl) ∧ u.cell? ⟨w.heap.size, 3, none⟩ = some (.slice V.ao C.outs.length V.co) ∧ u.cell? ⟨w.heap.size, 4, none⟩ = some (.slice V.ab C.bads.length V.cb) ∧ u.cell? ⟨w.heap.size, 5, none⟩ = some (.slice V.ac C.cons.length V.cc) ∧ u.cell? ⟨w.heap.size, 6, none⟩ = some (.slice V.ag gn_ V.cg) ∧ u.cell? ⟨w.heap.size, 7, none⟩ = some (.slice V.ay V.ny V.cy) ∧ u.cell? ⟨w.heap.size, 8, none⟩ = some (.string V.cm)) (with_reducible first | exact HC1.out.cells9 | exact HC1.out.drew.cells9 | exact HXa.out.cells9 | exact HXa.out.drew.cells9 | exact HXb.out.cells9 | exact HXb.out.drew.cells9) ((first
      | ((with_reducible refine Calls.mono (HOw.out _ (by first | exact HK0.out | exact HK0.out.drew | exact HKb.out | exact HKb.out.drew)) ?_); rintro o u1 ⟨⟨a1, c1, rfl, hcp, hi1⟩, hK1⟩; have HCP := Lib.hid hcp; clear hcp; have HI1 := Lib.hid hi1; have HKK1 := Lib.hid hK1; have HXa := Lib.hid (by with_reducible first | exact HC1.out.kp hK1 (fun h => h) | exact HC1.out.drew.kp hK1 (fun h => h) | exact HXb.out.kp hK1 (fun h => h) | exact HXb.out.drew.kp hK1 (fun h => h)); have HKa := Lib.hid (by with_reducible first | exact HK0.out.trans hK1 (fun _ _ h => h) | exact HK0.out.drew.trans hK1 (fun _ _ h => h) | exact HKb.out.trans hK1 (fun _ _ h => h) | exact HKb.out.drew.trans hK1 (fun _ _ h => h)); clear hK1 hi1)
      | ((with_reducible refine Calls.mono (HUs.out _ (by first | exact HK0.out | exact HK0.out.drew | exact HKa.out | exact HKa.out.drew)) ?_); rintro o u2 ⟨⟨a2, c2, rfl, hi2⟩, hK2⟩; have HI2 := Lib.hid hi2; have HKK2 := Lib.hid hK2; have HXb := Lib.hid (by with_reducible first | exact HC1.out.kp hK2 (fun h => h) | exact HC1.out.drew.kp hK2 (fun h => h) | exact HXa.out.kp hK2 (fun h => h) | exact HXa.out.drew.kp hK2 (fun h => h)); have HKb := Lib.hid (by with_reducible first | exact HK0.out.trans hK2 (fun _ _ h => h) | exact HK0.out.drew.trans hK2 (fun _ _ h => h) | exact HKa.out.trans hK2 (fun _ _ h => h) | exact HKa.out.drew.trans hK2 (fun _ _ h => h)); clear hK2 hi2)))
    all_goals go_wp2_with fail
    all_goals go_meet
    all_goals first
      | exact ⟨a1, c1, a2, c2, rfl, rfl, HCP.out, RowAt.kp HI1.out HKK2.out (fun _ _ h => h), HI2.out, HXb.out, HKb.out⟩
      | exact ⟨a1, c1, a2, c2, rfl, rfl, HCP.out, HI1.out, RowAt.kp HI2.out HKK1.out (fun _ _ h => h), HXa.out, HKa.out⟩
      | exact ⟨a1, c1, a2, c2, rfl, rfl, HCP.out, RowAt.kp HI1.out HKK2.out (fun _ _ h => h), HI2.out, HXb.out.drew, HKb.out.drew⟩
      | exact ⟨a1, c1, a2, c2, rfl, rfl, HCP.out, HI1.out, RowAt.kp HI2.out HKK1.out (fun _ _ h => h), HXa.out.drew, HKa.out.drew⟩
  case rest =>
  obtain ⟨a3, cp3, a4, cp4, rfl, rfl, ⟨hcp1, hcp2⟩, hi3, hi4, hC, hK⟩ := hcut
  obtain ⟨wa, rfl⟩ : ∃ wa : World, wa = wc := ⟨_, rfl⟩
  have HI3 := Lib.hid hi3
  have HI4 := Lib.hid hi4
  have HC := Lib.hid hC
  have HKa := Lib.hid hK
  clear HC1 HK0 HOw HUs hi3 hi4 hC hK
  have mm1 : IntKind.i64.wrap (2 * C.max) = 2 * C.max := IntWalk.i64_in _ (by omega)
  have mm2 : IntKind.i64.wrap (2 * C.max + 1) = 2 * C.max + 1 := IntWalk.i64_in _ (by omega)
  have HMM := Lib.hid (And.intro mm1 mm2)
  clear mm1 mm2
  go_wp2_with fail
  go_loopw [5] (fun v5 wr => ∃ k : Nat, v5 = .int .i64 k ∧ k ≤ n3 ∧ (C.owned.take k).all (ownB C.max) = true ∧ Kp (fun _ => False) wa wr) (fun v5 _ => n3 - (intOf v5).toNat)
  case atStart => exact ⟨0, rfl, by omega, by simp, Kp.refl _ _⟩
  case round =>
    obtain ⟨k, rfl, hk, hall, hK⟩ := hrel
    obtain ⟨wp, rfl⟩ : ∃ wp : World, wp = wr := ⟨_, rfl⟩
    have HK := Lib.hid hK
    by_cases hlt : k < n3
    · have hkl : k < C.owned.length := by rw [HN3.out]; exact hlt
      obtain ⟨b, off, rfl, hcell⟩ := IntsAt.get (RowAt.kp HI3.out hK (fun _ _ h => h)) hkl
      have hat := all_take (take_gi hkl) (ownB C.max)
      rw [hall, Bool.true_and] at hat
      have HBad := Lib.hid (fun h => (range_bad1 (C := C) hkl h))
      obtain ⟨x, hx⟩ : ∃ x, gi C.owned k = x := ⟨_, rfl⟩
      rw [hx] at hcell hat HBad
      have HAt := Lib.hid hat
      have c0 := (HC.out.kp hK (fun h => h)).cell (i := 0) (v := .int .i64 C.max) rfl
      have i0 : (0 : Int) ≤ (k : Int) := by omega
      have i1 : (k : Int) < (n3 : Int) := by omega
      clear hall hat hx hK hkl
      by_cases g1 : x < 2
      · obtain rfl : code = 5 := by rw [← HCode.out]; exact ck5 (.inr (.inr (HBad.out (by unfold ownB; rw [decide_eq_false (by omega)]; rfl))))
        have d1 : decide (x < 2) = true := decide_eq_true g1
        clear g1
        go_wp2_with fail
        go_quiet (fail)
        go_wp2_with fail
        go_ret
        exact ⟨rfl, HKa.out.trans (HK.out.drewN _) (fun _ _ h => h)⟩
      · have d1 : decide (x < 2) = false := decide_eq_false g1
        have htm : x.tmod 2 = x % 2 := Int.tmod_eq_emod_of_nonneg (by omega)
        obtain ⟨r, hr⟩ : ∃ r, x % 2 = r := ⟨_, rfl⟩
        rw [hr] at htm
        by_cases g2 : r = 1
        · obtain rfl : code = 5 := by rw [← HCode.out]; exact ck5 (.inr (.inr (HBad.out (by unfold ownB; rw [decide_eq_false (p := x % 2 = 0) (by omega)]; simp))))
          have d2 : ((r : Int) == 1) = true := by simp [g2]
          clear g1 g2 hr
          go_wp2_with fail
          go_quiet (fail)
          go_wp2_with fail
          go_ret
          exact ⟨rfl, HKa.out.trans (HK.out.drewN _) (fun _ _ h => h)⟩
        · have d2 : ((r : Int) == 1) = false := by simp [g2]
          have mm1 := HMM.out.1
          by_cases g3 : 2 * C.max < x
          · obtain rfl : code = 5 := by rw [← HCode.out]; exact ck5 (.inr (.inr (HBad.out (by unfold ownB; rw [decide_eq_false (p := x ≤ 2 * C.max) (by omega)]; simp))))
            have d3 : decide (2 * C.max < x) = true := decide_eq_true g3
            clear g1 g2 g3 hr
            go_wp2_with fail
            go_quiet (fail)
            go_wp2_with fail
            go_ret
            exact ⟨rfl, HKa.out.trans (HK.out.drewN _) (fun _ _ h => h)⟩
          · have d3 : decide (2 * C.max < x) = false := decide_eq_false g3
            have HNx := Lib.hid (show (C.owned.take (k + 1)).all (ownB C.max) = true by rw [HAt.out]; unfold ownB; rw [decide_eq_true (by omega), decide_eq_true (p := x % 2 = 0) (by omega), decide_eq_true (by omega)]; rfl)
            clear g1 g2 g3 hr
            go_wp2_with fail
            go_quiet (fail)
            clear mm1
            go_wp2_with fail
            go_roundw
            case rel => exact ⟨k + 1, by go_num, by omega, HNx.out, HK.out.drewN _⟩
            case measure => simp [intOf]; omega
    · have HAll1 := Lib.hid (show C.owned.all (ownB C.max) = true by rwa [List.take_of_length_le (by rw [HN3.out]; omega)] at hall)
      clear hall hK
      go_wp2_with fail
      go_loopw [6] (fun v6 wr => ∃ k : Nat, v6 = .int .i64 k ∧ k ≤ n4 ∧ (C.used.take k).all (useB C.max) = true ∧ Kp (fun _ => False) wa wr) (fun v6 _ => n4 - (intOf v6).toNat)
      case atStart => exact ⟨0, rfl, by omega, by simp, HK.out⟩
      case round =>
        obtain ⟨k, rfl, hk, hall, hK⟩ := hrel
        clear HK hlt
        obtain ⟨wp, rfl⟩ : ∃ wp : World, wp = wr := ⟨_, rfl⟩
        have HK := Lib.hid hK
        by_cases hlt : k < n4
        · have hkl : k < C.used.length := by rw [HN4.out]; exact hlt
          obtain ⟨b, off, rfl, hcell⟩ := IntsAt.get (RowAt.kp HI4.out hK (fun _ _ h => h)) hkl
          have hat := all_take (take_gi hkl) (useB C.max)
          rw [hall, Bool.true_and] at hat
          have HBad := Lib.hid (fun h => (range_bad2 (C := C) hkl h))
          obtain ⟨x, hx⟩ : ∃ x, gi C.used k = x := ⟨_, rfl⟩
          rw [hx] at hcell hat HBad
          have HAt := Lib.hid hat
          have c0 := (HC.out.kp hK (fun h => h)).cell (i := 0) (v := .int .i64 C.max) rfl
          have i0 : (0 : Int) ≤ (k : Int) := by omega
          have i1 : (k : Int) < (n4 : Int) := by omega
          clear hall hat hx hK hkl
          by_cases g1 : x < 0
          · obtain rfl : code = 5 := by rw [← HCode.out]; exact ck5 (.inr (.inr (HBad.out (by unfold useB; rw [decide_eq_false (by omega)]; rfl))))
            have d1 : decide (x < 0) = true := decide_eq_true g1
            clear g1
            go_wp2_with fail
            go_quiet (fail)
            go_wp2_with fail
            go_ret
            exact ⟨rfl, HKa.out.trans (HK.out.drewN _) (fun _ _ h => h)⟩
          · have d1 : decide (x < 0) = false := decide_eq_false g1
            have mm1 := HMM.out.1
            have mm2 := HMM.out.2
            by_cases g3 : 2 * C.max + 1 < x
            · obtain rfl : code = 5 := by rw [← HCode.out]; exact ck5 (.inr (.inr (HBad.out (by unfold useB; rw [decide_eq_false (p := x ≤ 2 * C.max + 1) (by omega)]; simp))))
              have d3 : decide (2 * C.max + 1 < x) = true := decide_eq_true g3
              clear g1 g3
              go_wp2_with fail
              go_quiet (fail)
              go_wp2_with fail
              go_ret
              exact ⟨rfl, HKa.out.trans (HK.out.drewN _) (fun _ _ h => h)⟩
            · have d3 : decide (2 * C.max + 1 < x) = false := decide_eq_false g3
              have HNx := Lib.hid (show (C.used.take (k + 1)).all (useB C.max) = true by rw [HAt.out]; unfold useB; rw [decide_eq_true (by omega), decide_eq_true (by omega)]; rfl)
              clear g1 g3
              go_wp2_with fail
              go_quiet (fail)
              clear mm1 mm2
              go_wp2_with fail
              go_roundw
              case rel => exact ⟨k + 1, by go_num, by omega, HNx.out, HK.out.drewN _⟩
              case measure => simp [intOf]; omega
        · have HAll2 := Lib.hid (show C.used.all (useB C.max) = true by rwa [List.take_of_length_le (by rw [HN4.out]; omega)] at hall)
          clear hall hK
          go_wp2_with fail
          go_loopw [7] (fun v7 wr => ∃ k : Nat, v7 = .int .i64 k ∧ k ≤ C.lats.length ∧ (C.lats.take k).all resB = true ∧ Kp (fun _ => False) wa wr) (fun v7 _ => C.lats.length - (intOf v7).toNat)
          case atStart => exact ⟨0, rfl, by omega, by simp, HK.out⟩
          case round =>
            obtain ⟨k, rfl, hk, hall, hK⟩ := hrel
            clear HK hlt
            obtain ⟨wp, rfl⟩ : ∃ wp : World, wp = wr := ⟨_, rfl⟩
            have HK := Lib.hid hK
            have c2 := (HC.out.kp hK (fun h => h)).cell (i := 2) (v := .slice V.al C.lats.length V.cl) rfl
            by_cases hlt : k < C.lats.length
            · obtain ⟨b, off, ea, l0, l1, l2⟩ := tri_cells (HA.out.kp (HKa.out.trans hK (fun _ _ h => h))).l hlt
              have hat := all_take (take_g3 hlt) resB
              rw [hall, Bool.true_and] at hat
              have HBad := Lib.hid (fun h => (range_bad3 (C := C) hlt h))
              obtain ⟨x0, hx0⟩ : ∃ x, (g3 C.lats k).1 = x := ⟨_, rfl⟩
              obtain ⟨x2, hx2⟩ : ∃ x, (g3 C.lats k).2.2 = x := ⟨_, rfl⟩
              have hres : resB (g3 C.lats k) = (decide (x2 = 0) || (decide (x2 = 1) || decide (x2 = x0))) := by unfold resB; rw [hx0, hx2]
              rw [hres] at hat HBad
              rw [hx0] at l0
              rw [hx2] at l2
              rw [ea] at c2
              have HAt := Lib.hid hat
              have i0 : (0 : Int) ≤ (k : Int) := by omega
              have i1 : (k : Int) < (C.lats.length : Int) := by omega
              clear hall hat hx0 hx2 hres hK l1 ea
              by_cases g1 : x2 = 0
              · have d1 : ((x2 : Int) != 0) = false := by simp [g1]
                have HNx := Lib.hid (show (C.lats.take (k + 1)).all resB = true by rw [HAt.out]; simp [g1])
                clear g1
                go_wp2_with fail
                go_roundw
                case rel => exact ⟨k + 1, by go_num, by omega, HNx.out, HK.out⟩
                case measure => simp [intOf]; omega
              · have d1 : ((x2 : Int) != 0) = true := by simp [g1]
                by_cases g2 : x2 = 1
                · have d2 : ((x2 : Int) != 1) = false := by simp [g2]
                  have HNx := Lib.hid (show (C.lats.take (k + 1)).all resB = true by rw [HAt.out]; simp [g2])
                  clear g1 g2
                  go_wp2_with fail
                  go_roundw
                  case rel => exact ⟨k + 1, by go_num, by omega, HNx.out, HK.out⟩
                  case measure => simp [intOf]; omega
                · have d2 : ((x2 : Int) != 1) = true := by simp [g2]
                  by_cases g3 : x2 = x0
                  · have d3 : ((x2 : Int) != x0) = false := by simp [g3]
                    have HNx := Lib.hid (show (C.lats.take (k + 1)).all resB = true by rw [HAt.out]; simp [g3])
                    clear g1 g2 g3
                    go_wp2_with fail
                    go_roundw
                    case rel => exact ⟨k + 1, by go_num, by omega, HNx.out, HK.out⟩
                    case measure => simp [intOf]; omega
                  · have d3 : ((x2 : Int) != x0) = true := by simp [g3]
                    obtain rfl : code = 5 := by rw [← HCode.out]; exact ck5 (.inr (.inr (HBad.out (by simp [g1, g2, g3]))))
                    clear g1 g2 g3
                    go_wp2_with fail
                    go_ret
                    exact ⟨rfl, HKa.out.trans HK.out (fun _ _ h => h)⟩
            · have HAll3 := Lib.hid (show C.lats.all resB = true by rwa [List.take_of_length_le (by omega)] at hall)
              have hrg := range_all HAll1.out HAll2.out HAll3.out
              have HIR := Lib.hid (InRange.of HM.out.1 HM.out.2 hrg)
              have HCk := Lib.hid (ckR HM.out.1 HM.out.2 hrg)
              rw [HCode.out] at HCk
              clear hall hK hrg HAll1 HAll2 HAll3 HCode
              go_wp2_with fail
              go_loopw [9] (fun v9 wr => ∃ k : Nat, v9 = .int .i64 k ∧ k ≤ n3 ∧ (C.owned.take k).Nodup ∧ Kp (fun _ => False) wa wr) (fun v9 _ => n3 - (intOf v9).toNat)
              case atStart => exact ⟨0, rfl, by omega, by simp, HK.out⟩
              case round =>
                obtain ⟨k, rfl, hk, hnd, hK⟩ := hrel
                clear HK hlt c2
                obtain ⟨wp, rfl⟩ : ∃ wp : World, wp = wr := ⟨_, rfl⟩
                have HK := Lib.hid hK
                by_cases hlt : k < n3
                · have hkl : k < C.owned.length := by rw [HN3.out]; exact hlt
                  have hi := RowAt.kp HI3.out hK (fun _ _ h => h)
                  have hit : IntsAt wp a3 (C.owned.take k) := by
                    have := RowAt.take hi k
                    unfold IntsAt
                    rw [List.map_take]
                    exact this
                  obtain ⟨b, off, rfl, hcell⟩ := IntsAt.get hi hkl
                  have HND := Lib.hid (fun h => nodup_take hkl hnd h)
                  have HNN := Lib.hid (fun h => not_nodup (l := C.owned) hkl h)
                  obtain ⟨x, hx⟩ : ∃ x, gi C.owned k = x := ⟨_, rfl⟩
                  rw [hx] at hcell HND HNN
                  have HHas := Lib.hid (fun q => ref02_HasQ (some ⟨b, off, none⟩) k cp3 q (C.owned.take k) x wp hit (by simp; omega) (by omega))
                  have i0 : (0 : Int) ≤ (k : Int) := by omega
                  have i1 : (k : Int) < (n3 : Int) := by omega
                  have i2 : (k : Int) ≤ (cp3 : Int) := by omega
                  clear hx hi hit hnd hK hkl
                  by_cases hin : x ∈ C.owned.take k
                  · obtain rfl : code = 7 := by have := HCk.out; rw [if_pos (HNN.out hin)] at this; exact this
                    rw [decide_eq_true hin] at HHas
                    clear hin
                    go_wp2_with fail
                    go_quiet ((go_at_call 29; exact Calls.quiet_of_same (HHas.out _)))
                    go_wp2_with fail
                    go_ret
                    exact ⟨rfl, HKa.out.trans (HK.out.drewN _) (fun _ _ h => h)⟩
                  · have HNx := Lib.hid (HND.out hin)
                    rw [decide_eq_false hin] at HHas
                    clear hin
                    go_wp2_with fail
                    go_quiet ((go_at_call 29; exact Calls.quiet_of_same (HHas.out _)))
                    go_wp2_with fail
                    go_roundw
                    case rel => exact ⟨k + 1, by go_num, by omega, HNx.out, HK.out.drewN _⟩
                    case measure => simp [intOf]; omega
                · have HNod := Lib.hid (show C.owned.Nodup by rwa [List.take_of_length_le (by rw [HN3.out]; omega)] at hnd)
                  have HCk2 := Lib.hid (show code = if C.used.all (knownB C.owned) = false then 9 else if (ordO C.gates).length < C.gates.length then 8 else 0 by have := HCk.out; rw [if_neg (by simp; exact HNod.out)] at this; exact this)
                  clear hnd hK HCk
                  go_wp2_with fail
                  go_loopw [10] (fun v10 wr => ∃ k : Nat, v10 = .int .i64 k ∧ k ≤ n4 ∧ (C.used.take k).all (knownB C.owned) = true ∧ Kp (fun _ => False) wa wr) (fun v10 _ => n4 - (intOf v10).toNat)
                  case atStart => exact ⟨0, rfl, by omega, by simp, HK.out⟩
                  case round =>
                    obtain ⟨k, rfl, hk, hall, hK⟩ := hrel
                    clear HK hlt
                    obtain ⟨wp, rfl⟩ : ∃ wp : World, wp = wr := ⟨_, rfl⟩
                    have HK := Lib.hid hK
                    by_cases hlt : k < n4
                    · have hkl : k < C.used.length := by rw [HN4.out]; exact hlt
                      have hi := RowAt.kp HI3.out hK (fun _ _ h => h)
                      obtain ⟨b, off, rfl, hcell⟩ := IntsAt.get (RowAt.kp HI4.out hK (fun _ _ h => h)) hkl
                      have hat := all_take (take_gi hkl) (knownB C.owned)
                      rw [hall, Bool.true_and] at hat
                      have hxu : gi C.used k ∈ C.used := by unfold gi; rw [List.getElem?_eq_getElem hkl]; exact List.getElem_mem hkl
                      have hxr := HIR.out.use _ hxu
                      have hkn := knownB_iff HIR.out hxu
                      have HBad := Lib.hid (fun (h : knownB C.owned (gi C.used k) = false) => show C.used.all (knownB C.owned) = false by rw [List.all_eq_false]; exact ⟨_, hxu, by simp [h]⟩)
                      obtain ⟨x, hx⟩ : ∃ x, gi C.used k = x := ⟨_, rfl⟩
                      rw [hx] at hcell hat hkn hxr HBad
                      rw [hkn] at hat HBad
                      have HAt := Lib.hid hat
                      have x0 : 0 ≤ x := hxr.1
                      have x1 : x ≤ 100000000 := by have := hxr.2; have := HM.out; omega
                      have i0 : (0 : Int) ≤ (k : Int) := by omega
                      have i1 : (k : Int) < (n4 : Int) := by omega
                      clear hall hat hx hK hkl hkn hxr hxu
                      by_cases g1 : 1 < x
                      · have htm : x.tmod 2 = x % 2 := Int.tmod_eq_emod_of_nonneg x0
                        obtain ⟨r, hr⟩ : ∃ r, x % 2 = r := ⟨_, rfl⟩
                        have hr2 : 0 ≤ r ∧ r ≤ 1 := by omega
                        rw [hr] at htm HAt HBad
                        have hw : IntKind.i64.wrap (x - r) = x - r := IntWalk.i64_in _ (by omega)
                        have HHas := Lib.hid (fun q => ref02_HasQ a3 n3 cp3 q C.owned (x - r) wp hi HN3.out (by omega))
                        have d1 : decide (1 < x) = true := decide_eq_true g1
                        rw [d1] at HAt HBad
                        clear hi hr hr2
                        by_cases hin : x - r ∈ C.owned
                        · rw [decide_eq_true hin] at HHas HAt
                          clear hin g1
                          go_wp2_with fail
                          go_quiet ((go_at_call 29; exact Calls.quiet_of_same (HHas.out _)))
                          clear hw htm
                          go_wp2_with fail
                          go_roundw
                          case rel => exact ⟨k + 1, by go_num, by omega, HAt.out, HK.out.drewN _⟩
                          case measure => simp [intOf]; omega
                        · rw [decide_eq_false hin] at HHas HBad
                          obtain rfl : code = 9 := by have := HCk2.out; rw [if_pos (HBad.out rfl)] at this; exact this
                          clear hin g1
                          go_wp2_with fail
                          go_quiet ((go_at_call 29; exact Calls.quiet_of_same (HHas.out _)))
                          go_wp2_with fail
                          go_ret
                          exact ⟨rfl, HKa.out.trans (HK.out.drewN _) (fun _ _ h => h)⟩
                      · have d1 : decide (1 < x) = false := decide_eq_false g1
                        rw [d1] at HAt
                        clear hi g1
                        go_wp2_with fail
                        go_quiet (fail)
                        go_wp2_with fail
                        go_roundw
                        case rel => exact ⟨k + 1, by go_num, by omega, HAt.out, HK.out.drewN _⟩
                        case measure => simp [intOf]; omega
                    · have HAll := Lib.hid (show C.used.all (knownB C.owned) = true by rwa [List.take_of_length_le (by rw [HN4.out]; omega)] at hall)
                      have HCk3 := Lib.hid (show code = if (ordO C.gates).length < C.gates.length then 8 else 0 by have := HCk2.out; rw [if_neg (by rw [HAll.out]; simp)] at this; exact this)
                      obtain ⟨on_, hon⟩ : ∃ g, (ordO C.gates).length = g := ⟨_, rfl⟩
                      have hle : on_ ≤ gn_ := by rw [← HGN.out, ← hon]; exact (ordO_at C.gates).len
                      rw [HGN.out, hon] at HCk3
                      have hgm : gn_ ≤ 1000000 := by rw [← HGN.out]; exact HF.out.g
                      have HO := Lib.hid (show ∀ u, Kp (fun _ => False) w u → Calls Tryd.prog 30 #[.agg #[.int .i64 C.max, .slice V.ai C.ins.length V.ci, .slice V.al C.lats.length V.cl, .slice V.ao C.outs.length V.co, .slice V.ab C.bads.length V.cb, .slice V.ac C.cons.length V.cc, .slice V.ag gn_ V.cg, .slice V.ay V.ny V.cy, .string V.cm]] u fun e u' => (∃ a c, e = .returned (.slice a on_ c)) ∧ Kp (fun _ => False) u u' from fun u hu => by
                        have hor := (ref11_Order V C u (HA.out.kp hu) HF.out.g (fun i hi => by
                          have h1 := HIR.out.own _ (gate_own hi)
                          have h2 := HIR.out.use _ (gate_useA hi)
                          have h3 := HIR.out.use _ (gate_useB hi)
                          have := HM.out
                          omega)).mono (R' := fun e u' => (∃ a c, e = .returned (.slice a on_ c)) ∧ Kp (fun _ => False) u u') (by
                            rintro e u' ⟨v, rfl, hO, hK⟩
                            obtain ⟨a, c, e, -⟩ := hO.form
                            rw [nv_length, hon] at e
                            exact ⟨⟨a, c, by rw [e]⟩, hK⟩)
                        rw [HU.out] at hor
                        exact hor)
                      have HXu := Lib.hid (HC.out.kp hK (fun h => h))
                      have HK5 := Lib.hid (HKa.out.trans hK (fun _ _ h => h))
                      clear hon hall hK HCk2 HK
                      go_upto_region 30 with fail
                      obtain ⟨wy, rfl⟩ : ∃ wy : World, wy = wp := ⟨_, rfl⟩
                      go_region_held3 (fun u => u.cell? ⟨w.heap.size, 0, none⟩ = some (.int .i64 C.max) ∧ u.cell? ⟨w.heap.size, 1, none⟩ = some (.slice V.ai C.ins.length V.ci) ∧ u.cell? ⟨w.heap.size, 2, none⟩ = some (.slice V.al C.lats.length V.cl) ∧ u.cell? ⟨w.heap.size, 3, none⟩ = some (.slice V.ao C.outs.length V.co) ∧ u.cell? ⟨w.heap.size, 4, none⟩ = some (.slice V.ab C.bads.length V.cb) ∧ u.cell? ⟨w.heap.size, 5, none⟩ = some (.slice V.ac C.cons.length V.cc) ∧ u.cell? ⟨w.heap.size, 6, none⟩ = some (.slice V.ag gn_ V.cg) ∧ u.cell? ⟨w.heap.size, 7, none⟩ = some (.slice V.ay V.ny V.cy) ∧ u.cell? ⟨w.heap.size, 8, none⟩ = some (.string V.cm)) (with_reducible first | exact HXu.out.cells9 | exact HXu.out.drew.cells9 | exact HXb.out.cells9 | exact HXb.out.drew.cells9) (((with_reducible refine Calls.mono (HO.out _ (by first | exact HK5.out | exact HK5.out.drew)) ?_); rintro o u2 ⟨⟨a2, c2, rfl⟩, hK6⟩; have HXb := Lib.hid (by first | exact HXu.out.kp hK6 (fun h => h) | exact HXu.out.drew.kp hK6 (fun h => h)); have HKb := Lib.hid (by first | exact HK5.out.trans hK6 (fun _ _ h => h) | exact HK5.out.drew.trans hK6 (fun _ _ h => h)); clear hK6))
                      all_goals
                        by_cases hlt2 : on_ < gn_
                        · obtain rfl : code = 8 := by have := HCk3.out; rw [if_pos hlt2] at this; exact this
                          have dd : decide ((on_ : Int) < (gn_ : Int)) = true := decide_eq_true (by omega)
                          go_wp2_with fail
                          go_ret
                          exact ⟨rfl, by first | exact HKb.out | exact HKb.out.drew⟩
                        · obtain rfl : code = 0 := by have := HCk3.out; rw [if_neg hlt2] at this; exact this
                          have dd : decide ((on_ : Int) < (gn_ : Int)) = false := decide_eq_false (by omega)
                          go_wp2_with fail
                          go_ret
                          exact ⟨rfl, by first | exact HKb.out | exact HKb.out.drew⟩

end Go.Proofs.YtmjcpapcmbgkjaaDoor

/-
  latchetref14.Normal.
-/
namespace Go.Proofs.YtmjcpapcmbgkjaaDoor
open Go.RowKit

/-- what tells whether a circuit is numbered so -/
def NormP (C : Circ) (w : World) (e : Ending) (w' : World) : Prop := ∃ r : Bool, e = .returned (.bool r) ∧ (r = true ↔ NormC C) ∧ Kp (fun _ => False) w w'
theorem NormP.mk {C : Circ} {w w' : World} {e : Ending} (r : Bool) (h1 : e = .returned (.bool r)) (h2 : r = true ↔ NormC C) (h3 : Kp (fun _ => False) w w') : NormP C w e w' := ⟨r, h1, h2, h3⟩

set_option maxRecDepth 100000 in
set_option maxHeartbeats 8000000 in
theorem ref14_Normal (V : CV) (C : Circ) (w : World) (h : CAt w V C) (hf : CFew C 1000000) :
    Calls Tryd.prog 6 #[.agg (cvals V C)] w fun e w' => NormP C w e w' := by
  have HA := Lib.hid h
  have HF := Lib.hid hf
  obtain ⟨wz, hwz⟩ : ∃ wz : World, wz = w.alloc (.cells (cvals V C) 27) := ⟨_, rfl⟩
  have HK0 := Lib.hid (show Kp (fun _ => False) w wz by rw [hwz]; exact (Kp.refl _ w).alloc _)
  have HC0 := Lib.hid (show Blk wz w.heap.size #[.int .i64 C.max, .slice V.ai C.ins.length V.ci, .slice V.al C.lats.length V.cl, .slice V.ao C.outs.length V.co, .slice V.ab C.bads.length V.cb, .slice V.ac C.cons.length V.cc, .slice V.ag C.gates.length V.cg, .slice V.ay V.ny V.cy, .string V.cm] 27 by rw [hwz]; exact Blk.new w (cvals V C) _)
  obtain ⟨d0, d1, d2, d3, d4, d5, d6, d7, d8⟩ := Blk.cells9 HC0.out
  have HZ := Lib.hid hwz
  have hol := owned_len C
  have hni := hf.i
  have hnl := hf.l
  have hng := hf.g
  obtain ⟨no, hno⟩ : ∃ n, C.owned.length = n := ⟨_, rfl⟩
  have HNo := Lib.hid hno
  have hno1 : no ≤ 3000000 := by omega
  obtain ⟨mx, hmx⟩ : ∃ m, C.max = m := ⟨_, rfl⟩
  have HMx := Lib.hid hmx
  rw [hmx] at d0
  clear h hf hwz hol hno hmx
  have HOw := Lib.hid (ref11_Owned V C wz (HA.out.kp HK0.out) HF.out)
  unfold cvals at HOw
  rw [HMx.out] at HC0 HOw
  go_enter Tryd.func6, Tryd.ntmps6
  go_upto_region 1 with fail
  rw [← HZ.out]
  clear HZ
  go_upto_region 2 with (go_at_call 14; with_reducible refine Calls.mono HOw.out ?_; rintro e w1 ⟨v, rfl, hO, hK1⟩; obtain ⟨oa, oc, ev, -, -, -, hr⟩ := hO.form; rw [iv_length, HNo.out] at ev; subst ev; have HR := Lib.hid hr; have HC1 := Lib.hid (HC0.out.kp hK1 (fun h => h)); have HK1 := Lib.hid (HK0.out.trans hK1 (fun _ _ h => h)); obtain ⟨f0, f1, f2, f3, f4, f5, f6, f7, f8⟩ := Blk.cells9 HC1.out; clear hr hO hK1 d0 d1 d2 d3 d4 d5 d6 d7 d8)
  have HCk := Lib.hid (ref11_Chk V C w1 (HA.out.kp HK1.out) HF.out)
  unfold cvals at HCk
  clear HOw
  rw [HMx.out] at HCk
  by_cases hm : mx = (no : Int)
  case neg =>
    have hq : ((mx : Int) != (no : Int)) = true := by simpa using hm
    have HNn := Lib.hid (show ¬ NormC C from fun h => hm (by have := h.max; rw [HNo.out, HMx.out] at this; exact this))
    clear hm
    go_wp2_with fail
    go_ret
    exact NormP.mk false rfl ⟨fun h => (by cases h), fun h => absurd h HNn.out⟩ (HK1.out)
  have hq : ((mx : Int) != (no : Int)) = false := by simpa using hm
  obtain ⟨ck, hck⟩ : ∃ k, ckCode C = k := ⟨_, rfl⟩
  rw [hck] at HCk
  have HM := Lib.hid hm
  by_cases hc : ck = 0
  case neg =>
    have hq2 : ((ck : Int) != 0) = true := by simpa using hc
    have HNn := Lib.hid (show ¬ NormC C from fun h => hc (by rw [← hck]; exact h.good.code))
    clear hm hck hc
    go_wp2_with (go_at_call 15; with_reducible refine Calls.mono HCk.out ?_; rintro e w2 ⟨rfl, hK2⟩; have HK2 := Lib.hid (HK1.out.trans hK2 (fun _ _ h => h)); have HC2 := Lib.hid (HC1.out.kp hK2 (fun h => h)); have HR2 := Lib.hid (HR.out.kp hK2 (fun _ _ h => h)); clear hK2)
    go_ret
    exact NormP.mk false rfl ⟨fun h => (by cases h), fun h => absurd h HNn.out⟩ (HK2.out)
  subst hc
  have HCe := Lib.hid hck
  clear hm hck
  go_upto_region 4 with (go_at_call 15; with_reducible refine Calls.mono HCk.out ?_; rintro e w2 ⟨rfl, hK2⟩; have HK2 := Lib.hid (HK1.out.trans hK2 (fun _ _ h => h)); have HC2 := Lib.hid (HC1.out.kp hK2 (fun h => h)); have HR2 := Lib.hid (HR.out.kp hK2 (fun _ _ h => h)); clear hK2)
  clear f0 f1 f2 f3 f4 f5 f6 f7 f8 HC1 HR HK1
  go_wp2_with fail
  go_loopw [4] (fun v4 wr => ∃ k : Nat, v4 = .int .i64 k ∧ k ≤ no ∧ (∀ i, i < k → gi C.owned i = 2 * (i : Int) + 2) ∧ Kp (fun _ => False) w2 wr) (fun v4 _ => no - (intOf v4).toNat)
  case atStart => exact ⟨0, rfl, by omega, fun i hi => by omega, Kp.refl _ _⟩
  case round =>
    obtain ⟨k, rfl, hk, hall, hK⟩ := hrel
    obtain ⟨wp, rfl⟩ : ∃ wp : World, wp = wr := ⟨_, rfl⟩
    have HK := Lib.hid hK
    have HAll := Lib.hid hall
    clear hK hall
    by_cases hlt : k < no
    · obtain ⟨b, off, ea, e0⟩ := (HR2.out.kp HK.out (fun _ _ h => h)) k _ (iv_at (l := C.owned) (by rw [HNo.out]; exact hlt))
      obtain ⟨x, hx⟩ : ∃ x, gi C.owned k = x := ⟨_, rfl⟩
      rw [hx] at e0
      rw [ea]
      have i0 : (0 : Int) ≤ (k : Int) := by omega
      have i2 : (k : Int) < (no : Int) := by omega
      have HX := Lib.hid hx
      clear ea hx
      by_cases hxx : x = 2 * (k : Int) + 2
      · have hq3 : ((x : Int) != 2 * (k : Int) + 2) = false := by simpa using hxx
        have HXX := Lib.hid hxx
        clear hxx
        go_wp2_with fail
        go_roundw
        case rel => exact ⟨k + 1, by go_num, by omega, fun i hi => by
          by_cases e : i < k
          · exact HAll.out i e
          · obtain rfl : i = k := by omega
            rw [HX.out, HXX.out], HK.out⟩
        case measure => simp [intOf]; omega
      · have hq3 : ((x : Int) != 2 * (k : Int) + 2) = true := by simpa using hxx
        have HNn := Lib.hid (show ¬ NormC C from fun h => hxx (by rw [← HX.out]; exact h.own k (by rw [HNo.out]; exact hlt)))
        clear hxx
        go_wp2_with fail
        go_ret
        exact NormP.mk false rfl ⟨fun h => (by cases h), fun h => absurd h HNn.out⟩ (HK2.out.trans HK.out (fun _ _ h => h))
    · obtain rfl : k = no := by omega
      have c6 := (HC2.out.kp HK.out (fun h => h)).cell (i := 6) (v := .slice V.ag C.gates.length V.cg) rfl
      go_wp2_with fail
      go_loopw [5] (fun v5 wr => ∃ q : Nat, v5 = .int .i64 q ∧ q ≤ C.gates.length ∧ (∀ i, i < q → (g3 C.gates i).2.2 ≤ (g3 C.gates i).2.1 ∧ (g3 C.gates i).2.1 < (g3 C.gates i).1) ∧ Kp (fun _ => False) w2 wr) (fun v5 _ => C.gates.length - (intOf v5).toNat)
      case atStart => exact ⟨0, rfl, by omega, fun i hi => by omega, HK.out⟩
      case round =>
        obtain ⟨q, rfl, hq', hall, hK⟩ := hrel
        obtain ⟨wq, rfl⟩ : ∃ wq : World, wq = wr := ⟨_, rfl⟩
        have c6 := (HC2.out.kp hK (fun h => h)).cell (i := 6) (v := .slice V.ag C.gates.length V.cg) rfl
        have HKq := Lib.hid (HK2.out.trans hK (fun _ _ h => h))
        have HKw := Lib.hid hK
        have HAq := Lib.hid hall
        clear hK hall
        by_cases hlt : q < C.gates.length
        · obtain ⟨b, off, ea, hE⟩ := HA.out.gateCell hlt
          obtain ⟨e0, e1, e2⟩ := hE _ HKq.out
          obtain ⟨x0, hx0⟩ : ∃ x, (g3 C.gates q).1 = x := ⟨_, rfl⟩
          obtain ⟨x1, hx1⟩ : ∃ x, (g3 C.gates q).2.1 = x := ⟨_, rfl⟩
          obtain ⟨x2, hx2⟩ : ∃ x, (g3 C.gates q).2.2 = x := ⟨_, rfl⟩
          rw [hx0] at e0
          rw [hx1] at e1
          rw [hx2] at e2
          rw [ea] at c6
          have HG3 := Lib.hid (And.intro hx0 (And.intro hx1 hx2))
          have i0 : (0 : Int) ≤ (q : Int) := by omega
          have i2 : (q : Int) < (C.gates.length : Int) := by omega
          clear hx0 hx1 hx2 hE ea
          by_cases g1 : x1 < x2
          · have k1 : decide (x1 < x2) = true := decide_eq_true g1
            have HNn := Lib.hid (show ¬ NormC C from fun h => by
              have := (normC_iff.1 h).2.2.2 q hlt
              rw [HG3.out.1, HG3.out.2.1, HG3.out.2.2] at this
              omega)
            clear g1
            go_upto_region 12 with fail
            go_quiet (fail)
            go_wp2_with fail
            go_ret
            exact NormP.mk false rfl ⟨fun h => (by cases h), fun h => absurd h HNn.out⟩ (HKq.out.drewN _)
          · have k1 : decide (x1 < x2) = false := decide_eq_false g1
            have G1 := Lib.hid g1
            clear g1
            by_cases g2 : x0 ≤ x1
            · have k2 : decide (x0 ≤ x1) = true := decide_eq_true g2
              have HNn := Lib.hid (show ¬ NormC C from fun h => by
                have := (normC_iff.1 h).2.2.2 q hlt
                rw [HG3.out.1, HG3.out.2.1, HG3.out.2.2] at this
                omega)
              clear g2
              go_upto_region 12 with fail
              go_quiet (fail)
              go_wp2_with fail
              go_ret
              exact NormP.mk false rfl ⟨fun h => (by cases h), fun h => absurd h HNn.out⟩ (HKq.out.drewN _)
            · have k2 : decide (x0 ≤ x1) = false := decide_eq_false g2
              have G2 := Lib.hid g2
              clear g2
              go_upto_region 12 with fail
              go_quiet (fail)
              go_wp2_with fail
              go_roundw
              case rel => exact ⟨q + 1, by go_num, by omega, fun i hi => by
                by_cases e : i < q
                · exact HAq.out i e
                · obtain rfl : i = q := by omega
                  have := G1.out
                  have := G2.out
                  rw [HG3.out.1, HG3.out.2.1, HG3.out.2.2]
                  omega, HKw.out.drewN _⟩
              case measure => simp [intOf]; omega
        · obtain rfl : q = C.gates.length := by omega
          have HYes := Lib.hid (show NormC C from normC_iff.2 ⟨HCe.out, by rw [HMx.out, HNo.out]; exact HM.out, by rw [HNo.out]; exact HAll.out, HAq.out⟩)
          go_wp2_with fail
          go_ret
          exact NormP.mk true rfl ⟨fun _ => HYes.out, fun _ => rfl⟩ HKq.out

end Go.Proofs.YtmjcpapcmbgkjaaDoor

/-
  The library's contracts at this dump, as the kit's own tool lays them.
-/
namespace Go.Proofs
open Go.Shelf
def Tryd.lays169_ren : Go.Shelf.Ren := ⟨fun | 169 => 20 | n => n, fun | 70 => 46 | 9 => 9 | 0 => 0 | 72 => 49 | 37 => 47 | 127 => 76 | 3 => 3 | 5 => 5 | n => n, fun | n => n⟩
theorem Tryd.lays169 : Go.Proofs.Lays.n169 Tryd.prog Tryd.lays169_ren := {
  mixed := by kernel_rfl
  f169 := Tryd.func20.trans (congrArg some (by kernel_rfl))
  t0 := Tryd.underlying0
  a0 := Tryd.isAgg0
  z0 := Tryd.sizeOf0
  v0 := Tryd.zeroValue0
  t3 := Tryd.underlying3
  a3 := Tryd.isAgg3
  z3 := Tryd.sizeOf3
  v3 := Tryd.zeroValue3
  t9 := Tryd.underlying9
  a9 := Tryd.isAgg9
  z9 := Tryd.sizeOf9
  v9 := Tryd.zeroValue9
  t37 := Tryd.underlying47
  a37 := Tryd.isAgg47
  z37 := Tryd.sizeOf47
  v37 := Tryd.zeroValue47
  t70 := Tryd.underlying46
  a70 := Tryd.isAgg46
  z70 := Tryd.sizeOf46
  v70 := Tryd.zeroValue46
  t72 := Tryd.underlying49
  a72 := Tryd.isAgg49
  z72 := Tryd.sizeOf49
  v72 := Tryd.zeroValue49
  t127 := Tryd.underlying76
  a127 := Tryd.isAgg76
  z127 := Tryd.sizeOf76
  v127 := Tryd.zeroValue76 }
theorem Tryd.Builder_Extra_169 : Builder.Extra Tryd.prog Tryd.lays169_ren := {
  sizeBuilder := by kernel_rfl
  liesBuilder := by kernel_rfl
  t5 := Tryd.underlying5
  a5 := Tryd.isAgg5
  z5 := Tryd.sizeOf5
  v5 := Tryd.zeroValue5
  infoByte := by kernel_rfl
  cellsByte := by kernel_rfl
  sizeByte := by kernel_rfl
  neB5 := by decide }
open Go.RowKit in
theorem Tryd.Builder_String_any (B b : Nat) (l : List UInt8) (w : World) (h : Lib.IsBuilder 49 5 B b (Lib.byteCells l) w) (hBw : B ≤ w.heap.size) :
    Calls Tryd.prog 20 #[.pointer (some ⟨b, 0, none⟩)] w fun e w' => e = .returned (.string ⟨l.toArray⟩) ∧ Below B w w' := Any.Builder_String_any Tryd.lays169 Tryd.Builder_Extra_169 B b l w h hBw
end Go.Proofs

/-
  strings.Builder: copyCheck, WriteByte, WriteString at this dump, over the kit's own predicate (Lib.IsBuilder).
-/
namespace Go.Proofs.YtmjcpapcmbgkjaaDoor
open Go.RowKit

theorem bldSize : (Tryd.prog.info? 49).map (·.size) = some 2 := by kernel_rfl
theorem bldLies : liesAt Tryd.prog Tryd.prog.depth 49 (2 / Tryd.prog.cellsOf 49) 0 49 1 = true := by kernel_rfl

set_option maxHeartbeats 1000000 in
set_option maxRecDepth 100000 in
theorem bld_used (b : Nat) (w : World) (h0 : w.cell? ⟨b, 0, none⟩ = some (.pointer (some ⟨b, 0, none⟩))) :
    Calls Tryd.prog 31 #[.pointer (some ⟨b, 0, none⟩)] w fun e w' => e = .returned (.tuple #[]) ∧ w' = w := by
  obtain ⟨j, hj, _⟩ := Option.map_eq_some_iff.1 bldSize
  go_enter Tryd.func31, Tryd.ntmps31
  go_wp2
  rw [Lib.run_neq_ptr_same w _ Tryd.underlying46 hj]
  go_wp2
  go_end0
  exact ⟨rfl, rfl⟩

set_option maxHeartbeats 1000000 in
set_option maxRecDepth 100000 in
theorem bld_fresh (b : Nat) (w : World) (h0 : w.cell? ⟨b, 0, none⟩ = some (.pointer none)) (hsh : w.shape? b = some (49, 2)) (hfz : w.frozen? ⟨b, 0, none⟩ = false) :
    Calls Tryd.prog 31 #[.pointer (some ⟨b, 0, none⟩)] w fun e w' => e = .returned (.tuple #[]) ∧ w' = w.setCell ⟨b, 0, none⟩ (.pointer (some ⟨b, 0, none⟩)) := by
  obtain ⟨j, hj, hjs⟩ := Option.map_eq_some_iff.1 bldSize
  go_enter Tryd.func31, Tryd.ntmps31
  go_wp2
  rw [Lib.run_to_unsafe w ⟨b, 0, none⟩ Tryd.underlying46 Tryd.underlying89 hj (by rw [hjs]; decide) hsh (Nat.zero_lt_succ 1)]
  simp only [Result.andThen]
  rw [Oper.upon_value]
  go_wp2
  rw [run_callFunc_extern Tryd.func42 (by kernel_rfl) (by kernel_rfl) (by kernel_rfl) (e := Extern.AbiNoEscape.same) (by kernel_rfl)]
  rw [Lib.run_noEscape]
  simp only [Result.andThen]
  rw [Oper.upon_value]
  go_wp2
  rw [Lib.run_from_unsafe w ⟨b, 0, none⟩ Tryd.underlying89 Tryd.underlying46 hj hsh bldLies]
  simp only [Result.andThen]
  rw [Oper.upon_value]
  go_wp2
  go_end0
  exact ⟨rfl, rfl⟩

theorem bld_check (B b : Nat) (bs : List Value) (w : World) (h : Lib.IsBuilder 49 5 B b bs w) :
    Calls Tryd.prog 31 #[.pointer (some ⟨b, 0, none⟩)] w fun e w' => e = .returned (.tuple #[]) ∧ Lib.BuilderAt 49 5 B b (.pointer (some ⟨b, 0, none⟩)) bs w' ∧ Below B w w' := by
  rcases h with h | h
  · refine (bld_fresh b w h.cell0 h.shape h.frozen0).mono ?_
    rintro e w' ⟨rfl, rfl⟩
    exact ⟨rfl, h.used _, (Below.refl B w).setCell (p := ⟨b, 0, none⟩) h.1 _⟩
  · refine (bld_used b w h.cell0).mono ?_
    rintro e w' ⟨rfl, rfl⟩
    exact ⟨rfl, h, Below.refl B _⟩

theorem bldByte : (Tryd.prog.info? 5).map (fun i => (i.zero, i.size, i.bytes)) = some (some (.int .u8 0), 1, 1) := by kernel_rfl

set_option maxHeartbeats 1000000 in
set_option maxRecDepth 100000 in
theorem bld_byte (B b : Nat) (bs : List Value) (c : Int) (w : World) (h : Lib.IsBuilder 49 5 B b bs w) (hlen : bs.length + 1 ≤ 140737488355328) (hBw : B ≤ w.heap.size) :
    Calls Tryd.prog 18 #[.pointer (some ⟨b, 0, none⟩), .int .u8 c] w fun e w' => e = .returned .nilIface ∧ Lib.BuilderAt 49 5 B b (.pointer (some ⟨b, 0, none⟩)) (bs ++ [.int .u8 c]) w' ∧ Below B w w' := by
  obtain ⟨i0, hi, hz0, hz1, hz2⟩ := info_parts bldByte
  go_enter Tryd.func18, Tryd.ntmps18
  go_wp2_with (go_at_call 31; refine (bld_check B b bs _ h).mono ?_)
  rintro e w1 ⟨rfl, h1, hb1⟩
  obtain ⟨hB, v, hbk, hown, hne⟩ := h1
  have c0 : w1.cell? ⟨b, 0, none⟩ = some (.pointer (some ⟨b, 0, none⟩)) := by rw [Lib.cell_of_heap hbk]; rfl
  have c1 : w1.cell? ⟨b, 1, none⟩ = some v := by rw [Lib.cell_of_heap hbk]; rfl
  go_wp2_with (at_builtin; refine wpList_append_own _ rfl _ _ 47 rfl B 5 i0 (.int .u8 0) 1 1 Tryd.underlying47 hi hz0 hz1 hz2 rfl (by decide) _ _ _ rfl (hown.alloc _) ⟨w1.heap.size, 0, none⟩ 1 1 [.int .u8 c] rfl rfl ?c1 ?c2 ?c3 ?c4 ?c5 ?_)
  case c1 =>
    intro j u hj
    match j, hj with
    | 0, hj => simp at hj; subst hj; simp [Addr.add]
  case c2 => intro u hu; simp at hu; subst hu; rfl
  case c3 => unfold maxLen; omega
  case c4 => omega
  case c5 => have := hb1.size; simp; omega
  intro v' w2 hown' hgrow _
  have hlt : b < w1.heap.size := (Array.getElem?_eq_some_iff.1 hbk).1
  have hb2 : w2.heap[b]? = some (.cells #[.pointer (some ⟨b, 0, none⟩), v] 49 (0, 0)) := by
    rw [hgrow.block b (by simp; omega) (fun e => hne e.symm), Lib.alloc_old w1 _ b hlt]
    exact hbk
  have d0 : w2.cell? ⟨b, 0, none⟩ = some (.pointer (some ⟨b, 0, none⟩)) := by rw [Lib.cell_of_heap hb2]; rfl
  have d1 : w2.cell? ⟨b, 1, none⟩ = some v := by rw [Lib.cell_of_heap hb2]; rfl
  have f1 : w2.frozen? ⟨b, 1, none⟩ = false := Lib.frozen_of_heap hb2 1
  obtain ⟨g, cap, rfl⟩ : ∃ g cap, v' = .slice (some ⟨g, 0, none⟩) (bs.length + 1) cap := by
    rcases hown'.2 with ⟨_, h0⟩ | ⟨g, cap, cur, hv, _⟩
    · omega
    · exact ⟨g, cap, hv⟩
  go_wp2
  go_ret
  refine ⟨rfl, ?_, ?_⟩
  · exact Lib.BuilderAt.put (T := 49) (e := 5) hB hb2 (bs' := bs ++ [.int .u8 c]) (by simpa using hown') (by decide)
  · exact ((hb1.alloc (by have := hb1.size; omega) _).grown hgrow (by have := hb1.size; simp; omega) (fun k hk => (hown.lt k hk).1)).setCell (p := ⟨b, 1, none⟩) hB _

set_option maxHeartbeats 1000000 in
set_option maxRecDepth 100000 in
theorem bld_string (B b : Nat) (bs : List Value) (s : ByteArray) (w : World) (h : Lib.IsBuilder 49 5 B b bs w) (hlen : bs.length + s.size ≤ 140737488355328) (hBw : B ≤ w.heap.size) :
    Calls Tryd.prog 16 #[.pointer (some ⟨b, 0, none⟩), .string s] w fun e w' => e = .returned (.tuple #[.int .i64 s.size, .nilIface]) ∧ Lib.BuilderAt 49 5 B b (.pointer (some ⟨b, 0, none⟩)) (bs ++ Lib.strCells s) w' ∧ Below B w w' := by
  obtain ⟨i0, hi, hz0, hz1, hz2⟩ := info_parts bldByte
  go_enter Tryd.func16, Tryd.ntmps16
  go_wp2_with (go_at_call 31; refine (bld_check B b bs _ h).mono ?_)
  rintro e w1 ⟨rfl, h1, hb1⟩
  obtain ⟨hB, v, hbk, hown, hne⟩ := h1
  have c0 : w1.cell? ⟨b, 0, none⟩ = some (.pointer (some ⟨b, 0, none⟩)) := by rw [Lib.cell_of_heap hbk]; rfl
  have c1 : w1.cell? ⟨b, 1, none⟩ = some v := by rw [Lib.cell_of_heap hbk]; rfl
  go_wp2_with (at_builtin; refine Lib.wpList_append_own_string _ rfl _ _ 47 9 rfl B 5 i0 Tryd.underlying47 Tryd.underlying9 hi hz0 hz1 hz2 _ _ _ rfl hown s rfl ?c3 ?c4 ?c5 ?_)
  case c3 => unfold maxLen; omega
  case c4 => omega
  case c5 => have := hb1.size; omega
  intro v' w2 hown' hgrow _
  have hlt : b < w1.heap.size := (Array.getElem?_eq_some_iff.1 hbk).1
  have hb2 : w2.heap[b]? = some (.cells #[.pointer (some ⟨b, 0, none⟩), v] 49 (0, 0)) := by
    rw [hgrow.block b hlt (fun e => hne e.symm)]
    exact hbk
  have d0 : w2.cell? ⟨b, 0, none⟩ = some (.pointer (some ⟨b, 0, none⟩)) := by rw [Lib.cell_of_heap hb2]; rfl
  have d1 : w2.cell? ⟨b, 1, none⟩ = some v := by rw [Lib.cell_of_heap hb2]; rfl
  have f1 : w2.frozen? ⟨b, 1, none⟩ = false := Lib.frozen_of_heap hb2 1
  obtain ⟨ao, n', cap, rfl⟩ : ∃ ao n' cap, v' = .slice ao n' cap := by
    rcases hown'.2 with ⟨hv, _⟩ | ⟨g, cap, cur, hv, _⟩
    · exact ⟨_, _, _, hv⟩
    · exact ⟨_, _, _, hv⟩
  go_wp2
  go_ret2
  refine ⟨rfl, ?_, ?_⟩
  · exact Lib.BuilderAt.put (T := 49) (e := 5) hB hb2 (bs' := bs ++ Lib.strCells s) (by simpa [Lib.strCells_length] using hown') (by decide)
  · exact (hb1.grown hgrow (by have := hb1.size; omega) (fun k hk => (hown.lt k hk).1)).setCell (p := ⟨b, 1, none⟩) hB _

end Go.Proofs.YtmjcpapcmbgkjaaDoor

/-
  strings.Builder: WriteByte, WriteString, with a sharper word on what is written.
-/
namespace Go.Proofs.YtmjcpapcmbgkjaaDoor
open Go.RowKit

/-- what writing into the builder at block b may turn: that block, and blocks of bytes -/
def BFr (b : Nat) (w : World) (j : Nat) : Prop := j = b ∨ ∃ c, Blk w j c 5

theorem BFr.not {b j : Nat} {w : World} {c : Array Value} {t : TypeId} (h : Blk w j c t) (hj : j ≠ b) (ht : t ≠ 5) : ¬ BFr b w j := by
  rintro (e | ⟨c', h'⟩)
  · exact hj e
  · unfold Blk at h h'
    rw [h] at h'
    simp at h'
    exact ht h'.2

theorem bld_checkK (B b : Nat) (bs : List Value) (w : World) (h : Lib.IsBuilder 49 5 B b bs w) :
    Calls Tryd.prog 31 #[.pointer (some ⟨b, 0, none⟩)] w fun e w' => e = .returned (.tuple #[]) ∧ Lib.BuilderAt 49 5 B b (.pointer (some ⟨b, 0, none⟩)) bs w' ∧ Kp (· = b) w w' := by
  rcases h with h | h
  · refine (bld_fresh b w h.cell0 h.shape h.frozen0).mono ?_
    rintro e w' ⟨rfl, rfl⟩
    exact ⟨rfl, h.used _, Kp.set w ⟨b, 0, none⟩ _⟩
  · refine (bld_used b w h.cell0).mono ?_
    rintro e w' ⟨rfl, rfl⟩
    exact ⟨rfl, h, Kp.refl _ _⟩

set_option maxHeartbeats 1000000 in
set_option maxRecDepth 100000 in
theorem bld_byteK (B b : Nat) (bs : List Value) (c : Int) (w : World) (h : Lib.IsBuilder 49 5 B b bs w) (hlen : bs.length + 1 ≤ 140737488355328) (hBw : B ≤ w.heap.size) :
    Calls Tryd.prog 18 #[.pointer (some ⟨b, 0, none⟩), .int .u8 c] w fun e w' => e = .returned .nilIface ∧ Lib.BuilderAt 49 5 B b (.pointer (some ⟨b, 0, none⟩)) (bs ++ [.int .u8 c]) w' ∧ Below B w w' ∧ Kp (BFr b w) w w' := by
  obtain ⟨i0, hi, hz0, hz1, hz2⟩ := info_parts bldByte
  go_enter Tryd.func18, Tryd.ntmps18
  go_wp2_with (go_at_call 31; refine (bld_checkK B b bs _ h).mono ?_)
  rintro e w1 ⟨rfl, h1, hk1⟩
  have hb1 : Below B w w1 := hk1.below hBw (fun k hk e => by have := h1.1; omega)
  obtain ⟨hB, v, hbk, hown, hne⟩ := h1
  have c0 : w1.cell? ⟨b, 0, none⟩ = some (.pointer (some ⟨b, 0, none⟩)) := by rw [Lib.cell_of_heap hbk]; rfl
  have c1 : w1.cell? ⟨b, 1, none⟩ = some v := by rw [Lib.cell_of_heap hbk]; rfl
  go_wp2_with (at_builtin; refine wpList_append_own _ rfl _ _ 47 rfl B 5 i0 (.int .u8 0) 1 1 Tryd.underlying47 hi hz0 hz1 hz2 rfl (by decide) _ _ _ rfl (hown.alloc _) ⟨w1.heap.size, 0, none⟩ 1 1 [.int .u8 c] rfl rfl ?c1 ?c2 ?c3 ?c4 ?c5 ?_)
  case c1 =>
    intro j u hj
    match j, hj with
    | 0, hj => simp at hj; subst hj; simp [Addr.add]
  case c2 => intro u hu; simp at hu; subst hu; rfl
  case c3 => unfold maxLen; omega
  case c4 => omega
  case c5 => have := hb1.size; simp; omega
  intro v' w2 hown' hgrow _
  have hlt : b < w1.heap.size := (Array.getElem?_eq_some_iff.1 hbk).1
  have hb2 : w2.heap[b]? = some (.cells #[.pointer (some ⟨b, 0, none⟩), v] 49 (0, 0)) := by
    rw [hgrow.block b (by simp; omega) (fun e => hne e.symm), Lib.alloc_old w1 _ b hlt]
    exact hbk
  have d0 : w2.cell? ⟨b, 0, none⟩ = some (.pointer (some ⟨b, 0, none⟩)) := by rw [Lib.cell_of_heap hb2]; rfl
  have d1 : w2.cell? ⟨b, 1, none⟩ = some v := by rw [Lib.cell_of_heap hb2]; rfl
  have f1 : w2.frozen? ⟨b, 1, none⟩ = false := Lib.frozen_of_heap hb2 1
  obtain ⟨g, cap, rfl⟩ : ∃ g cap, v' = .slice (some ⟨g, 0, none⟩) (bs.length + 1) cap := by
    rcases hown'.2 with ⟨_, h0⟩ | ⟨g, cap, cur, hv, _⟩
    · omega
    · exact ⟨g, cap, hv⟩
  go_wp2
  go_ret
  have hsz1 := hk1.size
  have hBF : ∀ k, v.ownBlock = some k → k < w.heap.size → BFr b w k := fun k hk hlw => by
    rcases hown.2 with ⟨rfl, _⟩ | ⟨g, cap, cur, rfl, _, hg, _⟩
    · cases hk
    · have e : g = k := by simpa [Value.ownBlock] using hk
      subst e
      have hgb : g ≠ b := fun e => hne (by rw [e]; rfl)
      exact .inr ⟨cur, (hk1.block g hlw hgb).symm.trans hg⟩
  refine ⟨rfl, ?_, ?_, ?_⟩
  · exact Lib.BuilderAt.put (T := 49) (e := 5) hB hb2 (bs' := bs ++ [.int .u8 c]) (by simpa using hown') (by decide)
  · exact ((hb1.alloc (by have := hb1.size; omega) _).grown hgrow (by have := hb1.size; simp; omega) (fun k hk => (hown.lt k hk).1)).setCell (p := ⟨b, 1, none⟩) hB _
  · exact (((hk1.mono (fun i _ e => .inl e)).alloc _).grown hgrow (fun k hk hl => hBF k hk hl)).setCell (p := ⟨b, 1, none⟩) (fun _ => .inl rfl) _

set_option maxHeartbeats 1000000 in
set_option maxRecDepth 100000 in
theorem bld_stringK (B b : Nat) (bs : List Value) (s : ByteArray) (w : World) (h : Lib.IsBuilder 49 5 B b bs w) (hlen : bs.length + s.size ≤ 140737488355328) (hBw : B ≤ w.heap.size) :
    Calls Tryd.prog 16 #[.pointer (some ⟨b, 0, none⟩), .string s] w fun e w' => e = .returned (.tuple #[.int .i64 s.size, .nilIface]) ∧ Lib.BuilderAt 49 5 B b (.pointer (some ⟨b, 0, none⟩)) (bs ++ Lib.strCells s) w' ∧ Below B w w' ∧ Kp (BFr b w) w w' := by
  obtain ⟨i0, hi, hz0, hz1, hz2⟩ := info_parts bldByte
  go_enter Tryd.func16, Tryd.ntmps16
  go_wp2_with (go_at_call 31; refine (bld_checkK B b bs _ h).mono ?_)
  rintro e w1 ⟨rfl, h1, hk1⟩
  have hb1 : Below B w w1 := hk1.below hBw (fun k hk e => by have := h1.1; omega)
  obtain ⟨hB, v, hbk, hown, hne⟩ := h1
  have c0 : w1.cell? ⟨b, 0, none⟩ = some (.pointer (some ⟨b, 0, none⟩)) := by rw [Lib.cell_of_heap hbk]; rfl
  have c1 : w1.cell? ⟨b, 1, none⟩ = some v := by rw [Lib.cell_of_heap hbk]; rfl
  go_wp2_with (at_builtin; refine Lib.wpList_append_own_string _ rfl _ _ 47 9 rfl B 5 i0 Tryd.underlying47 Tryd.underlying9 hi hz0 hz1 hz2 _ _ _ rfl hown s rfl ?c3 ?c4 ?c5 ?_)
  case c3 => unfold maxLen; omega
  case c4 => omega
  case c5 => have := hb1.size; omega
  intro v' w2 hown' hgrow _
  have hlt : b < w1.heap.size := (Array.getElem?_eq_some_iff.1 hbk).1
  have hb2 : w2.heap[b]? = some (.cells #[.pointer (some ⟨b, 0, none⟩), v] 49 (0, 0)) := by
    rw [hgrow.block b hlt (fun e => hne e.symm)]
    exact hbk
  have d0 : w2.cell? ⟨b, 0, none⟩ = some (.pointer (some ⟨b, 0, none⟩)) := by rw [Lib.cell_of_heap hb2]; rfl
  have d1 : w2.cell? ⟨b, 1, none⟩ = some v := by rw [Lib.cell_of_heap hb2]; rfl
  have f1 : w2.frozen? ⟨b, 1, none⟩ = false := Lib.frozen_of_heap hb2 1
  obtain ⟨ao, n', cap, rfl⟩ : ∃ ao n' cap, v' = .slice ao n' cap := by
    rcases hown'.2 with ⟨hv, _⟩ | ⟨g, cap, cur, hv, _⟩
    · exact ⟨_, _, _, hv⟩
    · exact ⟨_, _, _, hv⟩
  go_wp2
  go_ret2
  have hsz1 := hk1.size
  have hBF : ∀ k, v.ownBlock = some k → k < w.heap.size → BFr b w k := fun k hk hlw => by
    rcases hown.2 with ⟨rfl, _⟩ | ⟨g, cap, cur, rfl, _, hg, _⟩
    · cases hk
    · have e : g = k := by simpa [Value.ownBlock] using hk
      subst e
      have hgb : g ≠ b := fun e => hne (by rw [e]; rfl)
      exact .inr ⟨cur, (hk1.block g hlw hgb).symm.trans hg⟩
  refine ⟨rfl, ?_, ?_, ?_⟩
  · exact Lib.BuilderAt.put (T := 49) (e := 5) hB hb2 (bs' := bs ++ Lib.strCells s) (by simpa [Lib.strCells_length] using hown') (by decide)
  · exact (hb1.grown hgrow (by have := hb1.size; omega) (fun k hk => (hown.lt k hk).1)).setCell (p := ⟨b, 1, none⟩) hB _
  · exact ((hk1.mono (fun i _ e => .inl e)).grown hgrow (fun k hk hl => hBF k hk hl)).setCell (p := ⟨b, 1, none⟩) (fun _ => .inl rfl) _

end Go.Proofs.YtmjcpapcmbgkjaaDoor

/-
  latchetlaw01: lives; the table that strconv.Itoa reads.
-/
namespace Go.Proofs.YtmjcpapcmbgkjaaDoor
open Go.RowKit

/-- the table of powers of ten lies as its text lays it -/
def Tab (w : World) : Prop := Lib.TabIs Tryd.prog w "internal/strconv.uint64pow10" .u64 Lib.pow10Tab

theorem gPow : Tryd.prog.globalNamed "internal/strconv.uint64pow10" = some 0 := by kernel_rfl

theorem Tab.lt {w : World} (h : Tab w) : 0 < w.heap.size :=
  World.block_lt_of_cell? w _ (Lib.TabIs.cell h gPow 0 (by decide))

theorem Tab.kp {w w' : World} (h : Tab w) (k : Kp (fun _ => False) w w') : Tab w' :=
  var?_below (k.below (Nat.le_refl _) (fun _ _ h => h)) gPow h.lt h

theorem kp_grow (w : World) (k : Nat) (os : Array Obj) : Kp (fun _ => False) w (Sort.grow (w.drewN k) os) := by
  refine ⟨rfl, rfl, rfl, ?_, fun i hi _ => ?_⟩
  · show w.heap.size ≤ (w.heap ++ os).size
    simp
  · show (w.heap ++ os)[i]? = _
    rw [Array.getElem?_append_left hi]

theorem octet_Dec (n : Int) (w : World) (h0 : -9223372036854775808 ≤ n) (h1 : n ≤ 9223372036854775807) (ht : Tab w) :
    Calls Tryd.prog 17 #[.int .i64 n] w fun e w' => e = .returned (.string ⟨(Lib.itoa n).toArray⟩) ∧ Kp (fun _ => False) w w' := by
  have HT := Lib.hid ht; clear ht
  go_enter Tryd.func17, Tryd.ntmps17
  go_wp2_with fail
  refine (Tryd.strconv_Itoa n h0 h1 _ HT.out).mono ?_
  rintro e w' ⟨rfl, k, os, rfl⟩
  go_wp2_with fail
  go_ret
  exact ⟨rfl, kp_grow _ _ _⟩

end Go.Proofs.YtmjcpapcmbgkjaaDoor

/-
  latchetref01.Num and Dec: what they compute.
-/
namespace Go.Proofs.YtmjcpapcmbgkjaaDoor
open Go.RowKit

/-- 'string([]byte{b})' -/
theorem one_string (E : Nat) (hE : E < 256) (u : World) :
    (convert 47 9 (.slice (some ⟨u.heap.size, 0, none⟩) 1 1)).run Tryd.prog (u.alloc (.cells #[.int .u8 (E : Int)] 5)) = .ok (.string ⟨#[UInt8.ofNat E]⟩) (u.alloc (.cells #[.int .u8 (E : Int)] 5)) := by
  have h := run_convert_bytes_back (P := Tryd.prog) (u.alloc (.cells #[.int .u8 (E : Int)] 5)) 47 9 5 ⟨u.heap.size, 0, none⟩ 1 [UInt8.ofNat E] Tryd.underlying47 Tryd.underlying5 Tryd.underlying9 (fun j hj => by
    have hj0 : j = 0 := by simpa using hj
    subst hj0
    rw [add_plain', Nat.zero_add]
    refine (World.cell?_alloc_at _ _ _ _ rfl).trans ?_
    simp [ofNat_toNat hE])
  exact h

theorem cat_bytes (a b : List UInt8) : (⟨a.toArray⟩ : ByteArray) ++ ⟨b.toArray⟩ = ⟨(a ++ b).toArray⟩ := by
  apply ByteArray.ext; simp

set_option maxHeartbeats 1000000 in
theorem ref_Num (n : Nat) (w : World) (hn : n < 4294967296) :
    Calls Tryd.prog 26 #[.int .u32 n] w fun e w' => e = .returned (.string ⟨(numL 5 n).toArray⟩) ∧ Kp (fun _ => False) w w' := by
  go_enter Tryd.func26, Tryd.ntmps26
  go_wp2
  go_loopw [0, 3] (fun v0 v3 wr => ∃ (f m : Nat) (L : List UInt8), v0 = .int .u32 m ∧ m ≤ n ∧ f ≤ 5 ∧ m < 128 ^ f ∧ L.length = 5 - f ∧ L ++ numL f m = numL 5 n ∧ v3 = .string ⟨L.toArray⟩ ∧ Kp (fun _ => False) w wr) (fun v0 _ _ => (intOf v0).toNat)
  case atStart => exact ⟨5, n, [], rfl, Nat.le_refl _, by omega, by omega, rfl, rfl, rfl, Kp.refl _ _⟩
  case round =>
    obtain ⟨f, m, L, rfl, hmn, hf, hm, hL, hN, rfl, hK⟩ := hrel
    have HM := Lib.hid hm; clear hm
    have HL := Lib.hid hL; clear hL
    have HN := Lib.hid hN; clear hN
    by_cases h : 128 ≤ m
    · have hd : decide ((128 : Int) ≤ (m : Int)) = true := by simp; omega
      have hf0 : ∃ f', f = f' + 1 := by
        cases f with
        | zero => have := HM.out; simp at this; omega
        | succ f' => exact ⟨f', rfl⟩
      obtain ⟨f', rfl⟩ := hf0
      obtain ⟨E, hE, hE2⟩ : ∃ E : Nat, (m : Int) % 128 + 128 = (E : Int) ∧ E = m % 128 + 128 := ⟨m % 128 + 128, by omega, rfl⟩
      have hE3 : E < 256 := by omega
      have hcv := one_string E hE3
      have HN2 := Lib.hid (show L ++ [UInt8.ofNat E] ++ numL f' (m / 128) = numL 5 n by
        rw [← HN.out, List.append_assoc, hE2]; congr 1; rw [numL, if_neg (by omega)]; rfl)
      have HM2 := Lib.hid (show m / 128 < 128 ^ f' by have := HM.out; rw [Nat.pow_succ] at this; omega)
      clear hE2
      go_wp2_with fail
      case isTrue hbig => exfalso; have := HL.out; omega
      refine ⟨⟨f', m / 128, L ++ [UInt8.ofNat E], by simp, by omega, by omega, HM2.out, ?_, HN2.out, ?_, hK.alloc _⟩, ?_⟩
      · have := HL.out; simp; omega
      · exact congrArg Value.string (cat_bytes _ _)
      · simp [intOf]; omega
    · have hd : decide ((128 : Int) ≤ (m : Int)) = false := by simp; omega
      have hcv := one_string m (by omega)
      have HN2 := Lib.hid (show L ++ [UInt8.ofNat m] = numL 5 n by
        have h0 : numL f m = [UInt8.ofNat m] := by
          cases f with
          | zero => rfl
          | succ f' => rw [numL, if_pos (by omega)]
        rw [← HN.out, h0])
      go_wp2_with fail
      case isTrue hbig => exfalso; have := HL.out; omega
      go_ret
      exact ⟨congrArg (fun x => Ending.returned (Value.string x)) ((cat_bytes _ _).trans (by rw [HN2.out])), hK.alloc _⟩

end Go.Proofs.YtmjcpapcmbgkjaaDoor
