/-
  How a circuit that came in is opened.
-/
import Derived.Test.YtghlklcolepfmaaGreatDoorRows
import Derived.Test.YtghlklcolepfmaaGreatDoorM1
import Derived.ProofKit
import Derived.OpenShut
import Derived.Deep.Slices
import Derived.Lib.SmallJoins
import Derived.Test.YtghlklcolepfmaaGreatDoorM8
import Derived.Deep.Grids
import Derived.Test.YtghlklcolepfmaaGreatDoorM7
import Derived.Test.YtghlklcolepfmaaGreatDoorM6
import Derived.RangeFuncNested
import Derived.RangeFuncBound
import Derived.RangeFuncCalls
import Derived.RangeFuncLeaves
import Derived.Shelf.Abstract
import Derived.Shelf.RegionOpen
import Derived.OwnWalkIn
import Derived.TacticsInMore
import Derived.LoopNIn
import Derived.LoopIn
import Derived.OrdersHeld
import Derived.Deep.RegionHeld3
import Derived.Sort.CutIn
import Derived.Outline
import Derived.Deep.DeepCutAuto
import Derived.Test.YtghlklcolepfmaaGreatDoorM2
import Derived.Test.YtghlklcolepfmaaGreatDoorM9
import Derived.Test.YtghlklcolepfmaaGreatDoorM5
import Derived.Lib.LaidTab
import Derived.Stop.LaidErr
import Derived.Shelf.Vars
import GoSem.PinnedTables
set_option linter.unusedVariables false
set_option linter.unusedSimpArgs false
namespace Go.Proofs.YtghlklcolepfmaaGreatDoor
open Go.RowKit Go.ChangeShapes Go.WideShapes Go.ChangeAt Go.Joins Go.Deep

section
variable {H : Type} {enc : TypeId × Value → H} {W : World}

theorem circ_ints {fuel : Nat} {v : Value} {x : DataW H × List MemPlace}
  (h : DataW.trod enc Tryz.prog W 0 (fun _ => true) true fuel 22 [v] = some x) : ∃ (a : Option Addr) (c : Nat) (L : List Int), v = .slice a L.length c ∧ SlOK a L.length c ∧ IntsAt W a L := by
 rcases open_ints Tryz.underlying22 Tryz.underlying3 (by kernel_rfl) h with ⟨hcs, _⟩ | ⟨a, len, cap, zs, hcs, _, hl, hm, hz, _, hcell, hwz⟩
 ·simp at hcs
  subst hcs
  exact ⟨none, 0, [], rfl, ⟨Nat.le_refl _, by simp [maxLen], fun _ => rfl⟩, RowAt.nil _ _⟩
 ·simp at hcs
  subst hcs
  simp only [if_true] at hz
  have hlen : (zs.take len).length = len := by rw [List.length_take, hz]; omega
  refine ⟨some a, cap, zs.take len, by rw [hlen], ⟨by rw [hlen]; exact hl, hm, (fun h => by cases h)⟩, ?_⟩
  intro j u hu
  rw [List.getElem?_map, List.getElem?_take] at hu
  split at hu
  ·rename_i hj
   have h0 := hcell 0 (by omega)
   have hs : a.spot = none := by
    have := World.cell?_spot h0
    simpa [Addr.add] using this
   obtain ⟨b, off, spot⟩ := a
   simp only at hs
   subst hs
   refine ⟨b, off, rfl, ?_⟩
   have hc := hcell j (by omega)
   rw [add_plain'] at hc
   rw [hc]
   rw [List.getElem?_eq_getElem (by omega)] at hu
   simp only [Option.map_some] at hu
   rw [← hu]
   simp [List.getD, List.getElem?_eq_getElem (show j < zs.length by omega)]
  ·simp at hu

def row3 (V0 V1 V2 : Nat → Value) (n : Nat) : List (List Value) := (List.range n).map (fun i => [V0 i, V1 i, V2 i])
theorem row3_len (V0 V1 V2 : Nat → Value) (n : Nat) : ∀ r ∈ row3 V0 V1 V2 n, r.length = 3 := fun r h => by
 unfold row3 at h
 obtain ⟨i, -, rfl⟩ := List.mem_map.1 h
 rfl

set_option maxRecDepth 100000 in
theorem circ_rows {t e : TypeId} {f0 f1 f2 : Field} {fuel : Nat} {v : Value} {x : DataW H × List MemPlace} (ht : Tryz.prog.underlying t = some (.slice e)) (he : Tryz.prog.underlying e = some (.struct #[f0, f1, f2]))
  (ce : Tryz.prog.cellsOf e = 3) (o0 : f0.offset = 0) (o1 : f1.offset = 1) (o2 : f2.offset = 2) (c0 : Tryz.prog.cellsOf f0.type = 1) (c1 : Tryz.prog.cellsOf f1.type = 1) (c2 : Tryz.prog.cellsOf f2.type = 1)
  (h : DataW.trod enc Tryz.prog W 0 (fun _ => true) true fuel t [v] = some x) : ∃ (a : Option Addr) (n c : Nat) (V0 V1 V2 : Nat → Value), v = .slice a n c ∧ SlOK a n c ∧ RowAt W a (row3 V0 V1 V2 n).flatten ∧
   ∀ i, i < n → (∃ m y, DataW.trod enc Tryz.prog W 0 (fun _ => true) true m f0.type [V0 i] = some y) ∧ (∃ m y, DataW.trod enc Tryz.prog W 0 (fun _ => true) true m f1.type [V1 i] = some y) ∧ (∃ m y, DataW.trod enc Tryz.prog W 0 (fun _ => true) true m f2.type [V2 i] = some y) := by
 rcases open_slice ht h with ⟨hcs, _⟩ | ⟨a, len, cap, m, n, D, Pl, hcs, _, hl, hm, hmm, _, hx⟩
 ·simp at hcs
  subst hcs
  exact ⟨none, 0, 0, fun _ => .bool false, fun _ => .bool false, fun _ => .bool false, rfl, ⟨Nat.le_refl _, by simp [maxLen], fun _ => rfl⟩, RowAt.nil _ _, fun i hi => by omega⟩
 ·simp at hcs
  subst hcs
  simp only [if_true] at hmm
  subst hmm
  have each : ∀ i, i < len → ∃ q : Value × Value × Value, W.cell? (a.add (i * 3)) = some q.1 ∧ W.cell? (a.add (i * 3 + 1)) = some q.2.1 ∧ W.cell? (a.add (i * 3 + 2)) = some q.2.2 ∧
    (∃ m y, DataW.trod enc Tryz.prog W 0 (fun _ => true) true m f0.type [q.1] = some y) ∧ (∃ m y, DataW.trod enc Tryz.prog W 0 (fun _ => true) true m f1.type [q.2.1] = some y) ∧ (∃ m y, DataW.trod enc Tryz.prog W 0 (fun _ => true) true m f2.type [q.2.2] = some y) := by
   intro i hi
   obtain ⟨cs', h1, h2⟩ := hx i (by omega)
   rw [ce] at h1
   obtain ⟨_, hlen, hcell⟩ := World.cells?_some h1
   obtain ⟨xs, k, _, _, _, hxl, hf⟩ := DataW.trod_struct he h2
   match xs, hxl, cs', hlen with
   |[y0, y1, y2], _, [v0, v1, v2], _ =>
    have g0 := hf 0 f0 rfl
    have g1 := hf 1 f1 rfl
    have g2 := hf 2 f2 rfl
    simp [o0, o1, o2, c0, c1, c2] at g0 g1 g2
    have e0 := hcell 0 (by omega)
    have e1 := hcell 1 (by omega)
    have e2 := hcell 2 (by omega)
    rw [add_add] at e0 e1 e2
    exact ⟨(v0, v1, v2), by simpa using e0, by simpa using e1, by simpa using e2, ⟨_, _, g0⟩, ⟨_, _, g1⟩, ⟨_, _, g2⟩⟩
  obtain ⟨q, hq⟩ := choose_lt each
  refine ⟨some a, len, m, fun i => (q i).1, fun i => (q i).2.1, fun i => (q i).2.2, rfl, ⟨hl, hm, fun h => by cases h⟩, ?_, fun i hi => (hq i hi).2.2.2⟩
  intro j u hu
  have hlen : (row3 (fun i => (q i).1) (fun i => (q i).2.1) (fun i => (q i).2.2) len).flatten.length = len * 3 := by
   rw [flat_length (row3_len _ _ _ _)]; simp [row3]
  have hj : j < len * 3 := by rw [← hlen]; exact (List.getElem?_eq_some_iff.1 hu).1
  have hr : (row3 (fun i => (q i).1) (fun i => (q i).2.1) (fun i => (q i).2.2) len)[j / 3]? = some [(q (j / 3)).1, (q (j / 3)).2.1, (q (j / 3)).2.2] := by
   have : j / 3 < len := by omega
   simp [row3, this]
  obtain ⟨q0, q1, q2, -⟩ := hq (j / 3) (by omega)
  have hs : a.spot = none := by
   have := World.cell?_spot (hq 0 (by omega)).1
   simpa [Addr.add] using this
  obtain ⟨b, off, spot⟩ := a
  simp only at hs
  subst hs
  refine ⟨b, off, rfl, ?_⟩
  rw [add_plain'] at q0 q1 q2
  have hc : j % 3 = 0 ∨ j % 3 = 1 ∨ j % 3 = 2 := by omega
  rcases hc with hp | hp | hp
  ·have h0 := flat_at (row3_len _ _ _ _) hr (i := 0) rfl
   rw [show j / 3 * 3 + 0 = j by omega, hu] at h0
   rw [show off + j = off + j / 3 * 3 by omega, q0]
   exact h0.symm
  ·have h0 := flat_at (row3_len _ _ _ _) hr (i := 1) rfl
   rw [show j / 3 * 3 + 1 = j by omega, hu] at h0
   rw [show off + j = off + (j / 3 * 3 + 1) by omega, q1]
   exact h0.symm
  ·have h0 := flat_at (row3_len _ _ _ _) hr (i := 2) rfl
   rw [show j / 3 * 3 + 2 = j by omega, hu] at h0
   rw [show off + j = off + (j / 3 * 3 + 2) by omega, q2]
   exact h0.symm

theorem trod_i64 {m : Nat} {u : Value} {y : DataW H × List MemPlace} (h : DataW.trod enc Tryz.prog W 0 (fun _ => true) true m 3 [u] = some y) : ∃ z : Int, u = .int .i64 z := by
 obtain ⟨z, e, _, _⟩ := DataW.trod_int Tryz.underlying3 h
 simp at e
 exact ⟨z, e⟩

theorem circ_tris {V0 V1 V2 : Nat → Value} {n : Nat} (h0 : ∀ i, i < n → ∃ z : Int, V0 i = .int .i64 z) (h1 : ∀ i, i < n → ∃ z : Int, V1 i = .int .i64 z) (h2 : ∀ i, i < n → ∃ z : Int, V2 i = .int .i64 z) :
  ∃ L : List (Int × Int × Int), L.length = n ∧ row3 V0 V1 V2 n = L.map tri := by
 obtain ⟨z0, e0⟩ := choose_lt h0
 obtain ⟨z1, e1⟩ := choose_lt h1
 obtain ⟨z2, e2⟩ := choose_lt h2
 refine ⟨(List.range n).map (fun i => (z0 i, z1 i, z2 i)), by simp, ?_⟩
 unfold row3
 rw [List.map_map]
 refine List.map_congr_left fun i hi => ?_
 have hi := List.mem_range.1 hi
 simp only [Function.comp_apply, e0 i hi, e1 i hi, e2 i hi]
 rfl

end

theorem circ_cells : Tryz.prog.cellsOf 27 = 9 := by kernel_rfl
theorem circ_c0 : Tryz.prog.cellsOf 3 = 1 := by kernel_rfl
theorem circ_c1 : Tryz.prog.cellsOf 22 = 1 := by kernel_rfl
theorem circ_c2 : Tryz.prog.cellsOf 23 = 1 := by kernel_rfl
theorem circ_c3 : Tryz.prog.cellsOf 24 = 1 := by kernel_rfl
theorem circ_c4 : Tryz.prog.cellsOf 25 = 1 := by kernel_rfl
theorem circ_c5 : Tryz.prog.cellsOf 9 = 1 := by kernel_rfl

def CircArgS (W : World) (v : Value) : Prop := ∃ (V : CV) (C : Circ), v = .agg (cvals V C) ∧ CAt W V C ∧ V.cm.size ≤ maxLen ∧ (-9223372036854775808 ≤ C.max ∧ C.max ≤ 9223372036854775807) ∧
  ∃ rows : List (List Value), RowAt W V.ay rows.flatten ∧ rows.length = V.ny ∧ ∀ (k : Nat) (r : List Value), rows[k]? = some r → ∃ (a b : Int) (s : ByteArray), r = [.int .u8 a, .int .i64 b, .string s]

set_option maxRecDepth 100000 in
theorem open_circArgS {H : Type} {enc : TypeId × Value → H} {W : World} {base : Nat} {v : Value} {d : DataW H} {ps : List MemPlace}
  (hv : Value.okWide Tryz.prog W .any base 27 v) (h : DataW.Trod enc Tryz.prog W 0 (fun _ => true) true 27 v d ps) : CircArgS W v := by
 obtain ⟨cs, rfl, hsz⟩ := okWide_struct Tryz.underlying27 hv
 obtain ⟨l⟩ := cs
 match l, hsz.trans circ_cells with
 |[k0, k1, k2, k3, k4, k5, k6, k7, k8], _ =>
  obtain ⟨fuel, hf⟩ := h
  obtain ⟨xs, n, _, _, _, hlen, hg⟩ := DataW.trod_struct Tryz.underlying27 hf
  have g0 : DataW.trod enc Tryz.prog W 0 (fun _ => true) true n 3 [k0] = xs[0]? := by simpa [Value.cells, circ_c0, circ_c1, circ_c2, circ_c3, circ_c4, circ_c5] using hg 0 _ rfl
  have g1 : DataW.trod enc Tryz.prog W 0 (fun _ => true) true n 22 [k1] = xs[1]? := by simpa [Value.cells, circ_c0, circ_c1, circ_c2, circ_c3, circ_c4, circ_c5] using hg 1 _ rfl
  have g2 : DataW.trod enc Tryz.prog W 0 (fun _ => true) true n 23 [k2] = xs[2]? := by simpa [Value.cells, circ_c0, circ_c1, circ_c2, circ_c3, circ_c4, circ_c5] using hg 2 _ rfl
  have g3 : DataW.trod enc Tryz.prog W 0 (fun _ => true) true n 22 [k3] = xs[3]? := by simpa [Value.cells, circ_c0, circ_c1, circ_c2, circ_c3, circ_c4, circ_c5] using hg 3 _ rfl
  have g4 : DataW.trod enc Tryz.prog W 0 (fun _ => true) true n 22 [k4] = xs[4]? := by simpa [Value.cells, circ_c0, circ_c1, circ_c2, circ_c3, circ_c4, circ_c5] using hg 4 _ rfl
  have g5 : DataW.trod enc Tryz.prog W 0 (fun _ => true) true n 22 [k5] = xs[5]? := by simpa [Value.cells, circ_c0, circ_c1, circ_c2, circ_c3, circ_c4, circ_c5] using hg 5 _ rfl
  have g6 : DataW.trod enc Tryz.prog W 0 (fun _ => true) true n 24 [k6] = xs[6]? := by simpa [Value.cells, circ_c0, circ_c1, circ_c2, circ_c3, circ_c4, circ_c5] using hg 6 _ rfl
  have g7 : DataW.trod enc Tryz.prog W 0 (fun _ => true) true n 25 [k7] = xs[7]? := by simpa [Value.cells, circ_c0, circ_c1, circ_c2, circ_c3, circ_c4, circ_c5] using hg 7 _ rfl
  have g8 : DataW.trod enc Tryz.prog W 0 (fun _ => true) true n 9 [k8] = xs[8]? := by simpa [Value.cells, circ_c0, circ_c1, circ_c2, circ_c3, circ_c4, circ_c5] using hg 8 _ rfl
  match xs, hlen with
  |[y0, y1, y2, y3, y4, y5, y6, y7, y8], _ =>
   obtain ⟨mx, hmx, -, hmr⟩ := DataW.trod_int Tryz.underlying3 g0
   simp at hmx
   subst hmx
   obtain ⟨a1, c1, L1, rfl, s1, r1⟩ := circ_ints g1
   obtain ⟨a2, n2, c2, P0, P1, P2, rfl, s2, r2, t2⟩ := circ_rows Tryz.underlying23 Tryz.underlying50 (by kernel_rfl) rfl rfl rfl circ_c0 circ_c0 circ_c0 g2
   obtain ⟨a3, c3, L3, rfl, s3, r3⟩ := circ_ints g3
   obtain ⟨a4, c4, L4, rfl, s4, r4⟩ := circ_ints g4
   obtain ⟨a5, c5, L5, rfl, s5, r5⟩ := circ_ints g5
   obtain ⟨a6, n6, c6, Q0, Q1, Q2, rfl, s6, r6, t6⟩ := circ_rows Tryz.underlying24 Tryz.underlying120 (by kernel_rfl) rfl rfl rfl circ_c0 circ_c0 circ_c0 g6
   obtain ⟨a7, n7, c7, R0, R1, R2, rfl, s7, r7, t7⟩ := circ_rows Tryz.underlying25 Tryz.underlying72 (by kernel_rfl) rfl rfl rfl (by kernel_rfl) circ_c0 circ_c5 g7
   obtain ⟨sm, e8, _, w8⟩ := DataW.trod_string Tryz.underlying9 g8
   simp only [List.cons.injEq, and_true] at e8
   subst e8
   obtain ⟨L2, l2, m2⟩ := circ_tris (fun i hi => by obtain ⟨m, y, h⟩ := (t2 i hi).1; exact trod_i64 h) (fun i hi => by obtain ⟨m, y, h⟩ := (t2 i hi).2.1; exact trod_i64 h) (fun i hi => by obtain ⟨m, y, h⟩ := (t2 i hi).2.2; exact trod_i64 h)
   obtain ⟨L6, l6, m6⟩ := circ_tris (fun i hi => by obtain ⟨m, y, h⟩ := (t6 i hi).1; exact trod_i64 h) (fun i hi => by obtain ⟨m, y, h⟩ := (t6 i hi).2.1; exact trod_i64 h) (fun i hi => by obtain ⟨m, y, h⟩ := (t6 i hi).2.2; exact trod_i64 h)
   rw [m2] at r2
   rw [m6] at r6
   subst l2 l6
   refine ⟨⟨a1, c1, a2, c2, a3, c3, a4, c4, a5, c5, a6, c6, a7, n7, c7, sm⟩, ⟨mx, L1, L2, L3, L4, L5, L6⟩, rfl, ⟨r1, r2, r3, r4, r5, r6, ⟨_, r7, by simp [row3], row3_len _ _ _ _, fun r hr u hu => ?_⟩, s1, s2, s3, s4, s5, s6, s7⟩, w8, by simp [Lit.wf, IntKind.min, IntKind.max, IntKind.signed, IntKind.bits] at hmr; simp only; omega, ⟨_, r7, by simp [row3], fun k r hk => ?_⟩⟩
   rotate_left
   ·unfold row3 at hk
    obtain ⟨i, hi, rfl⟩ := List.mem_map.1 (List.mem_of_getElem? hk)
    have hi := List.mem_range.1 hi
    obtain ⟨⟨m0, y0, q0⟩, ⟨m1, y1, q1⟩, ⟨m2, y2, q2⟩⟩ := t7 i hi
    obtain ⟨z0, e0, _, _⟩ := DataW.trod_int Tryz.underlying5 q0
    obtain ⟨z1, e1⟩ := trod_i64 q1
    obtain ⟨z2, e2, _, _⟩ := DataW.trod_string Tryz.underlying9 q2
    simp at e0 e2
    exact ⟨z0, z1, z2, by rw [e0, e1, e2]⟩
   unfold row3 at hr
   obtain ⟨i, hi, rfl⟩ := List.mem_map.1 hr
   have hi := List.mem_range.1 hi
   obtain ⟨⟨m0, y0, q0⟩, ⟨m1, y1, q1⟩, ⟨m2, y2, q2⟩⟩ := t7 i hi
   obtain ⟨z0, e0, _, _⟩ := DataW.trod_int Tryz.underlying5 q0
   obtain ⟨z1, e1⟩ := trod_i64 q1
   obtain ⟨z2, e2, _, _⟩ := DataW.trod_string Tryz.underlying9 q2
   simp at e0 e2
   simp only [List.mem_cons, List.not_mem_nil, or_false] at hu
   rcases hu with rfl | rfl | rfl
   ·rw [e0]; rfl
   ·rw [e1]; rfl
   ·rw [e2]; rfl

end Go.Proofs.YtghlklcolepfmaaGreatDoor

/-
  How a witness that came in is opened.
-/
namespace Go.Proofs.YtghlklcolepfmaaGreatDoor
open Go.RowKit Go.ChangeShapes Go.WideShapes Go.ChangeAt Go.Joins Go.Deep

theorem spot_none {W : World} {a : Addr} {u : Value} (h : W.cell? a = some u) : ∃ b off, a = ⟨b, off, none⟩ := by
 have hs : a.spot = none := World.cell?_spot h
 obtain ⟨b, off, spot⟩ := a
 simp only at hs
 subst hs
 exact ⟨b, off, rfl⟩

theorem rowAt_fn {W : World} {a : Addr} {n m : Nat} {B : Nat → Bool} (hn : n ≤ m) (hc : ∀ c, c < m → W.cell? (a.add c) = some (.bool (B c))) : RowAt W (some a) (((List.range n).map B).map Value.bool) := by
 intro j u hu
 rw [List.getElem?_map, List.getElem?_map] at hu
 have hj : j < n := by
  rcases Nat.lt_or_ge j n with h | h
  ·exact h
  ·rw [List.getElem?_eq_none (by simpa using h)] at hu; cases hu
 rw [List.getElem?_range hj] at hu
 simp only [Option.map_some, Option.some.injEq] at hu
 have h0 := hc 0 (by omega)
 obtain ⟨b, off, e⟩ := spot_none h0
 have e' : a = ⟨b, off, none⟩ := by simpa [Addr.add] using e
 subst e'
 refine ⟨b, off, rfl, ?_⟩
 have hj' := hc j (by omega)
 rw [add_plain'] at hj'
 rw [hj', hu]

set_option maxRecDepth 100000 in
theorem bools_in {H : Type} {enc : TypeId × Value → H} {W : World} {fuel : Nat} {v : Value} {x : DataW H × List MemPlace}
  (h : DataW.trod enc Tryz.prog W 0 (fun _ => true) true fuel 28 [v] = some x) : ∃ l : List Bool, BoolsSl W v l := by
 rcases open_bools Tryz.underlying28 Tryz.underlying4 (by kernel_rfl) h with ⟨hcs, _⟩ | ⟨a, len, cap, B, hcs, _, hl, hm, _, hcell⟩
 ·simp at hcs
  subst hcs
  exact ⟨[], none, 0, rfl, Nat.le_refl _, by simp [maxLen], fun _ => rfl, RowAt.nil _ _⟩
 ·simp at hcs
  subst hcs
  exact ⟨(List.range len).map B, some a, cap, by simp, by simpa using hl, hm, (fun h => by cases h), rowAt_fn hl hcell⟩

set_option maxRecDepth 100000 in
theorem grid_in {H : Type} {enc : TypeId × Value → H} {W : World} {fuel : Nat} {v : Value} {x : DataW H × List MemPlace}
  (h : DataW.trod enc Tryz.prog W 0 (fun _ => true) true fuel 29 [v] = some x) : ∃ L : List (List Bool), GridSl W v L := by
 rcases open_bool_rows Tryz.underlying29 Tryz.underlying28 Tryz.underlying4 (by kernel_rfl) (by kernel_rfl) h with ⟨hcs, _⟩ | ⟨a, len, cap, A, L, C, B, hcs, _, hl, hm, _, hx⟩
 ·simp at hcs
  subst hcs
  exact ⟨[], none, 0, rfl, Nat.le_refl _, by simp [maxLen], fun _ => rfl, [], RowAt.nil _ _, rfl, fun k r x hr => by simp at hr⟩
 ·simp at hcs
  subst hcs
  refine ⟨(List.range len).map (fun r => (List.range (L r)).map (B r)), some a, cap, by simp, by simpa using hl, hm, (fun h => by cases h), (List.range len).map (fun r => .slice (A r) (L r) (C r)), ?_, by simp, ?_⟩
  ·intro j u hu
   rw [List.getElem?_map] at hu
   have hj : j < len := by
    rcases Nat.lt_or_ge j len with h | h
    ·exact h
    ·rw [List.getElem?_eq_none (by simpa using h)] at hu; cases hu
   rw [List.getElem?_range hj] at hu
   simp only [Option.map_some, Option.some.injEq] at hu
   have h0 := (hx 0 (by omega)).1
   obtain ⟨b, off, e⟩ := spot_none h0
   have e' : a = ⟨b, off, none⟩ := by simpa [Addr.add] using e
   subst e'
   refine ⟨b, off, rfl, ?_⟩
   have hj' := (hx j (by omega)).1
   rw [add_plain'] at hj'
   rw [hj', hu]
  ·intro k r x hr hx2
   rw [List.getElem?_map] at hr hx2
   have hk : k < len := by
    rcases Nat.lt_or_ge k len with h | h
    ·exact h
    ·rw [List.getElem?_eq_none (by simpa using h)] at hr; cases hr
   rw [List.getElem?_range hk] at hr hx2
   simp only [Option.map_some, Option.some.injEq] at hr hx2
   subst hr hx2
   obtain ⟨_, q1, q2, q3, q4⟩ := hx k (by omega)
   refine ⟨A k, C k, by simp, by simpa using q1, q2, q3, ?_⟩
   cases hA : A k with
   |none =>
    have : L k = 0 := by have := q3 hA; omega
    rw [this]
    exact RowAt.nil _ _
   |some a' => exact rowAt_fn q1 (q4 a' hA).2

theorem run_cells : Tryz.prog.cellsOf 31 = 2 := by kernel_rfl
theorem bools_cells : Tryz.prog.cellsOf 28 = 1 := by kernel_rfl
theorem grid_cells : Tryz.prog.cellsOf 29 = 1 := by kernel_rfl

end Go.Proofs.YtghlklcolepfmaaGreatDoor

/-
  A witness as text: what is read. No program in sight.
-/
namespace Go.Proofs.YtghlklcolepfmaaGreatDoor
open Go.RowKit

structure WitD where
  kind : Nat
  prop : Nat
  start : List Bool
  ins : List (List Bool)

inductive WitO where
  | bad (at_ e : Nat)
  | ok (w : WitD)

def wit0 : WitD := ⟨0, 0, [], []⟩

def WitO.w : WitO → WitD
  | .bad _ _ => wit0
  | .ok w => w
def WitO.at_ (s : ByteArray) : WitO → Nat
  | .bad p _ => p
  | .ok _ => s.size
def WitO.e : WitO → Nat
  | .bad _ e => e
  | .ok _ => 0

end Go.Proofs.YtghlklcolepfmaaGreatDoor

/-
  latchetlaw28.lives.
-/
namespace Go.Proofs.YtghlklcolepfmaaGreatDoor
open Go.RowKit

end Go.Proofs.YtghlklcolepfmaaGreatDoor

/-
  wit.lines: the lines of a text, one behind the other, up to the first that is none: the contract of a function that is ranged over.
-/
namespace Go.Proofs.YtghlklcolepfmaaGreatDoor
open Go.RowKit Go.Shelf

attribute [local go_sem] Oper.semAt_some

def KeepB (B : Nat) (W W' : World) : Prop := W.heap.size ≤ W'.heap.size ∧ (B < W.heap.size → W'.heap[B]? = W.heap[B]?)

theorem KeepB.trans {B : Nat} {a b c : World} (h : KeepB B a b) (k : KeepB B b c) : KeepB B a c :=
 ⟨Nat.le_trans h.1 k.1, fun hl => (k.2 (Nat.lt_of_lt_of_le hl h.1)).trans (h.2 hl)⟩

theorem KeepB.refl (B : Nat) (w : World) : KeepB B w w := ⟨Nat.le_refl _, fun _ => rfl⟩

theorem KeepB.cell {B : Nat} {W W' : World} (h : KeepB B W W') {v : Value} (hc : W.cell? ⟨B, 0, none⟩ = some v) : W'.cell? ⟨B, 0, none⟩ = some v :=
 (World.cell?_of_block (w := W) (w' := W') (a := ⟨B, 0, none⟩) (h.2 (World.block_lt_of_cell? W _ hc))).trans hc

end Go.Proofs.YtghlklcolepfmaaGreatDoor

/-
  wit.prop, wit.row, and strings.Index of "012".
-/
namespace Go.Proofs.YtghlklcolepfmaaGreatDoor
open Go.RowKit

end Go.Proofs.YtghlklcolepfmaaGreatDoor

/-
  The lines of a witness, one behind the other: what has come of them so far, or how it ends. No program in sight.
-/
namespace Go.Proofs.YtghlklcolepfmaaGreatDoor
open Go.RowKit

end Go.Proofs.YtghlklcolepfmaaGreatDoor

/-
  What wit.Read's cells hold between two rounds, and behind the last one.
-/
namespace Go.Proofs.YtghlklcolepfmaaGreatDoor
open Go.RowKit Go.Shelf

def WitSl (W : World) (v : Value) (d : WitD) : Prop := ∃ v2 v3, v = .agg #[.int .i64 d.kind, .int .i64 d.prop, v2, v3] ∧ BoolsSl W v2 d.start ∧ GridSl W v3 d.ins

theorem own_cells {w : World} {base : Nat} {e : TypeId} {v : Value} {cs : List Value} (h : Own w base e v cs) {j : Nat} (hj : v.ownBlock = some j) : ∃ o, w.heap[j]? = some o ∧ o.isCells = true := by
 rcases h.2 with ⟨rfl, hn⟩ | ⟨g, cap, cur, rfl, hb, hgg, rest⟩
 ·cases hj
 ·cases hj
  exact ⟨_, hgg, rfl⟩

def NoCells (n : Nat) (W : World) (S : Nat → Prop) : Prop := ∀ j, S j → n ≤ j ∧ ∀ o, W.heap[j]? = some o → o.isCells = false

theorem NoCells.none (n : Nat) (W : World) : NoCells n W (fun _ => False) := fun _ h => h.elim

theorem NoCells.blk {n : Nat} {W : World} {S : Nat → Prop} (h : NoCells n W S) {b : Nat} {c : Array Value} {t : TypeId} (hb : Blk W b c t) : ¬ S b := fun hs => by
 have := (h b hs).2 _ hb
 cases this

theorem NoCells.own {n : Nat} {W : World} {S : Nat → Prop} (h : NoCells n W S) {base : Nat} {e : TypeId} {v : Value} {cs : List Value} (ho : Own W base e v cs) : ∀ j, v.ownBlock = some j → ¬ S j := fun j hj hs => by
 obtain ⟨o, h1, h2⟩ := own_cells ho hj
 rw [(h j hs).2 _ h1] at h2
 cases h2

structure OwnRows (W : World) (n : Nat) (v : Value) (rows : List Value) (ins : List (List Bool)) : Prop where
  own : Own W n 28 v rows
  len : rows.length = ins.length
  row : ∀ (j : Nat) (r : Value) (x : List Bool), rows[j]? = some r → ins[j]? = some x → Own W n 4 r (x.map Value.bool)

theorem OwnRows.kp {W W' : World} {n m : Nat} {v : Value} {rows : List Value} {ins : List (List Bool)} (h : OwnRows W n v rows ins) {S : Nat → Prop} (k : Kp S W W') (hS : NoCells m W S) : OwnRows W' n v rows ins :=
 ⟨h.own.kp k (hS.own h.own), h.len, fun j r x h1 h2 => (h.row j r x h1 h2).kp k (hS.own (h.row j r x h1 h2))⟩

structure St0 (w : World) (s : ByteArray) (la inp : Int) (W : World) (k : Nat) : Prop where
  b0 : Blk W w.heap.size #[.string s] 9
  b1 : Blk W (w.heap.size + 1) #[.int .i64 la] 3
  b2 : Blk W (w.heap.size + 2) #[.int .i64 inp] 3
  b3 : Blk W (w.heap.size + 3) #[.int .i64 0, .int .i64 0, .slice none 0 0, .slice none 0 0] 46
  b4 : Blk W (w.heap.size + 4) #[.int .i64 0] 3
  b5 : Blk W (w.heap.size + 5) #[.int .i64 0] 41
  b6 : Blk W (w.heap.size + 6) #[.int .i64 0, .int .i64 0, .slice none 0 0, .slice none 0 0] 46
  b8 : Blk W (w.heap.size + 8) #[.int .i64 k] 3
  b9 : Blk W (w.heap.size + 9) #[.string s] 9
  kp : Kp (fun j => w.heap.size ≤ j) w W

theorem St0.far {w : World} {s : ByteArray} {la inp : Int} {W W' : World} {k : Nat} (h : St0 w s la inp W k) {S : Nat → Prop} (q : Kp S W W') (hS : ∀ j, S j → j = w.heap.size + 7 ∨ w.heap.size + 10 ≤ j) : St0 w s la inp W' k := by
 have hn : ∀ i, i < 10 → i ≠ 7 → ¬ S (w.heap.size + i) := fun i h1 h2 hs => by have := hS _ hs; omega
 exact ⟨h.b0.kp q (hn 0 (by omega) (by omega)), h.b1.kp q (hn 1 (by omega) (by omega)), h.b2.kp q (hn 2 (by omega) (by omega)), h.b3.kp q (hn 3 (by omega) (by omega)), h.b4.kp q (hn 4 (by omega) (by omega)), h.b5.kp q (hn 5 (by omega) (by omega)), h.b6.kp q (hn 6 (by omega) (by omega)),
  h.b8.kp q (hn 8 (by omega) (by omega)), h.b9.kp q (hn 9 (by omega) (by omega)), h.kp.trans q (fun i _ hs => by have := hS i hs; omega)⟩

theorem St0.set7 {w : World} {s : ByteArray} {la inp : Int} {W : World} {k : Nat} (h : St0 w s la inp W k) (i : Nat) (v : Value) : St0 w s la inp (W.setCell ⟨w.heap.size + 7, i, none⟩ v) k :=
 h.far (Kp.set W ⟨w.heap.size + 7, i, none⟩ v) (fun _ e => .inl e)

structure St (w : World) (s : ByteArray) (la inp : Int) (W : World) (d : WitD) (k : Nat) (v2 v3 : Value) (rows : List Value) : Prop where
  st : St0 w s la inp W k
  b7 : Blk W (w.heap.size + 7) #[.int .i64 d.kind, .int .i64 d.prop, v2, v3] 46
  o2 : Own W (w.heap.size + 10) 4 v2 (d.start.map Value.bool)
  o3 : OwnRows W (w.heap.size + 10) v3 rows d.ins

structure Rd (n : Nat) (W W' : World) : Prop where
  kf : KeepsFrom (n + 10) W W'
  kb : KeepB (n + 9) W W'

theorem Rd.refl (n : Nat) (W : World) : Rd n W W := ⟨KeepsFrom.refl _ _, KeepB.refl _ _⟩

theorem Rd.kp {n : Nat} {W A B : World} (h : Rd n W A) (k : Kp (fun _ => False) A B) : Rd n W B :=
 ⟨h.kf.trans ⟨k.size, fun j _o _ hj _ => (k.block j (Array.getElem?_eq_some_iff.1 hj).1 (fun h => h)).trans hj⟩, h.kb.trans ⟨k.size, fun hl => k.block _ hl (fun h => h)⟩⟩

theorem Rd.set {n : Nat} {W A : World} (h : Rd n W A) {b : Nat} (i : Nat) (hb : b < n + 9) (v : Value) : Rd n W (A.setCell ⟨b, i, none⟩ v) := by
 have q := Kp.set A ⟨b, i, none⟩ v
 exact ⟨h.kf.trans ((KeepsOthers.setCell A _ v).from _), h.kb.trans ⟨q.size, fun hl => q.block _ hl (by simp only; omega)⟩⟩

theorem Rd.alloc {n : Nat} {W A : World} (h : Rd n W A) (o : Obj) : Rd n W (A.alloc o) := h.kp ((Kp.refl (fun _ => False) A).alloc o)

theorem Rd.drew {n : Nat} {W A : World} (h : Rd n W A) : Rd n W A.drew := h.kp (Kp.refl (fun _ => False) A).drew

theorem Rd.grown {n : Nat} {W A B : World} (h : Rd n W A) {v : Value} {e : TypeId} {cs : List Value} (ho : Own A (n + 10) e v cs) (hg : A.grownBy B v.ownBlock) : Rd n W B := by
 have q := (Kp.refl (fun j => v.ownBlock = some j) A).grown hg (fun _ e _ => e)
 refine ⟨h.kf.trans ((KeepsOthers.of_grownBy hg (fun j o e ho' => ?_)).from _), h.kb.trans ⟨q.size, fun hl => q.block _ hl (fun e => ?_)⟩⟩
 ·obtain ⟨o', h1, h2⟩ := own_cells ho e
  rw [h1] at ho'
  rw [← Option.some.inj ho']; exact h2
 ·have := (ho.lt _ e).1; omega

structure Res (w : World) (s : ByteArray) (W : World) (o : WitO) (v2 v3 : Value) (rows : List Value) : Prop where
  b3 : Blk W (w.heap.size + 3) #[.int .i64 o.w.kind, .int .i64 o.w.prop, v2, v3] 46
  b4 : Blk W (w.heap.size + 4) #[.int .i64 (o.at_ s)] 3
  b5 : Blk W (w.heap.size + 5) #[.int .i64 o.e] 41
  o2 : Own W (w.heap.size + 10) 4 v2 (o.w.start.map Value.bool)
  o3 : OwnRows W (w.heap.size + 10) v3 rows o.w.ins
  kp : Kp (fun j => w.heap.size ≤ j) w W

end Go.Proofs.YtghlklcolepfmaaGreatDoor

/-
  wit.Read: how a round ends the loop; what stands between the two switches.
-/
namespace Go.Proofs.YtghlklcolepfmaaGreatDoor
open Go.RowKit Go.Shelf

theorem ML.own {w W : World} (h : ML w) (q : Kp (fun j => w.heap.size ≤ j) w W) : ML W := by
 obtain ⟨m, hm⟩ := h
 have hlt := World.block_lt_of_cell? w _ hm
 exact ⟨m, (World.cell?_of_block (w := w) (w' := W) (a := ⟨0, 0, none⟩) (q.block _ hlt (fun hs => absurd hlt (Nat.not_lt.2 hs)))).trans hm⟩

theorem St.kind {w : World} {s : ByteArray} {la inp : Int} {W : World} {d : WitD} {k : Nat} {v2 v3 : Value} {rows : List Value} (h : St w s la inp W d k v2 v3 rows) (m : Nat) :
  St w s la inp (W.setCell ⟨w.heap.size + 7, 0, none⟩ (.int .i64 m)) { d with kind := m } k v2 v3 rows := by
 have q := Kp.set W ⟨w.heap.size + 7, 0, none⟩ (.int .i64 m)
 refine ⟨h.st.set7 0 _, h.b7.set_same 0 _, h.o2.kp q (fun j hj e => ?_), ⟨h.o3.own.kp q (fun j hj e => ?_), h.o3.len, fun j r x h1 h2 => (h.o3.row j r x h1 h2).kp q (fun i hi e => ?_)⟩⟩
 ·have := (h.o2.lt j hj).1; simp only at e; omega
 ·have := (h.o3.own.lt j hj).1; simp only at e; omega
 ·have := ((h.o3.row j r x h1 h2).lt i hi).1; simp only at e; omega

structure Grew (w : World) (W : World) (d : WitD) (l : List Bool) (v2 v3' : Value) (rows' : List Value) : Prop where
  o2 : Own W (w.heap.size + 10) 4 v2 (d.start.map Value.bool)
  o3 : OwnRows W (w.heap.size + 10) v3' rows' (d.ins ++ [l])

theorem own_nil_cap {w : World} {base : Nat} {e : TypeId} {a : Option Addr} {n c : Nat} {cs : List Value} (h : Own w base e (.slice a n c) cs) : a = none → c = 0 := by
 rintro rfl
 rcases h.2 with ⟨h1, hn⟩ | ⟨g, cap, cur, h1, hb, hgg, rest⟩
 ·cases h1; rfl
 ·cases h1

theorem own_boolsSl {w : World} {base : Nat} {v : Value} {l : List Bool} (h : Own w base 4 v (l.map Value.bool)) : BoolsSl w v l := by
 obtain ⟨a, cap, rfl, h1, h2, h3, h4⟩ := h.form
 have := own_nil_cap h
 rw [List.length_map] at *
 exact ⟨a, cap, rfl, h1, h2, this, h4⟩

theorem Kp.below0 {w w' : World} (h : Kp (fun j => w.heap.size ≤ j) w w') : Kp (fun _ => False) w w' :=
 h.mono (fun i hi hs => absurd hi (Nat.not_lt.2 hs))

def WReadQ (w : World) (s : ByteArray) (o : WitO) (e : Ending) (w' : World) : Prop :=
  (∃ v2 v3 rows, e = .returned (.tuple #[.agg #[.int .i64 o.w.kind, .int .i64 o.w.prop, v2, v3], .int .i64 (o.at_ s), .int .i64 o.e]) ∧ Own w' w.heap.size 4 v2 (o.w.start.map Value.bool) ∧ OwnRows w' w.heap.size v3 rows o.w.ins) ∧ Kp (fun _ => False) w w'

theorem OwnRows.mono {W : World} {n m : Nat} {v : Value} {rows : List Value} {ins : List (List Bool)} (h : OwnRows W n v rows ins) (hm : m ≤ n) : OwnRows W m v rows ins :=
 ⟨h.own.mono hm, h.len, fun j r x h1 h2 => (h.row j r x h1 h2).mono hm⟩

theorem own_gridSl {W : World} {n : Nat} {v : Value} {rows : List Value} {ins : List (List Bool)} (h : OwnRows W n v rows ins) : GridSl W v ins := by
 obtain ⟨a, cap, rfl, h1, h2, h3, h4⟩ := h.own.form
 exact ⟨a, cap, by rw [h.len], by rw [← h.len]; exact h1, h2, own_nil_cap h.own, rows, h4, h.len, fun j r x hr hx => own_boolsSl (h.row j r x hr hx)⟩

theorem Res.post {w : World} {s : ByteArray} {W : World} {o : WitO} {v2 v3 : Value} {rows : List Value} (h : Res w s W o v2 v3 rows) :
  WReadQ w s o (.returned (.tuple #[.agg #[.int .i64 o.w.kind, .int .i64 o.w.prop, v2, v3], .int .i64 (o.at_ s), .int .i64 o.e])) W :=
 ⟨⟨v2, v3, rows, rfl, h.o2.mono (by omega), h.o3.mono (by omega)⟩, h.kp.below0⟩

theorem own_type {w : World} {base : Nat} {e : TypeId} {v : Value} {cs : List Value} (h : Own w base e v cs) {j : Nat} (hj : v.ownBlock = some j) : ∃ c, w.heap[j]? = some (.cells c e (0, 0)) := by
 rcases h.2 with ⟨rfl, hn⟩ | ⟨g, cap, cur, rfl, hb, hgg, rest⟩
 ·cases hj
 ·cases hj; exact ⟨_, hgg⟩

theorem own_ne_own {w : World} {b1 b2 : Nat} {e1 e2 : TypeId} {v1 v2 : Value} {c1 c2 : List Value} (h1 : Own w b1 e1 v1 c1) (h2 : Own w b2 e2 v2 c2) (he : e1 ≠ e2) : ∀ j, v1.ownBlock = some j → ¬ v2.ownBlock = some j := by
 intro j x y
 obtain ⟨_, p⟩ := own_type h1 x
 obtain ⟨_, q⟩ := own_type h2 y
 rw [p] at q
 cases q
 exact he rfl

theorem St.append {w : World} {s : ByteArray} {la inp : Int} {W W2 : World} {d : WitD} {k : Nat} {v2 v3 r v' : Value} {rows : List Value} {l : List Bool} (h : St w s la inp W d k v2 v3 rows) (ho : Own W (w.heap.size + 10) 4 r (l.map Value.bool))
  (hg : W.grownBy W2 v3.ownBlock) (ho3 : Own W2 (w.heap.size + 10) 28 v' (rows ++ [r])) :
  St0 w s la inp W2 k ∧ Blk W2 (w.heap.size + 7) #[.int .i64 d.kind, .int .i64 d.prop, v2, v3] 46 ∧ Grew w W2 d l v2 v' (rows ++ [r]) := by
 have q := (Kp.refl (fun j => v3.ownBlock = some j) W).grown hg (fun _ e _ => e)
 refine ⟨h.st.far q (fun j e => .inr (h.o3.own.lt j e).1), h.b7.kp q (fun e => by have := (h.o3.own.lt _ e).1; omega), h.o2.kp q (own_ne_own h.o2 h.o3.own (by decide)), ho3, by simp [h.o3.len], ?_⟩
 intro j r' x h1 h2
 by_cases hj : j < rows.length
 ·rw [List.getElem?_append_left hj] at h1
  rw [List.getElem?_append_left (by rw [← h.o3.len]; exact hj)] at h2
  have := h.o3.row j r' x h1 h2
  exact this.kp q (own_ne_own this h.o3.own (by decide))
 ·have hj2 : j = rows.length := by
   have := (List.getElem?_eq_some_iff.1 h1).1
   simp at this; omega
  subst hj2
  rw [List.getElem?_append_right (Nat.le_refl _)] at h1
  rw [h.o3.len, List.getElem?_append_right (Nat.le_refl _)] at h2
  simp at h1 h2
  subst h1 h2
  exact ho.kp q (own_ne_own ho h.o3.own (by decide))

end Go.Proofs.YtghlklcolepfmaaGreatDoor

/-
  A region inside a round of a range over a function goes as it goes elsewhere: the laws of a plain region's walk serve in a round's frame. No program in sight.
-/
namespace Go.Proofs.YtghlklcolepfmaaGreatDoor
open Go

end Go.Proofs.YtghlklcolepfmaaGreatDoor

/-
  wit.Read: a range over a function.
-/
namespace Go.Proofs.YtghlklcolepfmaaGreatDoor
open Go.RowKit Go.Shelf

attribute [local go_sem] Oper.semAt_some

end Go.Proofs.YtghlklcolepfmaaGreatDoor

/-
  latchetref18.row, latchetref18.Read.
-/
namespace Go.Proofs.YtghlklcolepfmaaGreatDoor
open Go.RowKit

structure RS (w W : World) (d : WitD) (v2 v3 : Value) (rows : List Value) : Prop where
  b0 : Blk W w.heap.size #[.int .i64 0, .int .i64 0, .slice none 0 0, .slice none 0 0] 46
  b1 : Blk W (w.heap.size + 1) #[.int .i64 0, .int .i64 0, .slice none 0 0, .slice none 0 0] 46
  b2 : Blk W (w.heap.size + 1 + 1) #[.int .i64 d.kind, .int .i64 d.prop, v2, v3] 46
  o2 : Own W (w.heap.size + 3) 4 v2 (d.start.map Value.bool)
  o3 : OwnRows W (w.heap.size + 3) v3 rows d.ins
  kp : Kp (fun j => w.heap.size ≤ j) w W

theorem RS.start (w : World) : RS w (((w.alloc (.cells #[.int .i64 0, .int .i64 0, .slice none 0 0, .slice none 0 0] 46)).alloc (.cells #[.int .i64 0, .int .i64 0, .slice none 0 0, .slice none 0 0] 46)).alloc (.cells #[.int .i64 0, .int .i64 0, .slice none 0 0, .slice none 0 0] 46)) wit0 (.slice none 0 0) (.slice none 0 0) [] := by
 have new : ∀ (u : World) (c : Array Value) (t : TypeId) (b : Nat), u.heap.size = b → Blk (u.alloc (.cells c t)) b c t := fun u c t b h => by subst h; exact Blk.new u c t
 refine ⟨?_, ?_, ?_, Own.nil _ _ _, ⟨Own.nil _ _ _, rfl, fun j r x h => by cases h⟩, ?_⟩
 ·exact ((new _ _ _ _ rfl).alloc _).alloc _
 ·exact (new _ _ _ _ (by simp)).alloc _
 ·exact new _ _ _ _ (by simp)
 ·exact (((Kp.refl _ w).alloc _).alloc _).alloc _

theorem RS.set {w W : World} {d : WitD} {v2 v3 : Value} {rows : List Value} (h : RS w W d v2 v3 rows) (i : Nat) (v : Value) {d' : WitD} {v2' v3' : Value} {rows' : List Value}
  (hb : (#[.int .i64 d.kind, .int .i64 d.prop, v2, v3] : Array Value).setIfInBounds i v = #[.int .i64 d'.kind, .int .i64 d'.prop, v2', v3'])
  (ho2 : Own W (w.heap.size + 3) 4 v2' (d'.start.map Value.bool)) (ho3 : OwnRows W (w.heap.size + 3) v3' rows' d'.ins) : RS w (W.setCell ⟨w.heap.size + 1 + 1, i, none⟩ v) d' v2' v3' rows' := by
 have q := Kp.set W ⟨w.heap.size + 1 + 1, i, none⟩ v
 refine ⟨h.b0.kp q (fun e => by simp only at e; omega), h.b1.kp q (fun e => by simp only at e; omega), hb ▸ h.b2.set_same i v, ho2.kp q (fun j hj e => ?_), ⟨ho3.own.kp q (fun j hj e => ?_), ho3.len, fun j r x h1 h2 => (ho3.row j r x h1 h2).kp q (fun k hk e => ?_)⟩, h.kp.trans q (fun k _ e => by simp only at e; omega)⟩
 ·have := (ho2.lt j hj).1; simp only at e; omega
 ·have := (ho3.own.lt j hj).1; simp only at e; omega
 ·have := ((ho3.row j r x h1 h2).lt k hk).1; simp only at e; omega

theorem RS.append {w W W2 : World} {d : WitD} {v2 v3 r v' : Value} {rows : List Value} {l : List Bool} (h : RS w W d v2 v3 rows) (ho : Own W (w.heap.size + 3) 4 r (l.map Value.bool))
  (hg : W.grownBy W2 v3.ownBlock) (ho3 : Own W2 (w.heap.size + 3) 28 v' (rows ++ [r])) :
  RS w (W2.setCell ⟨w.heap.size + 1 + 1, 3, none⟩ v') { d with ins := d.ins ++ [l] } v2 v' (rows ++ [r]) := by
 have q := (Kp.refl (fun j => v3.ownBlock = some j) W).grown hg (fun _ e _ => e)
 have hlo := fun j (e : v3.ownBlock = some j) => (h.o3.own.lt j e).1
 have h2 : Own W2 (w.heap.size + 3) 4 v2 (d.start.map Value.bool) := h.o2.kp q (own_ne_own h.o2 h.o3.own (by decide))
 have h3 : OwnRows W2 (w.heap.size + 3) v' (rows ++ [r]) (d.ins ++ [l]) := by
  refine ⟨ho3, by simp [h.o3.len], ?_⟩
  intro j r' x h1 h2
  by_cases hj : j < rows.length
  ·rw [List.getElem?_append_left hj] at h1
   rw [List.getElem?_append_left (by rw [← h.o3.len]; exact hj)] at h2
   have := h.o3.row j r' x h1 h2
   exact this.kp q (own_ne_own this h.o3.own (by decide))
  ·have hj2 : j = rows.length := by
    have := (List.getElem?_eq_some_iff.1 h1).1
    simp at this; omega
   subst hj2
   rw [List.getElem?_append_right (Nat.le_refl _)] at h1
   rw [h.o3.len, List.getElem?_append_right (Nat.le_refl _)] at h2
   simp at h1 h2
   subst h1 h2
   exact ho.kp q (own_ne_own ho h.o3.own (by decide))
 have b2 : Blk W2 (w.heap.size + 1 + 1) _ _ := h.b2.kp q (fun e => by have := hlo _ e; omega)
 have p := Kp.set W2 ⟨w.heap.size + 1 + 1, 3, none⟩ v'
 refine ⟨(h.b0.kp q (fun e => by have := hlo _ e; omega)).kp p (fun e => by simp only at e; omega), (h.b1.kp q (fun e => by have := hlo _ e; omega)).kp p (fun e => by simp only at e; omega), b2.set_same 3 v', h2.kp p (fun j hj e => ?_), ⟨ho3.kp p (fun j hj e => ?_), h3.len, fun j r x h1 h2 => (h3.row j r x h1 h2).kp p (fun k hk e => ?_)⟩, (h.kp.trans q (fun k _ e => by have := hlo _ e; omega)).trans p (fun k _ e => by simp only at e; omega)⟩
 ·have := (h2.lt j hj).1; simp only at e; omega
 ·have := (ho3.lt j hj).1; simp only at e; omega
 ·have := ((h3.row j r x h1 h2).lt k hk).1; simp only at e; omega

end Go.Proofs.YtghlklcolepfmaaGreatDoor

/-
  wit.Read and its reference at lengths below 0; latchetref18.Same of equal witnesses.
-/
namespace Go.Proofs.YtghlklcolepfmaaGreatDoor
open Go.RowKit Go.Shelf

set_option maxRecDepth 100000 in
set_option maxHeartbeats 4000000 in
theorem ref18_SameI (kind prop : Int) (u2 u3 x2 x3 : Value) (start : List Bool) (ins : List (List Bool)) (w : World) (h2 : BoolsSl w u2 start) (h3 : GridSl w u3 ins) (h2' : BoolsSl w x2 start) (h3' : GridSl w x3 ins) (hn : ins.length ≤ 1000000) :
  Calls Tryz.prog 16 #[.agg #[.int .i64 kind, .int .i64 prop, u2, u3], .agg #[.int .i64 kind, .int .i64 prop, x2, x3]] w fun e w' => e = .returned (.bool true) ∧ Kp (fun _ => False) w w' := by
 obtain ⟨a2, c2, rfl, p1, p2, p3, p4⟩ := h2
 obtain ⟨a2', c2', rfl, p1', p2', p3', p4'⟩ := h2'
 obtain ⟨a3, c3, rfl, r1, r2, r3, r4⟩ := h3
 obtain ⟨a3', c3', rfl, r1', r2', r3', r4'⟩ := h3'
 have q := ((Kp.refl (fun _ => False) w).alloc (.cells #[.int .i64 kind, .int .i64 prop, .slice a2 start.length c2, .slice a3 ins.length c3] 46)).alloc (.cells #[.int .i64 kind, .int .i64 prop, .slice a2' start.length c2', .slice a3' ins.length c3'] 46)
 have hB1 := (Blk.new w #[.int .i64 kind, .int .i64 prop, .slice a2 start.length c2, .slice a3 ins.length c3] 46).alloc (.cells #[.int .i64 kind, .int .i64 prop, .slice a2' start.length c2', .slice a3' ins.length c3'] 46)
 have hB2 := Blk.new (w.alloc (.cells #[.int .i64 kind, .int .i64 prop, .slice a2 start.length c2, .slice a3 ins.length c3] 46)) #[.int .i64 kind, .int .i64 prop, .slice a2' start.length c2', .slice a3' ins.length c3'] 46
 have hst := ref_Same a2 a2' start.length start.length c2 c2' start start _ (p4.kp q (fun _ _ h => h)) (p4'.kp q (fun _ _ h => h)) rfl rfl (by unfold maxLen at p2; omega)
 rw [show (start == start) = true by simp] at hst
 have hg := r4.kp q
 have hg' := r4'.kp q
 rw [World.size_alloc] at hB2
 obtain ⟨W1, hW1⟩ : ∃ W1, (w.alloc (.cells #[.int .i64 kind, .int .i64 prop, .slice a2 start.length c2, .slice a3 ins.length c3] 46)).alloc (.cells #[.int .i64 kind, .int .i64 prop, .slice a2' start.length c2', .slice a3' ins.length c3'] 46) = W1 := ⟨_, rfl⟩
 rw [hW1] at hst hB1 hB2 q hg hg'
 have HSt := Lib.hid hst
 have HG := Lib.hid hg
 have HG' := Lib.hid hg'
 have HQ := Lib.hid q
 have k0 := hB1.cell (i := 0) rfl
 have k1 := hB1.cell (i := 1) rfl
 have k2 := hB1.cell (i := 2) rfl
 have k3 := hB1.cell (i := 3) rfl
 have m0 := hB2.cell (i := 0) rfl
 have m1 := hB2.cell (i := 1) rfl
 have m2 := hB2.cell (i := 2) rfl
 have m3 := hB2.cell (i := 3) rfl
 have HB1 := Lib.hid hB1
 have HB2 := Lib.hid hB2
 clear hg hg'
 have e1 : (kind != kind) = false := by simp
 have e2 : (prop != prop) = false := by simp
 have e3 : ((ins.length : Int) != (ins.length : Int)) = false := by simp
 clear hst hB1 hB2 q p1 p2 p3 p4 p1' p2' p3' p4' r1 r2 r3 r4 r1' r2' r3' r4'
 go_enter Tryz.func16, Tryz.ntmps16
 go_wp2_with fail
 refine HSt.out.mono ?_
 rintro e w' ⟨rfl, q, hq⟩
 have hb1 := HB1.out.drewN q
 have hb2 := HB2.out.drewN q
 rw [← hq] at hb1 hb2
 have k1' := hb1.cell (i := 1) rfl
 have k3' := hb1.cell (i := 3) rfl
 have m1' := hb2.cell (i := 1) rfl
 have m3' := hb2.cell (i := 3) rfl
 have HQ2 := Lib.hid hq
 clear hq hb1 hb2 k0 k1 k2 k3 m0 m1 m2 m3 hW1
 go_wp2_with fail
 go_loopw [5] (fun v5 wr => ∃ k q : Nat, k ≤ ins.length ∧ v5 = .int .i64 k ∧ wr = W1.drewN q) (fun v5 _ => ins.length - (intOf v5).toNat)
 case atStart => exact ⟨0, q, Nat.zero_le _, rfl, HQ2.out⟩
 case round =>
  obtain ⟨k, q, hk, rfl, hw⟩ := hrel
  have hb1 := HB1.out.drewN q
  have hb2 := HB2.out.drewN q
  have hg := HG.out.kp ((Kp.refl (fun _ => False) W1).drewN q)
  have hg' := HG'.out.kp ((Kp.refl (fun _ => False) W1).drewN q)
  rw [← hw] at hb1 hb2 hg hg'
  have k3 := hb1.cell (i := 3) rfl
  have m3 := hb2.cell (i := 3) rfl
  clear hb1 hb2 k1' k3' m1' m3' HQ2
  have HW := Lib.hid hw
  clear hw
  by_cases hlt : k < ins.length
  ·obtain ⟨b, off, v, rfl, c0, hv⟩ := hg.row hlt
   obtain ⟨b', off', v', rfl, c0', hv'⟩ := hg'.row hlt
   obtain ⟨av, cv, rfl, _, _, _, hv4⟩ := hv
   obtain ⟨av', cv', rfl, _, hcm2, _, hv4'⟩ := hv'
   have HI := Lib.hid (fun (j : Nat) => ref_Same av av' (gb ins k).length (gb ins k).length cv cv' (gb ins k) (gb ins k) (wr.drewN j) (hv4.drewN j) (hv4'.drewN j) rfl rfl (by unfold maxLen at hcm2; omega))
   rw [show (gb ins k == gb ins k) = true by simp] at HI
   obtain ⟨m, hm⟩ : ∃ m, (gb ins k).length = m := ⟨_, rfl⟩
   rw [hm] at HI c0 c0'
   clear hv4 hv4' hcm2 hm hg hg'
   have i0 : (0 : Int) ≤ (k : Int) := by omega
   have i1 : (k : Int) < (ins.length : Int) := by omega
   have dd : decide ((k : Int) < (ins.length : Int)) = true := by simp; omega
   go_wp2_with fail
   go_quiet ((go_at_call 44; exact Calls.quiet_of (HI.out _)))
   go_wp2_with fail
   go_roundw
   case rel => exact ⟨k + 1, _, by omega, by go_num, by rw [HW.out, World.drewN_drewN]⟩
   case measure => simp [intOf]; omega
  ·have dd : decide ((k : Int) < (ins.length : Int)) = false := by simp; omega
   go_wp2_with fail
   go_ret
   exact ⟨rfl, by rw [HW.out]; exact HQ.out.drewN q⟩

end Go.Proofs.YtghlklcolepfmaaGreatDoor

/-
  latchetlaw18.lives.
-/
namespace Go.Proofs.YtghlklcolepfmaaGreatDoor
open Go.RowKit Go.Shelf

theorem WitSl.kp {w w' : World} {v : Value} {d : WitD} (h : WitSl w v d) (k : Kp (fun _ => False) w w') : WitSl w' v d := by
 obtain ⟨v2, v3, rfl, h2, h3⟩ := h
 exact ⟨v2, v3, rfl, h2.kp k, h3.kp k⟩

end Go.Proofs.YtghlklcolepfmaaGreatDoor

/-
  latchetlaw17.Short. (Out of XWitShort.)
-/
namespace Go.Proofs.YtghlklcolepfmaaGreatDoor
open Go.RowKit

def shortP (start : List Bool) (ins : List (List Bool)) (most : Nat) : Prop := start.length ≤ 60 ∧ ins.length ≤ most ∧ ∀ k, k < ins.length → (gb ins k).length ≤ 60
instance (start : List Bool) (ins : List (List Bool)) (most : Nat) : Decidable (shortP start ins most) := by unfold shortP; infer_instance

theorem short_mem {start : List Bool} {ins : List (List Bool)} {most : Nat} (h : shortP start ins most) : ∀ x ∈ ins, x.length ≤ 60 := by
 intro x hx
 obtain ⟨k, hk, rfl⟩ := List.mem_iff_getElem.1 hx
 have := h.2.2 k hk
 unfold gb at this
 rwa [List.getElem?_eq_getElem hk] at this

set_option maxRecDepth 100000 in
set_option maxHeartbeats 2000000 in
theorem law17_Short (v2 v3 : Value) (start : List Bool) (ins : List (List Bool)) (most : Nat) (w : World) (hs : BoolsSl w v2 start) (hi : GridSl w v3 ins) :
  Calls Tryz.prog 5 #[.agg #[v2, v3], .int .i64 most] w fun e w' => e = .returned (.bool (decide (shortP start ins most))) ∧ Kp (fun _ => False) w w' := by
 obtain ⟨a2, c2, rfl, _, _, _, _⟩ := hs
 obtain ⟨a3, c3, rfl, i1, i2, _, i4⟩ := hi
 have hB := Blk.new w #[.slice a2 start.length c2, .slice a3 ins.length c3] 31
 have q := (Kp.refl (fun _ => False) w).alloc (.cells #[.slice a2 start.length c2, .slice a3 ins.length c3] 31)
 have hG := i4.kp q
 obtain ⟨W1, hW1⟩ : ∃ W1, w.alloc (.cells #[.slice a2 start.length c2, .slice a3 ins.length c3] 31) = W1 := ⟨_, rfl⟩
 rw [hW1] at hB q hG
 have HQ := Lib.hid q
 have HG := Lib.hid hG
 have k0 := hB.cell (i := 0) rfl
 have k1 := hB.cell (i := 1) rfl
 have hin : ins.length ≤ 9223372036854775807 := by unfold maxLen at i2; omega
 clear hB q hG i1 i2 i4
 have HD := Lib.hid (show (decide (shortP start ins most) = true ↔ shortP start ins most) from decide_eq_true_iff)
 by_cases c1 : start.length ≤ 60
 ·have g1 : decide ((60 : Int) < (start.length : Int)) = false := by simp; omega
  by_cases c2' : ins.length ≤ most
  ·have g2 : decide ((most : Int) < (ins.length : Int)) = false := by simp; omega
   go_enter Tryz.func5, Tryz.ntmps5
   go_wp2_with fail
   go_loop [5] (fun v5 => ∃ k : Nat, k ≤ ins.length ∧ v5 = .int .i64 k ∧ ∀ j, j < k → (gb ins j).length ≤ 60) (fun v5 => ins.length - (intOf v5).toNat)
   case atStart => exact ⟨0, Nat.zero_le _, rfl, fun j hj => by omega⟩
   case round =>
    obtain ⟨k, hk, rfl, hall⟩ := hrel
    have HAll := Lib.hid hall
    clear hall
    by_cases hlt : k < ins.length
    ·obtain ⟨b, off, v, rfl, c0, hv⟩ := HG.out.row hlt
     obtain ⟨av, cv, rfl, _, _, _, _⟩ := hv
     have dd : decide ((k : Int) < (ins.length : Int)) = true := by simp; omega
     by_cases c3' : (gb ins k).length ≤ 60
     ·have g3 : decide ((60 : Int) < ((gb ins k).length : Int)) = false := by simp; omega
      have HC := Lib.hid c3'
      obtain ⟨m, hm⟩ : ∃ m, (gb ins k).length = m := ⟨_, rfl⟩
      rw [hm] at g3 c0
      clear c3' hm
      go_wp2_with fail
      refine ⟨⟨k + 1, by omega, by go_num, fun j hj => ?_⟩, by simp [intOf]; omega⟩
      by_cases e : j = k
      ·subst e; exact HC.out
      ·exact HAll.out j (by omega)
     ·have g3 : decide ((60 : Int) < ((gb ins k).length : Int)) = true := by simp; omega
      have HC : Hid (decide (shortP start ins most) = false) := by
       show _ = _
       rw [decide_eq_false_iff_not]
       exact fun h => c3' (h.2.2 k hlt)
      obtain ⟨m, hm⟩ : ∃ m, (gb ins k).length = m := ⟨_, rfl⟩
      rw [hm] at g3 c0
      clear c3' hm
      go_wp2_with fail
      go_ret
      rw [HC.out]
      exact ⟨rfl, HQ.out⟩
    ·have dd : decide ((k : Int) < (ins.length : Int)) = false := by simp; omega
     have HC := Lib.hid (HD.out.2 ⟨c1, c2', fun j hj => HAll.out j (by omega)⟩)
     go_wp2_with fail
     go_ret
     rw [HC.out]
     exact ⟨rfl, HQ.out⟩
  ·have g2 : decide ((most : Int) < (ins.length : Int)) = true := by simp; omega
   have HC : Hid (decide (shortP start ins most) = false) := by
    show _ = _
    rw [decide_eq_false_iff_not]
    exact fun h => c2' h.2.1
   go_enter Tryz.func5, Tryz.ntmps5
   go_wp2_with fail
   go_ret
   rw [HC.out]
   exact ⟨rfl, HQ.out⟩
 ·have g1 : decide ((60 : Int) < (start.length : Int)) = true := by simp; omega
  have HC : Hid (decide (shortP start ins most) = false) := by
   show _ = _
   rw [decide_eq_false_iff_not]
   exact fun h => c1 h.1
  go_enter Tryz.func5, Tryz.ntmps5
  go_wp2_with fail
  go_ret
  rw [HC.out]
  exact ⟨rfl, HQ.out⟩

end Go.Proofs.YtghlklcolepfmaaGreatDoor

/-
  The law of loose regions, with guards.
-/
namespace Go.Proofs.YtghlklcolepfmaaGreatDoor
open Go Go.RowKit

structure LooseGOK (ops : Array Oper) (p : Nat → Bool) (N : Nat) : Prop where
  low : ∀ (i : Nat) (o : Oper), ops[i]? = some o → p i = true → ∀ e ∈ o.after, Region.binds .any e = true → e.on < i ∧ p e.on = true
  dst : ∀ (i : Nat) (o : Oper), ops[i]? = some o → p i = true → ∃ d, o.dst = some d ∧ d < N
  inj : ∀ (i j : Nat) (o o' : Oper), ops[i]? = some o → ops[j]? = some o' → p i = true → p j = true → o.dst = o'.dst → i = j
  bar : ∀ (i : Nat) (o : Oper), ops[i]? = some o → p i = false → ∀ j, j < ops.size → p j = true → j ∈ clo ops 6 (edgesOf ops i)

def looseGB (ops : Array Oper) (p : Nat → Bool) (N : Nat) : Bool :=
  (List.range ops.size).all fun i => match ops[i]? with
    | none => true
    | some o => (if p i then
        o.after.all (fun e => !Region.binds .any e || (decide (e.on < i) && p e.on)) &&
          (match o.dst with
            | none => false
            | some d => decide (d < N) && (List.range ops.size).all (fun j => !p j || decide (j = i) || (match ops[j]? with | none => true | some o' => decide (o'.dst ≠ some d))))
      else (List.range ops.size).all (fun j => !p j || (clo ops 6 (edgesOf ops i)).contains j))

theorem looseGB_spec {ops : Array Oper} {p : Nat → Bool} {N : Nat} (h : looseGB ops p N = true) : LooseGOK ops p N := by
 unfold looseGB at h
 rw [List.all_eq_true] at h
 have get : ∀ (i : Nat) (o : Oper), ops[i]? = some o → (if p i then
    o.after.all (fun e => !Region.binds .any e || (decide (e.on < i) && p e.on)) &&
     (match o.dst with
      |none => false
      |some d => decide (d < N) && (List.range ops.size).all (fun j => !p j || decide (j = i) || (match ops[j]? with | none => true | some o' => decide (o'.dst ≠ some d))))
   else (List.range ops.size).all (fun j => !p j || (clo ops 6 (edgesOf ops i)).contains j)) = true := fun i o ho => by
  have hi : i < ops.size := (Array.getElem?_eq_some_iff.1 ho).1
  have := h i (List.mem_range.2 hi)
  simp only [ho] at this
  exact this
 refine ⟨fun i o ho hp e he hb => ?_, fun i o ho hp => ?_, fun i j o o' ho ho' hp hp' hd => ?_, fun i o ho hp j hj hpj => ?_⟩
 ·have := (get i o ho)
  rw [if_pos hp, Bool.and_eq_true] at this
  have h1 := this.1
  rw [Array.all_eq_true_iff_forall_mem] at h1
  have h2 := h1 e he
  rw [hb] at h2
  simpa using h2
 ·have := (get i o ho)
  rw [if_pos hp, Bool.and_eq_true] at this
  have h1 := this.2
  cases hd : o.dst with
  |none => rw [hd] at h1; cases h1
  |some d =>
   rw [hd] at h1
   simp only [Bool.and_eq_true, decide_eq_true_eq] at h1
   exact ⟨d, rfl, h1.1⟩
 ·have := (get i o ho)
  rw [if_pos hp, Bool.and_eq_true] at this
  have h1 := this.2
  cases hdd : o.dst with
  |none => rw [hdd] at h1; cases h1
  |some d =>
   rw [hdd] at h1
   simp only [Bool.and_eq_true] at h1
   have h2 := h1.2
   rw [List.all_eq_true] at h2
   have h3 := h2 j (List.mem_range.2 (Array.getElem?_eq_some_iff.1 ho').1)
   rw [hp', ho'] at h3
   simp only [Bool.not_true, Bool.false_or, Bool.or_eq_true, decide_eq_true_eq] at h3
   rcases h3 with h3 | h3
   ·exact h3.symm
   ·exact absurd (hd.symm.trans hdd) h3
 ·have := (get i o ho)
  rw [if_neg (by simp [hp]), List.all_eq_true] at this
  have h1 := this j (List.mem_range.2 hj)
  rw [hpj, Bool.not_true, Bool.false_or] at h1
  simpa using h1

def LG (P : Program) (ops : Array Oper) (Q : Exit → Act → World → Prop) (V : Nat → World → Value → Prop) (i : Nat) (o : Oper) (a : Act) (u : World) : Prop :=
  (Region.wanted o (yielded ops a.tmps) = true ∧ o.wp P a u (fun a' u' => ∃ v, a' = a.put o.dst v ∧ Kp (fun _ => False) u u' ∧ V i u' v) Q) ∨ (Region.wanted o (yielded ops a.tmps) = false ∧ V i u undef)

theorem lg_none {P : Program} {ops : Array Oper} {Q : Exit → Act → World → Prop} {V : Nat → World → Value → Prop} {i : Nat} {o : Oper} {a : Act} {u : World} (hg : o.guard = none) (h : o.wp P a u (fun a' u' => ∃ v, a' = a.put o.dst v ∧ Kp (fun _ => False) u u' ∧ V i u' v) Q) : LG P ops Q V i o a u :=
 .inl ⟨by unfold Region.wanted; rw [hg], h⟩

theorem yielded_at {ops : Array Oper} {g x : Nat} {b : Bool} {a : Act} (hd : (ops[g]?).bind (·.dst) = some x) (h : a.tmps[x]?.getD undef = .bool b) : yielded ops a.tmps g = some b := by
 unfold yielded
 rw [hd]
 simp only [Option.bind_some]
 cases hx : a.tmps[x]? with
 |none => rw [hx] at h; cases h
 |some v => rw [hx] at h; simp only [Option.getD_some] at h; subst h; rfl

theorem lg_on {P : Program} {ops : Array Oper} {Q : Exit → Act → World → Prop} {V : Nat → World → Value → Prop} {i : Nat} {o : Oper} {a : Act} {u : World} {g x : Nat} {b : Bool} (hg : o.guard = some (g, b)) (hd : (ops[g]?).bind (·.dst) = some x) (hx : a.tmps[x]?.getD undef = .bool b)
  (h : o.wp P a u (fun a' u' => ∃ v, a' = a.put o.dst v ∧ Kp (fun _ => False) u u' ∧ V i u' v) Q) : LG P ops Q V i o a u :=
 .inl ⟨by unfold Region.wanted; rw [hg]; simp only [yielded_at hd hx]; exact beq_self_eq_true _, h⟩

theorem wpAny_looseG {P : Program} {ops : Array Oper} {Q : Exit → Act → World → Prop} {p : Nat → Bool} {V : Nat → World → Value → Prop} {w0 : World} {a0 : Act} {LP : Array Bool} (L : LooseGOK ops p a0.tmps.size)
  (stable : ∀ i u u' v, Kp (fun _ => False) u u' → V i u v → V i u' v)
  (hstep : ∀ (i : Nat) (o : Oper), ops[i]? = some o → p i = true → ∀ a u, Kp (fun _ => False) w0 u →
   (∀ s, (∀ (j : Nat) (oj : Oper), ops[j]? = some oj → p j = true → oj.dst ≠ some s) → a.tmps.getD s undef = a0.tmps.getD s undef) →
   (∀ e ∈ o.after, Region.binds .any e = true → ∀ (oj : Oper) (d : Nat), ops[e.on]? = some oj → oj.dst = some d → V e.on u (a.tmps.getD d undef)) →
   LG P ops Q V i o a u)
  (hLs : LP.size = ops.size) (hLP : ∀ i, i < ops.size → LP.getD i false = p i)
  (hend : ∀ a u, LInv ops V w0 a0 (fun i => p i = true) a u → wpAny P .any ops Q (cntU ops.size LP) LP a u) :
  ∀ (fuel : Nat) (listed : Array Bool) (a : Act) (u : World), listed.size = ops.size → fuel = cntU ops.size listed → (∀ i, i < ops.size → listed.getD i false = true → p i = true) → (∀ j, listed.getD j false = true → ∀ k, k ∈ edgesOf ops j → listed.getD k false = true) →
   LInv ops V w0 a0 (fun i => listed.getD i false = true) a u → wpAny P .any ops Q fuel listed a u := by
 intro fuel
 induction fuel with
 |zero =>
  intro listed a u hs hf hl hcl hI
  have hall : ∀ i, i < ops.size → listed.getD i false = true := fun i hi => by
   by_cases h : listed.getD i false = true
   ·exact h
   ·have := cntU_set (listed := listed) (by omega) (by simpa using h) ops.size hi
    omega
  have e : listed = LP := listed_ext (by omega) (fun i hi => by
   rw [hall i (by omega), hLP i (by omega)]
   exact (hl i (by omega) (hall i (by omega))).symm)
  subst e
  have := hend a u ⟨hI.kp, fun i o d ho _ hd => hI.val i o d ho (hall i (Array.getElem?_eq_some_iff.1 ho).1) hd, fun s hs' => hI.off s (fun i o ho hi => hs' i o ho (hl i (Array.getElem?_eq_some_iff.1 ho).1 hi)), hI.size, hI.defers⟩
  rwa [← hf] at this
 |succ fuel ih =>
  intro listed a u hs hf hl hcl hI
  by_cases hall : ∀ i, i < ops.size → p i = true → listed.getD i false = true
  ·have e : listed = LP := listed_ext (by omega) (fun i hi => by
    rw [hLP i (by omega)]
    by_cases h : p i = true
    ·rw [h, hall i (by omega) h]
    ·by_cases h2 : listed.getD i false = true
     ·exact absurd (hl i (by omega) h2) h
     ·have h3 : p i = false := by simpa using h
      have h4 : listed.getD i false = false := by simpa using h2
      rw [h3, h4])
   subst e
   have := hend a u ⟨hI.kp, fun i o d ho hp hd => hI.val i o d ho (hall i (Array.getElem?_eq_some_iff.1 ho).1 hp) hd, fun s hs' => hI.off s (fun i o ho hi => hs' i o ho (hl i (Array.getElem?_eq_some_iff.1 ho).1 hi)), hI.size, hI.defers⟩
   rwa [← hf] at this
  ·obtain ⟨i0, ⟨hi0, hp0, hu0⟩, hmin⟩ := least_of (R := fun i => i < ops.size ∧ p i = true ∧ listed.getD i false = false) (by
    refine Classical.byContradiction fun hno => hall fun i hi hp => ?_
    by_cases h : listed.getD i false = true
    ·exact h
    ·exact absurd ⟨i, hi, hp, by simpa using h⟩ hno)
   have hready : i0 ∈ Region.ready .any ops listed := by
    rw [mem_ready]
    refine ⟨by rw [getD_true_false (by omega)]; exact hu0, ops[i0], Array.getElem?_eq_getElem hi0, fun e he hb => ?_⟩
    obtain ⟨h1, h2⟩ := L.low i0 _ (Array.getElem?_eq_getElem hi0) hp0 e he hb
    by_cases h : listed.getD e.on false = true
    ·exact h
    ·exact absurd ⟨by omega, h2, by simpa using h⟩ (hmin e.on h1)
   refine ⟨fun h => (by rw [h] at hready; cases hready), fun i hi => ?_⟩
   obtain ⟨h1, o, ho, hedge⟩ := mem_ready.1 hi
   have hisz : i < ops.size := (Array.getElem?_eq_some_iff.1 ho).1
   rw [getD_true_false (by omega)] at h1
   have hpi : p i = true := by
    by_cases h : p i = true
    ·exact h
    ·have h3 := clo_listed (listed := fun j => listed.getD j false = true) hcl 6 (edgesOf ops i) (fun k hk => by
      obtain ⟨e, he, hb, hon⟩ := (mem_edgesOf ho).1 hk
      have := hedge e he hb
      rwa [hon] at this) i0 (L.bar i o ho (by simpa using h) i0 hi0 hp0)
     rw [hu0] at h3
     cases h3
   obtain ⟨d, hd, hdN⟩ := L.dst i o ho hpi
   have hgo : ∀ a' u', (∃ v, a' = a.put o.dst v ∧ Kp (fun _ => False) u u' ∧ V i u' v) → wpAny P .any ops Q fuel (listed.setIfInBounds i true) a' u' := by
    rintro a' u' ⟨v, rfl, hK, hV⟩
    have hset : ∀ j, (listed.setIfInBounds i true).getD j false = true ↔ j = i ∨ listed.getD j false = true := fun j => by
     simp only [Array.getD_eq_getD_getElem?, Array.getElem?_setIfInBounds]
     by_cases e : i = j
     ·subst e; simp [show i < listed.size by omega]
     ·rw [if_neg e]
      exact ⟨.inr, fun h => h.resolve_left (fun h => e h.symm)⟩
    refine ih _ _ _ (by simp [hs]) ?_ (fun j hj hlj => ?_) (fun j hj k hk => ?_) ⟨hI.kp.trans hK (fun _ _ h => h), fun j oj dj hoj hj hdj => ?_, fun s hs' => ?_, by rw [put_size]; exact hI.size, by rw [put_defers]; exact hI.defers⟩
    ·have := cntU_set (listed := listed) (by omega) h1 ops.size hisz
     omega
    ·rcases (hset j).1 hlj with e | e
     ·rw [e]; exact hpi
     ·exact hl j hj e
    ·rcases (hset j).1 hj with e | e
     ·subst e
      obtain ⟨e, he, hb, hon⟩ := (mem_edgesOf ho).1 hk
      refine (hset k).2 (.inr ?_)
      rw [← hon]
      exact hedge e he hb
     ·exact (hset k).2 (.inr (hcl j e k hk))
    ·rcases (hset j).1 hj with e | e
     ·subst e
      have : oj = o := by rw [hoj] at ho; exact Option.some.inj ho
      subst this
      rw [hdj] at hd
      have : dj = d := Option.some.inj hd
      subst this
      rw [hdj, put_getD_same (by rw [hI.size]; exact hdN)]
      exact hV
     ·by_cases eji : j = i
      ·subst eji
       rw [h1] at e; cases e
      ·rw [put_getD_ne (fun h => eji (L.inj j i oj o hoj ho (hl j (Array.getElem?_eq_some_iff.1 hoj).1 e) hpi (by rw [hdj, h])))]
       exact stable j u u' _ hK (hI.val j oj dj hoj e hdj)
    ·rw [put_getD_ne (hs' i o ho ((hset i).2 (.inl rfl)))]
     exact hI.off s (fun j oj hoj hj => hs' j oj hoj ((hset j).2 (.inr hj)))
   have hst := hstep i o ho hpi a u hI.kp (fun s hs' => hI.off s (fun j oj hoj hj => hs' j oj hoj (hl j (Array.getElem?_eq_some_iff.1 hoj).1 hj))) (fun e he hb oj d' hoj hd' => hI.val e.on oj d' hoj (hedge e he hb) hd')
   unfold wpOp
   rw [ho]
   simp only
   rcases hst with ⟨hw, hst⟩ | ⟨hw, hst⟩
   ·rw [if_pos hw]
    exact .inl (Oper.wp_mono hgo hst)
   ·rw [if_neg (by rw [hw]; exact Bool.false_ne_true)]
    exact hgo _ _ ⟨undef, rfl, Kp.refl _ _, hst⟩

theorem wp_region_looseG {P : Program} {id : Nat} {ops : Array Oper} {Q : Exit → Act → World → Prop} {p : Nat → Bool} {V : Nat → World → Value → Prop} {w : World} {a0 : Act} {LP : Array Bool} {K : Nat} (hm : P.follows .mixedOrders = true) (hB : looseGB ops p a0.tmps.size = true)
  (stable : ∀ i u u' v, Kp (fun _ => False) u u' → V i u v → V i u' v)
  (hstep : ∀ (i : Nat) (o : Oper), ops[i]? = some o → p i = true → ∀ a u, Kp (fun _ => False) w u →
   (∀ s, (∀ (j : Nat) (oj : Oper), ops[j]? = some oj → p j = true → oj.dst ≠ some s) → a.tmps.getD s undef = a0.tmps.getD s undef) →
   (∀ e ∈ o.after, Region.binds .any e = true → ∀ (oj : Oper) (d : Nat), ops[e.on]? = some oj → oj.dst = some d → V e.on u (a.tmps.getD d undef)) →
   LG P ops Q V i o a u)
  (hLs : LP.size = ops.size) (hLP : ∀ i, i < ops.size → LP.getD i false = p i) (hK : cntU ops.size LP = K)
  (hend : ∀ a u, LInv ops V w a0 (fun i => p i = true) a u → wpAny P .any ops Q K LP a u) : (Code.region id ops true).wp P Q a0 w := by
 refine wp_region_any hm ?_
 refine wpAny_looseG (looseGB_spec hB) stable hstep hLs hLP (fun a u h => by rw [hK]; exact hend a u h) ops.size _ a0 _ (by simp) ?_ (fun i hi h => ?_) (fun i h => ?_) ⟨(Kp.refl (fun _ => False) w).drew, fun i o d ho h => ?_, fun _ _ => rfl, rfl, rfl⟩
 ·have : ∀ n, cntU n (Array.replicate ops.size false) = n := fun n => by
   induction n with
   |zero => rfl
   |succ n ih => rw [cntU_succ, ih]; simp [unl, Array.getD_eq_getD_getElem?, Array.getElem?_replicate]; split <;> simp
  rw [this]
 ·simp [Array.getD_eq_getD_getElem?, Array.getElem?_replicate] at h
  split at h <;> simp at h
 ·simp [Array.getD_eq_getD_getElem?, Array.getElem?_replicate] at h
  split at h <;> simp at h
 ·simp [Array.getD_eq_getD_getElem?, Array.getElem?_replicate] at h
  split at h <;> simp at h

end Go.Proofs.YtghlklcolepfmaaGreatDoor

/-
  latchetlaw47.TraceWrites. (Printed by mktrlaw.py out of trlaw.body.)
-/
namespace Go.Proofs.YtghlklcolepfmaaGreatDoor
open Go.RowKit

def OwnCV (V : CV) (C : Circ) (Y : List (Int × Int × ByteArray)) (u : World) (v : Value) : Prop := ∃ V', v = .agg (cvals V' C) ∧ CAt u V' C ∧ SyAt u V' Y ∧ V'.ny = V.ny
theorem OwnCV.st (V : CV) (C : Circ) (Y : List (Int × Int × ByteArray)) : ∀ u u' v, Kp (fun _ => False) u u' → OwnCV V C Y u v → OwnCV V C Y u' v := fun _ _ _ k ⟨V', h1, h2, h3, h4⟩ => ⟨V', h1, h2.kp k, h3.kp k, h4⟩

theorem ownGrid_form {W : World} {B : Nat} {v : Value} {k : Nat} {f : Nat → List Bool} (h : OwnGrid W B v k f) : ∃ a n c, v = .slice a n c := by
 obtain ⟨vs, h1, -, -⟩ := h
 obtain ⟨a, c, rfl, -⟩ := h1.form
 exact ⟨a, _, c, rfl⟩

theorem ownGrid_sl {W : World} {B : Nat} {v : Value} {k : Nat} {f : Nat → List Bool} {L : List (List Bool)} (h : OwnGrid W B v k f) (hl : L.length = k) (hf : ∀ j, j < k → f j = gb L j) : GridSl W v L := by
 obtain ⟨vs, h1, h2, h3⟩ := h
 refine own_gridSl (n := B) (rows := vs) ⟨h1, by rw [h2, hl], fun j r x hr hx => ?_⟩
 have hj : j < k := by rw [← h2]; exact (List.getElem?_eq_some_iff.1 hr).1
 obtain ⟨y, hy, ho⟩ := h3 j hj
 rw [hr] at hy
 cases hy
 rw [hf j hj, show gb L j = x by unfold gb; rw [hx]; rfl] at ho
 exact ho

set_option maxRecDepth 100000 in
set_option maxHeartbeats 8000000 in
theorem trw_notsmall (V : CV) (C : Circ) (sa : Option Addr) (sn sc : Nat) (ga : Option Addr) (gn gc : Nat) (kind : Nat) (w : World) (h : CAt w V C) (hS : ¬ SmallP V C 14) (ht : Tab w) :
  Calls Tryz.prog 3 #[.agg (cvals V C), .agg #[.slice sa sn sc, .slice ga gn gc], .int .u8 kind] w fun e w' => e = .returned (.bool true) ∧ Kp (fun _ => False) w w' := by
 obtain ⟨wz, hwz⟩ : ∃ wz : World, wz = (w.alloc (.cells (cvals V C) 27)).alloc (.cells #[.slice sa sn sc, .slice ga gn gc] 31) := ⟨_, rfl⟩
 have HK0 := Lib.hid (show Kp (fun _ => False) w wz by rw [hwz]; exact ((Kp.refl _ w).alloc _).alloc _)
 have HC0 := Lib.hid (show Blk wz w.heap.size #[.int .i64 C.max, .slice V.ai C.ins.length V.ci, .slice V.al C.lats.length V.cl, .slice V.ao C.outs.length V.co, .slice V.ab C.bads.length V.cb, .slice V.ac C.cons.length V.cc, .slice V.ag C.gates.length V.cg, .slice V.ay V.ny V.cy, .string V.cm] 27 by rw [hwz]; exact (Blk.new w (cvals V C) _).alloc _)
 have HR0 := Lib.hid (show Blk wz (w.heap.size + 1) #[.slice sa sn sc, .slice ga gn gc] 31 by rw [hwz]; exact two_blk _ _ _ _ _)
 obtain ⟨d0, d1, d2, d3, d4, d5, d6, d7, d8⟩ := Blk.cells9 HC0.out
 have HZ := Lib.hid hwz
 have HSm := Lib.hid (law11_Small V C 14 wz (h.kp HK0.out) (by decide) false ⟨fun h => (by cases h), fun h => absurd h hS⟩)
 have HLv := Lib.hid (fun u (hu : Kp (fun _ => False) wz u) => law47_lives u (ht.kp (HK0.out.trans hu (fun _ _ h => h))))
 unfold cvals at HSm HZ ⊢
 clear hwz h hS ht
 go_enter Tryz.func3, Tryz.ntmps3
 go_upto_region 1 with fail
 rw [← HZ.out]
 clear HZ
 go_wp2_with (first
  |(go_at_call 4; with_reducible refine Calls.mono HSm.out ?_; rintro e w1 ⟨rfl, hK1⟩; have HLv1 := Lib.hid (HLv.out w1 hK1); have HK1 := Lib.hid (HK0.out.trans hK1 (fun _ _ h => h)); clear hK1)
  |(go_at_call 6; with_reducible refine Calls.mono HLv1.out ?_; rintro e w2 ⟨rfl, hK2⟩; have HK2 := Lib.hid (HK1.out.trans hK2 (fun _ _ h => h)); clear hK2))
 go_ret
 exact ⟨rfl, HK2.out⟩

set_option maxRecDepth 100000 in
set_option maxHeartbeats 8000000 in
theorem trw_notshort (V : CV) (C : Circ) (sa : Option Addr) (sn sc : Nat) (ga : Option Addr) (gn gc : Nat) (kind : Nat) (w : World) (h : CAt w V C) (hS : SmallP V C 14) (hSh : ∀ u, Kp (fun _ => False) w u → Calls Tryz.prog 5 #[.agg #[.slice sa sn sc, .slice ga gn gc], .int .i64 12] u fun e w' => e = .returned (.bool false) ∧ Kp (fun _ => False) u w') (ht : Tab w) :
  Calls Tryz.prog 3 #[.agg (cvals V C), .agg #[.slice sa sn sc, .slice ga gn gc], .int .u8 kind] w fun e w' => e = .returned (.bool true) ∧ Kp (fun _ => False) w w' := by
 obtain ⟨wz, hwz⟩ : ∃ wz : World, wz = (w.alloc (.cells (cvals V C) 27)).alloc (.cells #[.slice sa sn sc, .slice ga gn gc] 31) := ⟨_, rfl⟩
 have HK0 := Lib.hid (show Kp (fun _ => False) w wz by rw [hwz]; exact ((Kp.refl _ w).alloc _).alloc _)
 have HC0 := Lib.hid (show Blk wz w.heap.size #[.int .i64 C.max, .slice V.ai C.ins.length V.ci, .slice V.al C.lats.length V.cl, .slice V.ao C.outs.length V.co, .slice V.ab C.bads.length V.cb, .slice V.ac C.cons.length V.cc, .slice V.ag C.gates.length V.cg, .slice V.ay V.ny V.cy, .string V.cm] 27 by rw [hwz]; exact (Blk.new w (cvals V C) _).alloc _)
 have HR0 := Lib.hid (show Blk wz (w.heap.size + 1) #[.slice sa sn sc, .slice ga gn gc] 31 by rw [hwz]; exact two_blk _ _ _ _ _)
 obtain ⟨d0, d1, d2, d3, d4, d5, d6, d7, d8⟩ := Blk.cells9 HC0.out
 have HZ := Lib.hid hwz
 have HSm := Lib.hid (law11_Small V C 14 wz (h.kp HK0.out) (by decide) true ⟨fun _ => hS, fun _ => rfl⟩)
 have HSh := Lib.hid (fun u (hu : Kp (fun _ => False) wz u) => hSh u (HK0.out.trans hu (fun _ _ h => h)))
 have HLv := Lib.hid (fun u (hu : Kp (fun _ => False) wz u) => law47_lives u (ht.kp (HK0.out.trans hu (fun _ _ h => h))))
 unfold cvals at HSm HZ ⊢
 clear hwz h hS ht hSh
 go_enter Tryz.func3, Tryz.ntmps3
 go_upto_region 1 with fail
 rw [← HZ.out]
 clear HZ
 go_wp2_with (first
  |(go_at_call 4; with_reducible refine Calls.mono HSm.out ?_; rintro e w1 ⟨rfl, hK1⟩; have HSh1 := Lib.hid (HSh.out w1 hK1); have HK1 := Lib.hid hK1; have r0 := (HR0.out.kp hK1 (fun h => h)).cell (i := 0) (v := .slice sa sn sc) rfl; have r1 := (HR0.out.kp hK1 (fun h => h)).cell (i := 1) (v := .slice ga gn gc) rfl; clear hK1)
  |(go_at_call 5; with_reducible refine Calls.mono HSh1.out ?_; rintro e w2 ⟨rfl, hK2⟩; have HKy := Lib.hid (HK1.out.trans hK2 (fun _ _ h => h)); have HLv2 := Lib.hid (HLv.out w2 HKy.out); clear hK2)
  |(go_at_call 6; with_reducible refine Calls.mono HLv2.out ?_; rintro e w3 ⟨rfl, hK3⟩; have HK3 := Lib.hid ((HK0.out.trans HKy.out (fun _ _ h => h)).trans hK3 (fun _ _ h => h)); clear hK3))
 go_ret
 exact ⟨rfl, HK3.out⟩

set_option maxRecDepth 100000 in
set_option maxHeartbeats 16000000 in
theorem trw_yes (V : CV) (C : Circ) (Y : List (Int × Int × ByteArray)) (sa : Option Addr) (sn sc : Nat) (ga : Option Addr) (gn gc : Nat) (st : List Bool) (rows : List (List Bool)) (kind : Nat) (w : World) (h : CAt w V C) (hY : SyAt w V Y) (hS : SmallP V C 14) (hSh : ∀ u, Kp (fun _ => False) w u → Calls Tryz.prog 5 #[.agg #[.slice sa sn sc, .slice ga gn gc], .int .i64 12] u fun e w' => e = .returned (.bool true) ∧ Kp (fun _ => False) u w')
  (hs : BS w sa sn st) (hi : GS w ga gn gc rows) (hsb : BoolsSl w (.slice sa sn sc) st) (hib : GridSl w (.slice ga gn gc) rows) (hgn : gn ≤ 12) (hkd : kind < 256) (hN : ∀ y ∈ Y, y.2.2.size ≤ 1500000) (ht : Tab w) (hm : ∃ m, w.cell? ⟨0, 0, none⟩ = some (.int .i64 m)) :
  Calls Tryz.prog 3 #[.agg (cvals V C), .agg #[.slice sa sn sc, .slice ga gn gc], .int .u8 kind] w fun e w' => e = .returned (.bool true) ∧ Kp (fun _ => False) w w' := by
 obtain ⟨wz, hwz⟩ : ∃ wz : World, wz = (w.alloc (.cells (cvals V C) 27)).alloc (.cells #[.slice sa sn sc, .slice ga gn gc] 31) := ⟨_, rfl⟩
 have HK0 := Lib.hid (show Kp (fun _ => False) w wz by rw [hwz]; exact ((Kp.refl _ w).alloc _).alloc _)
 have HC0 := Lib.hid (show Blk wz w.heap.size #[.int .i64 C.max, .slice V.ai C.ins.length V.ci, .slice V.al C.lats.length V.cl, .slice V.ao C.outs.length V.co, .slice V.ab C.bads.length V.cb, .slice V.ac C.cons.length V.cc, .slice V.ag C.gates.length V.cg, .slice V.ay V.ny V.cy, .string V.cm] 27 by rw [hwz]; exact (Blk.new w (cvals V C) _).alloc _)
 have HR0 := Lib.hid (show Blk wz (w.heap.size + 1) #[.slice sa sn sc, .slice ga gn gc] 31 by rw [hwz]; exact two_blk _ _ _ _ _)
 obtain ⟨d0, d1, d2, d3, d4, d5, d6, d7, d8⟩ := Blk.cells9 HC0.out
 have HZ := Lib.hid hwz
 have hf : CFew C 1000 := hS.few.few (by decide)
 have hg : GoodC C := GoodC.of hS.good
 have hy : V.ny ≤ 1000000 := Nat.le_trans hS.few.y (by decide)
 have hf6 : CFew C 1000000 := hf.big (by decide)
 have hnm : ∀ x ∈ namesK Y 108 C.lats.length, x.size ≤ 2000000 := by
  intro x hx
  unfold namesK at hx
  obtain ⟨i, hi, rfl⟩ := List.mem_map.1 hx
  have hi := List.mem_range.1 hi
  have hl := hf.l
  unfold symName
  split
  ·rename_i k hk
   rw [List.find?_range_eq_some] at hk
   have hk2 : k < Y.length := by simpa using hk.2.1
   unfold sK
   rw [List.getElem?_eq_getElem hk2]
   exact Nat.le_trans (hN _ (List.getElem_mem hk2)) (by decide)
  ·rw [ba_list, List.length_cons]
   have := itoaLen (n := (i : Int)) (by omega) (by omega)
   omega
 have HSm := Lib.hid (law11_Small V C 14 wz (h.kp HK0.out) (by decide) true ⟨fun _ => hS, fun _ => rfl⟩)
 have HSh := Lib.hid (fun u (hu : Kp (fun _ => False) wz u) => hSh u (HK0.out.trans hu (fun _ _ h => h)))
 have HLv := Lib.hid (fun u (hu : Kp (fun _ => False) wz u) => law47_lives u (ht.kp (HK0.out.trans hu (fun _ _ h => h))))
 have HOw := Lib.hid (fun u (hu : Kp (fun _ => False) wz u) => show Calls Tryz.prog 8 #[.agg (cvals V C)] u fun e w' => ∃ v, e = .returned v ∧ OwnCV V C Y w' v ∧ Kp (fun _ => False) u w' from
  (law11_OwnY V C u (Y.map symC) ((hY.kp (HK0.out.trans hu (fun _ _ h => h))).row) ⟨by rw [List.length_map]; exact hY.len, symC_len Y, symC_one Y⟩ (h.kp (HK0.out.trans hu (fun _ _ h => h))) hf6 hy).mono (by
   rintro e w' ⟨V', rfl, h1, ⟨h2, h3, h4⟩, h5⟩
   exact ⟨_, rfl, ⟨V', rfl, h1, ⟨h2, by rw [h3]; exact hY.len⟩, h3⟩, h5⟩))
 have KK := fun u (hu : Kp (fun _ => False) wz u) => HK0.out.trans hu (fun _ _ h => h)
 have hWr := fun u V' (hu : Kp (fun _ => False) wz u) (hA' : CAt u V' C) (hn' : V'.ny = V.ny) => trace_Write V' C sa sn sc ga gn gc st rows u hA' hf (by rw [hn']; exact hy) hg (hs.kp (KK u hu)) (GS.kp hi (KK u hu)) (by omega) (ht.kp (KK u hu))
 have hRw := fun u (hu : Kp (fun _ => False) wz u) => ref47_Write V C sa sn sc ga gn gc st rows u (h.kp (KK u hu)) hf hg (hs.kp (KK u hu)) (GS.kp hi (KK u hu)) (by omega)
 have hNm := fun u V' (hu : Kp (fun _ => False) wz u) (hY' : SyAt u V' Y) (hn' : V'.ny = V.ny) => (trace_Names V' C Y kind u hY' hf6 hkd (by rw [hn']; exact hy) (ht.kp (KK u hu))).mono (R' := fun e w' => ∃ v, e = .returned v ∧ NamV (namesK Y kind (cntN C kind)) (cntN C kind) w' v ∧ Kp (fun _ => False) u w') (by
  rintro e w' ⟨v, rfl, hO, hK⟩
  obtain ⟨a, c, ev, -, -, -, hr⟩ := hO.form
  rw [strs_length, namesK_len] at ev
  exact ⟨v, rfl, ⟨a, c, ev, hr⟩, hK⟩)
 have hRn := fun u (hu : Kp (fun _ => False) wz u) => (ref47_Names V C Y kind u (hY.kp (KK u hu)) hf6 hkd hy).mono (R' := fun e w' => ∃ v, e = .returned v ∧ NamV (namesK Y kind (cntN C kind)) (cntN C kind) w' v ∧ Kp (fun _ => False) u w') (by
  rintro e w' ⟨v, rfl, hO, hK⟩
  obtain ⟨a, c, ev, -, -, -, hr⟩ := hO.form
  rw [strs_length, namesK_len] at ev
  exact ⟨v, rfl, ⟨a, c, ev, hr⟩, hK⟩)
 have hCh := fun u V' (hu : Kp (fun _ => False) wz u) (hA' : CAt u V' C) (hY' : SyAt u V' Y) (hn' : V'.ny = V.ny) => (trace_Changes V' C Y sa sn sc ga gn gc st rows u hA' hY' (by rw [hn']; exact hy) hf hg (hs.kp (KK u hu)) (GS.kp hi (KK u hu)) (by omega) hnm (ht.kp (KK u hu))).mono (R' := fun e w' => ∃ v, e = .returned v ∧ NamV (chK C (namesK Y 108 C.lats.length) st rows (gn - 1)) (gn - 1) w' v ∧ Kp (fun _ => False) u w') (by
  rintro e w' ⟨v, rfl, hO, hK⟩
  obtain ⟨a, c, ev, -, -, -, hr⟩ := hO.form
  rw [strs_length, chK_len] at ev
  exact ⟨v, rfl, ⟨a, c, ev, hr⟩, hK⟩)
 have hRc := fun u (hu : Kp (fun _ => False) wz u) => (ref47_Changes V C Y sa sn sc ga gn gc st rows u (h.kp (KK u hu)) (hY.kp (KK u hu)) hy hf hg (hs.kp (KK u hu)) (GS.kp hi (KK u hu)) (by omega) hnm).mono (R' := fun e w' => ∃ v, e = .returned v ∧ NamV (chK C (namesK Y 108 C.lats.length) st rows (gn - 1)) (gn - 1) w' v ∧ Kp (fun _ => False) u w') (by
  rintro e w' ⟨v, rfl, hO, hK⟩
  obtain ⟨a, c, ev, -, -, -, hr⟩ := hO.form
  rw [strs_length, chK_len] at ev
  exact ⟨v, rfl, ⟨a, c, ev, hr⟩, hK⟩)
 have hcn := cntN_le hf6 kind
 have hNl0 := namesK_len Y kind (cntN C kind)
 have hCl0 := chK_len C (namesK Y 108 C.lats.length) st rows (gn - 1)
 obtain ⟨nn, hnn⟩ : ∃ n, cntN C kind = n := ⟨_, rfl⟩
 obtain ⟨cc, hcc⟩ : ∃ n, gn - 1 = n := ⟨_, rfl⟩
 simp only [hnn] at hNm hRn hNl0 hcn
 simp only [hcc] at hCh hRc hCl0
 obtain ⟨NN, hNN⟩ : ∃ N, namesK Y kind nn = N := ⟨_, rfl⟩
 obtain ⟨CC, hCC⟩ : ∃ N, chK C (namesK Y 108 C.lats.length) st rows cc = N := ⟨_, rfl⟩
 simp only [hNN] at hNm hRn hNl0
 simp only [hCC] at hCh hRc hCl0
 have hNl : NN.length = nn := hNl0
 have hCl : CC.length = cc := hCl0
 obtain ⟨TT, hTT⟩ : ∃ s : ByteArray, (⟨(trcB C st rows gn).toArray⟩ : ByteArray) = s := ⟨_, rfl⟩
 simp only [hTT] at hWr hRw
 have HNn := Lib.hid hNl
 have HCn := Lib.hid hCl
 have hcc1 : cc ≤ 12 := by omega
 have hRd := fun u V' (hu : Kp (fun _ => False) wz u) (hA' : CAt u V' C) (hn' : V'.ny = V.ny) => trace_Read V' C st rows gn TT u hA' hf (by rw [hn']; exact hy) hg (by omega) hTT.symm (ht.kp (KK u hu)) (by obtain ⟨m, hm⟩ := hm; exact ⟨m, (KK u hu).cellK hm⟩)
 have HBs := Lib.hid hs
 have HGs := Lib.hid hi
 unfold cvals at HSm HOw hWr hRw hNm hRn hCh hRc hRd HZ ⊢
 have HWr := Lib.hid hWr
 have HRw := Lib.hid hRw
 have HNm := Lib.hid hNm
 have HRn := Lib.hid hRn
 have HCh := Lib.hid hCh
 have HRc := Lib.hid hRc
 have HRd := Lib.hid hRd
 clear hwz h hY hS hSh hs hi hN ht hm hf hg hy hf6 hnm KK hWr hRw hNm hRn hCh hRc hRd hNN hnn hNl hCC hcc hCl hNl0 hCl0 hTT
 go_enter Tryz.func3, Tryz.ntmps3
 go_upto_region 1 with fail
 rw [← HZ.out]
 clear HZ
 go_upto_region 3 with (first
  |(go_at_call 4; with_reducible refine Calls.mono HSm.out ?_; rintro e w1 ⟨rfl, hK1⟩; have HSh1 := Lib.hid (HSh.out w1 hK1); have HK1 := Lib.hid hK1; have r0 := (HR0.out.kp hK1 (fun h => h)).cell (i := 0) (v := .slice sa sn sc) rfl; have r1 := (HR0.out.kp hK1 (fun h => h)).cell (i := 1) (v := .slice ga gn gc) rfl; clear hK1)
  |(go_at_call 5; with_reducible refine Calls.mono HSh1.out ?_; rintro e w2 ⟨rfl, hK2⟩; have HB0 := Lib.hid (HK1.out.trans hK2 (fun _ _ h => h)); clear hK2))
 clear d0 d1 d2 d3 d4 d5 d6 d7 d8 r0 r1 HSm HSh HSh1 HK1
 refine wp_region_loose (p := upTo 4) (V := atV [EqV (.agg #[.int .i64 C.max, .slice V.ai C.ins.length V.ci, .slice V.al C.lats.length V.cl, .slice V.ao C.outs.length V.co, .slice V.ab C.bads.length V.cb, .slice V.ac C.cons.length V.cc, .slice V.ag C.gates.length V.cg, .slice V.ay V.ny V.cy, .string V.cm]), (OwnCV V C Y), EqV (.agg #[.slice sa sn sc, .slice ga gn gc]), EqV (.string TT)]) (LP := #[true, true, true, true, false]) (K := 1) (by kernel_rfl) (by kernel_rfl) (atV_st ?hstL3) ?hstepL3 (by kernel_rfl) ?hLPL3 (by kernel_rfl) ?hendL3
 case hstL3 =>
  intro W h
  simp only [List.mem_cons, List.not_mem_nil, or_false] at h
  rcases h with rfl | rfl | rfl | rfl <;> first | exact EqV.st _ | exact OwnCV.st _ _ _
 case hLPL3 => exact upTo_spec (by kernel_rfl)
 case hstepL3 =>
  intro i o ho hp a u hk hoff hdep
  have e3 : a.tmps[3]?.getD undef = (.pointer (some ⟨w.heap.size, 0, none⟩)) := slot_at (hoff 3 (noDst_spec (by kernel_rfl)))
  have e4 : a.tmps[4]?.getD undef = (.pointer (some ⟨w.heap.size + 1, 0, none⟩)) := slot_at (hoff 4 (noDst_spec (by kernel_rfl)))
  clear hoff
  match i, ho with
  |0, ho =>
   obtain rfl := Option.some.inj ho
   obtain ⟨d0, d1, d2, d3, d4, d5, d6, d7, d8⟩ := Blk.cells9 (HC0.out.kp (HB0.out.trans hk (fun _ _ h => h)) (fun h => h))
   refine lw_value (v := .agg #[.int .i64 C.max, .slice V.ai C.ins.length V.ci, .slice V.al C.lats.length V.cl, .slice V.ao C.outs.length V.co, .slice V.ab C.bads.length V.cb, .slice V.ac C.cons.length V.cc, .slice V.ag C.gates.length V.cg, .slice V.ay V.ny V.cy, .string V.cm]) (u' := u) ?_ (Kp.refl _ _) rfl
   go_simp
  |1, ho =>
   obtain rfl := Option.some.inj ho
   have e22 : a.tmps[22]?.getD undef = .agg #[.int .i64 C.max, .slice V.ai C.ins.length V.ci, .slice V.al C.lats.length V.cl, .slice V.ao C.outs.length V.co, .slice V.ab C.bads.length V.cb, .slice V.ac C.cons.length V.cc, .slice V.ag C.gates.length V.cg, .slice V.ay V.ny V.cy, .string V.cm] := slot_at (hdep ⟨0, .data⟩ (by simp) rfl _ 22 rfl rfl)
   refine lw_call (f := 8) (args := #[.agg #[.int .i64 C.max, .slice V.ai C.ins.length V.ci, .slice V.al C.lats.length V.cl, .slice V.ao C.outs.length V.co, .slice V.ab C.bads.length V.cb, .slice V.ac C.cons.length V.cc, .slice V.ag C.gates.length V.cg, .slice V.ay V.ny V.cy, .string V.cm]]) ?_ ?_
   ·go_simp
   ·exact (HOw.out u (HB0.out.trans hk (fun _ _ h => h))).mono (by
     rintro e u' ⟨v, rfl, hV, hK⟩
     exact ⟨v, rfl, hK, hV⟩)
  |2, ho =>
   obtain rfl := Option.some.inj ho
   have r0 := (HR0.out.kp (HB0.out.trans hk (fun _ _ h => h)) (fun h => h)).cell (i := 0) (v := .slice sa sn sc) rfl
   have r1 := (HR0.out.kp (HB0.out.trans hk (fun _ _ h => h)) (fun h => h)).cell (i := 1) (v := .slice ga gn gc) rfl
   refine lw_value (v := .agg #[.slice sa sn sc, .slice ga gn gc]) (u' := u) ?_ (Kp.refl _ _) rfl
   go_simp
  |3, ho =>
   obtain rfl := Option.some.inj ho
   have e24 : a.tmps[24]?.getD undef = .agg #[.slice sa sn sc, .slice ga gn gc] := slot_at (hdep ⟨2, .data⟩ (by simp) rfl _ 24 rfl rfl)
   have hV : (OwnCV V C Y) u (a.tmps.getD 23 undef) := hdep ⟨1, .data⟩ (by simp) rfl _ 23 rfl rfl
   obtain ⟨V', ev, hA', hY', hn'⟩ := hV
   have e23 := slot_at ev
   unfold cvals at e23
   clear ev
   refine lw_call (f := 7) (args := #[.agg #[.int .i64 C.max, .slice V'.ai C.ins.length V'.ci, .slice V'.al C.lats.length V'.cl, .slice V'.ao C.outs.length V'.co, .slice V'.ab C.bads.length V'.cb, .slice V'.ac C.cons.length V'.cc, .slice V'.ag C.gates.length V'.cg, .slice V'.ay V'.ny V'.cy, .string V'.cm], .agg #[.slice sa sn sc, .slice ga gn gc]]) ?_ ?_
   ·go_simp
   ·exact (HWr.out u V' (HB0.out.trans hk (fun _ _ h => h)) hA' hn').mono (by
     rintro e u' ⟨rfl, hK⟩
     exact ⟨_, rfl, hK, rfl⟩)
  |n + 4, _ => exact absurd hp (by simp [upTo])
 case hendL3 =>
  intro a u hI
  have hsz : a.tmps.size = 114 := hI.size
  have hdf : a.defers = [] := hI.defers
  have f0 : a.tmps.getD 0 undef = _ := hI.off 0 (noDst_spec (p := upTo 4) (by kernel_rfl))
  have f1 : a.tmps.getD 1 undef = _ := hI.off 1 (noDst_spec (p := upTo 4) (by kernel_rfl))
  have f2 : a.tmps.getD 2 undef = _ := hI.off 2 (noDst_spec (p := upTo 4) (by kernel_rfl))
  have f3 : a.tmps.getD 3 undef = _ := hI.off 3 (noDst_spec (p := upTo 4) (by kernel_rfl))
  have f4 : a.tmps.getD 4 undef = _ := hI.off 4 (noDst_spec (p := upTo 4) (by kernel_rfl))
  have f5 : a.tmps.getD 5 undef = _ := hI.off 5 (noDst_spec (p := upTo 4) (by kernel_rfl))
  have f6 : a.tmps.getD 6 undef = _ := hI.off 6 (noDst_spec (p := upTo 4) (by kernel_rfl))
  have f7 : a.tmps.getD 7 undef = _ := hI.off 7 (noDst_spec (p := upTo 4) (by kernel_rfl))
  have f8 : a.tmps.getD 8 undef = _ := hI.off 8 (noDst_spec (p := upTo 4) (by kernel_rfl))
  have f9 : a.tmps.getD 9 undef = _ := hI.off 9 (noDst_spec (p := upTo 4) (by kernel_rfl))
  have f10 : a.tmps.getD 10 undef = _ := hI.off 10 (noDst_spec (p := upTo 4) (by kernel_rfl))
  have f11 : a.tmps.getD 11 undef = _ := hI.off 11 (noDst_spec (p := upTo 4) (by kernel_rfl))
  have f12 : a.tmps.getD 12 undef = _ := hI.off 12 (noDst_spec (p := upTo 4) (by kernel_rfl))
  have f13 : a.tmps.getD 13 undef = _ := hI.off 13 (noDst_spec (p := upTo 4) (by kernel_rfl))
  have f14 : a.tmps.getD 14 undef = _ := hI.off 14 (noDst_spec (p := upTo 4) (by kernel_rfl))
  have f15 : a.tmps.getD 15 undef = _ := hI.off 15 (noDst_spec (p := upTo 4) (by kernel_rfl))
  have f16 : a.tmps.getD 16 undef = _ := hI.off 16 (noDst_spec (p := upTo 4) (by kernel_rfl))
  have f17 : a.tmps.getD 17 undef = _ := hI.off 17 (noDst_spec (p := upTo 4) (by kernel_rfl))
  have f18 : a.tmps.getD 18 undef = _ := hI.off 18 (noDst_spec (p := upTo 4) (by kernel_rfl))
  have f19 : a.tmps.getD 19 undef = _ := hI.off 19 (noDst_spec (p := upTo 4) (by kernel_rfl))
  have f20 : a.tmps.getD 20 undef = _ := hI.off 20 (noDst_spec (p := upTo 4) (by kernel_rfl))
  have f21 : a.tmps.getD 21 undef = _ := hI.off 21 (noDst_spec (p := upTo 4) (by kernel_rfl))
  have f26 : a.tmps.getD 26 undef = _ := hI.off 26 (noDst_spec (p := upTo 4) (by kernel_rfl))
  have f27 : a.tmps.getD 27 undef = _ := hI.off 27 (noDst_spec (p := upTo 4) (by kernel_rfl))
  have f28 : a.tmps.getD 28 undef = _ := hI.off 28 (noDst_spec (p := upTo 4) (by kernel_rfl))
  have f29 : a.tmps.getD 29 undef = _ := hI.off 29 (noDst_spec (p := upTo 4) (by kernel_rfl))
  have f30 : a.tmps.getD 30 undef = _ := hI.off 30 (noDst_spec (p := upTo 4) (by kernel_rfl))
  have f31 : a.tmps.getD 31 undef = _ := hI.off 31 (noDst_spec (p := upTo 4) (by kernel_rfl))
  have f32 : a.tmps.getD 32 undef = _ := hI.off 32 (noDst_spec (p := upTo 4) (by kernel_rfl))
  have f33 : a.tmps.getD 33 undef = _ := hI.off 33 (noDst_spec (p := upTo 4) (by kernel_rfl))
  have f34 : a.tmps.getD 34 undef = _ := hI.off 34 (noDst_spec (p := upTo 4) (by kernel_rfl))
  have f35 : a.tmps.getD 35 undef = _ := hI.off 35 (noDst_spec (p := upTo 4) (by kernel_rfl))
  have f36 : a.tmps.getD 36 undef = _ := hI.off 36 (noDst_spec (p := upTo 4) (by kernel_rfl))
  have f37 : a.tmps.getD 37 undef = _ := hI.off 37 (noDst_spec (p := upTo 4) (by kernel_rfl))
  have f38 : a.tmps.getD 38 undef = _ := hI.off 38 (noDst_spec (p := upTo 4) (by kernel_rfl))
  have f39 : a.tmps.getD 39 undef = _ := hI.off 39 (noDst_spec (p := upTo 4) (by kernel_rfl))
  have f40 : a.tmps.getD 40 undef = _ := hI.off 40 (noDst_spec (p := upTo 4) (by kernel_rfl))
  have f41 : a.tmps.getD 41 undef = _ := hI.off 41 (noDst_spec (p := upTo 4) (by kernel_rfl))
  have f42 : a.tmps.getD 42 undef = _ := hI.off 42 (noDst_spec (p := upTo 4) (by kernel_rfl))
  have f43 : a.tmps.getD 43 undef = _ := hI.off 43 (noDst_spec (p := upTo 4) (by kernel_rfl))
  have f44 : a.tmps.getD 44 undef = _ := hI.off 44 (noDst_spec (p := upTo 4) (by kernel_rfl))
  have f45 : a.tmps.getD 45 undef = _ := hI.off 45 (noDst_spec (p := upTo 4) (by kernel_rfl))
  have f46 : a.tmps.getD 46 undef = _ := hI.off 46 (noDst_spec (p := upTo 4) (by kernel_rfl))
  have f47 : a.tmps.getD 47 undef = _ := hI.off 47 (noDst_spec (p := upTo 4) (by kernel_rfl))
  have f48 : a.tmps.getD 48 undef = _ := hI.off 48 (noDst_spec (p := upTo 4) (by kernel_rfl))
  have f49 : a.tmps.getD 49 undef = _ := hI.off 49 (noDst_spec (p := upTo 4) (by kernel_rfl))
  have f50 : a.tmps.getD 50 undef = _ := hI.off 50 (noDst_spec (p := upTo 4) (by kernel_rfl))
  have f51 : a.tmps.getD 51 undef = _ := hI.off 51 (noDst_spec (p := upTo 4) (by kernel_rfl))
  have f52 : a.tmps.getD 52 undef = _ := hI.off 52 (noDst_spec (p := upTo 4) (by kernel_rfl))
  have f53 : a.tmps.getD 53 undef = _ := hI.off 53 (noDst_spec (p := upTo 4) (by kernel_rfl))
  have f54 : a.tmps.getD 54 undef = _ := hI.off 54 (noDst_spec (p := upTo 4) (by kernel_rfl))
  have f55 : a.tmps.getD 55 undef = _ := hI.off 55 (noDst_spec (p := upTo 4) (by kernel_rfl))
  have f56 : a.tmps.getD 56 undef = _ := hI.off 56 (noDst_spec (p := upTo 4) (by kernel_rfl))
  have f57 : a.tmps.getD 57 undef = _ := hI.off 57 (noDst_spec (p := upTo 4) (by kernel_rfl))
  have f58 : a.tmps.getD 58 undef = _ := hI.off 58 (noDst_spec (p := upTo 4) (by kernel_rfl))
  have f59 : a.tmps.getD 59 undef = _ := hI.off 59 (noDst_spec (p := upTo 4) (by kernel_rfl))
  have f60 : a.tmps.getD 60 undef = _ := hI.off 60 (noDst_spec (p := upTo 4) (by kernel_rfl))
  have f61 : a.tmps.getD 61 undef = _ := hI.off 61 (noDst_spec (p := upTo 4) (by kernel_rfl))
  have f62 : a.tmps.getD 62 undef = _ := hI.off 62 (noDst_spec (p := upTo 4) (by kernel_rfl))
  have f63 : a.tmps.getD 63 undef = _ := hI.off 63 (noDst_spec (p := upTo 4) (by kernel_rfl))
  have f64 : a.tmps.getD 64 undef = _ := hI.off 64 (noDst_spec (p := upTo 4) (by kernel_rfl))
  have f65 : a.tmps.getD 65 undef = _ := hI.off 65 (noDst_spec (p := upTo 4) (by kernel_rfl))
  have f66 : a.tmps.getD 66 undef = _ := hI.off 66 (noDst_spec (p := upTo 4) (by kernel_rfl))
  have f67 : a.tmps.getD 67 undef = _ := hI.off 67 (noDst_spec (p := upTo 4) (by kernel_rfl))
  have f68 : a.tmps.getD 68 undef = _ := hI.off 68 (noDst_spec (p := upTo 4) (by kernel_rfl))
  have f69 : a.tmps.getD 69 undef = _ := hI.off 69 (noDst_spec (p := upTo 4) (by kernel_rfl))
  have f70 : a.tmps.getD 70 undef = _ := hI.off 70 (noDst_spec (p := upTo 4) (by kernel_rfl))
  have f71 : a.tmps.getD 71 undef = _ := hI.off 71 (noDst_spec (p := upTo 4) (by kernel_rfl))
  have f72 : a.tmps.getD 72 undef = _ := hI.off 72 (noDst_spec (p := upTo 4) (by kernel_rfl))
  have f73 : a.tmps.getD 73 undef = _ := hI.off 73 (noDst_spec (p := upTo 4) (by kernel_rfl))
  have f74 : a.tmps.getD 74 undef = _ := hI.off 74 (noDst_spec (p := upTo 4) (by kernel_rfl))
  have f75 : a.tmps.getD 75 undef = _ := hI.off 75 (noDst_spec (p := upTo 4) (by kernel_rfl))
  have f76 : a.tmps.getD 76 undef = _ := hI.off 76 (noDst_spec (p := upTo 4) (by kernel_rfl))
  have f77 : a.tmps.getD 77 undef = _ := hI.off 77 (noDst_spec (p := upTo 4) (by kernel_rfl))
  have f78 : a.tmps.getD 78 undef = _ := hI.off 78 (noDst_spec (p := upTo 4) (by kernel_rfl))
  have f79 : a.tmps.getD 79 undef = _ := hI.off 79 (noDst_spec (p := upTo 4) (by kernel_rfl))
  have f80 : a.tmps.getD 80 undef = _ := hI.off 80 (noDst_spec (p := upTo 4) (by kernel_rfl))
  have f81 : a.tmps.getD 81 undef = _ := hI.off 81 (noDst_spec (p := upTo 4) (by kernel_rfl))
  have f82 : a.tmps.getD 82 undef = _ := hI.off 82 (noDst_spec (p := upTo 4) (by kernel_rfl))
  have f83 : a.tmps.getD 83 undef = _ := hI.off 83 (noDst_spec (p := upTo 4) (by kernel_rfl))
  have f84 : a.tmps.getD 84 undef = _ := hI.off 84 (noDst_spec (p := upTo 4) (by kernel_rfl))
  have f85 : a.tmps.getD 85 undef = _ := hI.off 85 (noDst_spec (p := upTo 4) (by kernel_rfl))
  have f86 : a.tmps.getD 86 undef = _ := hI.off 86 (noDst_spec (p := upTo 4) (by kernel_rfl))
  have f87 : a.tmps.getD 87 undef = _ := hI.off 87 (noDst_spec (p := upTo 4) (by kernel_rfl))
  have f88 : a.tmps.getD 88 undef = _ := hI.off 88 (noDst_spec (p := upTo 4) (by kernel_rfl))
  have f89 : a.tmps.getD 89 undef = _ := hI.off 89 (noDst_spec (p := upTo 4) (by kernel_rfl))
  have f90 : a.tmps.getD 90 undef = _ := hI.off 90 (noDst_spec (p := upTo 4) (by kernel_rfl))
  have f91 : a.tmps.getD 91 undef = _ := hI.off 91 (noDst_spec (p := upTo 4) (by kernel_rfl))
  have f92 : a.tmps.getD 92 undef = _ := hI.off 92 (noDst_spec (p := upTo 4) (by kernel_rfl))
  have f93 : a.tmps.getD 93 undef = _ := hI.off 93 (noDst_spec (p := upTo 4) (by kernel_rfl))
  have f94 : a.tmps.getD 94 undef = _ := hI.off 94 (noDst_spec (p := upTo 4) (by kernel_rfl))
  have f95 : a.tmps.getD 95 undef = _ := hI.off 95 (noDst_spec (p := upTo 4) (by kernel_rfl))
  have f96 : a.tmps.getD 96 undef = _ := hI.off 96 (noDst_spec (p := upTo 4) (by kernel_rfl))
  have f97 : a.tmps.getD 97 undef = _ := hI.off 97 (noDst_spec (p := upTo 4) (by kernel_rfl))
  have f98 : a.tmps.getD 98 undef = _ := hI.off 98 (noDst_spec (p := upTo 4) (by kernel_rfl))
  have f99 : a.tmps.getD 99 undef = _ := hI.off 99 (noDst_spec (p := upTo 4) (by kernel_rfl))
  have f100 : a.tmps.getD 100 undef = _ := hI.off 100 (noDst_spec (p := upTo 4) (by kernel_rfl))
  have f101 : a.tmps.getD 101 undef = _ := hI.off 101 (noDst_spec (p := upTo 4) (by kernel_rfl))
  have f102 : a.tmps.getD 102 undef = _ := hI.off 102 (noDst_spec (p := upTo 4) (by kernel_rfl))
  have f103 : a.tmps.getD 103 undef = _ := hI.off 103 (noDst_spec (p := upTo 4) (by kernel_rfl))
  have f104 : a.tmps.getD 104 undef = _ := hI.off 104 (noDst_spec (p := upTo 4) (by kernel_rfl))
  have f105 : a.tmps.getD 105 undef = _ := hI.off 105 (noDst_spec (p := upTo 4) (by kernel_rfl))
  have f106 : a.tmps.getD 106 undef = _ := hI.off 106 (noDst_spec (p := upTo 4) (by kernel_rfl))
  have f107 : a.tmps.getD 107 undef = _ := hI.off 107 (noDst_spec (p := upTo 4) (by kernel_rfl))
  have f108 : a.tmps.getD 108 undef = _ := hI.off 108 (noDst_spec (p := upTo 4) (by kernel_rfl))
  have f109 : a.tmps.getD 109 undef = _ := hI.off 109 (noDst_spec (p := upTo 4) (by kernel_rfl))
  have f110 : a.tmps.getD 110 undef = _ := hI.off 110 (noDst_spec (p := upTo 4) (by kernel_rfl))
  have f111 : a.tmps.getD 111 undef = _ := hI.off 111 (noDst_spec (p := upTo 4) (by kernel_rfl))
  have f112 : a.tmps.getD 112 undef = _ := hI.off 112 (noDst_spec (p := upTo 4) (by kernel_rfl))
  have f113 : a.tmps.getD 113 undef = _ := hI.off 113 (noDst_spec (p := upTo 4) (by kernel_rfl))
  have f22 : a.tmps.getD 22 undef = .agg #[.int .i64 C.max, .slice V.ai C.ins.length V.ci, .slice V.al C.lats.length V.cl, .slice V.ao C.outs.length V.co, .slice V.ab C.bads.length V.cb, .slice V.ac C.cons.length V.cc, .slice V.ag C.gates.length V.cg, .slice V.ay V.ny V.cy, .string V.cm] := hI.val 0 _ 22 rfl rfl rfl
  have g23 : ((OwnCV V C Y)) u (a.tmps.getD 23 undef) := hI.val 1 _ 23 rfl rfl rfl
  have f24 : a.tmps.getD 24 undef = .agg #[.slice sa sn sc, .slice ga gn gc] := hI.val 2 _ 24 rfl rfl rfl
  have f25 : a.tmps.getD 25 undef = .string TT := hI.val 3 _ 25 rfl rfl rfl
  have ha : a = ⟨#[a.tmps.getD 0 undef, a.tmps.getD 1 undef, a.tmps.getD 2 undef, a.tmps.getD 3 undef, a.tmps.getD 4 undef, a.tmps.getD 5 undef, a.tmps.getD 6 undef, a.tmps.getD 7 undef, a.tmps.getD 8 undef, a.tmps.getD 9 undef, a.tmps.getD 10 undef, a.tmps.getD 11 undef, a.tmps.getD 12 undef, a.tmps.getD 13 undef, a.tmps.getD 14 undef, a.tmps.getD 15 undef, a.tmps.getD 16 undef, a.tmps.getD 17 undef, a.tmps.getD 18 undef, a.tmps.getD 19 undef, a.tmps.getD 20 undef, a.tmps.getD 21 undef, a.tmps.getD 22 undef, a.tmps.getD 23 undef, a.tmps.getD 24 undef, a.tmps.getD 25 undef, a.tmps.getD 26 undef, a.tmps.getD 27 undef, a.tmps.getD 28 undef, a.tmps.getD 29 undef, a.tmps.getD 30 undef, a.tmps.getD 31 undef, a.tmps.getD 32 undef, a.tmps.getD 33 undef, a.tmps.getD 34 undef, a.tmps.getD 35 undef, a.tmps.getD 36 undef, a.tmps.getD 37 undef, a.tmps.getD 38 undef, a.tmps.getD 39 undef, a.tmps.getD 40 undef, a.tmps.getD 41 undef, a.tmps.getD 42 undef, a.tmps.getD 43 undef, a.tmps.getD 44 undef, a.tmps.getD 45 undef, a.tmps.getD 46 undef, a.tmps.getD 47 undef, a.tmps.getD 48 undef, a.tmps.getD 49 undef, a.tmps.getD 50 undef, a.tmps.getD 51 undef, a.tmps.getD 52 undef, a.tmps.getD 53 undef, a.tmps.getD 54 undef, a.tmps.getD 55 undef, a.tmps.getD 56 undef, a.tmps.getD 57 undef, a.tmps.getD 58 undef, a.tmps.getD 59 undef, a.tmps.getD 60 undef, a.tmps.getD 61 undef, a.tmps.getD 62 undef, a.tmps.getD 63 undef, a.tmps.getD 64 undef, a.tmps.getD 65 undef, a.tmps.getD 66 undef, a.tmps.getD 67 undef, a.tmps.getD 68 undef, a.tmps.getD 69 undef, a.tmps.getD 70 undef, a.tmps.getD 71 undef, a.tmps.getD 72 undef, a.tmps.getD 73 undef, a.tmps.getD 74 undef, a.tmps.getD 75 undef, a.tmps.getD 76 undef, a.tmps.getD 77 undef, a.tmps.getD 78 undef, a.tmps.getD 79 undef, a.tmps.getD 80 undef, a.tmps.getD 81 undef, a.tmps.getD 82 undef, a.tmps.getD 83 undef, a.tmps.getD 84 undef, a.tmps.getD 85 undef, a.tmps.getD 86 undef, a.tmps.getD 87 undef, a.tmps.getD 88 undef, a.tmps.getD 89 undef, a.tmps.getD 90 undef, a.tmps.getD 91 undef, a.tmps.getD 92 undef, a.tmps.getD 93 undef, a.tmps.getD 94 undef, a.tmps.getD 95 undef, a.tmps.getD 96 undef, a.tmps.getD 97 undef, a.tmps.getD 98 undef, a.tmps.getD 99 undef, a.tmps.getD 100 undef, a.tmps.getD 101 undef, a.tmps.getD 102 undef, a.tmps.getD 103 undef, a.tmps.getD 104 undef, a.tmps.getD 105 undef, a.tmps.getD 106 undef, a.tmps.getD 107 undef, a.tmps.getD 108 undef, a.tmps.getD 109 undef, a.tmps.getD 110 undef, a.tmps.getD 111 undef, a.tmps.getD 112 undef, a.tmps.getD 113 undef], a.defers⟩ := act_list a 114 hsz
  rw [hdf, f0, f1, f2, f3, f4, f5, f6, f7, f8, f9, f10, f11, f12, f13, f14, f15, f16, f17, f18, f19, f20, f21, f22, f24, f25, f26, f27, f28, f29, f30, f31, f32, f33, f34, f35, f36, f37, f38, f39, f40, f41, f42, f43, f44, f45, f46, f47, f48, f49, f50, f51, f52, f53, f54, f55, f56, f57, f58, f59, f60, f61, f62, f63, f64, f65, f66, f67, f68, f69, f70, f71, f72, f73, f74, f75, f76, f77, f78, f79, f80, f81, f82, f83, f84, f85, f86, f87, f88, f89, f90, f91, f92, f93, f94, f95, f96, f97, f98, f99, f100, f101, f102, f103, f104, f105, f106, f107, f108, f109, f110, f111, f112, f113] at ha
  obtain ⟨x23, hx23⟩ : ∃ x, a.tmps.getD 23 undef = x := ⟨_, rfl⟩
  rw [hx23] at ha
  rw [hx23] at g23
  have hku := hI.kp
  clear hI hsz hdf f0 f1 f2 f3 f4 f5 f6 f7 f8 f9 f10 f11 f12 f13 f14 f15 f16 f17 f18 f19 f20 f21 f22 f24 f25 f26 f27 f28 f29 f30 f31 f32 f33 f34 f35 f36 f37 f38 f39 f40 f41 f42 f43 f44 f45 f46 f47 f48 f49 f50 f51 f52 f53 f54 f55 f56 f57 f58 f59 f60 f61 f62 f63 f64 f65 f66 f67 f68 f69 f70 f71 f72 f73 f74 f75 f76 f77 f78 f79 f80 f81 f82 f83 f84 f85 f86 f87 f88 f89 f90 f91 f92 f93 f94 f95 f96 f97 f98 f99 f100 f101 f102 f103 f104 f105 f106 f107 f108 f109 f110 f111 f112 f113 hx23
  subst ha
  refine wpAny_tail 4 rfl (by kernel_rfl) ?_
  simp only [List.drop_succ_cons, List.drop_zero]
  clear g23
  have HB1 := Lib.hid (HB0.out.trans hku (fun _ _ h => h))
  clear HB0 hku
  have HB0 := HB1
  clear HB1
  go_upto_region 4 with fail
  obtain ⟨wv, hwv⟩ : ∃ wv : World, wv = u := ⟨_, rfl⟩
  rw [← hwv] at HB0 ⊢
  clear hwv
  go_cut [52] from 26 to 51 (fun s52 wx => s52 = .bool false ∧ Kp (fun _ => False) wv wx)
  case rest =>
   obtain ⟨rfl, hku⟩ := hcut
   obtain ⟨u, rfl⟩ : ∃ x : World, x = wc := ⟨_, rfl⟩
   have HB1 := Lib.hid (HB0.out.trans hku (fun _ _ h => h))
   clear HB0 hku
   have HC1 := Lib.hid (HC0.out.kp HB1.out (fun h => h))
   have HR1 := Lib.hid (HR0.out.kp HB1.out (fun h => h))
   obtain ⟨d0, d1, d2, d3, d4, d5, d6, d7, d8⟩ := Blk.cells9 HC1.out
   have r0 := HR1.out.cell (i := 0) (v := .slice sa sn sc) rfl
   have r1 := HR1.out.cell (i := 1) (v := .slice ga gn gc) rfl
   obtain ⟨nl, hnl⟩ : ∃ n, C.lats.length = n := ⟨_, rfl⟩
   obtain ⟨ni, hni⟩ : ∃ n, C.ins.length = n := ⟨_, rfl⟩
   obtain ⟨rg, hrg⟩ : ∃ rg : Nat → Bool, rg = fun k => decide ((sn = nl ∧ 0 < gn) ∧ ∀ j, j < k → (gb rows j).length = ni) := ⟨_, rfl⟩
   have HRG := Lib.hid hrg
   have HNL := Lib.hid hnl
   have HNI := Lib.hid hni
   rw [hnl] at d2
   rw [hni] at d1
   clear hrg hnl hni
   obtain ⟨wu, hwu⟩ : ∃ wu : World, wu = u := ⟨_, rfl⟩
   subst hwu
   go_upto_region 6 with fail
   go_cut [8] from 53 to 65 (fun s8 wx => s8 = .bool (rg 0) ∧ wu = wx)
   case first =>
    have HQ := Lib.hid (show rg 0 = decide (sn = nl ∧ 0 < gn) by rw [HRG.out]; exact decide_eq_decide.2 ⟨fun h => h.1, fun h => ⟨h, fun j hj => absurd hj (Nat.not_lt_zero j)⟩⟩)
    go_wp2_with fail
    all_goals go_meet
    all_goals refine ⟨?_, rfl⟩
    all_goals rw [HQ.out]
    ·exact congrArg Value.bool (decide_eq_decide.2 ⟨fun q => ⟨by omega, q⟩, fun q => q.2⟩)
    ·exact congrArg Value.bool (decide_eq_false (fun q => by have := q.1; omega)).symm
   case rest =>
   obtain ⟨rfl, rfl⟩ := hcut
   have HGS := Lib.hid (show GS wu ga gn gc rows from GS.kp HGs.out (HK0.out.trans HB1.out (fun _ _ h => h)))
   have HRS := Lib.hid (show ∀ k, rg (k + 1) = (rg k && decide ((gb rows k).length = ni)) from fun k => by
    rw [HRG.out]
    show decide _ = (decide _ && decide _)
    rw [← Bool.decide_and]
    refine decide_eq_decide.2 ⟨fun h => ⟨⟨h.1, fun j hj => h.2 j (by omega)⟩, h.2 k (by omega)⟩, fun h => ⟨h.1.1, fun j hj => ?_⟩⟩
    by_cases e : j = k
    ·rw [e]; exact h.2
    ·exact h.1.2 j (by omega))
   clear r0 d0 d2 d3 d4 d5 d6 d7 d8
   go_wp2_with fail
   simp only [Array.getD_eq_getD_getElem?, List.getElem?_toArray, List.getElem?_cons_zero, List.getElem?_cons_succ, Option.getD_some]
   go_loopw [8, 9] (fun v8 v9 wr => ∃ k : Nat, k ≤ gn ∧ v8 = .bool (rg k) ∧ v9 = .int .i64 k ∧ ∃ n, wr = wu.drewN n) (fun _ v9 _ => gn - (intOf v9).toNat)
   case atStart => exact ⟨0, Nat.zero_le _, rfl, rfl, 0, rfl⟩
   case round =>
    obtain ⟨k, hk, rfl, rfl, n, rfl⟩ := hrel
    by_cases hlt : k < gn
    ·have dd : decide ((k : Int) < (gn : Int)) = true := by simp; omega
     obtain ⟨bg, og, bb, m, d, rfl, cg, hB⟩ := HGS.out.at hlt
     have HBl := Lib.hid hB.len
     clear hB
     obtain ⟨q, hq⟩ : ∃ q, rg k = q := ⟨_, rfl⟩
     have HQ := Lib.hid hq
     rw [hq]
     clear hq
     cases q with
     |false =>
      go_wp2_with fail
      go_quiet (fail)
      go_wp2_with fail
      go_roundw
      case rel =>
       refine ⟨k + 1, hlt, ?_, by go_num, ?_⟩
       ·rw [HRS.out, HQ.out]; rfl
       ·try simp only [drewN_twice]
        exact ⟨_, rfl⟩
      case measure => simp [intOf]; omega
     |true =>
      go_wp2_with fail
      go_quiet (fail)
      go_wp2_with fail
      go_roundw
      case rel =>
       refine ⟨k + 1, hlt, ?_, by go_num, ?_⟩
       ·rw [HRS.out, HQ.out, show (gb rows k).length = m from HBl.out, Bool.true_and]
        exact congrArg Value.bool (by rw [Bool.eq_iff_iff]; simp; omega)
       ·try simp only [drewN_twice]
        exact ⟨_, rfl⟩
      case measure => simp [intOf]; omega
    ·have dd : decide ((k : Int) < (gn : Int)) = false := by simp; omega
     have hkg : k = gn := by omega
     have HKG := Lib.hid hkg
     obtain ⟨q, hq⟩ : ∃ q, rg k = q := ⟨_, rfl⟩
     have HQ := Lib.hid hq
     rw [hq]
     clear hq hkg d1
     obtain ⟨d0, d1, d2, d3, d4, d5, d6, d7, d8⟩ := Blk.cells9 HC1.out
     have HOw1 := Lib.hid (HOw.out (wu.drewN n) (HB1.out.drewN n))
     clear HOw
     go_upto_region 12 with (first
      |(go_at_call 8; go_loud ((with_reducible refine Calls.mono HOw1.out ?_); rintro e w1 ⟨v, rfl, ⟨V', rfl, hA', -, hn'⟩, hK1⟩; have HB2 := Lib.hid ((HB1.out.drewN n).trans hK1 (fun _ _ h => h)); have HRd1 := Lib.hid (HRd.out w1 V' HB2.out hA' hn'); clear hA' hn' hK1; unfold cvals))
      |(go_at_call 15; (with_reducible refine Calls.mono HRd1.out ?_); rintro e w2 ⟨x0, x1, rfl, hO0, hG1, hK2⟩; have HB3 := Lib.hid (HB2.out.trans hK2 (fun _ _ h => h)); obtain ⟨a0, c0, rfl, -⟩ := hO0.form; have HO0 := Lib.hid hO0; obtain ⟨a1, n1, c1, rfl⟩ := ownGrid_form hG1; have HG1 := Lib.hid hG1; clear hO0 hG1 hK2))
     obtain ⟨wf, hwf⟩ : ∃ wf : World, wf = w2.alloc (.cells #[.slice a0 (bv (s0R C st gn)).length c0, .slice a1 n1 c1] 31) := ⟨_, rfl⟩
     have HBf := Lib.hid (show Blk wf w2.heap.size #[.slice a0 (bv (s0R C st gn)).length c0, .slice a1 n1 c1] 31 by rw [hwf]; exact Blk.new w2 _ _)
     have HKf := Lib.hid (show Kp (fun _ => False) w2 wf by rw [hwf]; exact (Kp.refl _ w2).alloc _)
     have HKz := Lib.hid (HB3.out.trans HKf.out (fun _ _ h => h))
     rw [← hwf]
     clear hwf
     have HLf := Lib.hid (HLv.out wf HKz.out)
     cases q with
     |false =>
      clear d0 d1 d2 d3 d4 d5 d6 d7 d8 r1
      go_wp2_with (first
       |(go_at_call 6; with_reducible refine Calls.mono HLf.out ?_; rintro e w3 ⟨rfl, hK3⟩; have HK3 := Lib.hid ((HK0.out.trans HKz.out (fun _ _ h => h)).trans hK3 (fun _ _ h => h)); clear hK3))
      go_ret
      exact ⟨rfl, HK3.out⟩
     |true =>
      have HP := Lib.hid (show (sn = nl ∧ 0 < gn) ∧ ∀ j, j < gn → (gb rows j).length = ni by
       have h1 := HQ.out
       rw [HKG.out, HRG.out] at h1
       exact of_decide_eq_true h1)
      have hst : s0R C st gn = st := by
       unfold s0R
       rw [if_neg (by have := HP.out.1.2; omega)]
       exact brought_self (by rw [HBs.out.len, HNL.out]; exact HP.out.1.1)
      have hO0 : BoolsSl wf (.slice a0 (bv (s0R C st gn)).length c0) st := by
       have := own_boolsSl HO0.out
       rw [hst] at this ⊢
       exact this.kp HKf.out
      have hO1 : GridSl wf (.slice a1 n1 c1) rows := by
       refine GridSl.kp (ownGrid_sl HG1.out HGs.out.len fun j hj => ?_) HKf.out
       exact brought_self (by rw [HNI.out]; exact HP.out.2 j hj)
      have HSa := Lib.hid (ref18_SameI 0 0 _ _ _ _ st rows wf hO0 hO1 (hsb.kp (HK0.out.trans HKz.out (fun _ _ h => h))) (hib.kp (HK0.out.trans HKz.out (fun _ _ h => h))) (by rw [HGs.out.len]; omega))
      clear d0 d1 d2 d3 d4 d5 d6 d7 d8 r1 hst hO0 hO1
      have r0 := (HR0.out.kp HKz.out (fun h => h)).cell (i := 0) (v := .slice sa sn sc) rfl
      have r1 := (HR0.out.kp HKz.out (fun h => h)).cell (i := 1) (v := .slice ga gn gc) rfl
      have x0 := HBf.out.cell (i := 0) (v := .slice a0 (bv (s0R C st gn)).length c0) rfl
      have x1 := HBf.out.cell (i := 1) (v := .slice a1 n1 c1) rfl
      go_wp2_with (first
       |(go_at_call 16; with_reducible refine Calls.mono HSa.out ?_; rintro e w4 ⟨rfl, hK4⟩; have HKy := Lib.hid (HKz.out.trans hK4 (fun _ _ h => h)); have HLg := Lib.hid (HLv.out w4 HKy.out); clear hK4)
       |(go_at_call 6; with_reducible refine Calls.mono HLg.out ?_; rintro e w3 ⟨rfl, hK3⟩; have HK3 := Lib.hid ((HK0.out.trans HKy.out (fun _ _ h => h)).trans hK3 (fun _ _ h => h)); clear hK3))
      go_ret
      exact ⟨rfl, HK3.out⟩
  case first =>
   refine wp_region_looseG (p := upTo 27) (V := atV [EqV ((.string TT)), EqV (.agg #[.int .i64 C.max, .slice V.ai C.ins.length V.ci, .slice V.al C.lats.length V.cl, .slice V.ao C.outs.length V.co, .slice V.ab C.bads.length V.cb, .slice V.ac C.cons.length V.cc, .slice V.ag C.gates.length V.cg, .slice V.ay V.ny V.cy, .string V.cm]), EqV (.agg #[.slice sa sn sc, .slice ga gn gc]), EqV (.string TT), EqV (.bool false), EqV (.bool false), EqV (.agg #[.int .i64 C.max, .slice V.ai C.ins.length V.ci, .slice V.al C.lats.length V.cl, .slice V.ao C.outs.length V.co, .slice V.ab C.bads.length V.cb, .slice V.ac C.cons.length V.cc, .slice V.ag C.gates.length V.cg, .slice V.ay V.ny V.cy, .string V.cm]), (OwnCV V C Y), EqV ((.int .u8 (kind : Int))), (NamV NN nn), EqV (.agg #[.int .i64 C.max, .slice V.ai C.ins.length V.ci, .slice V.al C.lats.length V.cl, .slice V.ao C.outs.length V.co, .slice V.ab C.bads.length V.cb, .slice V.ac C.cons.length V.cc, .slice V.ag C.gates.length V.cg, .slice V.ay V.ny V.cy, .string V.cm]), EqV ((.int .u8 (kind : Int))), (NamV NN nn), EqV (.bool true), EqV (.bool false), EqV (.bool false), EqV (.bool false), EqV (.agg #[.int .i64 C.max, .slice V.ai C.ins.length V.ci, .slice V.al C.lats.length V.cl, .slice V.ao C.outs.length V.co, .slice V.ab C.bads.length V.cb, .slice V.ac C.cons.length V.cc, .slice V.ag C.gates.length V.cg, .slice V.ay V.ny V.cy, .string V.cm]), (OwnCV V C Y), EqV (.agg #[.slice sa sn sc, .slice ga gn gc]), (NamV CC cc), EqV (.agg #[.int .i64 C.max, .slice V.ai C.ins.length V.ci, .slice V.al C.lats.length V.cl, .slice V.ao C.outs.length V.co, .slice V.ab C.bads.length V.cb, .slice V.ac C.cons.length V.cc, .slice V.ag C.gates.length V.cg, .slice V.ay V.ny V.cy, .string V.cm]), EqV (.agg #[.slice sa sn sc, .slice ga gn gc]), (NamV CC cc), EqV (.bool true), EqV (.bool false), EqV (.bool false)]) (LP := #[true, true, true, true, true, true, true, true, true, true, true, true, true, true, true, true, true, true, true, true, true, true, true, true, true, true, true]) (K := 0) (by kernel_rfl) (by kernel_rfl) (atV_st ?hstL4) ?hstepL4 (by kernel_rfl) ?hLPL4 (by kernel_rfl) ?hendL4
   case hstL4 =>
    intro W h
    simp only [List.mem_cons, List.not_mem_nil, or_false] at h
    rcases h with rfl | rfl | rfl | rfl | rfl | rfl | rfl | rfl | rfl | rfl | rfl | rfl | rfl | rfl | rfl | rfl | rfl | rfl | rfl | rfl | rfl | rfl | rfl | rfl | rfl | rfl | rfl <;> first | exact EqV.st _ | exact OwnCV.st _ _ _ | exact NamV.st _ _
   case hLPL4 => exact upTo_spec (by kernel_rfl)
   case hstepL4 =>
    intro i o ho hp a u hk hoff hdep
    have e2 : a.tmps[2]?.getD undef = (.int .u8 (kind : Int)) := slot_at (hoff 2 (noDst_spec (by kernel_rfl)))
    have e3 : a.tmps[3]?.getD undef = (.pointer (some ⟨w.heap.size, 0, none⟩)) := slot_at (hoff 3 (noDst_spec (by kernel_rfl)))
    have e4 : a.tmps[4]?.getD undef = (.pointer (some ⟨w.heap.size + 1, 0, none⟩)) := slot_at (hoff 4 (noDst_spec (by kernel_rfl)))
    have e7 : a.tmps[7]?.getD undef = (.string TT) := slot_at (hoff 7 (noDst_spec (by kernel_rfl)))
    clear hoff
    match i, ho with
    |0, ho =>
     obtain rfl := Option.some.inj ho
     refine lg_none rfl ?_
     refine lw_value (v := (.string TT)) (u' := u) ?_ (Kp.refl _ _) rfl
     go_simp
    |1, ho =>
     obtain rfl := Option.some.inj ho
     refine lg_none rfl ?_
     obtain ⟨d0, d1, d2, d3, d4, d5, d6, d7, d8⟩ := Blk.cells9 (HC0.out.kp (HB0.out.trans hk (fun _ _ h => h)) (fun h => h))
     refine lw_value (v := .agg #[.int .i64 C.max, .slice V.ai C.ins.length V.ci, .slice V.al C.lats.length V.cl, .slice V.ao C.outs.length V.co, .slice V.ab C.bads.length V.cb, .slice V.ac C.cons.length V.cc, .slice V.ag C.gates.length V.cg, .slice V.ay V.ny V.cy, .string V.cm]) (u' := u) ?_ (Kp.refl _ _) rfl
     go_simp
    |2, ho =>
     obtain rfl := Option.some.inj ho
     refine lg_none rfl ?_
     have r0 := (HR0.out.kp (HB0.out.trans hk (fun _ _ h => h)) (fun h => h)).cell (i := 0) (v := .slice sa sn sc) rfl
     have r1 := (HR0.out.kp (HB0.out.trans hk (fun _ _ h => h)) (fun h => h)).cell (i := 1) (v := .slice ga gn gc) rfl
     refine lw_value (v := .agg #[.slice sa sn sc, .slice ga gn gc]) (u' := u) ?_ (Kp.refl _ _) rfl
     go_simp
    |3, ho =>
     obtain rfl := Option.some.inj ho
     have e27 : a.tmps[27]?.getD undef = .agg #[.int .i64 C.max, .slice V.ai C.ins.length V.ci, .slice V.al C.lats.length V.cl, .slice V.ao C.outs.length V.co, .slice V.ab C.bads.length V.cb, .slice V.ac C.cons.length V.cc, .slice V.ag C.gates.length V.cg, .slice V.ay V.ny V.cy, .string V.cm] := slot_at (hdep ⟨1, .data⟩ (by simp) rfl _ 27 rfl rfl)
     have e28 : a.tmps[28]?.getD undef = .agg #[.slice sa sn sc, .slice ga gn gc] := slot_at (hdep ⟨2, .data⟩ (by simp) rfl _ 28 rfl rfl)
     refine lg_none rfl ?_
     refine lw_call (f := 9) (args := #[.agg #[.int .i64 C.max, .slice V.ai C.ins.length V.ci, .slice V.al C.lats.length V.cl, .slice V.ao C.outs.length V.co, .slice V.ab C.bads.length V.cb, .slice V.ac C.cons.length V.cc, .slice V.ag C.gates.length V.cg, .slice V.ay V.ny V.cy, .string V.cm], .agg #[.slice sa sn sc, .slice ga gn gc]]) ?_ ?_
     ·go_simp
     ·exact (HRw.out u (HB0.out.trans hk (fun _ _ h => h))).mono (by
       rintro e u' ⟨rfl, hK⟩
       exact ⟨_, rfl, hK, rfl⟩)
    |4, ho =>
     obtain rfl := Option.some.inj ho
     have e26 : a.tmps[26]?.getD undef = (.string TT) := slot_at (hdep ⟨0, .data⟩ (by simp) rfl _ 26 rfl rfl)
     have e29 : a.tmps[29]?.getD undef = .string TT := slot_at (hdep ⟨3, .data⟩ (by simp) rfl _ 29 rfl rfl)
     refine lg_none rfl ?_
     refine lw_value (v := .bool false) (u' := u) ?_ (Kp.refl _ _) rfl
     go_simp
    |5, ho =>
     obtain rfl := Option.some.inj ho
     have e30 : a.tmps[30]?.getD undef = .bool false := slot_at (hdep ⟨4, .data⟩ (by simp) rfl _ 30 rfl rfl)
     refine lg_none rfl ?_
     refine lw_value (v := .bool false) (u' := u) ?_ (Kp.refl _ _) rfl
     go_simp
    |6, ho =>
     obtain rfl := Option.some.inj ho
     have e31 : a.tmps[31]?.getD undef = .bool false := slot_at (hdep ⟨5, .guard⟩ (by simp) rfl _ 31 rfl rfl)
     refine lg_on (x := 31) rfl rfl e31 ?_
     obtain ⟨d0, d1, d2, d3, d4, d5, d6, d7, d8⟩ := Blk.cells9 (HC0.out.kp (HB0.out.trans hk (fun _ _ h => h)) (fun h => h))
     refine lw_value (v := .agg #[.int .i64 C.max, .slice V.ai C.ins.length V.ci, .slice V.al C.lats.length V.cl, .slice V.ao C.outs.length V.co, .slice V.ab C.bads.length V.cb, .slice V.ac C.cons.length V.cc, .slice V.ag C.gates.length V.cg, .slice V.ay V.ny V.cy, .string V.cm]) (u' := u) ?_ (Kp.refl _ _) rfl
     go_simp
    |7, ho =>
     obtain rfl := Option.some.inj ho
     have e32 : a.tmps[32]?.getD undef = .agg #[.int .i64 C.max, .slice V.ai C.ins.length V.ci, .slice V.al C.lats.length V.cl, .slice V.ao C.outs.length V.co, .slice V.ab C.bads.length V.cb, .slice V.ac C.cons.length V.cc, .slice V.ag C.gates.length V.cg, .slice V.ay V.ny V.cy, .string V.cm] := slot_at (hdep ⟨6, .data⟩ (by simp) rfl _ 32 rfl rfl)
     have e31 : a.tmps[31]?.getD undef = .bool false := slot_at (hdep ⟨5, .chain⟩ (by simp) rfl _ 31 rfl rfl)
     refine lg_on (x := 31) rfl rfl e31 ?_
     refine lw_call (f := 8) (args := #[.agg #[.int .i64 C.max, .slice V.ai C.ins.length V.ci, .slice V.al C.lats.length V.cl, .slice V.ao C.outs.length V.co, .slice V.ab C.bads.length V.cb, .slice V.ac C.cons.length V.cc, .slice V.ag C.gates.length V.cg, .slice V.ay V.ny V.cy, .string V.cm]]) ?_ ?_
     ·go_simp
     ·exact (HOw.out u (HB0.out.trans hk (fun _ _ h => h))).mono (by
       rintro e u' ⟨v, rfl, hV, hK⟩
       exact ⟨v, rfl, hK, hV⟩)
    |8, ho =>
     obtain rfl := Option.some.inj ho
     have e31 : a.tmps[31]?.getD undef = .bool false := slot_at (hdep ⟨5, .guard⟩ (by simp) rfl _ 31 rfl rfl)
     refine lg_on (x := 31) rfl rfl e31 ?_
     refine lw_value (v := (.int .u8 (kind : Int))) (u' := u) ?_ (Kp.refl _ _) rfl
     go_simp
    |9, ho =>
     obtain rfl := Option.some.inj ho
     have e34 : a.tmps[34]?.getD undef = (.int .u8 (kind : Int)) := slot_at (hdep ⟨8, .data⟩ (by simp) rfl _ 34 rfl rfl)
     have e31 : a.tmps[31]?.getD undef = .bool false := slot_at (hdep ⟨5, .guard⟩ (by simp) rfl _ 31 rfl rfl)
     refine lg_on (x := 31) rfl rfl e31 ?_
     have hV : (OwnCV V C Y) u (a.tmps.getD 33 undef) := hdep ⟨7, .data⟩ (by simp) rfl _ 33 rfl rfl
     obtain ⟨V', ev, hA', hY', hn'⟩ := hV
     have e33 := slot_at ev
     unfold cvals at e33
     clear ev
     refine lw_call (f := 11) (args := #[.agg #[.int .i64 C.max, .slice V'.ai C.ins.length V'.ci, .slice V'.al C.lats.length V'.cl, .slice V'.ao C.outs.length V'.co, .slice V'.ab C.bads.length V'.cb, .slice V'.ac C.cons.length V'.cc, .slice V'.ag C.gates.length V'.cg, .slice V'.ay V'.ny V'.cy, .string V'.cm], .int .u8 (kind : Int)]) ?_ ?_
     ·go_simp
     ·exact (HNm.out u V' (HB0.out.trans hk (fun _ _ h => h)) hY' hn').mono (by
       rintro e u' ⟨v, rfl, hV, hK⟩
       exact ⟨v, rfl, hK, hV⟩)
    |10, ho =>
     obtain rfl := Option.some.inj ho
     have e31 : a.tmps[31]?.getD undef = .bool false := slot_at (hdep ⟨5, .guard⟩ (by simp) rfl _ 31 rfl rfl)
     refine lg_on (x := 31) rfl rfl e31 ?_
     obtain ⟨d0, d1, d2, d3, d4, d5, d6, d7, d8⟩ := Blk.cells9 (HC0.out.kp (HB0.out.trans hk (fun _ _ h => h)) (fun h => h))
     refine lw_value (v := .agg #[.int .i64 C.max, .slice V.ai C.ins.length V.ci, .slice V.al C.lats.length V.cl, .slice V.ao C.outs.length V.co, .slice V.ab C.bads.length V.cb, .slice V.ac C.cons.length V.cc, .slice V.ag C.gates.length V.cg, .slice V.ay V.ny V.cy, .string V.cm]) (u' := u) ?_ (Kp.refl _ _) rfl
     go_simp
    |11, ho =>
     obtain rfl := Option.some.inj ho
     have e31 : a.tmps[31]?.getD undef = .bool false := slot_at (hdep ⟨5, .guard⟩ (by simp) rfl _ 31 rfl rfl)
     refine lg_on (x := 31) rfl rfl e31 ?_
     refine lw_value (v := (.int .u8 (kind : Int))) (u' := u) ?_ (Kp.refl _ _) rfl
     go_simp
    |12, ho =>
     obtain rfl := Option.some.inj ho
     have e36 : a.tmps[36]?.getD undef = .agg #[.int .i64 C.max, .slice V.ai C.ins.length V.ci, .slice V.al C.lats.length V.cl, .slice V.ao C.outs.length V.co, .slice V.ab C.bads.length V.cb, .slice V.ac C.cons.length V.cc, .slice V.ag C.gates.length V.cg, .slice V.ay V.ny V.cy, .string V.cm] := slot_at (hdep ⟨10, .data⟩ (by simp) rfl _ 36 rfl rfl)
     have e37 : a.tmps[37]?.getD undef = (.int .u8 (kind : Int)) := slot_at (hdep ⟨11, .data⟩ (by simp) rfl _ 37 rfl rfl)
     have e31 : a.tmps[31]?.getD undef = .bool false := slot_at (hdep ⟨5, .guard⟩ (by simp) rfl _ 31 rfl rfl)
     refine lg_on (x := 31) rfl rfl e31 ?_
     refine lw_call (f := 12) (args := #[.agg #[.int .i64 C.max, .slice V.ai C.ins.length V.ci, .slice V.al C.lats.length V.cl, .slice V.ao C.outs.length V.co, .slice V.ab C.bads.length V.cb, .slice V.ac C.cons.length V.cc, .slice V.ag C.gates.length V.cg, .slice V.ay V.ny V.cy, .string V.cm], .int .u8 (kind : Int)]) ?_ ?_
     ·go_simp
     ·exact (HRn.out u (HB0.out.trans hk (fun _ _ h => h))).mono (by
       rintro e u' ⟨v, rfl, hV, hK⟩
       exact ⟨v, rfl, hK, hV⟩)
    |13, ho =>
     obtain rfl := Option.some.inj ho
     have e31 : a.tmps[31]?.getD undef = .bool false := slot_at (hdep ⟨5, .guard⟩ (by simp) rfl _ 31 rfl rfl)
     refine lg_on (x := 31) rfl rfl e31 ?_
     have hV1 : (NamV NN nn) u (a.tmps.getD 35 undef) := hdep ⟨9, .data⟩ (by simp) rfl _ 35 rfl rfl
     have hV2 : (NamV NN nn) u (a.tmps.getD 38 undef) := hdep ⟨12, .data⟩ (by simp) rfl _ 38 rfl rfl
     obtain ⟨aa, ac, ev1, hr1⟩ := hV1
     obtain ⟨ba, bc, ev2, hr2⟩ := hV2
     have e35 := slot_at ev1
     have e38 := slot_at ev2
     clear ev1 ev2
     refine lw_call (f := 10) (args := #[.slice aa nn ac, .slice ba nn bc]) ?_ ?_
     ·go_simp
     ·exact (ref_Strings aa ba nn ac bc NN u hr1 hr2 HNn.out (by omega)).mono (by
       rintro e u' ⟨rfl, q, rfl⟩
       exact ⟨_, rfl, (Kp.refl _ _).drewN q, rfl⟩)
    |14, ho =>
     obtain rfl := Option.some.inj ho
     have e39 : a.tmps[39]?.getD undef = .bool true := slot_at (hdep ⟨13, .data⟩ (by simp) rfl _ 39 rfl rfl)
     have e31 : a.tmps[31]?.getD undef = .bool false := slot_at (hdep ⟨5, .guard⟩ (by simp) rfl _ 31 rfl rfl)
     refine lg_on (x := 31) rfl rfl e31 ?_
     refine lw_value (v := .bool false) (u' := u) ?_ (Kp.refl _ _) rfl
     go_simp
    |15, ho =>
     obtain rfl := Option.some.inj ho
     have e31 : a.tmps[31]?.getD undef = .bool false := slot_at (hdep ⟨5, .data⟩ (by simp) rfl _ 31 rfl rfl)
     have e40 : a.tmps[40]?.getD undef = .bool false := slot_at (hdep ⟨14, .data⟩ (by simp) rfl _ 40 rfl rfl)
     refine lg_none rfl ?_
     refine lw_value (v := .bool false) (u' := u) ?_ (Kp.refl _ _) rfl
     go_simp
    |16, ho =>
     obtain rfl := Option.some.inj ho
     have e41 : a.tmps[41]?.getD undef = .bool false := slot_at (hdep ⟨15, .data⟩ (by simp) rfl _ 41 rfl rfl)
     refine lg_none rfl ?_
     refine lw_value (v := .bool false) (u' := u) ?_ (Kp.refl _ _) rfl
     go_simp
    |17, ho =>
     obtain rfl := Option.some.inj ho
     have e42 : a.tmps[42]?.getD undef = .bool false := slot_at (hdep ⟨16, .guard⟩ (by simp) rfl _ 42 rfl rfl)
     refine lg_on (x := 42) rfl rfl e42 ?_
     obtain ⟨d0, d1, d2, d3, d4, d5, d6, d7, d8⟩ := Blk.cells9 (HC0.out.kp (HB0.out.trans hk (fun _ _ h => h)) (fun h => h))
     refine lw_value (v := .agg #[.int .i64 C.max, .slice V.ai C.ins.length V.ci, .slice V.al C.lats.length V.cl, .slice V.ao C.outs.length V.co, .slice V.ab C.bads.length V.cb, .slice V.ac C.cons.length V.cc, .slice V.ag C.gates.length V.cg, .slice V.ay V.ny V.cy, .string V.cm]) (u' := u) ?_ (Kp.refl _ _) rfl
     go_simp
    |18, ho =>
     obtain rfl := Option.some.inj ho
     have e43 : a.tmps[43]?.getD undef = .agg #[.int .i64 C.max, .slice V.ai C.ins.length V.ci, .slice V.al C.lats.length V.cl, .slice V.ao C.outs.length V.co, .slice V.ab C.bads.length V.cb, .slice V.ac C.cons.length V.cc, .slice V.ag C.gates.length V.cg, .slice V.ay V.ny V.cy, .string V.cm] := slot_at (hdep ⟨17, .data⟩ (by simp) rfl _ 43 rfl rfl)
     have e42 : a.tmps[42]?.getD undef = .bool false := slot_at (hdep ⟨16, .chain⟩ (by simp) rfl _ 42 rfl rfl)
     refine lg_on (x := 42) rfl rfl e42 ?_
     refine lw_call (f := 8) (args := #[.agg #[.int .i64 C.max, .slice V.ai C.ins.length V.ci, .slice V.al C.lats.length V.cl, .slice V.ao C.outs.length V.co, .slice V.ab C.bads.length V.cb, .slice V.ac C.cons.length V.cc, .slice V.ag C.gates.length V.cg, .slice V.ay V.ny V.cy, .string V.cm]]) ?_ ?_
     ·go_simp
     ·exact (HOw.out u (HB0.out.trans hk (fun _ _ h => h))).mono (by
       rintro e u' ⟨v, rfl, hV, hK⟩
       exact ⟨v, rfl, hK, hV⟩)
    |19, ho =>
     obtain rfl := Option.some.inj ho
     have e42 : a.tmps[42]?.getD undef = .bool false := slot_at (hdep ⟨16, .guard⟩ (by simp) rfl _ 42 rfl rfl)
     refine lg_on (x := 42) rfl rfl e42 ?_
     have r0 := (HR0.out.kp (HB0.out.trans hk (fun _ _ h => h)) (fun h => h)).cell (i := 0) (v := .slice sa sn sc) rfl
     have r1 := (HR0.out.kp (HB0.out.trans hk (fun _ _ h => h)) (fun h => h)).cell (i := 1) (v := .slice ga gn gc) rfl
     refine lw_value (v := .agg #[.slice sa sn sc, .slice ga gn gc]) (u' := u) ?_ (Kp.refl _ _) rfl
     go_simp
    |20, ho =>
     obtain rfl := Option.some.inj ho
     have e45 : a.tmps[45]?.getD undef = .agg #[.slice sa sn sc, .slice ga gn gc] := slot_at (hdep ⟨19, .data⟩ (by simp) rfl _ 45 rfl rfl)
     have e42 : a.tmps[42]?.getD undef = .bool false := slot_at (hdep ⟨16, .guard⟩ (by simp) rfl _ 42 rfl rfl)
     refine lg_on (x := 42) rfl rfl e42 ?_
     have hV : (OwnCV V C Y) u (a.tmps.getD 44 undef) := hdep ⟨18, .data⟩ (by simp) rfl _ 44 rfl rfl
     obtain ⟨V', ev, hA', hY', hn'⟩ := hV
     have e44 := slot_at ev
     unfold cvals at e44
     clear ev
     refine lw_call (f := 13) (args := #[.agg #[.int .i64 C.max, .slice V'.ai C.ins.length V'.ci, .slice V'.al C.lats.length V'.cl, .slice V'.ao C.outs.length V'.co, .slice V'.ab C.bads.length V'.cb, .slice V'.ac C.cons.length V'.cc, .slice V'.ag C.gates.length V'.cg, .slice V'.ay V'.ny V'.cy, .string V'.cm], .agg #[.slice sa sn sc, .slice ga gn gc]]) ?_ ?_
     ·go_simp
     ·exact (HCh.out u V' (HB0.out.trans hk (fun _ _ h => h)) hA' hY' hn').mono (by
       rintro e u' ⟨v, rfl, hV, hK⟩
       exact ⟨v, rfl, hK, hV⟩)
    |21, ho =>
     obtain rfl := Option.some.inj ho
     have e42 : a.tmps[42]?.getD undef = .bool false := slot_at (hdep ⟨16, .guard⟩ (by simp) rfl _ 42 rfl rfl)
     refine lg_on (x := 42) rfl rfl e42 ?_
     obtain ⟨d0, d1, d2, d3, d4, d5, d6, d7, d8⟩ := Blk.cells9 (HC0.out.kp (HB0.out.trans hk (fun _ _ h => h)) (fun h => h))
     refine lw_value (v := .agg #[.int .i64 C.max, .slice V.ai C.ins.length V.ci, .slice V.al C.lats.length V.cl, .slice V.ao C.outs.length V.co, .slice V.ab C.bads.length V.cb, .slice V.ac C.cons.length V.cc, .slice V.ag C.gates.length V.cg, .slice V.ay V.ny V.cy, .string V.cm]) (u' := u) ?_ (Kp.refl _ _) rfl
     go_simp
    |22, ho =>
     obtain rfl := Option.some.inj ho
     have e42 : a.tmps[42]?.getD undef = .bool false := slot_at (hdep ⟨16, .guard⟩ (by simp) rfl _ 42 rfl rfl)
     refine lg_on (x := 42) rfl rfl e42 ?_
     have r0 := (HR0.out.kp (HB0.out.trans hk (fun _ _ h => h)) (fun h => h)).cell (i := 0) (v := .slice sa sn sc) rfl
     have r1 := (HR0.out.kp (HB0.out.trans hk (fun _ _ h => h)) (fun h => h)).cell (i := 1) (v := .slice ga gn gc) rfl
     refine lw_value (v := .agg #[.slice sa sn sc, .slice ga gn gc]) (u' := u) ?_ (Kp.refl _ _) rfl
     go_simp
    |23, ho =>
     obtain rfl := Option.some.inj ho
     have e47 : a.tmps[47]?.getD undef = .agg #[.int .i64 C.max, .slice V.ai C.ins.length V.ci, .slice V.al C.lats.length V.cl, .slice V.ao C.outs.length V.co, .slice V.ab C.bads.length V.cb, .slice V.ac C.cons.length V.cc, .slice V.ag C.gates.length V.cg, .slice V.ay V.ny V.cy, .string V.cm] := slot_at (hdep ⟨21, .data⟩ (by simp) rfl _ 47 rfl rfl)
     have e48 : a.tmps[48]?.getD undef = .agg #[.slice sa sn sc, .slice ga gn gc] := slot_at (hdep ⟨22, .data⟩ (by simp) rfl _ 48 rfl rfl)
     have e42 : a.tmps[42]?.getD undef = .bool false := slot_at (hdep ⟨16, .guard⟩ (by simp) rfl _ 42 rfl rfl)
     refine lg_on (x := 42) rfl rfl e42 ?_
     refine lw_call (f := 14) (args := #[.agg #[.int .i64 C.max, .slice V.ai C.ins.length V.ci, .slice V.al C.lats.length V.cl, .slice V.ao C.outs.length V.co, .slice V.ab C.bads.length V.cb, .slice V.ac C.cons.length V.cc, .slice V.ag C.gates.length V.cg, .slice V.ay V.ny V.cy, .string V.cm], .agg #[.slice sa sn sc, .slice ga gn gc]]) ?_ ?_
     ·go_simp
     ·exact (HRc.out u (HB0.out.trans hk (fun _ _ h => h))).mono (by
       rintro e u' ⟨v, rfl, hV, hK⟩
       exact ⟨v, rfl, hK, hV⟩)
    |24, ho =>
     obtain rfl := Option.some.inj ho
     have e42 : a.tmps[42]?.getD undef = .bool false := slot_at (hdep ⟨16, .guard⟩ (by simp) rfl _ 42 rfl rfl)
     refine lg_on (x := 42) rfl rfl e42 ?_
     have hV1 : (NamV CC cc) u (a.tmps.getD 46 undef) := hdep ⟨20, .data⟩ (by simp) rfl _ 46 rfl rfl
     have hV2 : (NamV CC cc) u (a.tmps.getD 49 undef) := hdep ⟨23, .data⟩ (by simp) rfl _ 49 rfl rfl
     obtain ⟨aa, ac, ev1, hr1⟩ := hV1
     obtain ⟨ba, bc, ev2, hr2⟩ := hV2
     have e46 := slot_at ev1
     have e49 := slot_at ev2
     clear ev1 ev2
     refine lw_call (f := 10) (args := #[.slice aa cc ac, .slice ba cc bc]) ?_ ?_
     ·go_simp
     ·exact (ref_Strings aa ba cc ac bc CC u hr1 hr2 HCn.out (by omega)).mono (by
       rintro e u' ⟨rfl, q, rfl⟩
       exact ⟨_, rfl, (Kp.refl _ _).drewN q, rfl⟩)
    |25, ho =>
     obtain rfl := Option.some.inj ho
     have e50 : a.tmps[50]?.getD undef = .bool true := slot_at (hdep ⟨24, .data⟩ (by simp) rfl _ 50 rfl rfl)
     have e42 : a.tmps[42]?.getD undef = .bool false := slot_at (hdep ⟨16, .guard⟩ (by simp) rfl _ 42 rfl rfl)
     refine lg_on (x := 42) rfl rfl e42 ?_
     refine lw_value (v := .bool false) (u' := u) ?_ (Kp.refl _ _) rfl
     go_simp
    |26, ho =>
     obtain rfl := Option.some.inj ho
     have e42 : a.tmps[42]?.getD undef = .bool false := slot_at (hdep ⟨16, .data⟩ (by simp) rfl _ 42 rfl rfl)
     have e51 : a.tmps[51]?.getD undef = .bool false := slot_at (hdep ⟨25, .data⟩ (by simp) rfl _ 51 rfl rfl)
     refine lg_none rfl ?_
     refine lw_value (v := .bool false) (u' := u) ?_ (Kp.refl _ _) rfl
     go_simp
    |n + 27, _ => exact absurd hp (by simp [upTo])
   case hendL4 =>
    intro a u hI
    have hsz : a.tmps.size = 114 := hI.size
    have hdf : a.defers = [] := hI.defers
    have f0 : a.tmps.getD 0 undef = _ := hI.off 0 (noDst_spec (p := upTo 27) (by kernel_rfl))
    have f1 : a.tmps.getD 1 undef = _ := hI.off 1 (noDst_spec (p := upTo 27) (by kernel_rfl))
    have f2 : a.tmps.getD 2 undef = _ := hI.off 2 (noDst_spec (p := upTo 27) (by kernel_rfl))
    have f3 : a.tmps.getD 3 undef = _ := hI.off 3 (noDst_spec (p := upTo 27) (by kernel_rfl))
    have f4 : a.tmps.getD 4 undef = _ := hI.off 4 (noDst_spec (p := upTo 27) (by kernel_rfl))
    have f5 : a.tmps.getD 5 undef = _ := hI.off 5 (noDst_spec (p := upTo 27) (by kernel_rfl))
    have f6 : a.tmps.getD 6 undef = _ := hI.off 6 (noDst_spec (p := upTo 27) (by kernel_rfl))
    have f7 : a.tmps.getD 7 undef = _ := hI.off 7 (noDst_spec (p := upTo 27) (by kernel_rfl))
    have f8 : a.tmps.getD 8 undef = _ := hI.off 8 (noDst_spec (p := upTo 27) (by kernel_rfl))
    have f9 : a.tmps.getD 9 undef = _ := hI.off 9 (noDst_spec (p := upTo 27) (by kernel_rfl))
    have f10 : a.tmps.getD 10 undef = _ := hI.off 10 (noDst_spec (p := upTo 27) (by kernel_rfl))
    have f11 : a.tmps.getD 11 undef = _ := hI.off 11 (noDst_spec (p := upTo 27) (by kernel_rfl))
    have f12 : a.tmps.getD 12 undef = _ := hI.off 12 (noDst_spec (p := upTo 27) (by kernel_rfl))
    have f13 : a.tmps.getD 13 undef = _ := hI.off 13 (noDst_spec (p := upTo 27) (by kernel_rfl))
    have f14 : a.tmps.getD 14 undef = _ := hI.off 14 (noDst_spec (p := upTo 27) (by kernel_rfl))
    have f15 : a.tmps.getD 15 undef = _ := hI.off 15 (noDst_spec (p := upTo 27) (by kernel_rfl))
    have f16 : a.tmps.getD 16 undef = _ := hI.off 16 (noDst_spec (p := upTo 27) (by kernel_rfl))
    have f17 : a.tmps.getD 17 undef = _ := hI.off 17 (noDst_spec (p := upTo 27) (by kernel_rfl))
    have f18 : a.tmps.getD 18 undef = _ := hI.off 18 (noDst_spec (p := upTo 27) (by kernel_rfl))
    have f19 : a.tmps.getD 19 undef = _ := hI.off 19 (noDst_spec (p := upTo 27) (by kernel_rfl))
    have f20 : a.tmps.getD 20 undef = _ := hI.off 20 (noDst_spec (p := upTo 27) (by kernel_rfl))
    have f21 : a.tmps.getD 21 undef = _ := hI.off 21 (noDst_spec (p := upTo 27) (by kernel_rfl))
    have f22 : a.tmps.getD 22 undef = _ := hI.off 22 (noDst_spec (p := upTo 27) (by kernel_rfl))
    have f23 : a.tmps.getD 23 undef = _ := hI.off 23 (noDst_spec (p := upTo 27) (by kernel_rfl))
    have f24 : a.tmps.getD 24 undef = _ := hI.off 24 (noDst_spec (p := upTo 27) (by kernel_rfl))
    have f25 : a.tmps.getD 25 undef = _ := hI.off 25 (noDst_spec (p := upTo 27) (by kernel_rfl))
    have f53 : a.tmps.getD 53 undef = _ := hI.off 53 (noDst_spec (p := upTo 27) (by kernel_rfl))
    have f54 : a.tmps.getD 54 undef = _ := hI.off 54 (noDst_spec (p := upTo 27) (by kernel_rfl))
    have f55 : a.tmps.getD 55 undef = _ := hI.off 55 (noDst_spec (p := upTo 27) (by kernel_rfl))
    have f56 : a.tmps.getD 56 undef = _ := hI.off 56 (noDst_spec (p := upTo 27) (by kernel_rfl))
    have f57 : a.tmps.getD 57 undef = _ := hI.off 57 (noDst_spec (p := upTo 27) (by kernel_rfl))
    have f58 : a.tmps.getD 58 undef = _ := hI.off 58 (noDst_spec (p := upTo 27) (by kernel_rfl))
    have f59 : a.tmps.getD 59 undef = _ := hI.off 59 (noDst_spec (p := upTo 27) (by kernel_rfl))
    have f60 : a.tmps.getD 60 undef = _ := hI.off 60 (noDst_spec (p := upTo 27) (by kernel_rfl))
    have f61 : a.tmps.getD 61 undef = _ := hI.off 61 (noDst_spec (p := upTo 27) (by kernel_rfl))
    have f62 : a.tmps.getD 62 undef = _ := hI.off 62 (noDst_spec (p := upTo 27) (by kernel_rfl))
    have f63 : a.tmps.getD 63 undef = _ := hI.off 63 (noDst_spec (p := upTo 27) (by kernel_rfl))
    have f64 : a.tmps.getD 64 undef = _ := hI.off 64 (noDst_spec (p := upTo 27) (by kernel_rfl))
    have f65 : a.tmps.getD 65 undef = _ := hI.off 65 (noDst_spec (p := upTo 27) (by kernel_rfl))
    have f66 : a.tmps.getD 66 undef = _ := hI.off 66 (noDst_spec (p := upTo 27) (by kernel_rfl))
    have f67 : a.tmps.getD 67 undef = _ := hI.off 67 (noDst_spec (p := upTo 27) (by kernel_rfl))
    have f68 : a.tmps.getD 68 undef = _ := hI.off 68 (noDst_spec (p := upTo 27) (by kernel_rfl))
    have f69 : a.tmps.getD 69 undef = _ := hI.off 69 (noDst_spec (p := upTo 27) (by kernel_rfl))
    have f70 : a.tmps.getD 70 undef = _ := hI.off 70 (noDst_spec (p := upTo 27) (by kernel_rfl))
    have f71 : a.tmps.getD 71 undef = _ := hI.off 71 (noDst_spec (p := upTo 27) (by kernel_rfl))
    have f72 : a.tmps.getD 72 undef = _ := hI.off 72 (noDst_spec (p := upTo 27) (by kernel_rfl))
    have f73 : a.tmps.getD 73 undef = _ := hI.off 73 (noDst_spec (p := upTo 27) (by kernel_rfl))
    have f74 : a.tmps.getD 74 undef = _ := hI.off 74 (noDst_spec (p := upTo 27) (by kernel_rfl))
    have f75 : a.tmps.getD 75 undef = _ := hI.off 75 (noDst_spec (p := upTo 27) (by kernel_rfl))
    have f76 : a.tmps.getD 76 undef = _ := hI.off 76 (noDst_spec (p := upTo 27) (by kernel_rfl))
    have f77 : a.tmps.getD 77 undef = _ := hI.off 77 (noDst_spec (p := upTo 27) (by kernel_rfl))
    have f78 : a.tmps.getD 78 undef = _ := hI.off 78 (noDst_spec (p := upTo 27) (by kernel_rfl))
    have f79 : a.tmps.getD 79 undef = _ := hI.off 79 (noDst_spec (p := upTo 27) (by kernel_rfl))
    have f80 : a.tmps.getD 80 undef = _ := hI.off 80 (noDst_spec (p := upTo 27) (by kernel_rfl))
    have f81 : a.tmps.getD 81 undef = _ := hI.off 81 (noDst_spec (p := upTo 27) (by kernel_rfl))
    have f82 : a.tmps.getD 82 undef = _ := hI.off 82 (noDst_spec (p := upTo 27) (by kernel_rfl))
    have f83 : a.tmps.getD 83 undef = _ := hI.off 83 (noDst_spec (p := upTo 27) (by kernel_rfl))
    have f84 : a.tmps.getD 84 undef = _ := hI.off 84 (noDst_spec (p := upTo 27) (by kernel_rfl))
    have f85 : a.tmps.getD 85 undef = _ := hI.off 85 (noDst_spec (p := upTo 27) (by kernel_rfl))
    have f86 : a.tmps.getD 86 undef = _ := hI.off 86 (noDst_spec (p := upTo 27) (by kernel_rfl))
    have f87 : a.tmps.getD 87 undef = _ := hI.off 87 (noDst_spec (p := upTo 27) (by kernel_rfl))
    have f88 : a.tmps.getD 88 undef = _ := hI.off 88 (noDst_spec (p := upTo 27) (by kernel_rfl))
    have f89 : a.tmps.getD 89 undef = _ := hI.off 89 (noDst_spec (p := upTo 27) (by kernel_rfl))
    have f90 : a.tmps.getD 90 undef = _ := hI.off 90 (noDst_spec (p := upTo 27) (by kernel_rfl))
    have f91 : a.tmps.getD 91 undef = _ := hI.off 91 (noDst_spec (p := upTo 27) (by kernel_rfl))
    have f92 : a.tmps.getD 92 undef = _ := hI.off 92 (noDst_spec (p := upTo 27) (by kernel_rfl))
    have f93 : a.tmps.getD 93 undef = _ := hI.off 93 (noDst_spec (p := upTo 27) (by kernel_rfl))
    have f94 : a.tmps.getD 94 undef = _ := hI.off 94 (noDst_spec (p := upTo 27) (by kernel_rfl))
    have f95 : a.tmps.getD 95 undef = _ := hI.off 95 (noDst_spec (p := upTo 27) (by kernel_rfl))
    have f96 : a.tmps.getD 96 undef = _ := hI.off 96 (noDst_spec (p := upTo 27) (by kernel_rfl))
    have f97 : a.tmps.getD 97 undef = _ := hI.off 97 (noDst_spec (p := upTo 27) (by kernel_rfl))
    have f98 : a.tmps.getD 98 undef = _ := hI.off 98 (noDst_spec (p := upTo 27) (by kernel_rfl))
    have f99 : a.tmps.getD 99 undef = _ := hI.off 99 (noDst_spec (p := upTo 27) (by kernel_rfl))
    have f100 : a.tmps.getD 100 undef = _ := hI.off 100 (noDst_spec (p := upTo 27) (by kernel_rfl))
    have f101 : a.tmps.getD 101 undef = _ := hI.off 101 (noDst_spec (p := upTo 27) (by kernel_rfl))
    have f102 : a.tmps.getD 102 undef = _ := hI.off 102 (noDst_spec (p := upTo 27) (by kernel_rfl))
    have f103 : a.tmps.getD 103 undef = _ := hI.off 103 (noDst_spec (p := upTo 27) (by kernel_rfl))
    have f104 : a.tmps.getD 104 undef = _ := hI.off 104 (noDst_spec (p := upTo 27) (by kernel_rfl))
    have f105 : a.tmps.getD 105 undef = _ := hI.off 105 (noDst_spec (p := upTo 27) (by kernel_rfl))
    have f106 : a.tmps.getD 106 undef = _ := hI.off 106 (noDst_spec (p := upTo 27) (by kernel_rfl))
    have f107 : a.tmps.getD 107 undef = _ := hI.off 107 (noDst_spec (p := upTo 27) (by kernel_rfl))
    have f108 : a.tmps.getD 108 undef = _ := hI.off 108 (noDst_spec (p := upTo 27) (by kernel_rfl))
    have f109 : a.tmps.getD 109 undef = _ := hI.off 109 (noDst_spec (p := upTo 27) (by kernel_rfl))
    have f110 : a.tmps.getD 110 undef = _ := hI.off 110 (noDst_spec (p := upTo 27) (by kernel_rfl))
    have f111 : a.tmps.getD 111 undef = _ := hI.off 111 (noDst_spec (p := upTo 27) (by kernel_rfl))
    have f112 : a.tmps.getD 112 undef = _ := hI.off 112 (noDst_spec (p := upTo 27) (by kernel_rfl))
    have f113 : a.tmps.getD 113 undef = _ := hI.off 113 (noDst_spec (p := upTo 27) (by kernel_rfl))
    have f26 : a.tmps.getD 26 undef = (.string TT) := hI.val 0 _ 26 rfl rfl rfl
    have f27 : a.tmps.getD 27 undef = .agg #[.int .i64 C.max, .slice V.ai C.ins.length V.ci, .slice V.al C.lats.length V.cl, .slice V.ao C.outs.length V.co, .slice V.ab C.bads.length V.cb, .slice V.ac C.cons.length V.cc, .slice V.ag C.gates.length V.cg, .slice V.ay V.ny V.cy, .string V.cm] := hI.val 1 _ 27 rfl rfl rfl
    have f28 : a.tmps.getD 28 undef = .agg #[.slice sa sn sc, .slice ga gn gc] := hI.val 2 _ 28 rfl rfl rfl
    have f29 : a.tmps.getD 29 undef = .string TT := hI.val 3 _ 29 rfl rfl rfl
    have f30 : a.tmps.getD 30 undef = .bool false := hI.val 4 _ 30 rfl rfl rfl
    have f31 : a.tmps.getD 31 undef = .bool false := hI.val 5 _ 31 rfl rfl rfl
    have f32 : a.tmps.getD 32 undef = .agg #[.int .i64 C.max, .slice V.ai C.ins.length V.ci, .slice V.al C.lats.length V.cl, .slice V.ao C.outs.length V.co, .slice V.ab C.bads.length V.cb, .slice V.ac C.cons.length V.cc, .slice V.ag C.gates.length V.cg, .slice V.ay V.ny V.cy, .string V.cm] := hI.val 6 _ 32 rfl rfl rfl
    have g33 : ((OwnCV V C Y)) u (a.tmps.getD 33 undef) := hI.val 7 _ 33 rfl rfl rfl
    have f34 : a.tmps.getD 34 undef = (.int .u8 (kind : Int)) := hI.val 8 _ 34 rfl rfl rfl
    have g35 : ((NamV NN nn)) u (a.tmps.getD 35 undef) := hI.val 9 _ 35 rfl rfl rfl
    have f36 : a.tmps.getD 36 undef = .agg #[.int .i64 C.max, .slice V.ai C.ins.length V.ci, .slice V.al C.lats.length V.cl, .slice V.ao C.outs.length V.co, .slice V.ab C.bads.length V.cb, .slice V.ac C.cons.length V.cc, .slice V.ag C.gates.length V.cg, .slice V.ay V.ny V.cy, .string V.cm] := hI.val 10 _ 36 rfl rfl rfl
    have f37 : a.tmps.getD 37 undef = (.int .u8 (kind : Int)) := hI.val 11 _ 37 rfl rfl rfl
    have g38 : ((NamV NN nn)) u (a.tmps.getD 38 undef) := hI.val 12 _ 38 rfl rfl rfl
    have f39 : a.tmps.getD 39 undef = .bool true := hI.val 13 _ 39 rfl rfl rfl
    have f40 : a.tmps.getD 40 undef = .bool false := hI.val 14 _ 40 rfl rfl rfl
    have f41 : a.tmps.getD 41 undef = .bool false := hI.val 15 _ 41 rfl rfl rfl
    have f42 : a.tmps.getD 42 undef = .bool false := hI.val 16 _ 42 rfl rfl rfl
    have f43 : a.tmps.getD 43 undef = .agg #[.int .i64 C.max, .slice V.ai C.ins.length V.ci, .slice V.al C.lats.length V.cl, .slice V.ao C.outs.length V.co, .slice V.ab C.bads.length V.cb, .slice V.ac C.cons.length V.cc, .slice V.ag C.gates.length V.cg, .slice V.ay V.ny V.cy, .string V.cm] := hI.val 17 _ 43 rfl rfl rfl
    have g44 : ((OwnCV V C Y)) u (a.tmps.getD 44 undef) := hI.val 18 _ 44 rfl rfl rfl
    have f45 : a.tmps.getD 45 undef = .agg #[.slice sa sn sc, .slice ga gn gc] := hI.val 19 _ 45 rfl rfl rfl
    have g46 : ((NamV CC cc)) u (a.tmps.getD 46 undef) := hI.val 20 _ 46 rfl rfl rfl
    have f47 : a.tmps.getD 47 undef = .agg #[.int .i64 C.max, .slice V.ai C.ins.length V.ci, .slice V.al C.lats.length V.cl, .slice V.ao C.outs.length V.co, .slice V.ab C.bads.length V.cb, .slice V.ac C.cons.length V.cc, .slice V.ag C.gates.length V.cg, .slice V.ay V.ny V.cy, .string V.cm] := hI.val 21 _ 47 rfl rfl rfl
    have f48 : a.tmps.getD 48 undef = .agg #[.slice sa sn sc, .slice ga gn gc] := hI.val 22 _ 48 rfl rfl rfl
    have g49 : ((NamV CC cc)) u (a.tmps.getD 49 undef) := hI.val 23 _ 49 rfl rfl rfl
    have f50 : a.tmps.getD 50 undef = .bool true := hI.val 24 _ 50 rfl rfl rfl
    have f51 : a.tmps.getD 51 undef = .bool false := hI.val 25 _ 51 rfl rfl rfl
    have f52 : a.tmps.getD 52 undef = .bool false := hI.val 26 _ 52 rfl rfl rfl
    have ha : a = ⟨#[a.tmps.getD 0 undef, a.tmps.getD 1 undef, a.tmps.getD 2 undef, a.tmps.getD 3 undef, a.tmps.getD 4 undef, a.tmps.getD 5 undef, a.tmps.getD 6 undef, a.tmps.getD 7 undef, a.tmps.getD 8 undef, a.tmps.getD 9 undef, a.tmps.getD 10 undef, a.tmps.getD 11 undef, a.tmps.getD 12 undef, a.tmps.getD 13 undef, a.tmps.getD 14 undef, a.tmps.getD 15 undef, a.tmps.getD 16 undef, a.tmps.getD 17 undef, a.tmps.getD 18 undef, a.tmps.getD 19 undef, a.tmps.getD 20 undef, a.tmps.getD 21 undef, a.tmps.getD 22 undef, a.tmps.getD 23 undef, a.tmps.getD 24 undef, a.tmps.getD 25 undef, a.tmps.getD 26 undef, a.tmps.getD 27 undef, a.tmps.getD 28 undef, a.tmps.getD 29 undef, a.tmps.getD 30 undef, a.tmps.getD 31 undef, a.tmps.getD 32 undef, a.tmps.getD 33 undef, a.tmps.getD 34 undef, a.tmps.getD 35 undef, a.tmps.getD 36 undef, a.tmps.getD 37 undef, a.tmps.getD 38 undef, a.tmps.getD 39 undef, a.tmps.getD 40 undef, a.tmps.getD 41 undef, a.tmps.getD 42 undef, a.tmps.getD 43 undef, a.tmps.getD 44 undef, a.tmps.getD 45 undef, a.tmps.getD 46 undef, a.tmps.getD 47 undef, a.tmps.getD 48 undef, a.tmps.getD 49 undef, a.tmps.getD 50 undef, a.tmps.getD 51 undef, a.tmps.getD 52 undef, a.tmps.getD 53 undef, a.tmps.getD 54 undef, a.tmps.getD 55 undef, a.tmps.getD 56 undef, a.tmps.getD 57 undef, a.tmps.getD 58 undef, a.tmps.getD 59 undef, a.tmps.getD 60 undef, a.tmps.getD 61 undef, a.tmps.getD 62 undef, a.tmps.getD 63 undef, a.tmps.getD 64 undef, a.tmps.getD 65 undef, a.tmps.getD 66 undef, a.tmps.getD 67 undef, a.tmps.getD 68 undef, a.tmps.getD 69 undef, a.tmps.getD 70 undef, a.tmps.getD 71 undef, a.tmps.getD 72 undef, a.tmps.getD 73 undef, a.tmps.getD 74 undef, a.tmps.getD 75 undef, a.tmps.getD 76 undef, a.tmps.getD 77 undef, a.tmps.getD 78 undef, a.tmps.getD 79 undef, a.tmps.getD 80 undef, a.tmps.getD 81 undef, a.tmps.getD 82 undef, a.tmps.getD 83 undef, a.tmps.getD 84 undef, a.tmps.getD 85 undef, a.tmps.getD 86 undef, a.tmps.getD 87 undef, a.tmps.getD 88 undef, a.tmps.getD 89 undef, a.tmps.getD 90 undef, a.tmps.getD 91 undef, a.tmps.getD 92 undef, a.tmps.getD 93 undef, a.tmps.getD 94 undef, a.tmps.getD 95 undef, a.tmps.getD 96 undef, a.tmps.getD 97 undef, a.tmps.getD 98 undef, a.tmps.getD 99 undef, a.tmps.getD 100 undef, a.tmps.getD 101 undef, a.tmps.getD 102 undef, a.tmps.getD 103 undef, a.tmps.getD 104 undef, a.tmps.getD 105 undef, a.tmps.getD 106 undef, a.tmps.getD 107 undef, a.tmps.getD 108 undef, a.tmps.getD 109 undef, a.tmps.getD 110 undef, a.tmps.getD 111 undef, a.tmps.getD 112 undef, a.tmps.getD 113 undef], a.defers⟩ := act_list a 114 hsz
    rw [hdf, f0, f1, f2, f3, f4, f5, f6, f7, f8, f9, f10, f11, f12, f13, f14, f15, f16, f17, f18, f19, f20, f21, f22, f23, f24, f25, f26, f27, f28, f29, f30, f31, f32, f34, f36, f37, f39, f40, f41, f42, f43, f45, f47, f48, f50, f51, f52, f53, f54, f55, f56, f57, f58, f59, f60, f61, f62, f63, f64, f65, f66, f67, f68, f69, f70, f71, f72, f73, f74, f75, f76, f77, f78, f79, f80, f81, f82, f83, f84, f85, f86, f87, f88, f89, f90, f91, f92, f93, f94, f95, f96, f97, f98, f99, f100, f101, f102, f103, f104, f105, f106, f107, f108, f109, f110, f111, f112, f113] at ha
    obtain ⟨x33, hx33⟩ : ∃ x, a.tmps.getD 33 undef = x := ⟨_, rfl⟩
    obtain ⟨x35, hx35⟩ : ∃ x, a.tmps.getD 35 undef = x := ⟨_, rfl⟩
    obtain ⟨x38, hx38⟩ : ∃ x, a.tmps.getD 38 undef = x := ⟨_, rfl⟩
    obtain ⟨x44, hx44⟩ : ∃ x, a.tmps.getD 44 undef = x := ⟨_, rfl⟩
    obtain ⟨x46, hx46⟩ : ∃ x, a.tmps.getD 46 undef = x := ⟨_, rfl⟩
    obtain ⟨x49, hx49⟩ : ∃ x, a.tmps.getD 49 undef = x := ⟨_, rfl⟩
    rw [hx33, hx35, hx38, hx44, hx46, hx49] at ha
    rw [hx33] at g33
    rw [hx35] at g35
    rw [hx38] at g38
    rw [hx44] at g44
    rw [hx46] at g46
    rw [hx49] at g49
    have hku := hI.kp
    clear hI hsz hdf f0 f1 f2 f3 f4 f5 f6 f7 f8 f9 f10 f11 f12 f13 f14 f15 f16 f17 f18 f19 f20 f21 f22 f23 f24 f25 f26 f27 f28 f29 f30 f31 f32 f34 f36 f37 f39 f40 f41 f42 f43 f45 f47 f48 f50 f51 f52 f53 f54 f55 f56 f57 f58 f59 f60 f61 f62 f63 f64 f65 f66 f67 f68 f69 f70 f71 f72 f73 f74 f75 f76 f77 f78 f79 f80 f81 f82 f83 f84 f85 f86 f87 f88 f89 f90 f91 f92 f93 f94 f95 f96 f97 f98 f99 f100 f101 f102 f103 f104 f105 f106 f107 f108 f109 f110 f111 f112 f113 hx33 hx35 hx38 hx44 hx46 hx49
    subst ha
    refine wpAny_done (by kernel_rfl) ?_ _
    simp only [Array.getD_eq_getD_getElem?, List.getElem?_toArray, List.getElem?_cons_zero, List.getElem?_cons_succ, Option.getD_some]
    go_wp2_with fail
    go_meet
    exact ⟨rfl, hku⟩

end Go.Proofs.YtghlklcolepfmaaGreatDoor

/-
  How a run that came in is opened; how long the symbols' names of a circuit that came in are.
-/
namespace Go.Proofs.YtghlklcolepfmaaGreatDoor
open Go.RowKit Go.ChangeShapes Go.WideShapes Go.ChangeAt Go.Joins Go.Deep

def RunArg (W : World) (v : Value) : Prop := ∃ (v2 v3 : Value) (start : List Bool) (ins : List (List Bool)), v = .agg #[v2, v3] ∧ BoolsSl W v2 start ∧ GridSl W v3 ins

set_option maxRecDepth 100000 in
theorem open_runArg {H : Type} {enc : TypeId × Value → H} {W : World} {base : Nat} {v : Value} {d : DataW H} {ps : List MemPlace}
  (hv : Value.okWide Tryz.prog W .any base 31 v) (h : DataW.Trod enc Tryz.prog W 0 (fun _ => true) true 31 v d ps) : RunArg W v := by
 obtain ⟨cs, rfl, hsz⟩ := okWide_struct Tryz.underlying31 hv
 obtain ⟨l⟩ := cs
 match l, hsz.trans run_cells with
 |[c2, c3], _ =>
  obtain ⟨fuel, hf⟩ := h
  obtain ⟨ys, m, _, _, _, hlen2, hg2⟩ := DataW.trod_struct Tryz.underlying31 hf
  have g3 : DataW.trod enc Tryz.prog W 0 (fun _ => true) true m 28 [c2] = ys[0]? := by simpa [Value.cells, bools_cells, grid_cells] using hg2 0 _ rfl
  have g4 : DataW.trod enc Tryz.prog W 0 (fun _ => true) true m 29 [c3] = ys[1]? := by simpa [Value.cells, bools_cells, grid_cells] using hg2 1 _ rfl
  match ys, hlen2 with
  |[z0, z1], _ =>
   obtain ⟨start, hs⟩ := bools_in g3
   obtain ⟨ins, hi⟩ := grid_in g4
   exact ⟨c2, c3, start, ins, rfl, hs, hi⟩

theorem ba_toList (s : ByteArray) : s.data.toList.length = s.size := by rw [Array.length_toList]; rfl

theorem bulk_mem {H : Type} {d : DataW H} {l : List (DataW H)} (h : d ∈ l) : Rows.uptoBulk d ≤ Rows.uptoBulkAll l := by
 induction l with
 |nil => cases h
 |cons x r ih =>
  rw [Rows.uptoBulkAll]
  rcases List.mem_cons.1 h with rfl | h
  ·omega
  ·have := ih h; omega

def CircArgD {H : Type} (W : World) (v : Value) (d : DataW H) : Prop := ∃ (V : CV) (C : Circ) (Y : List (Int × Int × ByteArray)), v = .agg (cvals V C) ∧ CAt W V C ∧ SyAt W V Y ∧ ∀ y ∈ Y, y.2.2.size ≤ Rows.uptoBulk d

set_option maxRecDepth 100000 in
theorem sy_small {H : Type} {enc : TypeId × Value → H} {W : World} {V : CV} {C : Circ} {Y : List (Int × Int × ByteArray)} {d : DataW H} {ps : List MemPlace}
  (h : DataW.Trod enc Tryz.prog W 0 (fun _ => true) true 27 (.agg (cvals V C)) d ps) (hY : SyAt W V Y) : ∀ y ∈ Y, y.2.2.size ≤ Rows.uptoBulk d := by
 obtain ⟨fuel, hf⟩ := h
 unfold cvals at hf
 obtain ⟨xs, n, _, hx, _, hlen, hg⟩ := DataW.trod_struct Tryz.underlying27 hf
 have g7 : DataW.trod enc Tryz.prog W 0 (fun _ => true) true n 25 [.slice V.ay V.ny V.cy] = xs[7]? := by simpa [Value.cells, circ_c0, circ_c1, circ_c2, circ_c3, circ_c4, circ_c5] using hg 7 _ rfl
 have h7 : 7 < xs.length := by rw [hlen]; decide
 rw [List.getElem?_eq_getElem h7] at g7
 have hd : d = .agg (xs.map (·.1)) := by have := congrArg Prod.fst hx; simpa using this
 have hb : Rows.uptoBulk (xs[7]).1 ≤ Rows.uptoBulk d := by
  rw [hd, Rows.uptoBulk]
  exact Nat.le_succ_of_le (bulk_mem (List.mem_map.2 ⟨xs[7], List.getElem_mem h7, rfl⟩))
 generalize xs[7] = x7 at g7 hb
 clear hx hlen hg hd h7 hf
 intro y hy
 obtain ⟨k, hk, hyk⟩ := List.mem_iff_getElem.1 hy
 obtain ⟨b, off, ea, -, -, hc⟩ := hY.at hk
 have hsk : sK Y k = y := by unfold sK; rw [List.getElem?_eq_getElem hk, ← hyk]; rfl
 rw [hsk] at hc
 rcases open_slice Tryz.underlying25 g7 with ⟨hcs, -⟩ | ⟨a, len, cap, m, n', D, Pl, hcs, -, hl, hm, hmm, hX, hE⟩
 ·simp at hcs
  rw [ea] at hcs
  exact absurd hcs.1 (by simp)
 ·simp at hcs
  obtain ⟨e1, e2, e3⟩ := hcs
  simp only [if_true] at hmm
  have hkl : k < len := by rw [← e2, ← hY.len]; exact hk
  obtain ⟨cs', q1, q2⟩ := hE k (by omega)
  rw [show Tryz.prog.cellsOf 72 = 3 by kernel_rfl] at q1
  obtain ⟨_, ql, qc⟩ := World.cells?_some q1
  obtain ⟨zs, n2, _, hz, _, hzl, hzg⟩ := DataW.trod_struct Tryz.underlying72 q2
  match zs, hzl, cs', ql with
  |[z0, z1, z2], _, [v0, v1, v2], _ =>
   have gz : DataW.trod enc Tryz.prog W 0 (fun _ => true) true n2 9 [v2] = some z2 := by simpa [circ_c0, circ_c5, show Tryz.prog.cellsOf 5 = 1 by kernel_rfl] using hzg 2 _ rfl
   obtain ⟨s, es, ez, _⟩ := DataW.trod_string Tryz.underlying9 gz
   have e2' := qc 2 (by omega)
   rw [add_add] at e2'
   have hay : a = ⟨b, off, none⟩ := by rw [ea] at e1; exact (Option.some.inj e1).symm
   subst hay
   rw [add_plain'] at e2'
   simp at es
   have e3' : W.cell? ⟨b, off + k * 3 + 2, none⟩ = some v2 := by simpa [Nat.add_assoc] using e2'
   rw [hc, es] at e3'
   have hs : y.2.2 = s := by simpa using e3'
   have hDk : (D k) = .agg [z0.1, z1.1, z2.1] := by have := congrArg Prod.fst hz; simpa using this
   have hx7 : x7.1 = .slice ((List.range len).map D) ((List.range (m - len)).map fun j => D (len + j)) := by have := congrArg Prod.fst hX; simpa using this
   have b1 : Rows.uptoBulk (D k) ≤ Rows.uptoBulk x7.1 := by
    rw [hx7, Rows.uptoBulk]
    have := bulk_mem (d := D k) (l := (List.range len).map D) (List.mem_map.2 ⟨k, List.mem_range.2 hkl, rfl⟩)
    omega
   have b2 : y.2.2.size + 1 ≤ Rows.uptoBulk (D k) := by
    rw [hDk, Rows.uptoBulk]
    have := bulk_mem (d := z2.1) (l := [z0.1, z1.1, z2.1]) (by simp)
    rw [ez] at this
    simp only [Rows.uptoBulk] at this
    rw [hs]
    have h3 : s.data.toList.length = s.size := ba_toList s
    rw [ez]
    simp only at this ⊢
    omega
   omega

set_option maxRecDepth 100000 in
theorem open_circArgD {H : Type} {enc : TypeId × Value → H} {W : World} {base : Nat} {v : Value} {d : DataW H} {ps : List MemPlace}
  (hv : Value.okWide Tryz.prog W .any base 27 v) (h : DataW.Trod enc Tryz.prog W 0 (fun _ => true) true 27 v d ps) : CircArgD W v d := by
 obtain ⟨V, C, rfl, h2, h3, -, hS⟩ := open_circArgS hv h
 obtain ⟨Y, hY⟩ := SymOK.all (V := V) hS
 exact ⟨V, C, Y, rfl, h2, hY, sy_small h hY⟩

end Go.Proofs.YtghlklcolepfmaaGreatDoor

/-
  latchetlaw47.TraceWrites, of whatever comes in up to the bulk.
-/
namespace Go.Proofs.YtghlklcolepfmaaGreatDoor
open Go.RowKit

theorem grid_gs {w : World} {v : Value} {L : List (List Bool)} {st : List Bool} {m : Nat} (h : GridSl w v L) (hp : shortP st L m) (hm : m ≤ 1000000) : ∃ a c, v = .slice a L.length c ∧ GS w a L.length c L := by
 obtain ⟨a, c, e, h1, h2, h3, rs, h4, h5, h6⟩ := h
 refine ⟨a, c, e, ⟨rs, h4, h5, fun k hk => ?_⟩, rfl, Nat.le_trans hp.2.1 hm⟩
 obtain ⟨x, hx⟩ : ∃ x, L[k]? = some x := ⟨_, List.getElem?_eq_getElem hk⟩
 obtain ⟨r, hr⟩ : ∃ r, rs[k]? = some r := ⟨_, List.getElem?_eq_getElem (by rw [h5]; exact hk)⟩
 obtain ⟨b, d, er, q1, q2, q3, q4⟩ := h6 k r x hr hx
 refine ⟨b, x.length, d, by rw [hr, er], ?_⟩
 rw [hx]
 exact ⟨q4, rfl, Nat.le_trans (short_mem hp x (List.mem_of_getElem? hx)) (by decide)⟩

theorem bools_bs {w : World} {v : Value} {l : List Bool} (h : BoolsSl w v l) (hl : l.length ≤ 60) : ∃ a c, v = .slice a l.length c ∧ BS w a l.length l := by
 obtain ⟨a, c, e, h1, h2, h3, h4⟩ := h
 exact ⟨a, c, e, h4, rfl, Nat.le_trans hl (by decide)⟩

theorem traceWrites_walk {H : Type} {d0 : DataW H} {ds : List (DataW H)} (w : World) (v0 : Value) (hv0 : CircArgD w v0 d0) (v1 : Value) (hv1 : RunArg w v1) (k : Int) (wf : (Lit.int .u8 k).wf = true) (ht : Tab w) (hk : Rows.uptoSmall H (d0 :: ds) = true) (hm : ∃ m, w.cell? ⟨0, 0, none⟩ = some (.int .i64 m)) :
  Calls Tryz.prog 3 #[v0, v1, .int .u8 k] w fun e w' => e = .returned (.bool true) ∧ Below w.heap.size w w' := by
 have fin : ∀ {e : Ending} {w' : World}, (e = .returned (.bool true) ∧ Kp (fun _ => False) w w') → (e = .returned (.bool true) ∧ Below w.heap.size w w') := fun ⟨h1, h2⟩ => ⟨h1, h2.below (Nat.le_refl _) (fun _ _ h => h)⟩
 obtain ⟨V, C, Y, rfl, hC, hY, hN⟩ := hv0
 obtain ⟨v2, v3, start, ins, rfl, hs, hi⟩ := hv1
 have hb : Rows.uptoBulk d0 ≤ 1048576 := by
  have h1 : Rows.uptoBulkAll (d0 :: ds) ≤ 1048576 := of_decide_eq_true hk
  rw [Rows.uptoBulkAll] at h1
  omega
 obtain ⟨kind, rfl, hkd⟩ : ∃ n : Nat, k = n ∧ n < 256 := by
  have h2 : 0 ≤ k ∧ k < 256 := by
   simp [Lit.wf, IntKind.min, IntKind.max, IntKind.signed, IntKind.bits] at wf
   omega
  exact ⟨k.toNat, by omega, by omega⟩
 have hSh := fun u (hu : Kp (fun _ => False) w u) => law17_Short v2 v3 start ins 12 u (hs.kp hu) (hi.kp hu)
 by_cases hS : SmallP V C 14
 ·by_cases hp : shortP start ins 12
  ·obtain ⟨a2, c2, rfl, hbs⟩ := bools_bs hs hp.1
   obtain ⟨a3, c3, rfl, hgs⟩ := grid_gs hi hp (by decide)
   rw [decide_eq_true hp] at hSh
   exact (trw_yes V C Y a2 _ c2 a3 _ c3 start ins kind w hC hY hS hSh hbs hgs hs hi hp.2.1 hkd (fun y hy => Nat.le_trans (hN y hy) (Nat.le_trans hb (by decide))) ht hm).mono fun e w' h => fin h
  ·rw [decide_eq_false hp] at hSh
   obtain ⟨a2, c2, rfl, _⟩ := hs
   obtain ⟨a3, c3, rfl, _⟩ := hi
   exact (trw_notshort V C a2 _ c2 a3 _ c3 kind w hC hS hSh ht).mono fun e w' h => fin h
 ·obtain ⟨a2, c2, rfl, _⟩ := hs
  obtain ⟨a3, c3, rfl, _⟩ := hi
  exact (trw_notsmall V C a2 _ c2 a3 _ c3 kind w hC hS ht).mono fun e w' h => fin h

end Go.Proofs.YtghlklcolepfmaaGreatDoor

/-
  The package-level variables that the rows list: a world that holds them, and the table of powers of ten out of a row's list.
-/
namespace Go.Proofs.YtghlklcolepfmaaGreatDoor
open Go.RowKit

noncomputable def low : Nat := (World.holding Tryz.prog default ⟨#[], #[], []⟩).heap.size

def putCells (g : Nat) (cs : Array Value) (w : World) : World :=
  { w with heap := w.heap.modify g fun
      | .cells _ t frozen => .cells cs t frozen
      | o => o }

def tab32 : Array Value := #[0, 1, 28, 2, 29, 14, 24, 3, 30, 22, 20, 15, 25, 17, 4, 8, 31, 27, 13, 23, 21, 19, 16, 7, 26, 12, 18, 6, 11, 5, 10, 9].map (Value.int .u8)
def tab64 : Array Value := #[0, 1, 56, 2, 57, 49, 28, 3, 61, 58, 42, 50, 38, 29, 17, 4, 62, 47, 59, 36, 45, 43, 51, 22, 53, 39, 33, 30, 24, 18, 12, 5, 63, 55, 48, 27, 60, 41, 37, 16, 46, 35, 44, 21, 52, 32, 23, 11, 54, 26, 40, 15, 34, 20, 31, 10, 25, 14, 19, 9, 13, 8, 7, 6].map (Value.int .u8)
def tabPow : Array Value := (Lib.pow10Tab.map (Value.int .u64)).toArray

theorem gPowType : (Tryz.prog.globals[1]?).map (·.type) = some 172 := by kernel_rfl
theorem cells64 : Tryz.prog.cellsOf 151 = 1 := by kernel_rfl
theorem cellsPow : Tryz.prog.cellsOf 172 = 20 := by kernel_rfl

theorem tab_of_laid {W : World} {x y : String × DataW Unit} {r : List (String × DataW Unit)}
  (h : laidMet Tryz.prog (x :: y :: ("internal/strconv.uint64pow10", Rows.laid_internal_strconv_uint64pow10) :: r) W) : Tab W :=
 Lib.tabIs_of_head (zs := Lib.pow10Tab) gPow gPowType Tryz.underlying172 Tryz.underlying151 cells64 cellsPow (laidMet.tail (laidMet.tail h))

end Go.Proofs.YtghlklcolepfmaaGreatDoor

/-
  A world that holds the three tables that the rows list.
-/
namespace Go.Proofs.YtghlklcolepfmaaGreatDoor
open Go.RowKit

noncomputable def laidWorld3 (os : Os) : World :=
  putCells 5 tab64 (putCells 4 tab32 (putCells 1 tabPow
      (World.holding Tryz.prog os ⟨#[], #[], []⟩)))

end Go.Proofs.YtghlklcolepfmaaGreatDoor

/-
  As Laid, with the two tables of unicode/utf8, and the library's MaxLen out of the world's shape.
-/
namespace Go.Proofs.YtghlklcolepfmaaGreatDoor
open Go.RowKit

def tabFirst : Array Value := (Go.Pinned.utf8FirstZ.map (fun (n : Nat) => Value.int .u8 (n : Int))).toArray
def tabAccept : Array Value := #[128, 191, 160, 191, 128, 159, 144, 191, 128, 143, 0, 0, 0, 0, 0, 0, 0, 0, 0, 0, 0, 0, 0, 0, 0, 0, 0, 0, 0, 0, 0, 0].map (Value.int .u8)

theorem maxLen_cell {W : World} (h : W.ShapedOpen Tryz.prog) : ∃ m, W.cell? ⟨0, 0, none⟩ = some (.int .i64 m) :=
 cell_of_shapedOpen_int (t := 3) (zero := #[.int .i64 0]) h (of_decide_eq_true (by kernel_rfl)) (by kernel_rfl) rfl (by kernel_rfl) (by kernel_rfl) Tryz.underlying3

end Go.Proofs.YtghlklcolepfmaaGreatDoor

/-
  As Laid3, with the two tables of unicode/utf8.
-/
namespace Go.Proofs.YtghlklcolepfmaaGreatDoor
open Go.RowKit

noncomputable def laidWorld37 (os : Os) : World := putCells 2 tabFirst (putCells 3 tabAccept (laidWorld3 os))

end Go.Proofs.YtghlklcolepfmaaGreatDoor
