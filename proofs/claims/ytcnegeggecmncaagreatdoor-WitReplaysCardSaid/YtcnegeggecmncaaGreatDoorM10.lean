/-
  How a circuit that came in is opened.
-/
import Derived.Test.YtcnegeggecmncaaGreatDoorRows
import Derived.Test.YtcnegeggecmncaaGreatDoorM1
import Derived.ProofKit
import Derived.OpenShut
import Derived.Deep.Slices
import Derived.Lib.SmallJoins
import Derived.Test.YtcnegeggecmncaaGreatDoorM8
import Derived.Deep.Grids
import Derived.Test.YtcnegeggecmncaaGreatDoorM7
import Derived.Test.YtcnegeggecmncaaGreatDoorM9
import Derived.Test.YtcnegeggecmncaaGreatDoorM6
import Derived.Lib.LaidTab
import Derived.Stop.LaidErr
import Derived.Shelf.Vars
import GoSem.PinnedTables
set_option linter.unusedVariables false
set_option linter.unusedSimpArgs false
namespace Go.Proofs.YtcnegeggecmncaaGreatDoor
open Go.RowKit Go.ChangeShapes Go.WideShapes Go.ChangeAt Go.Joins Go.Deep

section
variable {H : Type} {enc : TypeId × Value → H} {W : World}

/-- a row of ints among the cells of what came in -/
theorem circ_ints {fuel : Nat} {v : Value} {x : DataW H × List MemPlace}
    (h : DataW.trod enc Tryz.prog W 0 (fun _ => true) true fuel 22 [v] = some x) : ∃ (a : Option Addr) (c : Nat) (L : List Int), v = .slice a L.length c ∧ SlOK a L.length c ∧ IntsAt W a L := by
  rcases open_ints Tryz.underlying22 Tryz.underlying3 (by kernel_rfl) h with ⟨hcs, _⟩ | ⟨a, len, cap, zs, hcs, _, hl, hm, hz, _, hcell, hwz⟩
  · simp at hcs
    subst hcs
    exact ⟨none, 0, [], rfl, ⟨Nat.le_refl _, by simp [maxLen], fun _ => rfl⟩, RowAt.nil _ _⟩
  · simp at hcs
    subst hcs
    simp only [if_true] at hz
    have hlen : (zs.take len).length = len := by rw [List.length_take, hz]; omega
    refine ⟨some a, cap, zs.take len, by rw [hlen], ⟨by rw [hlen]; exact hl, hm, (fun h => by cases h)⟩, ?_⟩
    intro j u hu
    rw [List.getElem?_map, List.getElem?_take] at hu
    split at hu
    · rename_i hj
      have h0 := hcell 0 (by omega)
      have hs : a.spot = none := by
        have := World.cell?_spot h0
        simpa [Addr.add] using this
      obtain ⟨b, off, spot⟩ := a
      simp only at hs
      subst hs
      refine ⟨b, off, rfl, ?_⟩
      have hc := hcell j (by omega)
      rw [add_plain'] at hc
      rw [hc]
      rw [List.getElem?_eq_getElem (by omega)] at hu
      simp only [Option.map_some] at hu
      rw [← hu]
      simp [List.getD, List.getElem?_eq_getElem (show j < zs.length by omega)]
    · simp at hu

def row3 (V0 V1 V2 : Nat → Value) (n : Nat) : List (List Value) := (List.range n).map (fun i => [V0 i, V1 i, V2 i])
theorem row3_len (V0 V1 V2 : Nat → Value) (n : Nat) : ∀ r ∈ row3 V0 V1 V2 n, r.length = 3 := fun r h => by
  unfold row3 at h
  obtain ⟨i, -, rfl⟩ := List.mem_map.1 h
  rfl

set_option maxRecDepth 100000 in
/-- a row of structs of three cells -/
theorem circ_rows {t e : TypeId} {f0 f1 f2 : Field} {fuel : Nat} {v : Value} {x : DataW H × List MemPlace} (ht : Tryz.prog.underlying t = some (.slice e)) (he : Tryz.prog.underlying e = some (.struct #[f0, f1, f2]))
    (ce : Tryz.prog.cellsOf e = 3) (o0 : f0.offset = 0) (o1 : f1.offset = 1) (o2 : f2.offset = 2) (c0 : Tryz.prog.cellsOf f0.type = 1) (c1 : Tryz.prog.cellsOf f1.type = 1) (c2 : Tryz.prog.cellsOf f2.type = 1)
    (h : DataW.trod enc Tryz.prog W 0 (fun _ => true) true fuel t [v] = some x) : ∃ (a : Option Addr) (n c : Nat) (V0 V1 V2 : Nat → Value), v = .slice a n c ∧ SlOK a n c ∧ RowAt W a (row3 V0 V1 V2 n).flatten ∧
      ∀ i, i < n → (∃ m y, DataW.trod enc Tryz.prog W 0 (fun _ => true) true m f0.type [V0 i] = some y) ∧ (∃ m y, DataW.trod enc Tryz.prog W 0 (fun _ => true) true m f1.type [V1 i] = some y) ∧ (∃ m y, DataW.trod enc Tryz.prog W 0 (fun _ => true) true m f2.type [V2 i] = some y) := by
  rcases open_slice ht h with ⟨hcs, _⟩ | ⟨a, len, cap, m, n, D, Pl, hcs, _, hl, hm, hmm, _, hx⟩
  · simp at hcs
    subst hcs
    exact ⟨none, 0, 0, fun _ => .bool false, fun _ => .bool false, fun _ => .bool false, rfl, ⟨Nat.le_refl _, by simp [maxLen], fun _ => rfl⟩, RowAt.nil _ _, fun i hi => by omega⟩
  · simp at hcs
    subst hcs
    simp only [if_true] at hmm
    subst hmm
    have each : ∀ i, i < len → ∃ q : Value × Value × Value, W.cell? (a.add (i * 3)) = some q.1 ∧ W.cell? (a.add (i * 3 + 1)) = some q.2.1 ∧ W.cell? (a.add (i * 3 + 2)) = some q.2.2 ∧
        (∃ m y, DataW.trod enc Tryz.prog W 0 (fun _ => true) true m f0.type [q.1] = some y) ∧ (∃ m y, DataW.trod enc Tryz.prog W 0 (fun _ => true) true m f1.type [q.2.1] = some y) ∧ (∃ m y, DataW.trod enc Tryz.prog W 0 (fun _ => true) true m f2.type [q.2.2] = some y) := by
      intro i hi
      obtain ⟨cs', h1, h2⟩ := hx i (by omega)
      rw [ce] at h1
      obtain ⟨_, hlen, hcell⟩ := World.cells?_some h1
      obtain ⟨xs, k, _, _, _, hxl, hf⟩ := DataW.trod_struct he h2
      match xs, hxl, cs', hlen with
      | [y0, y1, y2], _, [v0, v1, v2], _ =>
        have g0 := hf 0 f0 rfl
        have g1 := hf 1 f1 rfl
        have g2 := hf 2 f2 rfl
        simp [o0, o1, o2, c0, c1, c2] at g0 g1 g2
        have e0 := hcell 0 (by omega)
        have e1 := hcell 1 (by omega)
        have e2 := hcell 2 (by omega)
        rw [add_add] at e0 e1 e2
        exact ⟨(v0, v1, v2), by simpa using e0, by simpa using e1, by simpa using e2, ⟨_, _, g0⟩, ⟨_, _, g1⟩, ⟨_, _, g2⟩⟩
    obtain ⟨q, hq⟩ := choose_lt each
    refine ⟨some a, len, m, fun i => (q i).1, fun i => (q i).2.1, fun i => (q i).2.2, rfl, ⟨hl, hm, fun h => by cases h⟩, ?_, fun i hi => (hq i hi).2.2.2⟩
    intro j u hu
    have hlen : (row3 (fun i => (q i).1) (fun i => (q i).2.1) (fun i => (q i).2.2) len).flatten.length = len * 3 := by
      rw [flat_length (row3_len _ _ _ _)]; simp [row3]
    have hj : j < len * 3 := by rw [← hlen]; exact (List.getElem?_eq_some_iff.1 hu).1
    have hr : (row3 (fun i => (q i).1) (fun i => (q i).2.1) (fun i => (q i).2.2) len)[j / 3]? = some [(q (j / 3)).1, (q (j / 3)).2.1, (q (j / 3)).2.2] := by
      have : j / 3 < len := by omega
      simp [row3, this]
    obtain ⟨q0, q1, q2, -⟩ := hq (j / 3) (by omega)
    have hs : a.spot = none := by
      have := World.cell?_spot (hq 0 (by omega)).1
      simpa [Addr.add] using this
    obtain ⟨b, off, spot⟩ := a
    simp only at hs
    subst hs
    refine ⟨b, off, rfl, ?_⟩
    rw [add_plain'] at q0 q1 q2
    have hc : j % 3 = 0 ∨ j % 3 = 1 ∨ j % 3 = 2 := by omega
    rcases hc with hp | hp | hp
    · have h0 := flat_at (row3_len _ _ _ _) hr (i := 0) rfl
      rw [show j / 3 * 3 + 0 = j by omega, hu] at h0
      rw [show off + j = off + j / 3 * 3 by omega, q0]
      exact h0.symm
    · have h0 := flat_at (row3_len _ _ _ _) hr (i := 1) rfl
      rw [show j / 3 * 3 + 1 = j by omega, hu] at h0
      rw [show off + j = off + (j / 3 * 3 + 1) by omega, q1]
      exact h0.symm
    · have h0 := flat_at (row3_len _ _ _ _) hr (i := 2) rfl
      rw [show j / 3 * 3 + 2 = j by omega, hu] at h0
      rw [show off + j = off + (j / 3 * 3 + 2) by omega, q2]
      exact h0.symm

theorem trod_i64 {m : Nat} {u : Value} {y : DataW H × List MemPlace} (h : DataW.trod enc Tryz.prog W 0 (fun _ => true) true m 3 [u] = some y) : ∃ z : Int, u = .int .i64 z := by
  obtain ⟨z, e, _, _⟩ := DataW.trod_int Tryz.underlying3 h
  simp at e
  exact ⟨z, e⟩

/-- three ints each -/
theorem circ_tris {V0 V1 V2 : Nat → Value} {n : Nat} (h0 : ∀ i, i < n → ∃ z : Int, V0 i = .int .i64 z) (h1 : ∀ i, i < n → ∃ z : Int, V1 i = .int .i64 z) (h2 : ∀ i, i < n → ∃ z : Int, V2 i = .int .i64 z) :
    ∃ L : List (Int × Int × Int), L.length = n ∧ row3 V0 V1 V2 n = L.map tri := by
  obtain ⟨z0, e0⟩ := choose_lt h0
  obtain ⟨z1, e1⟩ := choose_lt h1
  obtain ⟨z2, e2⟩ := choose_lt h2
  refine ⟨(List.range n).map (fun i => (z0 i, z1 i, z2 i)), by simp, ?_⟩
  unfold row3
  rw [List.map_map]
  refine List.map_congr_left fun i hi => ?_
  have hi := List.mem_range.1 hi
  simp only [Function.comp_apply, e0 i hi, e1 i hi, e2 i hi]
  rfl

end

theorem circ_cells : Tryz.prog.cellsOf 27 = 9 := by kernel_rfl
theorem circ_c0 : Tryz.prog.cellsOf 3 = 1 := by kernel_rfl
theorem circ_c1 : Tryz.prog.cellsOf 22 = 1 := by kernel_rfl
theorem circ_c2 : Tryz.prog.cellsOf 23 = 1 := by kernel_rfl
theorem circ_c3 : Tryz.prog.cellsOf 24 = 1 := by kernel_rfl
theorem circ_c4 : Tryz.prog.cellsOf 25 = 1 := by kernel_rfl
theorem circ_c5 : Tryz.prog.cellsOf 9 = 1 := by kernel_rfl

/-- a circuit that came in -/
def CircArg (W : World) (v : Value) : Prop := ∃ (V : CV) (C : Circ), v = .agg (cvals V C) ∧ CAt W V C ∧ V.cm.size ≤ maxLen

set_option maxRecDepth 100000 in
theorem open_circArg {H : Type} {enc : TypeId × Value → H} {W : World} {base : Nat} {v : Value} {d : DataW H} {ps : List MemPlace}
    (hv : Value.okWide Tryz.prog W .any base 27 v) (h : DataW.Trod enc Tryz.prog W 0 (fun _ => true) true 27 v d ps) : CircArg W v := by
  obtain ⟨cs, rfl, hsz⟩ := okWide_struct Tryz.underlying27 hv
  obtain ⟨l⟩ := cs
  match l, hsz.trans circ_cells with
  | [k0, k1, k2, k3, k4, k5, k6, k7, k8], _ =>
    obtain ⟨fuel, hf⟩ := h
    obtain ⟨xs, n, _, _, _, hlen, hg⟩ := DataW.trod_struct Tryz.underlying27 hf
    have g0 : DataW.trod enc Tryz.prog W 0 (fun _ => true) true n 3 [k0] = xs[0]? := by simpa [Value.cells, circ_c0, circ_c1, circ_c2, circ_c3, circ_c4, circ_c5] using hg 0 _ rfl
    have g1 : DataW.trod enc Tryz.prog W 0 (fun _ => true) true n 22 [k1] = xs[1]? := by simpa [Value.cells, circ_c0, circ_c1, circ_c2, circ_c3, circ_c4, circ_c5] using hg 1 _ rfl
    have g2 : DataW.trod enc Tryz.prog W 0 (fun _ => true) true n 23 [k2] = xs[2]? := by simpa [Value.cells, circ_c0, circ_c1, circ_c2, circ_c3, circ_c4, circ_c5] using hg 2 _ rfl
    have g3 : DataW.trod enc Tryz.prog W 0 (fun _ => true) true n 22 [k3] = xs[3]? := by simpa [Value.cells, circ_c0, circ_c1, circ_c2, circ_c3, circ_c4, circ_c5] using hg 3 _ rfl
    have g4 : DataW.trod enc Tryz.prog W 0 (fun _ => true) true n 22 [k4] = xs[4]? := by simpa [Value.cells, circ_c0, circ_c1, circ_c2, circ_c3, circ_c4, circ_c5] using hg 4 _ rfl
    have g5 : DataW.trod enc Tryz.prog W 0 (fun _ => true) true n 22 [k5] = xs[5]? := by simpa [Value.cells, circ_c0, circ_c1, circ_c2, circ_c3, circ_c4, circ_c5] using hg 5 _ rfl
    have g6 : DataW.trod enc Tryz.prog W 0 (fun _ => true) true n 24 [k6] = xs[6]? := by simpa [Value.cells, circ_c0, circ_c1, circ_c2, circ_c3, circ_c4, circ_c5] using hg 6 _ rfl
    have g7 : DataW.trod enc Tryz.prog W 0 (fun _ => true) true n 25 [k7] = xs[7]? := by simpa [Value.cells, circ_c0, circ_c1, circ_c2, circ_c3, circ_c4, circ_c5] using hg 7 _ rfl
    have g8 : DataW.trod enc Tryz.prog W 0 (fun _ => true) true n 9 [k8] = xs[8]? := by simpa [Value.cells, circ_c0, circ_c1, circ_c2, circ_c3, circ_c4, circ_c5] using hg 8 _ rfl
    match xs, hlen with
    | [y0, y1, y2, y3, y4, y5, y6, y7, y8], _ =>
      obtain ⟨mx, rfl⟩ := trod_i64 g0
      obtain ⟨a1, c1, L1, rfl, s1, r1⟩ := circ_ints g1
      obtain ⟨a2, n2, c2, P0, P1, P2, rfl, s2, r2, t2⟩ := circ_rows Tryz.underlying23 Tryz.underlying48 (by kernel_rfl) rfl rfl rfl circ_c0 circ_c0 circ_c0 g2
      obtain ⟨a3, c3, L3, rfl, s3, r3⟩ := circ_ints g3
      obtain ⟨a4, c4, L4, rfl, s4, r4⟩ := circ_ints g4
      obtain ⟨a5, c5, L5, rfl, s5, r5⟩ := circ_ints g5
      obtain ⟨a6, n6, c6, Q0, Q1, Q2, rfl, s6, r6, t6⟩ := circ_rows Tryz.underlying24 Tryz.underlying73 (by kernel_rfl) rfl rfl rfl circ_c0 circ_c0 circ_c0 g6
      obtain ⟨a7, n7, c7, R0, R1, R2, rfl, s7, r7, t7⟩ := circ_rows Tryz.underlying25 Tryz.underlying103 (by kernel_rfl) rfl rfl rfl (by kernel_rfl) circ_c0 circ_c5 g7
      obtain ⟨sm, e8, _, w8⟩ := DataW.trod_string Tryz.underlying9 g8
      simp only [List.cons.injEq, and_true] at e8
      subst e8
      obtain ⟨L2, l2, m2⟩ := circ_tris (fun i hi => by obtain ⟨m, y, h⟩ := (t2 i hi).1; exact trod_i64 h) (fun i hi => by obtain ⟨m, y, h⟩ := (t2 i hi).2.1; exact trod_i64 h) (fun i hi => by obtain ⟨m, y, h⟩ := (t2 i hi).2.2; exact trod_i64 h)
      obtain ⟨L6, l6, m6⟩ := circ_tris (fun i hi => by obtain ⟨m, y, h⟩ := (t6 i hi).1; exact trod_i64 h) (fun i hi => by obtain ⟨m, y, h⟩ := (t6 i hi).2.1; exact trod_i64 h) (fun i hi => by obtain ⟨m, y, h⟩ := (t6 i hi).2.2; exact trod_i64 h)
      rw [m2] at r2
      rw [m6] at r6
      subst l2 l6
      refine ⟨⟨a1, c1, a2, c2, a3, c3, a4, c4, a5, c5, a6, c6, a7, n7, c7, sm⟩, ⟨mx, L1, L2, L3, L4, L5, L6⟩, rfl, ⟨r1, r2, r3, r4, r5, r6, ⟨_, r7, by simp [row3], row3_len _ _ _ _, fun r hr u hu => ?_⟩, s1, s2, s3, s4, s5, s6, s7⟩, w8⟩
      unfold row3 at hr
      obtain ⟨i, hi, rfl⟩ := List.mem_map.1 hr
      have hi := List.mem_range.1 hi
      obtain ⟨⟨m0, y0, q0⟩, ⟨m1, y1, q1⟩, ⟨m2, y2, q2⟩⟩ := t7 i hi
      obtain ⟨z0, e0, _, _⟩ := DataW.trod_int Tryz.underlying5 q0
      obtain ⟨z1, e1⟩ := trod_i64 q1
      obtain ⟨z2, e2, _, _⟩ := DataW.trod_string Tryz.underlying9 q2
      simp at e0 e2
      simp only [List.mem_cons, List.not_mem_nil, or_false] at hu
      rcases hu with rfl | rfl | rfl
      · rw [e0]; rfl
      · rw [e1]; rfl
      · rw [e2]; rfl

end Go.Proofs.YtcnegeggecmncaaGreatDoor

/-
  How a witness that came in is opened.
-/
namespace Go.Proofs.YtcnegeggecmncaaGreatDoor
open Go.RowKit Go.ChangeShapes Go.WideShapes Go.ChangeAt Go.Joins Go.Deep

theorem spot_none {W : World} {a : Addr} {u : Value} (h : W.cell? a = some u) : ∃ b off, a = ⟨b, off, none⟩ := by
  have hs : a.spot = none := World.cell?_spot h
  obtain ⟨b, off, spot⟩ := a
  simp only at hs
  subst hs
  exact ⟨b, off, rfl⟩

theorem rowAt_fn {W : World} {a : Addr} {n m : Nat} {B : Nat → Bool} (hn : n ≤ m) (hc : ∀ c, c < m → W.cell? (a.add c) = some (.bool (B c))) : RowAt W (some a) (((List.range n).map B).map Value.bool) := by
  intro j u hu
  rw [List.getElem?_map, List.getElem?_map] at hu
  have hj : j < n := by
    rcases Nat.lt_or_ge j n with h | h
    · exact h
    · rw [List.getElem?_eq_none (by simpa using h)] at hu; cases hu
  rw [List.getElem?_range hj] at hu
  simp only [Option.map_some, Option.some.injEq] at hu
  have h0 := hc 0 (by omega)
  obtain ⟨b, off, e⟩ := spot_none h0
  have e' : a = ⟨b, off, none⟩ := by simpa [Addr.add] using e
  subst e'
  refine ⟨b, off, rfl, ?_⟩
  have hj' := hc j (by omega)
  rw [add_plain'] at hj'
  rw [hj', hu]

set_option maxRecDepth 100000 in
theorem bools_in {H : Type} {enc : TypeId × Value → H} {W : World} {fuel : Nat} {v : Value} {x : DataW H × List MemPlace}
    (h : DataW.trod enc Tryz.prog W 0 (fun _ => true) true fuel 28 [v] = some x) : ∃ l : List Bool, BoolsSl W v l := by
  rcases open_bools Tryz.underlying28 Tryz.underlying4 (by kernel_rfl) h with ⟨hcs, _⟩ | ⟨a, len, cap, B, hcs, _, hl, hm, _, hcell⟩
  · simp at hcs
    subst hcs
    exact ⟨[], none, 0, rfl, Nat.le_refl _, by simp [maxLen], fun _ => rfl, RowAt.nil _ _⟩
  · simp at hcs
    subst hcs
    exact ⟨(List.range len).map B, some a, cap, by simp, by simpa using hl, hm, (fun h => by cases h), rowAt_fn hl hcell⟩

set_option maxRecDepth 100000 in
theorem grid_in {H : Type} {enc : TypeId × Value → H} {W : World} {fuel : Nat} {v : Value} {x : DataW H × List MemPlace}
    (h : DataW.trod enc Tryz.prog W 0 (fun _ => true) true fuel 29 [v] = some x) : ∃ L : List (List Bool), GridSl W v L := by
  rcases open_bool_rows Tryz.underlying29 Tryz.underlying28 Tryz.underlying4 (by kernel_rfl) (by kernel_rfl) h with ⟨hcs, _⟩ | ⟨a, len, cap, A, L, C, B, hcs, _, hl, hm, _, hx⟩
  · simp at hcs
    subst hcs
    exact ⟨[], none, 0, rfl, Nat.le_refl _, by simp [maxLen], fun _ => rfl, [], RowAt.nil _ _, rfl, fun k r x hr => by simp at hr⟩
  · simp at hcs
    subst hcs
    refine ⟨(List.range len).map (fun r => (List.range (L r)).map (B r)), some a, cap, by simp, by simpa using hl, hm, (fun h => by cases h), (List.range len).map (fun r => .slice (A r) (L r) (C r)), ?_, by simp, ?_⟩
    · intro j u hu
      rw [List.getElem?_map] at hu
      have hj : j < len := by
        rcases Nat.lt_or_ge j len with h | h
        · exact h
        · rw [List.getElem?_eq_none (by simpa using h)] at hu; cases hu
      rw [List.getElem?_range hj] at hu
      simp only [Option.map_some, Option.some.injEq] at hu
      have h0 := (hx 0 (by omega)).1
      obtain ⟨b, off, e⟩ := spot_none h0
      have e' : a = ⟨b, off, none⟩ := by simpa [Addr.add] using e
      subst e'
      refine ⟨b, off, rfl, ?_⟩
      have hj' := (hx j (by omega)).1
      rw [add_plain'] at hj'
      rw [hj', hu]
    · intro k r x hr hx2
      rw [List.getElem?_map] at hr hx2
      have hk : k < len := by
        rcases Nat.lt_or_ge k len with h | h
        · exact h
        · rw [List.getElem?_eq_none (by simpa using h)] at hr; cases hr
      rw [List.getElem?_range hk] at hr hx2
      simp only [Option.map_some, Option.some.injEq] at hr hx2
      subst hr hx2
      obtain ⟨_, q1, q2, q3, q4⟩ := hx k (by omega)
      refine ⟨A k, C k, by simp, by simpa using q1, q2, q3, ?_⟩
      cases hA : A k with
      | none =>
        have : L k = 0 := by have := q3 hA; omega
        rw [this]
        exact RowAt.nil _ _
      | some a' => exact rowAt_fn q1 (q4 a' hA).2

/-- a witness that came in -/
def WitArg (W : World) (v : Value) : Prop := ∃ (kind prop : Int) (v2 v3 : Value) (start : List Bool) (ins : List (List Bool)), v = .agg #[.int .i64 kind, .int .i64 prop, v2, v3] ∧ prop ≤ 9223372036854775807 ∧ BoolsSl W v2 start ∧ GridSl W v3 ins

theorem wit_cells : Tryz.prog.cellsOf 33 = 4 := by kernel_rfl
theorem run_cells : Tryz.prog.cellsOf 31 = 2 := by kernel_rfl
theorem int_cells : Tryz.prog.cellsOf 3 = 1 := by kernel_rfl
theorem bools_cells : Tryz.prog.cellsOf 28 = 1 := by kernel_rfl
theorem grid_cells : Tryz.prog.cellsOf 29 = 1 := by kernel_rfl

set_option maxRecDepth 100000 in
theorem open_witArg {H : Type} {enc : TypeId × Value → H} {W : World} {base : Nat} {v : Value} {d : DataW H} {ps : List MemPlace}
    (hv : Value.okWide Tryz.prog W .any base 33 v) (h : DataW.Trod enc Tryz.prog W 0 (fun _ => true) true 33 v d ps) : WitArg W v := by
  obtain ⟨cs, rfl, hsz⟩ := okWide_struct Tryz.underlying33 hv
  obtain ⟨l⟩ := cs
  match l, hsz.trans wit_cells with
  | [c0, c1, c2, c3], _ =>
    obtain ⟨fuel, hf⟩ := h
    obtain ⟨xs, n, _, _, _, hlen, hg⟩ := DataW.trod_struct Tryz.underlying33 hf
    have g0 : DataW.trod enc Tryz.prog W 0 (fun _ => true) true n 3 [c0] = xs[0]? := by simpa [Value.cells, int_cells, run_cells] using hg 0 _ rfl
    have g1 : DataW.trod enc Tryz.prog W 0 (fun _ => true) true n 3 [c1] = xs[1]? := by simpa [Value.cells, int_cells, run_cells] using hg 1 _ rfl
    have g2 : DataW.trod enc Tryz.prog W 0 (fun _ => true) true n 31 [c2, c3] = xs[2]? := by simpa [Value.cells, int_cells, run_cells] using hg 2 _ rfl
    match xs, hlen with
    | [y0, y1, y2], _ =>
      obtain ⟨x0, e0, _, _⟩ := DataW.trod_int Tryz.underlying3 g0
      obtain ⟨x1, e1, _, w1⟩ := DataW.trod_int Tryz.underlying3 g1
      obtain ⟨ys, m, _, _, _, hlen2, hg2⟩ := DataW.trod_struct Tryz.underlying31 g2
      have g3 : DataW.trod enc Tryz.prog W 0 (fun _ => true) true m 28 [c2] = ys[0]? := by simpa [bools_cells, grid_cells] using hg2 0 _ rfl
      have g4 : DataW.trod enc Tryz.prog W 0 (fun _ => true) true m 29 [c3] = ys[1]? := by simpa [bools_cells, grid_cells] using hg2 1 _ rfl
      match ys, hlen2 with
      | [z0, z1], _ =>
        obtain ⟨start, hs⟩ := bools_in g3
        obtain ⟨ins, hi⟩ := grid_in g4
        simp only [List.cons.injEq, and_true] at e0 e1
        subst e0 e1
        exact ⟨x0, x1, c2, c3, start, ins, rfl, (bounds_i64 w1).2, hs, hi⟩

end Go.Proofs.YtcnegeggecmncaaGreatDoor

/-
  latchetlaw18.WitReplays. (Printed by mkwitreplays.py.)
-/
namespace Go.Proofs.YtcnegeggecmncaaGreatDoor
open Go.RowKit

theorem few_ok {V : CV} {C : Circ} {w : World} (hF : FewP V C 30) : Calls Tryz.prog 4 #[.agg (cvals V C), .int .i64 30] w fun e w' => e = .returned (.bool true) ∧ Kp (fun _ => False) w w' :=
  (law11_Few V C 30 w).mono (by
    rintro e w' ⟨r, rfl, hr, hK⟩
    obtain rfl := hr.2 hF
    exact ⟨rfl, hK⟩)
theorem few_no {V : CV} {C : Circ} {w : World} (hF : ¬ FewP V C 30) : Calls Tryz.prog 4 #[.agg (cvals V C), .int .i64 30] w fun e w' => e = .returned (.bool false) ∧ Kp (fun _ => False) w w' :=
  (law11_Few V C 30 w).mono (by
    rintro e w' ⟨r, rfl, hr, hK⟩
    cases r with
    | false => exact ⟨rfl, hK⟩
    | true => exact absurd (hr.1 rfl) hF)

set_option maxRecDepth 100000 in
set_option maxHeartbeats 8000000 in
theorem replays_long (V : CV) (C : Circ) (kind prop : Int) (sa : Option Addr) (sn sc : Nat) (ga : Option Addr) (gn_ gc : Nat) (st : List Bool) (rows : List (List Bool)) (w : World) (h : CAt w V C) (hm : ML w) (hno : ¬ FewP V C 30 ∨ (FewP V C 30 ∧ 300 < C.max) ∨ (FewP V C 30 ∧ ¬ 300 < C.max ∧ ∀ u, Kp (fun _ => False) w u → Calls Tryz.prog 5 #[.agg #[.slice sa sn sc, .slice ga gn_ gc], .int .i64 20] u fun e w' => e = .returned (.bool false) ∧ Kp (fun _ => False) u w')) :
    Calls Tryz.prog 3 #[.agg (cvals V C), .agg #[.int .i64 kind, .int .i64 prop, .slice sa sn sc, .slice ga gn_ gc]] w fun e w' => e = .returned (.bool true) ∧ Kp (fun _ => False) w w' := by
  obtain ⟨wz, hwz⟩ : ∃ wz : World, wz = (w.alloc (.cells (cvals V C) 27)).alloc (.cells #[.int .i64 kind, .int .i64 prop, .slice sa sn sc, .slice ga gn_ gc] 33) := ⟨_, rfl⟩
  have HK0 := Lib.hid (show Kp (fun _ => False) w wz by rw [hwz]; exact ((Kp.refl _ w).alloc _).alloc _)
  have HC0 := Lib.hid (show Blk wz w.heap.size #[.int .i64 C.max, .slice V.ai C.ins.length V.ci, .slice V.al C.lats.length V.cl, .slice V.ao C.outs.length V.co, .slice V.ab C.bads.length V.cb, .slice V.ac C.cons.length V.cc, .slice V.ag C.gates.length V.cg, .slice V.ay V.ny V.cy, .string V.cm] 27 by rw [hwz]; exact (Blk.new w (cvals V C) _).alloc _)
  have HW0 := Lib.hid (show Blk wz (w.heap.size + 1) #[.int .i64 kind, .int .i64 prop, .slice sa sn sc, .slice ga gn_ gc] 33 by rw [hwz]; exact two_blk _ _ _ _ _)
  obtain ⟨d0, d1, d2, d3, d4, d5, d6, d7, d8⟩ := Blk.cells9 HC0.out
  have HZ := Lib.hid hwz
  have HLv := Lib.hid (fun u (hu : Kp (fun _ => False) wz u) => wit_lives u (hm.kp (HK0.out.trans hu (fun _ _ h => h))))
  rcases hno with hF | ⟨hF, hM⟩ | ⟨hF, hM, hSh⟩
  · have HFw0 := few_no (w := wz) hF
    unfold cvals at HFw0
    have HFw := Lib.hid HFw0
    clear HFw0 h hm hwz hF
    go_enter Tryz.func3, Tryz.ntmps3
    go_upto_region 1 with fail
    rw [← HZ.out]
    clear HZ
    go_upto_region 2 with (go_at_call 4; with_reducible refine Calls.mono HFw.out ?_; rintro e w1 ⟨rfl, hK1⟩)
    have HLv1 := Lib.hid (HLv.out w1 hK1)
    have HK1 := Lib.hid (HK0.out.trans hK1 (fun _ _ h => h))
    clear hK1
    go_wp2_with (go_at_call 6; with_reducible refine Calls.mono HLv1.out ?_; rintro e w2 ⟨rfl, hK2⟩; have HK2 := Lib.hid (HK1.out.trans hK2 (fun _ _ h => h)); clear hK2)
    go_ret
    exact ⟨rfl, HK2.out⟩
  · have HFw0 := few_ok (w := wz) hF
    unfold cvals at HFw0
    have HFw := Lib.hid HFw0
    have hmx : decide ((300 : Int) < C.max) = true := decide_eq_true hM
    clear HFw0 h hm hwz hF
    go_enter Tryz.func3, Tryz.ntmps3
    go_upto_region 1 with fail
    rw [← HZ.out]
    clear HZ
    go_upto_region 2 with (go_at_call 4; with_reducible refine Calls.mono HFw.out ?_; rintro e w1 ⟨rfl, hK1⟩; obtain ⟨z0, z1, z2, z3, z4, z5, z6, z7, z8⟩ := Blk.cells9 (HC0.out.kp hK1 (fun h => h)))
    have HLv1 := Lib.hid (HLv.out w1 hK1)
    have HK1 := Lib.hid (HK0.out.trans hK1 (fun _ _ h => h))
    clear hK1
    go_wp2_with (go_at_call 6; with_reducible refine Calls.mono HLv1.out ?_; rintro e w2 ⟨rfl, hK2⟩; have HK2 := Lib.hid (HK1.out.trans hK2 (fun _ _ h => h)); clear hK2)
    go_ret
    exact ⟨rfl, HK2.out⟩
  · have HFw0 := few_ok (w := wz) hF
    unfold cvals at HFw0
    have HFw := Lib.hid HFw0
    have hmx : decide ((300 : Int) < C.max) = false := decide_eq_false hM
    have HSh := Lib.hid (fun u (hu : Kp (fun _ => False) wz u) => hSh u (HK0.out.trans hu (fun _ _ h => h)))
    have HM := Lib.hid hM
    clear HFw0 h hm hwz hF hSh hM
    go_enter Tryz.func3, Tryz.ntmps3
    go_upto_region 1 with fail
    rw [← HZ.out]
    clear HZ
    go_upto_region 2 with (first
      | (go_at_call 4; with_reducible refine Calls.mono HFw.out ?_; rintro e w1 ⟨rfl, hK1⟩; obtain ⟨z0, z1, z2, z3, z4, z5, z6, z7, z8⟩ := Blk.cells9 (HC0.out.kp hK1 (fun h => h)); have hW1 := HW0.out.kp hK1 (fun h => h); have x0 := hW1.cell (i := 0) (v := .int .i64 kind) rfl; have x1 := hW1.cell (i := 1) (v := .int .i64 prop) rfl; have x2 := hW1.cell (i := 2) (v := .slice sa sn sc) rfl; have x3 := hW1.cell (i := 3) (v := .slice ga gn_ gc) rfl; have HSh1 := Lib.hid (HSh.out w1 hK1))
      | (go_at_call 5; with_reducible refine Calls.mono HSh1.out ?_; rintro e w2 ⟨rfl, hK2⟩; have HKx := Lib.hid (hK1.trans hK2 (fun _ _ h => h)); clear hK2))
    have HLv1 := Lib.hid (HLv.out w2 HKx.out)
    have HK1 := Lib.hid (HK0.out.trans HKx.out (fun _ _ h => h))
    clear hK1 z0 z1 z2 z3 z4 z5 z6 z7 z8 hW1 x0 x1 x2 x3 HSh1 d0 d1 d2 d3 d4 d5 d6 d7 d8
    go_wp2_with (go_at_call 6; with_reducible refine Calls.mono HLv1.out ?_; rintro e w3 ⟨rfl, hK2⟩; have HK2 := Lib.hid (HK1.out.trans hK2 (fun _ _ h => h)); clear hK2)
    go_ret
    exact ⟨rfl, HK2.out⟩

set_option maxRecDepth 100000 in
set_option maxHeartbeats 8000000 in
theorem replays_1 (V : CV) (C : Circ) (kind prop : Int) (sa : Option Addr) (sn sc : Nat) (ga : Option Addr) (gn_ gc : Nat) (st : List Bool) (rows : List (List Bool)) (w : World) (h : CAt w V C) (hm : ML w) (hF : FewP V C 30) (hM : ¬ 300 < C.max) (hSh : ∀ u, Kp (fun _ => False) w u → Calls Tryz.prog 5 #[.agg #[.slice sa sn sc, .slice ga gn_ gc], .int .i64 20] u fun e w' => e = .returned (.bool true) ∧ Kp (fun _ => False) u w') (hs : BS w sa sn st) (hi : GS w ga gn_ gc rows) (hk : kind ≠ 1) :
    Calls Tryz.prog 3 #[.agg (cvals V C), .agg #[.int .i64 kind, .int .i64 prop, .slice sa sn sc, .slice ga gn_ gc]] w fun e w' => e = .returned (.bool true) ∧ Kp (fun _ => False) w w' := by
  obtain ⟨wz, hwz⟩ : ∃ wz : World, wz = (w.alloc (.cells (cvals V C) 27)).alloc (.cells #[.int .i64 kind, .int .i64 prop, .slice sa sn sc, .slice ga gn_ gc] 33) := ⟨_, rfl⟩
  have HK0 := Lib.hid (show Kp (fun _ => False) w wz by rw [hwz]; exact ((Kp.refl _ w).alloc _).alloc _)
  have HC0 := Lib.hid (show Blk wz w.heap.size #[.int .i64 C.max, .slice V.ai C.ins.length V.ci, .slice V.al C.lats.length V.cl, .slice V.ao C.outs.length V.co, .slice V.ab C.bads.length V.cb, .slice V.ac C.cons.length V.cc, .slice V.ag C.gates.length V.cg, .slice V.ay V.ny V.cy, .string V.cm] 27 by rw [hwz]; exact (Blk.new w (cvals V C) _).alloc _)
  have HW0 := Lib.hid (show Blk wz (w.heap.size + 1) #[.int .i64 kind, .int .i64 prop, .slice sa sn sc, .slice ga gn_ gc] 33 by rw [hwz]; exact two_blk _ _ _ _ _)
  obtain ⟨d0, d1, d2, d3, d4, d5, d6, d7, d8⟩ := Blk.cells9 HC0.out
  have HZ := Lib.hid hwz
  have HFw0 := few_ok (w := wz) hF
  unfold cvals at HFw0
  have HFw := Lib.hid HFw0
  have hmx : decide ((300 : Int) < C.max) = false := decide_eq_false hM
  have HSh := Lib.hid (fun u (hu : Kp (fun _ => False) wz u) => hSh u (HK0.out.trans hu (fun _ _ h => h)))
  have HLv0 := Lib.hid (fun u (hu : Kp (fun _ => False) wz u) => wit_lives u (hm.kp (HK0.out.trans hu (fun _ _ h => h))))
  have hf := hF.few (show 30 ≤ 1000000 by decide)
  have hy : V.ny ≤ 1000000 := Nat.le_trans hF.y (by decide)
  have HOwn0 := Lib.hid (fun u (hu : Kp (fun _ => False) wz u) => law11_Own V C u (h.kp (HK0.out.trans hu (fun _ _ h => h))) hf hy)
  have HRep0 := Lib.hid (fun u (hu : Kp (fun _ => False) wz u) V1 (h1 : CAt u V1 C) (hy1 : V1.ny = V.ny) => wit_Replay V1 C kind prop sa sn sc ga gn_ gc st rows u h1 hf (by rw [hy1]; exact hy) (hs.kp (HK0.out.trans hu (fun _ _ h => h))) (hi.kp (HK0.out.trans hu (fun _ _ h => h))))
  have HQ := Lib.hid (show ((kind : Int) == 1) = false by simp [hk])
  unfold replayB at HRep0
  rw [decide_eq_false hk, Bool.and_false, Bool.false_and] at HRep0
  have HOwn1 := HOwn0
  unfold cvals at HOwn0
  clear HOwn1 HFw0 h hm hF hSh hs hi hwz hf hy hk
  have HMx := Lib.hid hM
  clear hM
  go_enter Tryz.func3, Tryz.ntmps3
  go_upto_region 1 with fail
  rw [← HZ.out]
  clear HZ
  go_upto_region 3 with (first
    | (go_at_call 4; with_reducible refine Calls.mono HFw.out ?_; rintro e w1 ⟨rfl, hK1⟩; obtain ⟨z0, z1, z2, z3, z4, z5, z6, z7, z8⟩ := Blk.cells9 (HC0.out.kp hK1 (fun h => h)); have hW1 := HW0.out.kp hK1 (fun h => h); have x0 := hW1.cell (i := 0) (v := .int .i64 kind) rfl; have x1 := hW1.cell (i := 1) (v := .int .i64 prop) rfl; have x2 := hW1.cell (i := 2) (v := .slice sa sn sc) rfl; have x3 := hW1.cell (i := 3) (v := .slice ga gn_ gc) rfl; have HSh1 := Lib.hid (HSh.out w1 hK1))
    | (go_at_call 5; with_reducible refine Calls.mono HSh1.out ?_; rintro e w2 ⟨rfl, hK2⟩; have HKx := Lib.hid (hK1.trans hK2 (fun _ _ h => h)); clear hK2))
  clear z0 z1 z2 z3 z4 z5 z6 z7 z8 hW1 x0 x1 x2 x3 HSh1 HSh HFw hK1 d0 d1 d2 d3 d4 d5 d6 d7 d8 hmx
  have HC := Lib.hid (HC0.out.kp HKx.out (fun h => h))
  have HWb := Lib.hid (HW0.out.kp HKx.out (fun h => h))
  refine wp_region_looseG (p := upTo 17) (V := atV [EqV (.pointer (some ⟨w.heap.size + 1, 0, none⟩)), EqV (.int .i64 kind), EqV (.bool false), EqV (.bool false), EqV (undef), EqV (undef), EqV (undef), EqV (.bool false), EqV (.bool false), EqV (undef), EqV (undef), EqV (undef), EqV (undef), EqV (undef), EqV (undef), EqV (undef), EqV (.bool false)]) (LP := #[true, true, true, true, true, true, true, true, true, true, true, true, true, true, true, true, true, false]) (K := 1) (by kernel_rfl) (by kernel_rfl) (atV_st ?hstA1) ?hstepA1 (by kernel_rfl) ?hLPA1 (by kernel_rfl) ?hendA1
  case hstA1 =>
    intro W h
    simp only [List.mem_cons, List.not_mem_nil, or_false] at h
    rcases h with rfl | rfl | rfl | rfl | rfl | rfl | rfl | rfl | rfl | rfl | rfl | rfl | rfl | rfl | rfl | rfl | rfl <;> first | exact EqV.st _ | exact fun _ _ _ k ⟨p, a4, c4, a5, c5, h1, h2⟩ => ⟨p, a4, c4, a5, c5, h1, h2.kp k⟩
  case hLPA1 => exact upTo_spec (by kernel_rfl)
  case hstepA1 =>
    intro i o ho hp a u hk hoff hdep
    have e2 : a.tmps[2]?.getD undef = (.pointer (some ⟨w.heap.size, 0, none⟩)) := slot_at (hoff 2 (noDst_spec (by kernel_rfl)))
    have e3 : a.tmps[3]?.getD undef = (.pointer (some ⟨w.heap.size + 1, 0, none⟩)) := slot_at (hoff 3 (noDst_spec (by kernel_rfl)))
    clear hoff
    match i, ho with
    | 0, ho =>
      obtain rfl := Option.some.inj ho
      refine lg_none rfl ?_
      refine lw_value (v := .pointer (some ⟨w.heap.size + 1, 0, none⟩)) (u' := u) ?_ (Kp.refl _ _) rfl
      go_simp
    | 1, ho =>
      obtain rfl := Option.some.inj ho
      have e21 : a.tmps[21]?.getD undef = .pointer (some ⟨w.heap.size + 1, 0, none⟩) := slot_at (hdep ⟨0, .data⟩ (by simp) rfl _ 21 rfl rfl)
      refine lg_none rfl ?_
      have c0 := (HWb.out.kp hk (fun h => h)).cell (i := 0) (v := .int .i64 kind) rfl
      refine lw_value (v := .int .i64 kind) (u' := u) ?_ (Kp.refl _ _) rfl
      go_simp
    | 2, ho =>
      obtain rfl := Option.some.inj ho
      have e22 : a.tmps[22]?.getD undef = .int .i64 kind := slot_at (hdep ⟨1, .data⟩ (by simp) rfl _ 22 rfl rfl)
      refine lg_none rfl ?_
      have hq := HQ.out
      refine lw_value (v := .bool false) (u' := u) ?_ (Kp.refl _ _) rfl
      go_simp
    | 3, ho =>
      obtain rfl := Option.some.inj ho
      have e23 : a.tmps[23]?.getD undef = .bool false := slot_at (hdep ⟨2, .data⟩ (by simp) rfl _ 23 rfl rfl)
      refine lg_none rfl ?_
      refine lw_value (v := .bool false) (u' := u) ?_ (Kp.refl _ _) rfl
      go_simp
    | 4, ho =>
      obtain rfl := Option.some.inj ho
      have e24 : a.tmps[24]?.getD undef = .bool false := slot_at (hdep ⟨3, .guard⟩ (by simp) rfl _ 24 rfl rfl)
      exact lg_off (x := 24) rfl rfl e24 rfl rfl
    | 5, ho =>
      obtain rfl := Option.some.inj ho
      have e24 : a.tmps[24]?.getD undef = .bool false := slot_at (hdep ⟨3, .chain⟩ (by simp) rfl _ 24 rfl rfl)
      exact lg_off (x := 24) rfl rfl e24 rfl rfl
    | 6, ho =>
      obtain rfl := Option.some.inj ho
      have e24 : a.tmps[24]?.getD undef = .bool false := slot_at (hdep ⟨3, .guard⟩ (by simp) rfl _ 24 rfl rfl)
      exact lg_off (x := 24) rfl rfl e24 rfl rfl
    | 7, ho =>
      obtain rfl := Option.some.inj ho
      have e24 : a.tmps[24]?.getD undef = .bool false := slot_at (hdep ⟨3, .data⟩ (by simp) rfl _ 24 rfl rfl)
      have e27 : a.tmps[27]?.getD undef = undef := slot_at (hdep ⟨6, .data⟩ (by simp) rfl _ 27 rfl rfl)
      refine lg_none rfl ?_
      refine lw_value (v := .bool false) (u' := u) ?_ (Kp.refl _ _) rfl
      go_simp
    | 8, ho =>
      obtain rfl := Option.some.inj ho
      have e28 : a.tmps[28]?.getD undef = .bool false := slot_at (hdep ⟨7, .data⟩ (by simp) rfl _ 28 rfl rfl)
      refine lg_none rfl ?_
      refine lw_value (v := .bool false) (u' := u) ?_ (Kp.refl _ _) rfl
      go_simp
    | 9, ho =>
      obtain rfl := Option.some.inj ho
      have e29 : a.tmps[29]?.getD undef = .bool false := slot_at (hdep ⟨8, .guard⟩ (by simp) rfl _ 29 rfl rfl)
      exact lg_off (x := 29) rfl rfl e29 rfl rfl
    | 10, ho =>
      obtain rfl := Option.some.inj ho
      have e29 : a.tmps[29]?.getD undef = .bool false := slot_at (hdep ⟨8, .chain⟩ (by simp) rfl _ 29 rfl rfl)
      exact lg_off (x := 29) rfl rfl e29 rfl rfl
    | 11, ho =>
      obtain rfl := Option.some.inj ho
      have e29 : a.tmps[29]?.getD undef = .bool false := slot_at (hdep ⟨8, .guard⟩ (by simp) rfl _ 29 rfl rfl)
      exact lg_off (x := 29) rfl rfl e29 rfl rfl
    | 12, ho =>
      obtain rfl := Option.some.inj ho
      have e29 : a.tmps[29]?.getD undef = .bool false := slot_at (hdep ⟨8, .guard⟩ (by simp) rfl _ 29 rfl rfl)
      exact lg_off (x := 29) rfl rfl e29 rfl rfl
    | 13, ho =>
      obtain rfl := Option.some.inj ho
      have e29 : a.tmps[29]?.getD undef = .bool false := slot_at (hdep ⟨8, .guard⟩ (by simp) rfl _ 29 rfl rfl)
      exact lg_off (x := 29) rfl rfl e29 rfl rfl
    | 14, ho =>
      obtain rfl := Option.some.inj ho
      have e29 : a.tmps[29]?.getD undef = .bool false := slot_at (hdep ⟨8, .guard⟩ (by simp) rfl _ 29 rfl rfl)
      exact lg_off (x := 29) rfl rfl e29 rfl rfl
    | 15, ho =>
      obtain rfl := Option.some.inj ho
      have e29 : a.tmps[29]?.getD undef = .bool false := slot_at (hdep ⟨8, .guard⟩ (by simp) rfl _ 29 rfl rfl)
      exact lg_off (x := 29) rfl rfl e29 rfl rfl
    | 16, ho =>
      obtain rfl := Option.some.inj ho
      have e29 : a.tmps[29]?.getD undef = .bool false := slot_at (hdep ⟨8, .data⟩ (by simp) rfl _ 29 rfl rfl)
      have e36 : a.tmps[36]?.getD undef = undef := slot_at (hdep ⟨15, .data⟩ (by simp) rfl _ 36 rfl rfl)
      refine lg_none rfl ?_
      refine lw_value (v := .bool false) (u' := u) ?_ (Kp.refl _ _) rfl
      go_simp
    | n + 17, _ => exact absurd hp (by simp [upTo])
  intro a u hI
  have hsz : a.tmps.size = 47 := hI.size
  have hdf : a.defers = [] := hI.defers
  have f0 : a.tmps.getD 0 undef = _ := hI.off 0 (noDst_spec (p := upTo 17) (by kernel_rfl))
  have f1 : a.tmps.getD 1 undef = _ := hI.off 1 (noDst_spec (p := upTo 17) (by kernel_rfl))
  have f2 : a.tmps.getD 2 undef = _ := hI.off 2 (noDst_spec (p := upTo 17) (by kernel_rfl))
  have f3 : a.tmps.getD 3 undef = _ := hI.off 3 (noDst_spec (p := upTo 17) (by kernel_rfl))
  have f4 : a.tmps.getD 4 undef = _ := hI.off 4 (noDst_spec (p := upTo 17) (by kernel_rfl))
  have f5 : a.tmps.getD 5 undef = _ := hI.off 5 (noDst_spec (p := upTo 17) (by kernel_rfl))
  have f6 : a.tmps.getD 6 undef = _ := hI.off 6 (noDst_spec (p := upTo 17) (by kernel_rfl))
  have f7 : a.tmps.getD 7 undef = _ := hI.off 7 (noDst_spec (p := upTo 17) (by kernel_rfl))
  have f8 : a.tmps.getD 8 undef = _ := hI.off 8 (noDst_spec (p := upTo 17) (by kernel_rfl))
  have f9 : a.tmps.getD 9 undef = _ := hI.off 9 (noDst_spec (p := upTo 17) (by kernel_rfl))
  have f10 : a.tmps.getD 10 undef = _ := hI.off 10 (noDst_spec (p := upTo 17) (by kernel_rfl))
  have f11 : a.tmps.getD 11 undef = _ := hI.off 11 (noDst_spec (p := upTo 17) (by kernel_rfl))
  have f12 : a.tmps.getD 12 undef = _ := hI.off 12 (noDst_spec (p := upTo 17) (by kernel_rfl))
  have f13 : a.tmps.getD 13 undef = _ := hI.off 13 (noDst_spec (p := upTo 17) (by kernel_rfl))
  have f14 : a.tmps.getD 14 undef = _ := hI.off 14 (noDst_spec (p := upTo 17) (by kernel_rfl))
  have f15 : a.tmps.getD 15 undef = _ := hI.off 15 (noDst_spec (p := upTo 17) (by kernel_rfl))
  have f16 : a.tmps.getD 16 undef = _ := hI.off 16 (noDst_spec (p := upTo 17) (by kernel_rfl))
  have f17 : a.tmps.getD 17 undef = _ := hI.off 17 (noDst_spec (p := upTo 17) (by kernel_rfl))
  have f18 : a.tmps.getD 18 undef = _ := hI.off 18 (noDst_spec (p := upTo 17) (by kernel_rfl))
  have f19 : a.tmps.getD 19 undef = _ := hI.off 19 (noDst_spec (p := upTo 17) (by kernel_rfl))
  have f20 : a.tmps.getD 20 undef = _ := hI.off 20 (noDst_spec (p := upTo 17) (by kernel_rfl))
  have f38 : a.tmps.getD 38 undef = _ := hI.off 38 (noDst_spec (p := upTo 17) (by kernel_rfl))
  have f39 : a.tmps.getD 39 undef = _ := hI.off 39 (noDst_spec (p := upTo 17) (by kernel_rfl))
  have f40 : a.tmps.getD 40 undef = _ := hI.off 40 (noDst_spec (p := upTo 17) (by kernel_rfl))
  have f41 : a.tmps.getD 41 undef = _ := hI.off 41 (noDst_spec (p := upTo 17) (by kernel_rfl))
  have f42 : a.tmps.getD 42 undef = _ := hI.off 42 (noDst_spec (p := upTo 17) (by kernel_rfl))
  have f43 : a.tmps.getD 43 undef = _ := hI.off 43 (noDst_spec (p := upTo 17) (by kernel_rfl))
  have f44 : a.tmps.getD 44 undef = _ := hI.off 44 (noDst_spec (p := upTo 17) (by kernel_rfl))
  have f45 : a.tmps.getD 45 undef = _ := hI.off 45 (noDst_spec (p := upTo 17) (by kernel_rfl))
  have f46 : a.tmps.getD 46 undef = _ := hI.off 46 (noDst_spec (p := upTo 17) (by kernel_rfl))
  have f21 : a.tmps.getD 21 undef = .pointer (some ⟨w.heap.size + 1, 0, none⟩) := hI.val 0 _ 21 rfl rfl rfl
  have f22 : a.tmps.getD 22 undef = .int .i64 kind := hI.val 1 _ 22 rfl rfl rfl
  have f23 : a.tmps.getD 23 undef = .bool false := hI.val 2 _ 23 rfl rfl rfl
  have f24 : a.tmps.getD 24 undef = .bool false := hI.val 3 _ 24 rfl rfl rfl
  have f25 : a.tmps.getD 25 undef = undef := hI.val 4 _ 25 rfl rfl rfl
  have f26 : a.tmps.getD 26 undef = undef := hI.val 5 _ 26 rfl rfl rfl
  have f27 : a.tmps.getD 27 undef = undef := hI.val 6 _ 27 rfl rfl rfl
  have f28 : a.tmps.getD 28 undef = .bool false := hI.val 7 _ 28 rfl rfl rfl
  have f29 : a.tmps.getD 29 undef = .bool false := hI.val 8 _ 29 rfl rfl rfl
  have f30 : a.tmps.getD 30 undef = undef := hI.val 9 _ 30 rfl rfl rfl
  have f31 : a.tmps.getD 31 undef = undef := hI.val 10 _ 31 rfl rfl rfl
  have f32 : a.tmps.getD 32 undef = undef := hI.val 11 _ 32 rfl rfl rfl
  have f33 : a.tmps.getD 33 undef = undef := hI.val 12 _ 33 rfl rfl rfl
  have f34 : a.tmps.getD 34 undef = undef := hI.val 13 _ 34 rfl rfl rfl
  have f35 : a.tmps.getD 35 undef = undef := hI.val 14 _ 35 rfl rfl rfl
  have f36 : a.tmps.getD 36 undef = undef := hI.val 15 _ 36 rfl rfl rfl
  have f37 : a.tmps.getD 37 undef = .bool false := hI.val 16 _ 37 rfl rfl rfl
  have ha : a = ⟨#[a.tmps.getD 0 undef, a.tmps.getD 1 undef, a.tmps.getD 2 undef, a.tmps.getD 3 undef, a.tmps.getD 4 undef, a.tmps.getD 5 undef, a.tmps.getD 6 undef, a.tmps.getD 7 undef, a.tmps.getD 8 undef, a.tmps.getD 9 undef, a.tmps.getD 10 undef, a.tmps.getD 11 undef, a.tmps.getD 12 undef, a.tmps.getD 13 undef, a.tmps.getD 14 undef, a.tmps.getD 15 undef, a.tmps.getD 16 undef, a.tmps.getD 17 undef, a.tmps.getD 18 undef, a.tmps.getD 19 undef, a.tmps.getD 20 undef, a.tmps.getD 21 undef, a.tmps.getD 22 undef, a.tmps.getD 23 undef, a.tmps.getD 24 undef, a.tmps.getD 25 undef, a.tmps.getD 26 undef, a.tmps.getD 27 undef, a.tmps.getD 28 undef, a.tmps.getD 29 undef, a.tmps.getD 30 undef, a.tmps.getD 31 undef, a.tmps.getD 32 undef, a.tmps.getD 33 undef, a.tmps.getD 34 undef, a.tmps.getD 35 undef, a.tmps.getD 36 undef, a.tmps.getD 37 undef, a.tmps.getD 38 undef, a.tmps.getD 39 undef, a.tmps.getD 40 undef, a.tmps.getD 41 undef, a.tmps.getD 42 undef, a.tmps.getD 43 undef, a.tmps.getD 44 undef, a.tmps.getD 45 undef, a.tmps.getD 46 undef], a.defers⟩ := act_list a 47 hsz
  rw [hdf, f0, f1, f2, f3, f4, f5, f6, f7, f8, f9, f10, f11, f12, f13, f14, f15, f16, f17, f18, f19, f20, f21, f22, f23, f24, f25, f26, f27, f28, f29, f30, f31, f32, f33, f34, f35, f36, f37, f38, f39, f40, f41, f42, f43, f44, f45, f46] at ha
  have hku := hI.kp
  clear hI hsz hdf f0 f1 f2 f3 f4 f5 f6 f7 f8 f9 f10 f11 f12 f13 f14 f15 f16 f17 f18 f19 f20 f21 f22 f23 f24 f25 f26 f27 f28 f29 f30 f31 f32 f33 f34 f35 f36 f37 f38 f39 f40 f41 f42 f43 f44 f45 f46 
  subst ha
  refine wpAny_tail 17 rfl (by kernel_rfl) ?_
  simp only [List.drop_succ_cons, List.drop_zero]
  go_upto_region 4 with fail
  have HKy := Lib.hid (HKx.out.trans hku (fun _ _ h => h))
  clear hku HC HWb HKx
  obtain ⟨wy, rfl⟩ : ∃ wy : World, wy = u := ⟨_, rfl⟩
  have HC := Lib.hid (HC0.out.kp HKy.out (fun h => h))
  have HWb := Lib.hid (HW0.out.kp HKy.out (fun h => h))
  have HOwn := Lib.hid (fun u (hu : Kp (fun _ => False) wy u) => HOwn0.out u (HKy.out.trans hu (fun _ _ h => h)))
  have HRep := Lib.hid (fun u (hu : Kp (fun _ => False) wy u) => HRep0.out u (HKy.out.trans hu (fun _ _ h => h)))
  have HLv := Lib.hid (fun u (hu : Kp (fun _ => False) wy u) => HLv0.out u (HKy.out.trans hu (fun _ _ h => h)))
  refine wp_region_looseG (p := upTo 9) (V := atV [EqV (.agg #[.int .i64 C.max, .slice V.ai C.ins.length V.ci, .slice V.al C.lats.length V.cl, .slice V.ao C.outs.length V.co, .slice V.ab C.bads.length V.cb, .slice V.ac C.cons.length V.cc, .slice V.ag C.gates.length V.cg, .slice V.ay V.ny V.cy, .string V.cm]), (fun u v => ∃ V1, v = .agg (cvals V1 C) ∧ CAt u V1 C ∧ V1.ny = V.ny), EqV (.agg #[.int .i64 kind, .int .i64 prop, .slice sa sn sc, .slice ga gn_ gc]), EqV (.bool false), EqV ((.bool false)), EqV (.bool true), EqV (.bool true), EqV (.bool true), EqV (.bool true)]) (LP := #[true, true, true, true, true, true, true, true, true, false]) (K := 1) (by kernel_rfl) (by kernel_rfl) (atV_st ?hstB1) ?hstepB1 (by kernel_rfl) ?hLPB1 (by kernel_rfl) ?hendB1
  case hstB1 =>
    intro W h
    simp only [List.mem_cons, List.not_mem_nil, or_false] at h
    rcases h with rfl | rfl | rfl | rfl | rfl | rfl | rfl | rfl | rfl <;> first | exact EqV.st _ | exact fun _ _ _ k ⟨V1, h1, h2, h3⟩ => ⟨V1, h1, h2.kp k, h3⟩
  case hLPB1 => exact upTo_spec (by kernel_rfl)
  case hstepB1 =>
    intro i o ho hp a u hk hoff hdep
    have e2 : a.tmps[2]?.getD undef = (.pointer (some ⟨w.heap.size, 0, none⟩)) := slot_at (hoff 2 (noDst_spec (by kernel_rfl)))
    have e3 : a.tmps[3]?.getD undef = (.pointer (some ⟨w.heap.size + 1, 0, none⟩)) := slot_at (hoff 3 (noDst_spec (by kernel_rfl)))
    have e5 : a.tmps[5]?.getD undef = (.bool false) := slot_at (hoff 5 (noDst_spec (by kernel_rfl)))
    clear hoff
    match i, ho with
    | 0, ho =>
      obtain rfl := Option.some.inj ho
      refine lg_none rfl ?_
      obtain ⟨d0, d1, d2, d3, d4, d5, d6, d7, d8⟩ := Blk.cells9 (HC.out.kp hk (fun h => h))
      refine lw_value (v := .agg #[.int .i64 C.max, .slice V.ai C.ins.length V.ci, .slice V.al C.lats.length V.cl, .slice V.ao C.outs.length V.co, .slice V.ab C.bads.length V.cb, .slice V.ac C.cons.length V.cc, .slice V.ag C.gates.length V.cg, .slice V.ay V.ny V.cy, .string V.cm]) (u' := u) ?_ (Kp.refl _ _) rfl
      go_simp
    | 1, ho =>
      obtain rfl := Option.some.inj ho
      have e38 : a.tmps[38]?.getD undef = .agg #[.int .i64 C.max, .slice V.ai C.ins.length V.ci, .slice V.al C.lats.length V.cl, .slice V.ao C.outs.length V.co, .slice V.ab C.bads.length V.cb, .slice V.ac C.cons.length V.cc, .slice V.ag C.gates.length V.cg, .slice V.ay V.ny V.cy, .string V.cm] := slot_at (hdep ⟨0, .data⟩ (by simp) rfl _ 38 rfl rfl)
      refine lg_none rfl ?_
      refine lw_call (f := 11) (args := #[.agg #[.int .i64 C.max, .slice V.ai C.ins.length V.ci, .slice V.al C.lats.length V.cl, .slice V.ao C.outs.length V.co, .slice V.ab C.bads.length V.cb, .slice V.ac C.cons.length V.cc, .slice V.ag C.gates.length V.cg, .slice V.ay V.ny V.cy, .string V.cm]]) ?_ ?_
      · go_simp
      · exact (HOwn.out u hk).mono (by
          rintro e u' ⟨V1, rfl, h1, h2, hK⟩
          exact ⟨_, rfl, hK, V1, rfl, h1, h2⟩)
    | 2, ho =>
      obtain rfl := Option.some.inj ho
      refine lg_none rfl ?_
      have c0 := (HWb.out.kp hk (fun h => h)).cell (i := 0) (v := .int .i64 kind) rfl
      have c1 := (HWb.out.kp hk (fun h => h)).cell (i := 1) (v := .int .i64 prop) rfl
      have c2 := (HWb.out.kp hk (fun h => h)).cell (i := 2) (v := .slice sa sn sc) rfl
      have c3 := (HWb.out.kp hk (fun h => h)).cell (i := 3) (v := .slice ga gn_ gc) rfl
      refine lw_value (v := .agg #[.int .i64 kind, .int .i64 prop, .slice sa sn sc, .slice ga gn_ gc]) (u' := u) ?_ (Kp.refl _ _) rfl
      go_simp
    | 3, ho =>
      obtain rfl := Option.some.inj ho
      have e40 : a.tmps[40]?.getD undef = .agg #[.int .i64 kind, .int .i64 prop, .slice sa sn sc, .slice ga gn_ gc] := slot_at (hdep ⟨2, .data⟩ (by simp) rfl _ 40 rfl rfl)
      refine lg_none rfl ?_
      obtain ⟨V1, ev, hC1, hy1⟩ : ∃ V1, (a.tmps.getD 39 undef) = .agg (cvals V1 C) ∧ CAt u V1 C ∧ V1.ny = V.ny := hdep ⟨1, .data⟩ (by simp) rfl _ 39 rfl rfl
      have e39 := slot_at ev
      refine lw_call (f := 10) (args := #[.agg (cvals V1 C), .agg #[.int .i64 kind, .int .i64 prop, .slice sa sn sc, .slice ga gn_ gc]]) ?_ ?_
      · go_simp
      · exact (HRep.out u hk V1 hC1 hy1).mono (by
          rintro e u' ⟨rfl, hK⟩
          exact ⟨_, rfl, hK, rfl⟩)
    | 4, ho =>
      obtain rfl := Option.some.inj ho
      refine lg_none rfl ?_
      refine lw_value (v := (.bool false)) (u' := u) ?_ (Kp.refl _ _) rfl
      go_simp
    | 5, ho =>
      obtain rfl := Option.some.inj ho
      have e41 : a.tmps[41]?.getD undef = .bool false := slot_at (hdep ⟨3, .data⟩ (by simp) rfl _ 41 rfl rfl)
      have e42 : a.tmps[42]?.getD undef = (.bool false) := slot_at (hdep ⟨4, .data⟩ (by simp) rfl _ 42 rfl rfl)
      refine lg_none rfl ?_
      refine lw_value (v := .bool true) (u' := u) ?_ (Kp.refl _ _) rfl
      go_simp
    | 6, ho =>
      obtain rfl := Option.some.inj ho
      have e43 : a.tmps[43]?.getD undef = .bool true := slot_at (hdep ⟨5, .data⟩ (by simp) rfl _ 43 rfl rfl)
      refine lg_none rfl ?_
      refine lw_value (v := .bool true) (u' := u) ?_ (Kp.refl _ _) rfl
      go_simp
    | 7, ho =>
      obtain rfl := Option.some.inj ho
      have e44 : a.tmps[44]?.getD undef = .bool true := slot_at (hdep ⟨6, .chain⟩ (by simp) rfl _ 44 rfl rfl)
      refine lg_on (x := 44) rfl rfl e44 ?_
      refine lw_call (f := 6) (args := #[]) ?_ ?_
      · go_simp
      · exact (HLv.out u hk).mono (by
          rintro e u' ⟨rfl, hK⟩
          exact ⟨_, rfl, hK, rfl⟩)
    | 8, ho =>
      obtain rfl := Option.some.inj ho
      have e44 : a.tmps[44]?.getD undef = .bool true := slot_at (hdep ⟨6, .data⟩ (by simp) rfl _ 44 rfl rfl)
      have e45 : a.tmps[45]?.getD undef = .bool true := slot_at (hdep ⟨7, .data⟩ (by simp) rfl _ 45 rfl rfl)
      refine lg_none rfl ?_
      refine lw_value (v := .bool true) (u' := u) ?_ (Kp.refl _ _) rfl
      go_simp
    | n + 9, _ => exact absurd hp (by simp [upTo])
  intro a u hI
  have hsz : a.tmps.size = 47 := hI.size
  have hdf : a.defers = [] := hI.defers
  have f0 : a.tmps.getD 0 undef = _ := hI.off 0 (noDst_spec (p := upTo 9) (by kernel_rfl))
  have f1 : a.tmps.getD 1 undef = _ := hI.off 1 (noDst_spec (p := upTo 9) (by kernel_rfl))
  have f2 : a.tmps.getD 2 undef = _ := hI.off 2 (noDst_spec (p := upTo 9) (by kernel_rfl))
  have f3 : a.tmps.getD 3 undef = _ := hI.off 3 (noDst_spec (p := upTo 9) (by kernel_rfl))
  have f4 : a.tmps.getD 4 undef = _ := hI.off 4 (noDst_spec (p := upTo 9) (by kernel_rfl))
  have f5 : a.tmps.getD 5 undef = _ := hI.off 5 (noDst_spec (p := upTo 9) (by kernel_rfl))
  have f6 : a.tmps.getD 6 undef = _ := hI.off 6 (noDst_spec (p := upTo 9) (by kernel_rfl))
  have f7 : a.tmps.getD 7 undef = _ := hI.off 7 (noDst_spec (p := upTo 9) (by kernel_rfl))
  have f8 : a.tmps.getD 8 undef = _ := hI.off 8 (noDst_spec (p := upTo 9) (by kernel_rfl))
  have f9 : a.tmps.getD 9 undef = _ := hI.off 9 (noDst_spec (p := upTo 9) (by kernel_rfl))
  have f10 : a.tmps.getD 10 undef = _ := hI.off 10 (noDst_spec (p := upTo 9) (by kernel_rfl))
  have f11 : a.tmps.getD 11 undef = _ := hI.off 11 (noDst_spec (p := upTo 9) (by kernel_rfl))
  have f12 : a.tmps.getD 12 undef = _ := hI.off 12 (noDst_spec (p := upTo 9) (by kernel_rfl))
  have f13 : a.tmps.getD 13 undef = _ := hI.off 13 (noDst_spec (p := upTo 9) (by kernel_rfl))
  have f14 : a.tmps.getD 14 undef = _ := hI.off 14 (noDst_spec (p := upTo 9) (by kernel_rfl))
  have f15 : a.tmps.getD 15 undef = _ := hI.off 15 (noDst_spec (p := upTo 9) (by kernel_rfl))
  have f16 : a.tmps.getD 16 undef = _ := hI.off 16 (noDst_spec (p := upTo 9) (by kernel_rfl))
  have f17 : a.tmps.getD 17 undef = _ := hI.off 17 (noDst_spec (p := upTo 9) (by kernel_rfl))
  have f18 : a.tmps.getD 18 undef = _ := hI.off 18 (noDst_spec (p := upTo 9) (by kernel_rfl))
  have f19 : a.tmps.getD 19 undef = _ := hI.off 19 (noDst_spec (p := upTo 9) (by kernel_rfl))
  have f20 : a.tmps.getD 20 undef = _ := hI.off 20 (noDst_spec (p := upTo 9) (by kernel_rfl))
  have f21 : a.tmps.getD 21 undef = _ := hI.off 21 (noDst_spec (p := upTo 9) (by kernel_rfl))
  have f22 : a.tmps.getD 22 undef = _ := hI.off 22 (noDst_spec (p := upTo 9) (by kernel_rfl))
  have f23 : a.tmps.getD 23 undef = _ := hI.off 23 (noDst_spec (p := upTo 9) (by kernel_rfl))
  have f24 : a.tmps.getD 24 undef = _ := hI.off 24 (noDst_spec (p := upTo 9) (by kernel_rfl))
  have f25 : a.tmps.getD 25 undef = _ := hI.off 25 (noDst_spec (p := upTo 9) (by kernel_rfl))
  have f26 : a.tmps.getD 26 undef = _ := hI.off 26 (noDst_spec (p := upTo 9) (by kernel_rfl))
  have f27 : a.tmps.getD 27 undef = _ := hI.off 27 (noDst_spec (p := upTo 9) (by kernel_rfl))
  have f28 : a.tmps.getD 28 undef = _ := hI.off 28 (noDst_spec (p := upTo 9) (by kernel_rfl))
  have f29 : a.tmps.getD 29 undef = _ := hI.off 29 (noDst_spec (p := upTo 9) (by kernel_rfl))
  have f30 : a.tmps.getD 30 undef = _ := hI.off 30 (noDst_spec (p := upTo 9) (by kernel_rfl))
  have f31 : a.tmps.getD 31 undef = _ := hI.off 31 (noDst_spec (p := upTo 9) (by kernel_rfl))
  have f32 : a.tmps.getD 32 undef = _ := hI.off 32 (noDst_spec (p := upTo 9) (by kernel_rfl))
  have f33 : a.tmps.getD 33 undef = _ := hI.off 33 (noDst_spec (p := upTo 9) (by kernel_rfl))
  have f34 : a.tmps.getD 34 undef = _ := hI.off 34 (noDst_spec (p := upTo 9) (by kernel_rfl))
  have f35 : a.tmps.getD 35 undef = _ := hI.off 35 (noDst_spec (p := upTo 9) (by kernel_rfl))
  have f36 : a.tmps.getD 36 undef = _ := hI.off 36 (noDst_spec (p := upTo 9) (by kernel_rfl))
  have f37 : a.tmps.getD 37 undef = _ := hI.off 37 (noDst_spec (p := upTo 9) (by kernel_rfl))
  have f38 : a.tmps.getD 38 undef = .agg #[.int .i64 C.max, .slice V.ai C.ins.length V.ci, .slice V.al C.lats.length V.cl, .slice V.ao C.outs.length V.co, .slice V.ab C.bads.length V.cb, .slice V.ac C.cons.length V.cc, .slice V.ag C.gates.length V.cg, .slice V.ay V.ny V.cy, .string V.cm] := hI.val 0 _ 38 rfl rfl rfl
  have g39 : ((fun u v => ∃ V1, v = .agg (cvals V1 C) ∧ CAt u V1 C ∧ V1.ny = V.ny)) u (a.tmps.getD 39 undef) := hI.val 1 _ 39 rfl rfl rfl
  have f40 : a.tmps.getD 40 undef = .agg #[.int .i64 kind, .int .i64 prop, .slice sa sn sc, .slice ga gn_ gc] := hI.val 2 _ 40 rfl rfl rfl
  have f41 : a.tmps.getD 41 undef = .bool false := hI.val 3 _ 41 rfl rfl rfl
  have f42 : a.tmps.getD 42 undef = (.bool false) := hI.val 4 _ 42 rfl rfl rfl
  have f43 : a.tmps.getD 43 undef = .bool true := hI.val 5 _ 43 rfl rfl rfl
  have f44 : a.tmps.getD 44 undef = .bool true := hI.val 6 _ 44 rfl rfl rfl
  have f45 : a.tmps.getD 45 undef = .bool true := hI.val 7 _ 45 rfl rfl rfl
  have f46 : a.tmps.getD 46 undef = .bool true := hI.val 8 _ 46 rfl rfl rfl
  have ha : a = ⟨#[a.tmps.getD 0 undef, a.tmps.getD 1 undef, a.tmps.getD 2 undef, a.tmps.getD 3 undef, a.tmps.getD 4 undef, a.tmps.getD 5 undef, a.tmps.getD 6 undef, a.tmps.getD 7 undef, a.tmps.getD 8 undef, a.tmps.getD 9 undef, a.tmps.getD 10 undef, a.tmps.getD 11 undef, a.tmps.getD 12 undef, a.tmps.getD 13 undef, a.tmps.getD 14 undef, a.tmps.getD 15 undef, a.tmps.getD 16 undef, a.tmps.getD 17 undef, a.tmps.getD 18 undef, a.tmps.getD 19 undef, a.tmps.getD 20 undef, a.tmps.getD 21 undef, a.tmps.getD 22 undef, a.tmps.getD 23 undef, a.tmps.getD 24 undef, a.tmps.getD 25 undef, a.tmps.getD 26 undef, a.tmps.getD 27 undef, a.tmps.getD 28 undef, a.tmps.getD 29 undef, a.tmps.getD 30 undef, a.tmps.getD 31 undef, a.tmps.getD 32 undef, a.tmps.getD 33 undef, a.tmps.getD 34 undef, a.tmps.getD 35 undef, a.tmps.getD 36 undef, a.tmps.getD 37 undef, a.tmps.getD 38 undef, a.tmps.getD 39 undef, a.tmps.getD 40 undef, a.tmps.getD 41 undef, a.tmps.getD 42 undef, a.tmps.getD 43 undef, a.tmps.getD 44 undef, a.tmps.getD 45 undef, a.tmps.getD 46 undef], a.defers⟩ := act_list a 47 hsz
  rw [hdf, f0, f1, f2, f3, f4, f5, f6, f7, f8, f9, f10, f11, f12, f13, f14, f15, f16, f17, f18, f19, f20, f21, f22, f23, f24, f25, f26, f27, f28, f29, f30, f31, f32, f33, f34, f35, f36, f37, f38, f40, f41, f42, f43, f44, f45, f46] at ha
  obtain ⟨x39, hx39⟩ : ∃ x, a.tmps.getD 39 undef = x := ⟨_, rfl⟩
  rw [hx39] at ha
  rw [hx39] at g39
  have hku := hI.kp
  clear hI hsz hdf f0 f1 f2 f3 f4 f5 f6 f7 f8 f9 f10 f11 f12 f13 f14 f15 f16 f17 f18 f19 f20 f21 f22 f23 f24 f25 f26 f27 f28 f29 f30 f31 f32 f33 f34 f35 f36 f37 f38 f40 f41 f42 f43 f44 f45 f46 hx39
  subst ha
  refine wpAny_tail 9 rfl (by kernel_rfl) ?_
  simp only [List.drop_succ_cons, List.drop_zero]
  have HKz := Lib.hid (HK0.out.trans (HKy.out.trans hku (fun _ _ h => h)) (fun _ _ h => h))
  clear hku g39
  go_wp2_with fail
  go_ret
  exact ⟨rfl, HKz.out⟩

set_option maxRecDepth 100000 in
set_option maxHeartbeats 8000000 in
theorem replays_2 (V : CV) (C : Circ) (prop : Int) (sa : Option Addr) (sn sc : Nat) (ga : Option Addr) (gn_ gc : Nat) (st : List Bool) (rows : List (List Bool)) (w : World) (h : CAt w V C) (hm : ML w) (hF : FewP V C 30) (hM : ¬ 300 < C.max) (hSh : ∀ u, Kp (fun _ => False) w u → Calls Tryz.prog 5 #[.agg #[.slice sa sn sc, .slice ga gn_ gc], .int .i64 20] u fun e w' => e = .returned (.bool true) ∧ Kp (fun _ => False) u w') (hs : BS w sa sn st) (hi : GS w ga gn_ gc rows) (hc : ckCode C ≠ 0) :
    Calls Tryz.prog 3 #[.agg (cvals V C), .agg #[.int .i64 1, .int .i64 prop, .slice sa sn sc, .slice ga gn_ gc]] w fun e w' => e = .returned (.bool true) ∧ Kp (fun _ => False) w w' := by
  obtain ⟨wz, hwz⟩ : ∃ wz : World, wz = (w.alloc (.cells (cvals V C) 27)).alloc (.cells #[.int .i64 1, .int .i64 prop, .slice sa sn sc, .slice ga gn_ gc] 33) := ⟨_, rfl⟩
  have HK0 := Lib.hid (show Kp (fun _ => False) w wz by rw [hwz]; exact ((Kp.refl _ w).alloc _).alloc _)
  have HC0 := Lib.hid (show Blk wz w.heap.size #[.int .i64 C.max, .slice V.ai C.ins.length V.ci, .slice V.al C.lats.length V.cl, .slice V.ao C.outs.length V.co, .slice V.ab C.bads.length V.cb, .slice V.ac C.cons.length V.cc, .slice V.ag C.gates.length V.cg, .slice V.ay V.ny V.cy, .string V.cm] 27 by rw [hwz]; exact (Blk.new w (cvals V C) _).alloc _)
  have HW0 := Lib.hid (show Blk wz (w.heap.size + 1) #[.int .i64 1, .int .i64 prop, .slice sa sn sc, .slice ga gn_ gc] 33 by rw [hwz]; exact two_blk _ _ _ _ _)
  obtain ⟨d0, d1, d2, d3, d4, d5, d6, d7, d8⟩ := Blk.cells9 HC0.out
  have HZ := Lib.hid hwz
  have HFw0 := few_ok (w := wz) hF
  unfold cvals at HFw0
  have HFw := Lib.hid HFw0
  have hmx : decide ((300 : Int) < C.max) = false := decide_eq_false hM
  have HSh := Lib.hid (fun u (hu : Kp (fun _ => False) wz u) => hSh u (HK0.out.trans hu (fun _ _ h => h)))
  have HLv0 := Lib.hid (fun u (hu : Kp (fun _ => False) wz u) => wit_lives u (hm.kp (HK0.out.trans hu (fun _ _ h => h))))
  have hf := hF.few (show 30 ≤ 1000000 by decide)
  have hy : V.ny ≤ 1000000 := Nat.le_trans hF.y (by decide)
  have HOwn0 := Lib.hid (fun u (hu : Kp (fun _ => False) wz u) => law11_Own V C u (h.kp (HK0.out.trans hu (fun _ _ h => h))) hf hy)
  have HRep0 := Lib.hid (fun u (hu : Kp (fun _ => False) wz u) V1 (h1 : CAt u V1 C) (hy1 : V1.ny = V.ny) => wit_Replay V1 C 1 prop sa sn sc ga gn_ gc st rows u h1 hf (by rw [hy1]; exact hy) (hs.kp (HK0.out.trans hu (fun _ _ h => h))) (hi.kp (HK0.out.trans hu (fun _ _ h => h))))
  have HCk0 := Lib.hid (fun u (hu : Kp (fun _ => False) wz u) => ref11_Chk V C u (h.kp (HK0.out.trans hu (fun _ _ h => h))) hf)
  unfold replayB at HRep0
  rw [decide_eq_false hc, Bool.false_and, Bool.false_and] at HRep0
  obtain ⟨ck, hck⟩ : ∃ k, ckCode C = k := ⟨_, rfl⟩
  rw [hck] at HCk0 hc
  have HQ := Lib.hid (show ((ck : Int) == 0) = false by simp [hc])
  unfold cvals at HCk0
  clear hck
  have HOwn1 := HOwn0
  unfold cvals at HOwn0
  clear HOwn1 HFw0 h hm hF hSh hs hi hwz hf hy hc
  have HMx := Lib.hid hM
  clear hM
  go_enter Tryz.func3, Tryz.ntmps3
  go_upto_region 1 with fail
  rw [← HZ.out]
  clear HZ
  go_upto_region 3 with (first
    | (go_at_call 4; with_reducible refine Calls.mono HFw.out ?_; rintro e w1 ⟨rfl, hK1⟩; obtain ⟨z0, z1, z2, z3, z4, z5, z6, z7, z8⟩ := Blk.cells9 (HC0.out.kp hK1 (fun h => h)); have hW1 := HW0.out.kp hK1 (fun h => h); have x0 := hW1.cell (i := 0) (v := .int .i64 1) rfl; have x1 := hW1.cell (i := 1) (v := .int .i64 prop) rfl; have x2 := hW1.cell (i := 2) (v := .slice sa sn sc) rfl; have x3 := hW1.cell (i := 3) (v := .slice ga gn_ gc) rfl; have HSh1 := Lib.hid (HSh.out w1 hK1))
    | (go_at_call 5; with_reducible refine Calls.mono HSh1.out ?_; rintro e w2 ⟨rfl, hK2⟩; have HKx := Lib.hid (hK1.trans hK2 (fun _ _ h => h)); clear hK2))
  clear z0 z1 z2 z3 z4 z5 z6 z7 z8 hW1 x0 x1 x2 x3 HSh1 HSh HFw hK1 d0 d1 d2 d3 d4 d5 d6 d7 d8 hmx
  have HC := Lib.hid (HC0.out.kp HKx.out (fun h => h))
  have HWb := Lib.hid (HW0.out.kp HKx.out (fun h => h))
  have HCk := Lib.hid (fun u (hu : Kp (fun _ => False) w2 u) => HCk0.out u (HKx.out.trans hu (fun _ _ h => h)))
  refine wp_region_looseG (p := upTo 17) (V := atV [EqV (.pointer (some ⟨w.heap.size + 1, 0, none⟩)), EqV (.int .i64 1), EqV (.bool true), EqV (.bool true), EqV (.agg #[.int .i64 C.max, .slice V.ai C.ins.length V.ci, .slice V.al C.lats.length V.cl, .slice V.ao C.outs.length V.co, .slice V.ab C.bads.length V.cb, .slice V.ac C.cons.length V.cc, .slice V.ag C.gates.length V.cg, .slice V.ay V.ny V.cy, .string V.cm]), EqV (.int .i64 ck), EqV (.bool false), EqV (.bool false), EqV (.bool false), EqV (undef), EqV (undef), EqV (undef), EqV (undef), EqV (undef), EqV (undef), EqV (undef), EqV (.bool false)]) (LP := #[true, true, true, true, true, true, true, true, true, true, true, true, true, true, true, true, true, false]) (K := 1) (by kernel_rfl) (by kernel_rfl) (atV_st ?hstA2) ?hstepA2 (by kernel_rfl) ?hLPA2 (by kernel_rfl) ?hendA2
  case hstA2 =>
    intro W h
    simp only [List.mem_cons, List.not_mem_nil, or_false] at h
    rcases h with rfl | rfl | rfl | rfl | rfl | rfl | rfl | rfl | rfl | rfl | rfl | rfl | rfl | rfl | rfl | rfl | rfl <;> first | exact EqV.st _ | exact fun _ _ _ k ⟨p, a4, c4, a5, c5, h1, h2⟩ => ⟨p, a4, c4, a5, c5, h1, h2.kp k⟩
  case hLPA2 => exact upTo_spec (by kernel_rfl)
  case hstepA2 =>
    intro i o ho hp a u hk hoff hdep
    have e2 : a.tmps[2]?.getD undef = (.pointer (some ⟨w.heap.size, 0, none⟩)) := slot_at (hoff 2 (noDst_spec (by kernel_rfl)))
    have e3 : a.tmps[3]?.getD undef = (.pointer (some ⟨w.heap.size + 1, 0, none⟩)) := slot_at (hoff 3 (noDst_spec (by kernel_rfl)))
    clear hoff
    match i, ho with
    | 0, ho =>
      obtain rfl := Option.some.inj ho
      refine lg_none rfl ?_
      refine lw_value (v := .pointer (some ⟨w.heap.size + 1, 0, none⟩)) (u' := u) ?_ (Kp.refl _ _) rfl
      go_simp
    | 1, ho =>
      obtain rfl := Option.some.inj ho
      have e21 : a.tmps[21]?.getD undef = .pointer (some ⟨w.heap.size + 1, 0, none⟩) := slot_at (hdep ⟨0, .data⟩ (by simp) rfl _ 21 rfl rfl)
      refine lg_none rfl ?_
      have c0 := (HWb.out.kp hk (fun h => h)).cell (i := 0) (v := .int .i64 1) rfl
      refine lw_value (v := .int .i64 1) (u' := u) ?_ (Kp.refl _ _) rfl
      go_simp
    | 2, ho =>
      obtain rfl := Option.some.inj ho
      have e22 : a.tmps[22]?.getD undef = .int .i64 1 := slot_at (hdep ⟨1, .data⟩ (by simp) rfl _ 22 rfl rfl)
      refine lg_none rfl ?_
      refine lw_value (v := .bool true) (u' := u) ?_ (Kp.refl _ _) rfl
      go_simp
    | 3, ho =>
      obtain rfl := Option.some.inj ho
      have e23 : a.tmps[23]?.getD undef = .bool true := slot_at (hdep ⟨2, .data⟩ (by simp) rfl _ 23 rfl rfl)
      refine lg_none rfl ?_
      refine lw_value (v := .bool true) (u' := u) ?_ (Kp.refl _ _) rfl
      go_simp
    | 4, ho =>
      obtain rfl := Option.some.inj ho
      have e24 : a.tmps[24]?.getD undef = .bool true := slot_at (hdep ⟨3, .guard⟩ (by simp) rfl _ 24 rfl rfl)
      refine lg_on (x := 24) rfl rfl e24 ?_
      obtain ⟨d0, d1, d2, d3, d4, d5, d6, d7, d8⟩ := Blk.cells9 (HC.out.kp hk (fun h => h))
      refine lw_value (v := .agg #[.int .i64 C.max, .slice V.ai C.ins.length V.ci, .slice V.al C.lats.length V.cl, .slice V.ao C.outs.length V.co, .slice V.ab C.bads.length V.cb, .slice V.ac C.cons.length V.cc, .slice V.ag C.gates.length V.cg, .slice V.ay V.ny V.cy, .string V.cm]) (u' := u) ?_ (Kp.refl _ _) rfl
      go_simp
    | 5, ho =>
      obtain rfl := Option.some.inj ho
      have e25 : a.tmps[25]?.getD undef = .agg #[.int .i64 C.max, .slice V.ai C.ins.length V.ci, .slice V.al C.lats.length V.cl, .slice V.ao C.outs.length V.co, .slice V.ab C.bads.length V.cb, .slice V.ac C.cons.length V.cc, .slice V.ag C.gates.length V.cg, .slice V.ay V.ny V.cy, .string V.cm] := slot_at (hdep ⟨4, .data⟩ (by simp) rfl _ 25 rfl rfl)
      have e24 : a.tmps[24]?.getD undef = .bool true := slot_at (hdep ⟨3, .chain⟩ (by simp) rfl _ 24 rfl rfl)
      refine lg_on (x := 24) rfl rfl e24 ?_
      refine lw_call (f := 7) (args := #[.agg #[.int .i64 C.max, .slice V.ai C.ins.length V.ci, .slice V.al C.lats.length V.cl, .slice V.ao C.outs.length V.co, .slice V.ab C.bads.length V.cb, .slice V.ac C.cons.length V.cc, .slice V.ag C.gates.length V.cg, .slice V.ay V.ny V.cy, .string V.cm]]) ?_ ?_
      · go_simp
      · exact (HCk.out u hk).mono (by
          rintro e u' ⟨rfl, hK⟩
          exact ⟨_, rfl, hK, rfl⟩)
    | 6, ho =>
      obtain rfl := Option.some.inj ho
      have e26 : a.tmps[26]?.getD undef = .int .i64 ck := slot_at (hdep ⟨5, .data⟩ (by simp) rfl _ 26 rfl rfl)
      have e24 : a.tmps[24]?.getD undef = .bool true := slot_at (hdep ⟨3, .guard⟩ (by simp) rfl _ 24 rfl rfl)
      refine lg_on (x := 24) rfl rfl e24 ?_
      have hq := HQ.out
      refine lw_value (v := .bool false) (u' := u) ?_ (Kp.refl _ _) rfl
      go_simp
    | 7, ho =>
      obtain rfl := Option.some.inj ho
      have e24 : a.tmps[24]?.getD undef = .bool true := slot_at (hdep ⟨3, .data⟩ (by simp) rfl _ 24 rfl rfl)
      have e27 : a.tmps[27]?.getD undef = .bool false := slot_at (hdep ⟨6, .data⟩ (by simp) rfl _ 27 rfl rfl)
      refine lg_none rfl ?_
      refine lw_value (v := .bool false) (u' := u) ?_ (Kp.refl _ _) rfl
      go_simp
    | 8, ho =>
      obtain rfl := Option.some.inj ho
      have e28 : a.tmps[28]?.getD undef = .bool false := slot_at (hdep ⟨7, .data⟩ (by simp) rfl _ 28 rfl rfl)
      refine lg_none rfl ?_
      refine lw_value (v := .bool false) (u' := u) ?_ (Kp.refl _ _) rfl
      go_simp
    | 9, ho =>
      obtain rfl := Option.some.inj ho
      have e29 : a.tmps[29]?.getD undef = .bool false := slot_at (hdep ⟨8, .guard⟩ (by simp) rfl _ 29 rfl rfl)
      exact lg_off (x := 29) rfl rfl e29 rfl rfl
    | 10, ho =>
      obtain rfl := Option.some.inj ho
      have e29 : a.tmps[29]?.getD undef = .bool false := slot_at (hdep ⟨8, .chain⟩ (by simp) rfl _ 29 rfl rfl)
      exact lg_off (x := 29) rfl rfl e29 rfl rfl
    | 11, ho =>
      obtain rfl := Option.some.inj ho
      have e29 : a.tmps[29]?.getD undef = .bool false := slot_at (hdep ⟨8, .guard⟩ (by simp) rfl _ 29 rfl rfl)
      exact lg_off (x := 29) rfl rfl e29 rfl rfl
    | 12, ho =>
      obtain rfl := Option.some.inj ho
      have e29 : a.tmps[29]?.getD undef = .bool false := slot_at (hdep ⟨8, .guard⟩ (by simp) rfl _ 29 rfl rfl)
      exact lg_off (x := 29) rfl rfl e29 rfl rfl
    | 13, ho =>
      obtain rfl := Option.some.inj ho
      have e29 : a.tmps[29]?.getD undef = .bool false := slot_at (hdep ⟨8, .guard⟩ (by simp) rfl _ 29 rfl rfl)
      exact lg_off (x := 29) rfl rfl e29 rfl rfl
    | 14, ho =>
      obtain rfl := Option.some.inj ho
      have e29 : a.tmps[29]?.getD undef = .bool false := slot_at (hdep ⟨8, .guard⟩ (by simp) rfl _ 29 rfl rfl)
      exact lg_off (x := 29) rfl rfl e29 rfl rfl
    | 15, ho =>
      obtain rfl := Option.some.inj ho
      have e29 : a.tmps[29]?.getD undef = .bool false := slot_at (hdep ⟨8, .guard⟩ (by simp) rfl _ 29 rfl rfl)
      exact lg_off (x := 29) rfl rfl e29 rfl rfl
    | 16, ho =>
      obtain rfl := Option.some.inj ho
      have e29 : a.tmps[29]?.getD undef = .bool false := slot_at (hdep ⟨8, .data⟩ (by simp) rfl _ 29 rfl rfl)
      have e36 : a.tmps[36]?.getD undef = undef := slot_at (hdep ⟨15, .data⟩ (by simp) rfl _ 36 rfl rfl)
      refine lg_none rfl ?_
      refine lw_value (v := .bool false) (u' := u) ?_ (Kp.refl _ _) rfl
      go_simp
    | n + 17, _ => exact absurd hp (by simp [upTo])
  intro a u hI
  have hsz : a.tmps.size = 47 := hI.size
  have hdf : a.defers = [] := hI.defers
  have f0 : a.tmps.getD 0 undef = _ := hI.off 0 (noDst_spec (p := upTo 17) (by kernel_rfl))
  have f1 : a.tmps.getD 1 undef = _ := hI.off 1 (noDst_spec (p := upTo 17) (by kernel_rfl))
  have f2 : a.tmps.getD 2 undef = _ := hI.off 2 (noDst_spec (p := upTo 17) (by kernel_rfl))
  have f3 : a.tmps.getD 3 undef = _ := hI.off 3 (noDst_spec (p := upTo 17) (by kernel_rfl))
  have f4 : a.tmps.getD 4 undef = _ := hI.off 4 (noDst_spec (p := upTo 17) (by kernel_rfl))
  have f5 : a.tmps.getD 5 undef = _ := hI.off 5 (noDst_spec (p := upTo 17) (by kernel_rfl))
  have f6 : a.tmps.getD 6 undef = _ := hI.off 6 (noDst_spec (p := upTo 17) (by kernel_rfl))
  have f7 : a.tmps.getD 7 undef = _ := hI.off 7 (noDst_spec (p := upTo 17) (by kernel_rfl))
  have f8 : a.tmps.getD 8 undef = _ := hI.off 8 (noDst_spec (p := upTo 17) (by kernel_rfl))
  have f9 : a.tmps.getD 9 undef = _ := hI.off 9 (noDst_spec (p := upTo 17) (by kernel_rfl))
  have f10 : a.tmps.getD 10 undef = _ := hI.off 10 (noDst_spec (p := upTo 17) (by kernel_rfl))
  have f11 : a.tmps.getD 11 undef = _ := hI.off 11 (noDst_spec (p := upTo 17) (by kernel_rfl))
  have f12 : a.tmps.getD 12 undef = _ := hI.off 12 (noDst_spec (p := upTo 17) (by kernel_rfl))
  have f13 : a.tmps.getD 13 undef = _ := hI.off 13 (noDst_spec (p := upTo 17) (by kernel_rfl))
  have f14 : a.tmps.getD 14 undef = _ := hI.off 14 (noDst_spec (p := upTo 17) (by kernel_rfl))
  have f15 : a.tmps.getD 15 undef = _ := hI.off 15 (noDst_spec (p := upTo 17) (by kernel_rfl))
  have f16 : a.tmps.getD 16 undef = _ := hI.off 16 (noDst_spec (p := upTo 17) (by kernel_rfl))
  have f17 : a.tmps.getD 17 undef = _ := hI.off 17 (noDst_spec (p := upTo 17) (by kernel_rfl))
  have f18 : a.tmps.getD 18 undef = _ := hI.off 18 (noDst_spec (p := upTo 17) (by kernel_rfl))
  have f19 : a.tmps.getD 19 undef = _ := hI.off 19 (noDst_spec (p := upTo 17) (by kernel_rfl))
  have f20 : a.tmps.getD 20 undef = _ := hI.off 20 (noDst_spec (p := upTo 17) (by kernel_rfl))
  have f38 : a.tmps.getD 38 undef = _ := hI.off 38 (noDst_spec (p := upTo 17) (by kernel_rfl))
  have f39 : a.tmps.getD 39 undef = _ := hI.off 39 (noDst_spec (p := upTo 17) (by kernel_rfl))
  have f40 : a.tmps.getD 40 undef = _ := hI.off 40 (noDst_spec (p := upTo 17) (by kernel_rfl))
  have f41 : a.tmps.getD 41 undef = _ := hI.off 41 (noDst_spec (p := upTo 17) (by kernel_rfl))
  have f42 : a.tmps.getD 42 undef = _ := hI.off 42 (noDst_spec (p := upTo 17) (by kernel_rfl))
  have f43 : a.tmps.getD 43 undef = _ := hI.off 43 (noDst_spec (p := upTo 17) (by kernel_rfl))
  have f44 : a.tmps.getD 44 undef = _ := hI.off 44 (noDst_spec (p := upTo 17) (by kernel_rfl))
  have f45 : a.tmps.getD 45 undef = _ := hI.off 45 (noDst_spec (p := upTo 17) (by kernel_rfl))
  have f46 : a.tmps.getD 46 undef = _ := hI.off 46 (noDst_spec (p := upTo 17) (by kernel_rfl))
  have f21 : a.tmps.getD 21 undef = .pointer (some ⟨w.heap.size + 1, 0, none⟩) := hI.val 0 _ 21 rfl rfl rfl
  have f22 : a.tmps.getD 22 undef = .int .i64 1 := hI.val 1 _ 22 rfl rfl rfl
  have f23 : a.tmps.getD 23 undef = .bool true := hI.val 2 _ 23 rfl rfl rfl
  have f24 : a.tmps.getD 24 undef = .bool true := hI.val 3 _ 24 rfl rfl rfl
  have f25 : a.tmps.getD 25 undef = .agg #[.int .i64 C.max, .slice V.ai C.ins.length V.ci, .slice V.al C.lats.length V.cl, .slice V.ao C.outs.length V.co, .slice V.ab C.bads.length V.cb, .slice V.ac C.cons.length V.cc, .slice V.ag C.gates.length V.cg, .slice V.ay V.ny V.cy, .string V.cm] := hI.val 4 _ 25 rfl rfl rfl
  have f26 : a.tmps.getD 26 undef = .int .i64 ck := hI.val 5 _ 26 rfl rfl rfl
  have f27 : a.tmps.getD 27 undef = .bool false := hI.val 6 _ 27 rfl rfl rfl
  have f28 : a.tmps.getD 28 undef = .bool false := hI.val 7 _ 28 rfl rfl rfl
  have f29 : a.tmps.getD 29 undef = .bool false := hI.val 8 _ 29 rfl rfl rfl
  have f30 : a.tmps.getD 30 undef = undef := hI.val 9 _ 30 rfl rfl rfl
  have f31 : a.tmps.getD 31 undef = undef := hI.val 10 _ 31 rfl rfl rfl
  have f32 : a.tmps.getD 32 undef = undef := hI.val 11 _ 32 rfl rfl rfl
  have f33 : a.tmps.getD 33 undef = undef := hI.val 12 _ 33 rfl rfl rfl
  have f34 : a.tmps.getD 34 undef = undef := hI.val 13 _ 34 rfl rfl rfl
  have f35 : a.tmps.getD 35 undef = undef := hI.val 14 _ 35 rfl rfl rfl
  have f36 : a.tmps.getD 36 undef = undef := hI.val 15 _ 36 rfl rfl rfl
  have f37 : a.tmps.getD 37 undef = .bool false := hI.val 16 _ 37 rfl rfl rfl
  have ha : a = ⟨#[a.tmps.getD 0 undef, a.tmps.getD 1 undef, a.tmps.getD 2 undef, a.tmps.getD 3 undef, a.tmps.getD 4 undef, a.tmps.getD 5 undef, a.tmps.getD 6 undef, a.tmps.getD 7 undef, a.tmps.getD 8 undef, a.tmps.getD 9 undef, a.tmps.getD 10 undef, a.tmps.getD 11 undef, a.tmps.getD 12 undef, a.tmps.getD 13 undef, a.tmps.getD 14 undef, a.tmps.getD 15 undef, a.tmps.getD 16 undef, a.tmps.getD 17 undef, a.tmps.getD 18 undef, a.tmps.getD 19 undef, a.tmps.getD 20 undef, a.tmps.getD 21 undef, a.tmps.getD 22 undef, a.tmps.getD 23 undef, a.tmps.getD 24 undef, a.tmps.getD 25 undef, a.tmps.getD 26 undef, a.tmps.getD 27 undef, a.tmps.getD 28 undef, a.tmps.getD 29 undef, a.tmps.getD 30 undef, a.tmps.getD 31 undef, a.tmps.getD 32 undef, a.tmps.getD 33 undef, a.tmps.getD 34 undef, a.tmps.getD 35 undef, a.tmps.getD 36 undef, a.tmps.getD 37 undef, a.tmps.getD 38 undef, a.tmps.getD 39 undef, a.tmps.getD 40 undef, a.tmps.getD 41 undef, a.tmps.getD 42 undef, a.tmps.getD 43 undef, a.tmps.getD 44 undef, a.tmps.getD 45 undef, a.tmps.getD 46 undef], a.defers⟩ := act_list a 47 hsz
  rw [hdf, f0, f1, f2, f3, f4, f5, f6, f7, f8, f9, f10, f11, f12, f13, f14, f15, f16, f17, f18, f19, f20, f21, f22, f23, f24, f25, f26, f27, f28, f29, f30, f31, f32, f33, f34, f35, f36, f37, f38, f39, f40, f41, f42, f43, f44, f45, f46] at ha
  have hku := hI.kp
  clear hI hsz hdf f0 f1 f2 f3 f4 f5 f6 f7 f8 f9 f10 f11 f12 f13 f14 f15 f16 f17 f18 f19 f20 f21 f22 f23 f24 f25 f26 f27 f28 f29 f30 f31 f32 f33 f34 f35 f36 f37 f38 f39 f40 f41 f42 f43 f44 f45 f46 
  subst ha
  refine wpAny_tail 17 rfl (by kernel_rfl) ?_
  simp only [List.drop_succ_cons, List.drop_zero]
  go_upto_region 4 with fail
  have HKy := Lib.hid (HKx.out.trans hku (fun _ _ h => h))
  clear hku HC HWb HKx HCk
  obtain ⟨wy, rfl⟩ : ∃ wy : World, wy = u := ⟨_, rfl⟩
  have HC := Lib.hid (HC0.out.kp HKy.out (fun h => h))
  have HWb := Lib.hid (HW0.out.kp HKy.out (fun h => h))
  have HOwn := Lib.hid (fun u (hu : Kp (fun _ => False) wy u) => HOwn0.out u (HKy.out.trans hu (fun _ _ h => h)))
  have HRep := Lib.hid (fun u (hu : Kp (fun _ => False) wy u) => HRep0.out u (HKy.out.trans hu (fun _ _ h => h)))
  have HLv := Lib.hid (fun u (hu : Kp (fun _ => False) wy u) => HLv0.out u (HKy.out.trans hu (fun _ _ h => h)))
  refine wp_region_looseG (p := upTo 9) (V := atV [EqV (.agg #[.int .i64 C.max, .slice V.ai C.ins.length V.ci, .slice V.al C.lats.length V.cl, .slice V.ao C.outs.length V.co, .slice V.ab C.bads.length V.cb, .slice V.ac C.cons.length V.cc, .slice V.ag C.gates.length V.cg, .slice V.ay V.ny V.cy, .string V.cm]), (fun u v => ∃ V1, v = .agg (cvals V1 C) ∧ CAt u V1 C ∧ V1.ny = V.ny), EqV (.agg #[.int .i64 1, .int .i64 prop, .slice sa sn sc, .slice ga gn_ gc]), EqV (.bool false), EqV ((.bool false)), EqV (.bool true), EqV (.bool true), EqV (.bool true), EqV (.bool true)]) (LP := #[true, true, true, true, true, true, true, true, true, false]) (K := 1) (by kernel_rfl) (by kernel_rfl) (atV_st ?hstB2) ?hstepB2 (by kernel_rfl) ?hLPB2 (by kernel_rfl) ?hendB2
  case hstB2 =>
    intro W h
    simp only [List.mem_cons, List.not_mem_nil, or_false] at h
    rcases h with rfl | rfl | rfl | rfl | rfl | rfl | rfl | rfl | rfl <;> first | exact EqV.st _ | exact fun _ _ _ k ⟨V1, h1, h2, h3⟩ => ⟨V1, h1, h2.kp k, h3⟩
  case hLPB2 => exact upTo_spec (by kernel_rfl)
  case hstepB2 =>
    intro i o ho hp a u hk hoff hdep
    have e2 : a.tmps[2]?.getD undef = (.pointer (some ⟨w.heap.size, 0, none⟩)) := slot_at (hoff 2 (noDst_spec (by kernel_rfl)))
    have e3 : a.tmps[3]?.getD undef = (.pointer (some ⟨w.heap.size + 1, 0, none⟩)) := slot_at (hoff 3 (noDst_spec (by kernel_rfl)))
    have e5 : a.tmps[5]?.getD undef = (.bool false) := slot_at (hoff 5 (noDst_spec (by kernel_rfl)))
    clear hoff
    match i, ho with
    | 0, ho =>
      obtain rfl := Option.some.inj ho
      refine lg_none rfl ?_
      obtain ⟨d0, d1, d2, d3, d4, d5, d6, d7, d8⟩ := Blk.cells9 (HC.out.kp hk (fun h => h))
      refine lw_value (v := .agg #[.int .i64 C.max, .slice V.ai C.ins.length V.ci, .slice V.al C.lats.length V.cl, .slice V.ao C.outs.length V.co, .slice V.ab C.bads.length V.cb, .slice V.ac C.cons.length V.cc, .slice V.ag C.gates.length V.cg, .slice V.ay V.ny V.cy, .string V.cm]) (u' := u) ?_ (Kp.refl _ _) rfl
      go_simp
    | 1, ho =>
      obtain rfl := Option.some.inj ho
      have e38 : a.tmps[38]?.getD undef = .agg #[.int .i64 C.max, .slice V.ai C.ins.length V.ci, .slice V.al C.lats.length V.cl, .slice V.ao C.outs.length V.co, .slice V.ab C.bads.length V.cb, .slice V.ac C.cons.length V.cc, .slice V.ag C.gates.length V.cg, .slice V.ay V.ny V.cy, .string V.cm] := slot_at (hdep ⟨0, .data⟩ (by simp) rfl _ 38 rfl rfl)
      refine lg_none rfl ?_
      refine lw_call (f := 11) (args := #[.agg #[.int .i64 C.max, .slice V.ai C.ins.length V.ci, .slice V.al C.lats.length V.cl, .slice V.ao C.outs.length V.co, .slice V.ab C.bads.length V.cb, .slice V.ac C.cons.length V.cc, .slice V.ag C.gates.length V.cg, .slice V.ay V.ny V.cy, .string V.cm]]) ?_ ?_
      · go_simp
      · exact (HOwn.out u hk).mono (by
          rintro e u' ⟨V1, rfl, h1, h2, hK⟩
          exact ⟨_, rfl, hK, V1, rfl, h1, h2⟩)
    | 2, ho =>
      obtain rfl := Option.some.inj ho
      refine lg_none rfl ?_
      have c0 := (HWb.out.kp hk (fun h => h)).cell (i := 0) (v := .int .i64 1) rfl
      have c1 := (HWb.out.kp hk (fun h => h)).cell (i := 1) (v := .int .i64 prop) rfl
      have c2 := (HWb.out.kp hk (fun h => h)).cell (i := 2) (v := .slice sa sn sc) rfl
      have c3 := (HWb.out.kp hk (fun h => h)).cell (i := 3) (v := .slice ga gn_ gc) rfl
      refine lw_value (v := .agg #[.int .i64 1, .int .i64 prop, .slice sa sn sc, .slice ga gn_ gc]) (u' := u) ?_ (Kp.refl _ _) rfl
      go_simp
    | 3, ho =>
      obtain rfl := Option.some.inj ho
      have e40 : a.tmps[40]?.getD undef = .agg #[.int .i64 1, .int .i64 prop, .slice sa sn sc, .slice ga gn_ gc] := slot_at (hdep ⟨2, .data⟩ (by simp) rfl _ 40 rfl rfl)
      refine lg_none rfl ?_
      obtain ⟨V1, ev, hC1, hy1⟩ : ∃ V1, (a.tmps.getD 39 undef) = .agg (cvals V1 C) ∧ CAt u V1 C ∧ V1.ny = V.ny := hdep ⟨1, .data⟩ (by simp) rfl _ 39 rfl rfl
      have e39 := slot_at ev
      refine lw_call (f := 10) (args := #[.agg (cvals V1 C), .agg #[.int .i64 1, .int .i64 prop, .slice sa sn sc, .slice ga gn_ gc]]) ?_ ?_
      · go_simp
      · exact (HRep.out u hk V1 hC1 hy1).mono (by
          rintro e u' ⟨rfl, hK⟩
          exact ⟨_, rfl, hK, rfl⟩)
    | 4, ho =>
      obtain rfl := Option.some.inj ho
      refine lg_none rfl ?_
      refine lw_value (v := (.bool false)) (u' := u) ?_ (Kp.refl _ _) rfl
      go_simp
    | 5, ho =>
      obtain rfl := Option.some.inj ho
      have e41 : a.tmps[41]?.getD undef = .bool false := slot_at (hdep ⟨3, .data⟩ (by simp) rfl _ 41 rfl rfl)
      have e42 : a.tmps[42]?.getD undef = (.bool false) := slot_at (hdep ⟨4, .data⟩ (by simp) rfl _ 42 rfl rfl)
      refine lg_none rfl ?_
      refine lw_value (v := .bool true) (u' := u) ?_ (Kp.refl _ _) rfl
      go_simp
    | 6, ho =>
      obtain rfl := Option.some.inj ho
      have e43 : a.tmps[43]?.getD undef = .bool true := slot_at (hdep ⟨5, .data⟩ (by simp) rfl _ 43 rfl rfl)
      refine lg_none rfl ?_
      refine lw_value (v := .bool true) (u' := u) ?_ (Kp.refl _ _) rfl
      go_simp
    | 7, ho =>
      obtain rfl := Option.some.inj ho
      have e44 : a.tmps[44]?.getD undef = .bool true := slot_at (hdep ⟨6, .chain⟩ (by simp) rfl _ 44 rfl rfl)
      refine lg_on (x := 44) rfl rfl e44 ?_
      refine lw_call (f := 6) (args := #[]) ?_ ?_
      · go_simp
      · exact (HLv.out u hk).mono (by
          rintro e u' ⟨rfl, hK⟩
          exact ⟨_, rfl, hK, rfl⟩)
    | 8, ho =>
      obtain rfl := Option.some.inj ho
      have e44 : a.tmps[44]?.getD undef = .bool true := slot_at (hdep ⟨6, .data⟩ (by simp) rfl _ 44 rfl rfl)
      have e45 : a.tmps[45]?.getD undef = .bool true := slot_at (hdep ⟨7, .data⟩ (by simp) rfl _ 45 rfl rfl)
      refine lg_none rfl ?_
      refine lw_value (v := .bool true) (u' := u) ?_ (Kp.refl _ _) rfl
      go_simp
    | n + 9, _ => exact absurd hp (by simp [upTo])
  intro a u hI
  have hsz : a.tmps.size = 47 := hI.size
  have hdf : a.defers = [] := hI.defers
  have f0 : a.tmps.getD 0 undef = _ := hI.off 0 (noDst_spec (p := upTo 9) (by kernel_rfl))
  have f1 : a.tmps.getD 1 undef = _ := hI.off 1 (noDst_spec (p := upTo 9) (by kernel_rfl))
  have f2 : a.tmps.getD 2 undef = _ := hI.off 2 (noDst_spec (p := upTo 9) (by kernel_rfl))
  have f3 : a.tmps.getD 3 undef = _ := hI.off 3 (noDst_spec (p := upTo 9) (by kernel_rfl))
  have f4 : a.tmps.getD 4 undef = _ := hI.off 4 (noDst_spec (p := upTo 9) (by kernel_rfl))
  have f5 : a.tmps.getD 5 undef = _ := hI.off 5 (noDst_spec (p := upTo 9) (by kernel_rfl))
  have f6 : a.tmps.getD 6 undef = _ := hI.off 6 (noDst_spec (p := upTo 9) (by kernel_rfl))
  have f7 : a.tmps.getD 7 undef = _ := hI.off 7 (noDst_spec (p := upTo 9) (by kernel_rfl))
  have f8 : a.tmps.getD 8 undef = _ := hI.off 8 (noDst_spec (p := upTo 9) (by kernel_rfl))
  have f9 : a.tmps.getD 9 undef = _ := hI.off 9 (noDst_spec (p := upTo 9) (by kernel_rfl))
  have f10 : a.tmps.getD 10 undef = _ := hI.off 10 (noDst_spec (p := upTo 9) (by kernel_rfl))
  have f11 : a.tmps.getD 11 undef = _ := hI.off 11 (noDst_spec (p := upTo 9) (by kernel_rfl))
  have f12 : a.tmps.getD 12 undef = _ := hI.off 12 (noDst_spec (p := upTo 9) (by kernel_rfl))
  have f13 : a.tmps.getD 13 undef = _ := hI.off 13 (noDst_spec (p := upTo 9) (by kernel_rfl))
  have f14 : a.tmps.getD 14 undef = _ := hI.off 14 (noDst_spec (p := upTo 9) (by kernel_rfl))
  have f15 : a.tmps.getD 15 undef = _ := hI.off 15 (noDst_spec (p := upTo 9) (by kernel_rfl))
  have f16 : a.tmps.getD 16 undef = _ := hI.off 16 (noDst_spec (p := upTo 9) (by kernel_rfl))
  have f17 : a.tmps.getD 17 undef = _ := hI.off 17 (noDst_spec (p := upTo 9) (by kernel_rfl))
  have f18 : a.tmps.getD 18 undef = _ := hI.off 18 (noDst_spec (p := upTo 9) (by kernel_rfl))
  have f19 : a.tmps.getD 19 undef = _ := hI.off 19 (noDst_spec (p := upTo 9) (by kernel_rfl))
  have f20 : a.tmps.getD 20 undef = _ := hI.off 20 (noDst_spec (p := upTo 9) (by kernel_rfl))
  have f21 : a.tmps.getD 21 undef = _ := hI.off 21 (noDst_spec (p := upTo 9) (by kernel_rfl))
  have f22 : a.tmps.getD 22 undef = _ := hI.off 22 (noDst_spec (p := upTo 9) (by kernel_rfl))
  have f23 : a.tmps.getD 23 undef = _ := hI.off 23 (noDst_spec (p := upTo 9) (by kernel_rfl))
  have f24 : a.tmps.getD 24 undef = _ := hI.off 24 (noDst_spec (p := upTo 9) (by kernel_rfl))
  have f25 : a.tmps.getD 25 undef = _ := hI.off 25 (noDst_spec (p := upTo 9) (by kernel_rfl))
  have f26 : a.tmps.getD 26 undef = _ := hI.off 26 (noDst_spec (p := upTo 9) (by kernel_rfl))
  have f27 : a.tmps.getD 27 undef = _ := hI.off 27 (noDst_spec (p := upTo 9) (by kernel_rfl))
  have f28 : a.tmps.getD 28 undef = _ := hI.off 28 (noDst_spec (p := upTo 9) (by kernel_rfl))
  have f29 : a.tmps.getD 29 undef = _ := hI.off 29 (noDst_spec (p := upTo 9) (by kernel_rfl))
  have f30 : a.tmps.getD 30 undef = _ := hI.off 30 (noDst_spec (p := upTo 9) (by kernel_rfl))
  have f31 : a.tmps.getD 31 undef = _ := hI.off 31 (noDst_spec (p := upTo 9) (by kernel_rfl))
  have f32 : a.tmps.getD 32 undef = _ := hI.off 32 (noDst_spec (p := upTo 9) (by kernel_rfl))
  have f33 : a.tmps.getD 33 undef = _ := hI.off 33 (noDst_spec (p := upTo 9) (by kernel_rfl))
  have f34 : a.tmps.getD 34 undef = _ := hI.off 34 (noDst_spec (p := upTo 9) (by kernel_rfl))
  have f35 : a.tmps.getD 35 undef = _ := hI.off 35 (noDst_spec (p := upTo 9) (by kernel_rfl))
  have f36 : a.tmps.getD 36 undef = _ := hI.off 36 (noDst_spec (p := upTo 9) (by kernel_rfl))
  have f37 : a.tmps.getD 37 undef = _ := hI.off 37 (noDst_spec (p := upTo 9) (by kernel_rfl))
  have f38 : a.tmps.getD 38 undef = .agg #[.int .i64 C.max, .slice V.ai C.ins.length V.ci, .slice V.al C.lats.length V.cl, .slice V.ao C.outs.length V.co, .slice V.ab C.bads.length V.cb, .slice V.ac C.cons.length V.cc, .slice V.ag C.gates.length V.cg, .slice V.ay V.ny V.cy, .string V.cm] := hI.val 0 _ 38 rfl rfl rfl
  have g39 : ((fun u v => ∃ V1, v = .agg (cvals V1 C) ∧ CAt u V1 C ∧ V1.ny = V.ny)) u (a.tmps.getD 39 undef) := hI.val 1 _ 39 rfl rfl rfl
  have f40 : a.tmps.getD 40 undef = .agg #[.int .i64 1, .int .i64 prop, .slice sa sn sc, .slice ga gn_ gc] := hI.val 2 _ 40 rfl rfl rfl
  have f41 : a.tmps.getD 41 undef = .bool false := hI.val 3 _ 41 rfl rfl rfl
  have f42 : a.tmps.getD 42 undef = (.bool false) := hI.val 4 _ 42 rfl rfl rfl
  have f43 : a.tmps.getD 43 undef = .bool true := hI.val 5 _ 43 rfl rfl rfl
  have f44 : a.tmps.getD 44 undef = .bool true := hI.val 6 _ 44 rfl rfl rfl
  have f45 : a.tmps.getD 45 undef = .bool true := hI.val 7 _ 45 rfl rfl rfl
  have f46 : a.tmps.getD 46 undef = .bool true := hI.val 8 _ 46 rfl rfl rfl
  have ha : a = ⟨#[a.tmps.getD 0 undef, a.tmps.getD 1 undef, a.tmps.getD 2 undef, a.tmps.getD 3 undef, a.tmps.getD 4 undef, a.tmps.getD 5 undef, a.tmps.getD 6 undef, a.tmps.getD 7 undef, a.tmps.getD 8 undef, a.tmps.getD 9 undef, a.tmps.getD 10 undef, a.tmps.getD 11 undef, a.tmps.getD 12 undef, a.tmps.getD 13 undef, a.tmps.getD 14 undef, a.tmps.getD 15 undef, a.tmps.getD 16 undef, a.tmps.getD 17 undef, a.tmps.getD 18 undef, a.tmps.getD 19 undef, a.tmps.getD 20 undef, a.tmps.getD 21 undef, a.tmps.getD 22 undef, a.tmps.getD 23 undef, a.tmps.getD 24 undef, a.tmps.getD 25 undef, a.tmps.getD 26 undef, a.tmps.getD 27 undef, a.tmps.getD 28 undef, a.tmps.getD 29 undef, a.tmps.getD 30 undef, a.tmps.getD 31 undef, a.tmps.getD 32 undef, a.tmps.getD 33 undef, a.tmps.getD 34 undef, a.tmps.getD 35 undef, a.tmps.getD 36 undef, a.tmps.getD 37 undef, a.tmps.getD 38 undef, a.tmps.getD 39 undef, a.tmps.getD 40 undef, a.tmps.getD 41 undef, a.tmps.getD 42 undef, a.tmps.getD 43 undef, a.tmps.getD 44 undef, a.tmps.getD 45 undef, a.tmps.getD 46 undef], a.defers⟩ := act_list a 47 hsz
  rw [hdf, f0, f1, f2, f3, f4, f5, f6, f7, f8, f9, f10, f11, f12, f13, f14, f15, f16, f17, f18, f19, f20, f21, f22, f23, f24, f25, f26, f27, f28, f29, f30, f31, f32, f33, f34, f35, f36, f37, f38, f40, f41, f42, f43, f44, f45, f46] at ha
  obtain ⟨x39, hx39⟩ : ∃ x, a.tmps.getD 39 undef = x := ⟨_, rfl⟩
  rw [hx39] at ha
  rw [hx39] at g39
  have hku := hI.kp
  clear hI hsz hdf f0 f1 f2 f3 f4 f5 f6 f7 f8 f9 f10 f11 f12 f13 f14 f15 f16 f17 f18 f19 f20 f21 f22 f23 f24 f25 f26 f27 f28 f29 f30 f31 f32 f33 f34 f35 f36 f37 f38 f40 f41 f42 f43 f44 f45 f46 hx39
  subst ha
  refine wpAny_tail 9 rfl (by kernel_rfl) ?_
  simp only [List.drop_succ_cons, List.drop_zero]
  have HKz := Lib.hid (HK0.out.trans (HKy.out.trans hku (fun _ _ h => h)) (fun _ _ h => h))
  clear hku g39
  go_wp2_with fail
  go_ret
  exact ⟨rfl, HKz.out⟩

set_option maxRecDepth 100000 in
set_option maxHeartbeats 8000000 in
theorem replays_3 (V : CV) (C : Circ) (prop : Int) (sa : Option Addr) (sn sc : Nat) (ga : Option Addr) (gn_ gc : Nat) (st : List Bool) (rows : List (List Bool)) (w : World) (h : CAt w V C) (hm : ML w) (hF : FewP V C 30) (hM : ¬ 300 < C.max) (hSh : ∀ u, Kp (fun _ => False) w u → Calls Tryz.prog 5 #[.agg #[.slice sa sn sc, .slice ga gn_ gc], .int .i64 20] u fun e w' => e = .returned (.bool true) ∧ Kp (fun _ => False) u w') (hs : BS w sa sn st) (hi : GS w ga gn_ gc rows) (hc : ckCode C = 0) :
    Calls Tryz.prog 3 #[.agg (cvals V C), .agg #[.int .i64 1, .int .i64 prop, .slice sa sn sc, .slice ga gn_ gc]] w fun e w' => e = .returned (.bool true) ∧ Kp (fun _ => False) w w' := by
  obtain ⟨wz, hwz⟩ : ∃ wz : World, wz = (w.alloc (.cells (cvals V C) 27)).alloc (.cells #[.int .i64 1, .int .i64 prop, .slice sa sn sc, .slice ga gn_ gc] 33) := ⟨_, rfl⟩
  have HK0 := Lib.hid (show Kp (fun _ => False) w wz by rw [hwz]; exact ((Kp.refl _ w).alloc _).alloc _)
  have HC0 := Lib.hid (show Blk wz w.heap.size #[.int .i64 C.max, .slice V.ai C.ins.length V.ci, .slice V.al C.lats.length V.cl, .slice V.ao C.outs.length V.co, .slice V.ab C.bads.length V.cb, .slice V.ac C.cons.length V.cc, .slice V.ag C.gates.length V.cg, .slice V.ay V.ny V.cy, .string V.cm] 27 by rw [hwz]; exact (Blk.new w (cvals V C) _).alloc _)
  have HW0 := Lib.hid (show Blk wz (w.heap.size + 1) #[.int .i64 1, .int .i64 prop, .slice sa sn sc, .slice ga gn_ gc] 33 by rw [hwz]; exact two_blk _ _ _ _ _)
  obtain ⟨d0, d1, d2, d3, d4, d5, d6, d7, d8⟩ := Blk.cells9 HC0.out
  have HZ := Lib.hid hwz
  have HFw0 := few_ok (w := wz) hF
  unfold cvals at HFw0
  have HFw := Lib.hid HFw0
  have hmx : decide ((300 : Int) < C.max) = false := decide_eq_false hM
  have HSh := Lib.hid (fun u (hu : Kp (fun _ => False) wz u) => hSh u (HK0.out.trans hu (fun _ _ h => h)))
  have HLv0 := Lib.hid (fun u (hu : Kp (fun _ => False) wz u) => wit_lives u (hm.kp (HK0.out.trans hu (fun _ _ h => h))))
  have hf := hF.few (show 30 ≤ 1000000 by decide)
  have hy : V.ny ≤ 1000000 := Nat.le_trans hF.y (by decide)
  have HOwn0 := Lib.hid (fun u (hu : Kp (fun _ => False) wz u) => law11_Own V C u (h.kp (HK0.out.trans hu (fun _ _ h => h))) hf hy)
  have HRep0 := Lib.hid (fun u (hu : Kp (fun _ => False) wz u) V1 (h1 : CAt u V1 C) (hy1 : V1.ny = V.ny) => wit_Replay V1 C 1 prop sa sn sc ga gn_ gc st rows u h1 hf (by rw [hy1]; exact hy) (hs.kp (HK0.out.trans hu (fun _ _ h => h))) (hi.kp (HK0.out.trans hu (fun _ _ h => h))))
  have HCk0 := Lib.hid (fun u (hu : Kp (fun _ => False) wz u) => ref11_Chk V C u (h.kp (HK0.out.trans hu (fun _ _ h => h))) hf)
  have HNew0 := Lib.hid (fun u (hu : Kp (fun _ => False) wz u) => ref17_New V C u (h.kp (HK0.out.trans hu (fun _ _ h => h))) hf (GoodC.of hc))
  have HBr0 := Lib.hid (fun u (hu : Kp (fun _ => False) wz u) p a4 c4 a5 c5 hM => ref17_Breaks V C p a4 a5 c4 c5 sa sn sc ga gn_ gc st rows prop u hM hf (GoodC.of hc) (hs.kp (HK0.out.trans hu (fun _ _ h => h))) (hi.kp (HK0.out.trans hu (fun _ _ h => h))))
  unfold replayB at HRep0
  rw [decide_eq_true hc, decide_eq_true rfl, Bool.true_and, Bool.true_and] at HRep0
  obtain ⟨r, hr⟩ : ∃ r, breaksM C st rows prop = r := ⟨_, rfl⟩
  rw [hr] at HBr0 HRep0
  rw [hc] at HCk0
  unfold cvals at HCk0 HNew0
  have HOwn1 := HOwn0
  unfold cvals at HOwn0
  clear HOwn1 HFw0 h hm hF hSh hs hi hwz hf hy hc hr
  have HMx := Lib.hid hM
  clear hM
  go_enter Tryz.func3, Tryz.ntmps3
  go_upto_region 1 with fail
  rw [← HZ.out]
  clear HZ
  go_upto_region 3 with (first
    | (go_at_call 4; with_reducible refine Calls.mono HFw.out ?_; rintro e w1 ⟨rfl, hK1⟩; obtain ⟨z0, z1, z2, z3, z4, z5, z6, z7, z8⟩ := Blk.cells9 (HC0.out.kp hK1 (fun h => h)); have hW1 := HW0.out.kp hK1 (fun h => h); have x0 := hW1.cell (i := 0) (v := .int .i64 1) rfl; have x1 := hW1.cell (i := 1) (v := .int .i64 prop) rfl; have x2 := hW1.cell (i := 2) (v := .slice sa sn sc) rfl; have x3 := hW1.cell (i := 3) (v := .slice ga gn_ gc) rfl; have HSh1 := Lib.hid (HSh.out w1 hK1))
    | (go_at_call 5; with_reducible refine Calls.mono HSh1.out ?_; rintro e w2 ⟨rfl, hK2⟩; have HKx := Lib.hid (hK1.trans hK2 (fun _ _ h => h)); clear hK2))
  clear z0 z1 z2 z3 z4 z5 z6 z7 z8 hW1 x0 x1 x2 x3 HSh1 HSh HFw hK1 d0 d1 d2 d3 d4 d5 d6 d7 d8 hmx
  have HC := Lib.hid (HC0.out.kp HKx.out (fun h => h))
  have HWb := Lib.hid (HW0.out.kp HKx.out (fun h => h))
  have HCk := Lib.hid (fun u (hu : Kp (fun _ => False) w2 u) => HCk0.out u (HKx.out.trans hu (fun _ _ h => h)))
  have HNew := Lib.hid (fun u (hu : Kp (fun _ => False) w2 u) => HNew0.out u (HKx.out.trans hu (fun _ _ h => h)))
  have HBr := Lib.hid (fun u (hu : Kp (fun _ => False) w2 u) => HBr0.out u (HKx.out.trans hu (fun _ _ h => h)))
  refine wp_region_looseG (p := upTo 17) (V := atV [EqV (.pointer (some ⟨w.heap.size + 1, 0, none⟩)), EqV (.int .i64 1), EqV (.bool true), EqV (.bool true), EqV (.agg #[.int .i64 C.max, .slice V.ai C.ins.length V.ci, .slice V.al C.lats.length V.cl, .slice V.ao C.outs.length V.co, .slice V.ab C.bads.length V.cb, .slice V.ac C.cons.length V.cc, .slice V.ag C.gates.length V.cg, .slice V.ay V.ny V.cy, .string V.cm]), EqV (.int .i64 0), EqV (.bool true), EqV (.bool true), EqV (.bool true), EqV (.agg #[.int .i64 C.max, .slice V.ai C.ins.length V.ci, .slice V.al C.lats.length V.cl, .slice V.ao C.outs.length V.co, .slice V.ab C.bads.length V.cb, .slice V.ac C.cons.length V.cc, .slice V.ag C.gates.length V.cg, .slice V.ay V.ny V.cy, .string V.cm]), (fun u v => ∃ p a4 c4 a5 c5, v = .pointer (some ⟨p, 0, none⟩) ∧ MAt u 54 V C p a4 c4 a5 c5), EqV (.pointer (some ⟨w.heap.size + 1, 2, none⟩)), EqV (.agg #[.slice sa sn sc, .slice ga gn_ gc]), EqV (.pointer (some ⟨w.heap.size + 1, 1, none⟩)), EqV (.int .i64 prop), EqV (.bool r), EqV (.bool r)]) (LP := #[true, true, true, true, true, true, true, true, true, true, true, true, true, true, true, true, true, false]) (K := 1) (by kernel_rfl) (by kernel_rfl) (atV_st ?hstA3) ?hstepA3 (by kernel_rfl) ?hLPA3 (by kernel_rfl) ?hendA3
  case hstA3 =>
    intro W h
    simp only [List.mem_cons, List.not_mem_nil, or_false] at h
    rcases h with rfl | rfl | rfl | rfl | rfl | rfl | rfl | rfl | rfl | rfl | rfl | rfl | rfl | rfl | rfl | rfl | rfl <;> first | exact EqV.st _ | exact fun _ _ _ k ⟨p, a4, c4, a5, c5, h1, h2⟩ => ⟨p, a4, c4, a5, c5, h1, h2.kp k⟩
  case hLPA3 => exact upTo_spec (by kernel_rfl)
  case hstepA3 =>
    intro i o ho hp a u hk hoff hdep
    have e2 : a.tmps[2]?.getD undef = (.pointer (some ⟨w.heap.size, 0, none⟩)) := slot_at (hoff 2 (noDst_spec (by kernel_rfl)))
    have e3 : a.tmps[3]?.getD undef = (.pointer (some ⟨w.heap.size + 1, 0, none⟩)) := slot_at (hoff 3 (noDst_spec (by kernel_rfl)))
    clear hoff
    match i, ho with
    | 0, ho =>
      obtain rfl := Option.some.inj ho
      refine lg_none rfl ?_
      refine lw_value (v := .pointer (some ⟨w.heap.size + 1, 0, none⟩)) (u' := u) ?_ (Kp.refl _ _) rfl
      go_simp
    | 1, ho =>
      obtain rfl := Option.some.inj ho
      have e21 : a.tmps[21]?.getD undef = .pointer (some ⟨w.heap.size + 1, 0, none⟩) := slot_at (hdep ⟨0, .data⟩ (by simp) rfl _ 21 rfl rfl)
      refine lg_none rfl ?_
      have c0 := (HWb.out.kp hk (fun h => h)).cell (i := 0) (v := .int .i64 1) rfl
      refine lw_value (v := .int .i64 1) (u' := u) ?_ (Kp.refl _ _) rfl
      go_simp
    | 2, ho =>
      obtain rfl := Option.some.inj ho
      have e22 : a.tmps[22]?.getD undef = .int .i64 1 := slot_at (hdep ⟨1, .data⟩ (by simp) rfl _ 22 rfl rfl)
      refine lg_none rfl ?_
      refine lw_value (v := .bool true) (u' := u) ?_ (Kp.refl _ _) rfl
      go_simp
    | 3, ho =>
      obtain rfl := Option.some.inj ho
      have e23 : a.tmps[23]?.getD undef = .bool true := slot_at (hdep ⟨2, .data⟩ (by simp) rfl _ 23 rfl rfl)
      refine lg_none rfl ?_
      refine lw_value (v := .bool true) (u' := u) ?_ (Kp.refl _ _) rfl
      go_simp
    | 4, ho =>
      obtain rfl := Option.some.inj ho
      have e24 : a.tmps[24]?.getD undef = .bool true := slot_at (hdep ⟨3, .guard⟩ (by simp) rfl _ 24 rfl rfl)
      refine lg_on (x := 24) rfl rfl e24 ?_
      obtain ⟨d0, d1, d2, d3, d4, d5, d6, d7, d8⟩ := Blk.cells9 (HC.out.kp hk (fun h => h))
      refine lw_value (v := .agg #[.int .i64 C.max, .slice V.ai C.ins.length V.ci, .slice V.al C.lats.length V.cl, .slice V.ao C.outs.length V.co, .slice V.ab C.bads.length V.cb, .slice V.ac C.cons.length V.cc, .slice V.ag C.gates.length V.cg, .slice V.ay V.ny V.cy, .string V.cm]) (u' := u) ?_ (Kp.refl _ _) rfl
      go_simp
    | 5, ho =>
      obtain rfl := Option.some.inj ho
      have e25 : a.tmps[25]?.getD undef = .agg #[.int .i64 C.max, .slice V.ai C.ins.length V.ci, .slice V.al C.lats.length V.cl, .slice V.ao C.outs.length V.co, .slice V.ab C.bads.length V.cb, .slice V.ac C.cons.length V.cc, .slice V.ag C.gates.length V.cg, .slice V.ay V.ny V.cy, .string V.cm] := slot_at (hdep ⟨4, .data⟩ (by simp) rfl _ 25 rfl rfl)
      have e24 : a.tmps[24]?.getD undef = .bool true := slot_at (hdep ⟨3, .chain⟩ (by simp) rfl _ 24 rfl rfl)
      refine lg_on (x := 24) rfl rfl e24 ?_
      refine lw_call (f := 7) (args := #[.agg #[.int .i64 C.max, .slice V.ai C.ins.length V.ci, .slice V.al C.lats.length V.cl, .slice V.ao C.outs.length V.co, .slice V.ab C.bads.length V.cb, .slice V.ac C.cons.length V.cc, .slice V.ag C.gates.length V.cg, .slice V.ay V.ny V.cy, .string V.cm]]) ?_ ?_
      · go_simp
      · exact (HCk.out u hk).mono (by
          rintro e u' ⟨rfl, hK⟩
          exact ⟨_, rfl, hK, rfl⟩)
    | 6, ho =>
      obtain rfl := Option.some.inj ho
      have e26 : a.tmps[26]?.getD undef = .int .i64 0 := slot_at (hdep ⟨5, .data⟩ (by simp) rfl _ 26 rfl rfl)
      have e24 : a.tmps[24]?.getD undef = .bool true := slot_at (hdep ⟨3, .guard⟩ (by simp) rfl _ 24 rfl rfl)
      refine lg_on (x := 24) rfl rfl e24 ?_
      refine lw_value (v := .bool true) (u' := u) ?_ (Kp.refl _ _) rfl
      go_simp
    | 7, ho =>
      obtain rfl := Option.some.inj ho
      have e24 : a.tmps[24]?.getD undef = .bool true := slot_at (hdep ⟨3, .data⟩ (by simp) rfl _ 24 rfl rfl)
      have e27 : a.tmps[27]?.getD undef = .bool true := slot_at (hdep ⟨6, .data⟩ (by simp) rfl _ 27 rfl rfl)
      refine lg_none rfl ?_
      refine lw_value (v := .bool true) (u' := u) ?_ (Kp.refl _ _) rfl
      go_simp
    | 8, ho =>
      obtain rfl := Option.some.inj ho
      have e28 : a.tmps[28]?.getD undef = .bool true := slot_at (hdep ⟨7, .data⟩ (by simp) rfl _ 28 rfl rfl)
      refine lg_none rfl ?_
      refine lw_value (v := .bool true) (u' := u) ?_ (Kp.refl _ _) rfl
      go_simp
    | 9, ho =>
      obtain rfl := Option.some.inj ho
      have e29 : a.tmps[29]?.getD undef = .bool true := slot_at (hdep ⟨8, .guard⟩ (by simp) rfl _ 29 rfl rfl)
      refine lg_on (x := 29) rfl rfl e29 ?_
      obtain ⟨d0, d1, d2, d3, d4, d5, d6, d7, d8⟩ := Blk.cells9 (HC.out.kp hk (fun h => h))
      refine lw_value (v := .agg #[.int .i64 C.max, .slice V.ai C.ins.length V.ci, .slice V.al C.lats.length V.cl, .slice V.ao C.outs.length V.co, .slice V.ab C.bads.length V.cb, .slice V.ac C.cons.length V.cc, .slice V.ag C.gates.length V.cg, .slice V.ay V.ny V.cy, .string V.cm]) (u' := u) ?_ (Kp.refl _ _) rfl
      go_simp
    | 10, ho =>
      obtain rfl := Option.some.inj ho
      have e30 : a.tmps[30]?.getD undef = .agg #[.int .i64 C.max, .slice V.ai C.ins.length V.ci, .slice V.al C.lats.length V.cl, .slice V.ao C.outs.length V.co, .slice V.ab C.bads.length V.cb, .slice V.ac C.cons.length V.cc, .slice V.ag C.gates.length V.cg, .slice V.ay V.ny V.cy, .string V.cm] := slot_at (hdep ⟨9, .data⟩ (by simp) rfl _ 30 rfl rfl)
      have e29 : a.tmps[29]?.getD undef = .bool true := slot_at (hdep ⟨8, .chain⟩ (by simp) rfl _ 29 rfl rfl)
      refine lg_on (x := 29) rfl rfl e29 ?_
      refine lw_call (f := 8) (args := #[.agg #[.int .i64 C.max, .slice V.ai C.ins.length V.ci, .slice V.al C.lats.length V.cl, .slice V.ao C.outs.length V.co, .slice V.ab C.bads.length V.cb, .slice V.ac C.cons.length V.cc, .slice V.ag C.gates.length V.cg, .slice V.ay V.ny V.cy, .string V.cm]]) ?_ ?_
      · go_simp
      · exact (HNew.out u hk).mono (by
          rintro e u' ⟨p, a4, c4, a5, c5, rfl, hM, hK⟩
          exact ⟨_, rfl, hK, p, a4, c4, a5, c5, rfl, hM⟩)
    | 11, ho =>
      obtain rfl := Option.some.inj ho
      have e29 : a.tmps[29]?.getD undef = .bool true := slot_at (hdep ⟨8, .guard⟩ (by simp) rfl _ 29 rfl rfl)
      refine lg_on (x := 29) rfl rfl e29 ?_
      refine lw_value (v := .pointer (some ⟨w.heap.size + 1, 2, none⟩)) (u' := u) ?_ (Kp.refl _ _) rfl
      go_simp
    | 12, ho =>
      obtain rfl := Option.some.inj ho
      have e32 : a.tmps[32]?.getD undef = .pointer (some ⟨w.heap.size + 1, 2, none⟩) := slot_at (hdep ⟨11, .data⟩ (by simp) rfl _ 32 rfl rfl)
      have e29 : a.tmps[29]?.getD undef = .bool true := slot_at (hdep ⟨8, .guard⟩ (by simp) rfl _ 29 rfl rfl)
      refine lg_on (x := 29) rfl rfl e29 ?_
      have c2 := (HWb.out.kp hk (fun h => h)).cell (i := 2) (v := .slice sa sn sc) rfl
      have c3 := (HWb.out.kp hk (fun h => h)).cell (i := 3) (v := .slice ga gn_ gc) rfl
      refine lw_value (v := .agg #[.slice sa sn sc, .slice ga gn_ gc]) (u' := u) ?_ (Kp.refl _ _) rfl
      go_simp
    | 13, ho =>
      obtain rfl := Option.some.inj ho
      have e29 : a.tmps[29]?.getD undef = .bool true := slot_at (hdep ⟨8, .guard⟩ (by simp) rfl _ 29 rfl rfl)
      refine lg_on (x := 29) rfl rfl e29 ?_
      refine lw_value (v := .pointer (some ⟨w.heap.size + 1, 1, none⟩)) (u' := u) ?_ (Kp.refl _ _) rfl
      go_simp
    | 14, ho =>
      obtain rfl := Option.some.inj ho
      have e34 : a.tmps[34]?.getD undef = .pointer (some ⟨w.heap.size + 1, 1, none⟩) := slot_at (hdep ⟨13, .data⟩ (by simp) rfl _ 34 rfl rfl)
      have e29 : a.tmps[29]?.getD undef = .bool true := slot_at (hdep ⟨8, .guard⟩ (by simp) rfl _ 29 rfl rfl)
      refine lg_on (x := 29) rfl rfl e29 ?_
      have c1 := (HWb.out.kp hk (fun h => h)).cell (i := 1) (v := .int .i64 prop) rfl
      refine lw_value (v := .int .i64 prop) (u' := u) ?_ (Kp.refl _ _) rfl
      go_simp
    | 15, ho =>
      obtain rfl := Option.some.inj ho
      have e33 : a.tmps[33]?.getD undef = .agg #[.slice sa sn sc, .slice ga gn_ gc] := slot_at (hdep ⟨12, .data⟩ (by simp) rfl _ 33 rfl rfl)
      have e35 : a.tmps[35]?.getD undef = .int .i64 prop := slot_at (hdep ⟨14, .data⟩ (by simp) rfl _ 35 rfl rfl)
      have e29 : a.tmps[29]?.getD undef = .bool true := slot_at (hdep ⟨8, .guard⟩ (by simp) rfl _ 29 rfl rfl)
      refine lg_on (x := 29) rfl rfl e29 ?_
      obtain ⟨p, a4, c4, a5, c5, ev, hM⟩ : ∃ p a4 c4 a5 c5, (a.tmps.getD 31 undef) = .pointer (some ⟨p, 0, none⟩) ∧ MAt u 54 V C p a4 c4 a5 c5 := hdep ⟨10, .data⟩ (by simp) rfl _ 31 rfl rfl
      have e31 := slot_at ev
      refine lw_call (f := 9) (args := #[.pointer (some ⟨p, 0, none⟩), .agg #[.slice sa sn sc, .slice ga gn_ gc], .int .i64 prop]) ?_ ?_
      · go_simp
      · exact (HBr.out u hk p a4 c4 a5 c5 hM).mono (by
          rintro e u' ⟨rfl, hK⟩
          exact ⟨_, rfl, hK, rfl⟩)
    | 16, ho =>
      obtain rfl := Option.some.inj ho
      have e29 : a.tmps[29]?.getD undef = .bool true := slot_at (hdep ⟨8, .data⟩ (by simp) rfl _ 29 rfl rfl)
      have e36 : a.tmps[36]?.getD undef = .bool r := slot_at (hdep ⟨15, .data⟩ (by simp) rfl _ 36 rfl rfl)
      refine lg_none rfl ?_
      refine lw_value (v := .bool r) (u' := u) ?_ (Kp.refl _ _) rfl
      go_simp
    | n + 17, _ => exact absurd hp (by simp [upTo])
  intro a u hI
  have hsz : a.tmps.size = 47 := hI.size
  have hdf : a.defers = [] := hI.defers
  have f0 : a.tmps.getD 0 undef = _ := hI.off 0 (noDst_spec (p := upTo 17) (by kernel_rfl))
  have f1 : a.tmps.getD 1 undef = _ := hI.off 1 (noDst_spec (p := upTo 17) (by kernel_rfl))
  have f2 : a.tmps.getD 2 undef = _ := hI.off 2 (noDst_spec (p := upTo 17) (by kernel_rfl))
  have f3 : a.tmps.getD 3 undef = _ := hI.off 3 (noDst_spec (p := upTo 17) (by kernel_rfl))
  have f4 : a.tmps.getD 4 undef = _ := hI.off 4 (noDst_spec (p := upTo 17) (by kernel_rfl))
  have f5 : a.tmps.getD 5 undef = _ := hI.off 5 (noDst_spec (p := upTo 17) (by kernel_rfl))
  have f6 : a.tmps.getD 6 undef = _ := hI.off 6 (noDst_spec (p := upTo 17) (by kernel_rfl))
  have f7 : a.tmps.getD 7 undef = _ := hI.off 7 (noDst_spec (p := upTo 17) (by kernel_rfl))
  have f8 : a.tmps.getD 8 undef = _ := hI.off 8 (noDst_spec (p := upTo 17) (by kernel_rfl))
  have f9 : a.tmps.getD 9 undef = _ := hI.off 9 (noDst_spec (p := upTo 17) (by kernel_rfl))
  have f10 : a.tmps.getD 10 undef = _ := hI.off 10 (noDst_spec (p := upTo 17) (by kernel_rfl))
  have f11 : a.tmps.getD 11 undef = _ := hI.off 11 (noDst_spec (p := upTo 17) (by kernel_rfl))
  have f12 : a.tmps.getD 12 undef = _ := hI.off 12 (noDst_spec (p := upTo 17) (by kernel_rfl))
  have f13 : a.tmps.getD 13 undef = _ := hI.off 13 (noDst_spec (p := upTo 17) (by kernel_rfl))
  have f14 : a.tmps.getD 14 undef = _ := hI.off 14 (noDst_spec (p := upTo 17) (by kernel_rfl))
  have f15 : a.tmps.getD 15 undef = _ := hI.off 15 (noDst_spec (p := upTo 17) (by kernel_rfl))
  have f16 : a.tmps.getD 16 undef = _ := hI.off 16 (noDst_spec (p := upTo 17) (by kernel_rfl))
  have f17 : a.tmps.getD 17 undef = _ := hI.off 17 (noDst_spec (p := upTo 17) (by kernel_rfl))
  have f18 : a.tmps.getD 18 undef = _ := hI.off 18 (noDst_spec (p := upTo 17) (by kernel_rfl))
  have f19 : a.tmps.getD 19 undef = _ := hI.off 19 (noDst_spec (p := upTo 17) (by kernel_rfl))
  have f20 : a.tmps.getD 20 undef = _ := hI.off 20 (noDst_spec (p := upTo 17) (by kernel_rfl))
  have f38 : a.tmps.getD 38 undef = _ := hI.off 38 (noDst_spec (p := upTo 17) (by kernel_rfl))
  have f39 : a.tmps.getD 39 undef = _ := hI.off 39 (noDst_spec (p := upTo 17) (by kernel_rfl))
  have f40 : a.tmps.getD 40 undef = _ := hI.off 40 (noDst_spec (p := upTo 17) (by kernel_rfl))
  have f41 : a.tmps.getD 41 undef = _ := hI.off 41 (noDst_spec (p := upTo 17) (by kernel_rfl))
  have f42 : a.tmps.getD 42 undef = _ := hI.off 42 (noDst_spec (p := upTo 17) (by kernel_rfl))
  have f43 : a.tmps.getD 43 undef = _ := hI.off 43 (noDst_spec (p := upTo 17) (by kernel_rfl))
  have f44 : a.tmps.getD 44 undef = _ := hI.off 44 (noDst_spec (p := upTo 17) (by kernel_rfl))
  have f45 : a.tmps.getD 45 undef = _ := hI.off 45 (noDst_spec (p := upTo 17) (by kernel_rfl))
  have f46 : a.tmps.getD 46 undef = _ := hI.off 46 (noDst_spec (p := upTo 17) (by kernel_rfl))
  have f21 : a.tmps.getD 21 undef = .pointer (some ⟨w.heap.size + 1, 0, none⟩) := hI.val 0 _ 21 rfl rfl rfl
  have f22 : a.tmps.getD 22 undef = .int .i64 1 := hI.val 1 _ 22 rfl rfl rfl
  have f23 : a.tmps.getD 23 undef = .bool true := hI.val 2 _ 23 rfl rfl rfl
  have f24 : a.tmps.getD 24 undef = .bool true := hI.val 3 _ 24 rfl rfl rfl
  have f25 : a.tmps.getD 25 undef = .agg #[.int .i64 C.max, .slice V.ai C.ins.length V.ci, .slice V.al C.lats.length V.cl, .slice V.ao C.outs.length V.co, .slice V.ab C.bads.length V.cb, .slice V.ac C.cons.length V.cc, .slice V.ag C.gates.length V.cg, .slice V.ay V.ny V.cy, .string V.cm] := hI.val 4 _ 25 rfl rfl rfl
  have f26 : a.tmps.getD 26 undef = .int .i64 0 := hI.val 5 _ 26 rfl rfl rfl
  have f27 : a.tmps.getD 27 undef = .bool true := hI.val 6 _ 27 rfl rfl rfl
  have f28 : a.tmps.getD 28 undef = .bool true := hI.val 7 _ 28 rfl rfl rfl
  have f29 : a.tmps.getD 29 undef = .bool true := hI.val 8 _ 29 rfl rfl rfl
  have f30 : a.tmps.getD 30 undef = .agg #[.int .i64 C.max, .slice V.ai C.ins.length V.ci, .slice V.al C.lats.length V.cl, .slice V.ao C.outs.length V.co, .slice V.ab C.bads.length V.cb, .slice V.ac C.cons.length V.cc, .slice V.ag C.gates.length V.cg, .slice V.ay V.ny V.cy, .string V.cm] := hI.val 9 _ 30 rfl rfl rfl
  have g31 : ((fun u v => ∃ p a4 c4 a5 c5, v = .pointer (some ⟨p, 0, none⟩) ∧ MAt u 54 V C p a4 c4 a5 c5)) u (a.tmps.getD 31 undef) := hI.val 10 _ 31 rfl rfl rfl
  have f32 : a.tmps.getD 32 undef = .pointer (some ⟨w.heap.size + 1, 2, none⟩) := hI.val 11 _ 32 rfl rfl rfl
  have f33 : a.tmps.getD 33 undef = .agg #[.slice sa sn sc, .slice ga gn_ gc] := hI.val 12 _ 33 rfl rfl rfl
  have f34 : a.tmps.getD 34 undef = .pointer (some ⟨w.heap.size + 1, 1, none⟩) := hI.val 13 _ 34 rfl rfl rfl
  have f35 : a.tmps.getD 35 undef = .int .i64 prop := hI.val 14 _ 35 rfl rfl rfl
  have f36 : a.tmps.getD 36 undef = .bool r := hI.val 15 _ 36 rfl rfl rfl
  have f37 : a.tmps.getD 37 undef = .bool r := hI.val 16 _ 37 rfl rfl rfl
  have ha : a = ⟨#[a.tmps.getD 0 undef, a.tmps.getD 1 undef, a.tmps.getD 2 undef, a.tmps.getD 3 undef, a.tmps.getD 4 undef, a.tmps.getD 5 undef, a.tmps.getD 6 undef, a.tmps.getD 7 undef, a.tmps.getD 8 undef, a.tmps.getD 9 undef, a.tmps.getD 10 undef, a.tmps.getD 11 undef, a.tmps.getD 12 undef, a.tmps.getD 13 undef, a.tmps.getD 14 undef, a.tmps.getD 15 undef, a.tmps.getD 16 undef, a.tmps.getD 17 undef, a.tmps.getD 18 undef, a.tmps.getD 19 undef, a.tmps.getD 20 undef, a.tmps.getD 21 undef, a.tmps.getD 22 undef, a.tmps.getD 23 undef, a.tmps.getD 24 undef, a.tmps.getD 25 undef, a.tmps.getD 26 undef, a.tmps.getD 27 undef, a.tmps.getD 28 undef, a.tmps.getD 29 undef, a.tmps.getD 30 undef, a.tmps.getD 31 undef, a.tmps.getD 32 undef, a.tmps.getD 33 undef, a.tmps.getD 34 undef, a.tmps.getD 35 undef, a.tmps.getD 36 undef, a.tmps.getD 37 undef, a.tmps.getD 38 undef, a.tmps.getD 39 undef, a.tmps.getD 40 undef, a.tmps.getD 41 undef, a.tmps.getD 42 undef, a.tmps.getD 43 undef, a.tmps.getD 44 undef, a.tmps.getD 45 undef, a.tmps.getD 46 undef], a.defers⟩ := act_list a 47 hsz
  rw [hdf, f0, f1, f2, f3, f4, f5, f6, f7, f8, f9, f10, f11, f12, f13, f14, f15, f16, f17, f18, f19, f20, f21, f22, f23, f24, f25, f26, f27, f28, f29, f30, f32, f33, f34, f35, f36, f37, f38, f39, f40, f41, f42, f43, f44, f45, f46] at ha
  obtain ⟨x31, hx31⟩ : ∃ x, a.tmps.getD 31 undef = x := ⟨_, rfl⟩
  rw [hx31] at ha
  rw [hx31] at g31
  have hku := hI.kp
  clear hI hsz hdf f0 f1 f2 f3 f4 f5 f6 f7 f8 f9 f10 f11 f12 f13 f14 f15 f16 f17 f18 f19 f20 f21 f22 f23 f24 f25 f26 f27 f28 f29 f30 f32 f33 f34 f35 f36 f37 f38 f39 f40 f41 f42 f43 f44 f45 f46 hx31
  subst ha
  refine wpAny_tail 17 rfl (by kernel_rfl) ?_
  simp only [List.drop_succ_cons, List.drop_zero]
  go_upto_region 4 with fail
  have HKy := Lib.hid (HKx.out.trans hku (fun _ _ h => h))
  clear hku HC HWb HKx HCk HNew HBr g31
  obtain ⟨wy, rfl⟩ : ∃ wy : World, wy = u := ⟨_, rfl⟩
  have HC := Lib.hid (HC0.out.kp HKy.out (fun h => h))
  have HWb := Lib.hid (HW0.out.kp HKy.out (fun h => h))
  have HOwn := Lib.hid (fun u (hu : Kp (fun _ => False) wy u) => HOwn0.out u (HKy.out.trans hu (fun _ _ h => h)))
  have HRep := Lib.hid (fun u (hu : Kp (fun _ => False) wy u) => HRep0.out u (HKy.out.trans hu (fun _ _ h => h)))
  have HLv := Lib.hid (fun u (hu : Kp (fun _ => False) wy u) => HLv0.out u (HKy.out.trans hu (fun _ _ h => h)))
  refine wp_region_looseG (p := upTo 9) (V := atV [EqV (.agg #[.int .i64 C.max, .slice V.ai C.ins.length V.ci, .slice V.al C.lats.length V.cl, .slice V.ao C.outs.length V.co, .slice V.ab C.bads.length V.cb, .slice V.ac C.cons.length V.cc, .slice V.ag C.gates.length V.cg, .slice V.ay V.ny V.cy, .string V.cm]), (fun u v => ∃ V1, v = .agg (cvals V1 C) ∧ CAt u V1 C ∧ V1.ny = V.ny), EqV (.agg #[.int .i64 1, .int .i64 prop, .slice sa sn sc, .slice ga gn_ gc]), EqV (.bool r), EqV ((.bool r)), EqV (.bool true), EqV (.bool true), EqV (.bool true), EqV (.bool true)]) (LP := #[true, true, true, true, true, true, true, true, true, false]) (K := 1) (by kernel_rfl) (by kernel_rfl) (atV_st ?hstB3) ?hstepB3 (by kernel_rfl) ?hLPB3 (by kernel_rfl) ?hendB3
  case hstB3 =>
    intro W h
    simp only [List.mem_cons, List.not_mem_nil, or_false] at h
    rcases h with rfl | rfl | rfl | rfl | rfl | rfl | rfl | rfl | rfl <;> first | exact EqV.st _ | exact fun _ _ _ k ⟨V1, h1, h2, h3⟩ => ⟨V1, h1, h2.kp k, h3⟩
  case hLPB3 => exact upTo_spec (by kernel_rfl)
  case hstepB3 =>
    intro i o ho hp a u hk hoff hdep
    have e2 : a.tmps[2]?.getD undef = (.pointer (some ⟨w.heap.size, 0, none⟩)) := slot_at (hoff 2 (noDst_spec (by kernel_rfl)))
    have e3 : a.tmps[3]?.getD undef = (.pointer (some ⟨w.heap.size + 1, 0, none⟩)) := slot_at (hoff 3 (noDst_spec (by kernel_rfl)))
    have e5 : a.tmps[5]?.getD undef = (.bool r) := slot_at (hoff 5 (noDst_spec (by kernel_rfl)))
    clear hoff
    match i, ho with
    | 0, ho =>
      obtain rfl := Option.some.inj ho
      refine lg_none rfl ?_
      obtain ⟨d0, d1, d2, d3, d4, d5, d6, d7, d8⟩ := Blk.cells9 (HC.out.kp hk (fun h => h))
      refine lw_value (v := .agg #[.int .i64 C.max, .slice V.ai C.ins.length V.ci, .slice V.al C.lats.length V.cl, .slice V.ao C.outs.length V.co, .slice V.ab C.bads.length V.cb, .slice V.ac C.cons.length V.cc, .slice V.ag C.gates.length V.cg, .slice V.ay V.ny V.cy, .string V.cm]) (u' := u) ?_ (Kp.refl _ _) rfl
      go_simp
    | 1, ho =>
      obtain rfl := Option.some.inj ho
      have e38 : a.tmps[38]?.getD undef = .agg #[.int .i64 C.max, .slice V.ai C.ins.length V.ci, .slice V.al C.lats.length V.cl, .slice V.ao C.outs.length V.co, .slice V.ab C.bads.length V.cb, .slice V.ac C.cons.length V.cc, .slice V.ag C.gates.length V.cg, .slice V.ay V.ny V.cy, .string V.cm] := slot_at (hdep ⟨0, .data⟩ (by simp) rfl _ 38 rfl rfl)
      refine lg_none rfl ?_
      refine lw_call (f := 11) (args := #[.agg #[.int .i64 C.max, .slice V.ai C.ins.length V.ci, .slice V.al C.lats.length V.cl, .slice V.ao C.outs.length V.co, .slice V.ab C.bads.length V.cb, .slice V.ac C.cons.length V.cc, .slice V.ag C.gates.length V.cg, .slice V.ay V.ny V.cy, .string V.cm]]) ?_ ?_
      · go_simp
      · exact (HOwn.out u hk).mono (by
          rintro e u' ⟨V1, rfl, h1, h2, hK⟩
          exact ⟨_, rfl, hK, V1, rfl, h1, h2⟩)
    | 2, ho =>
      obtain rfl := Option.some.inj ho
      refine lg_none rfl ?_
      have c0 := (HWb.out.kp hk (fun h => h)).cell (i := 0) (v := .int .i64 1) rfl
      have c1 := (HWb.out.kp hk (fun h => h)).cell (i := 1) (v := .int .i64 prop) rfl
      have c2 := (HWb.out.kp hk (fun h => h)).cell (i := 2) (v := .slice sa sn sc) rfl
      have c3 := (HWb.out.kp hk (fun h => h)).cell (i := 3) (v := .slice ga gn_ gc) rfl
      refine lw_value (v := .agg #[.int .i64 1, .int .i64 prop, .slice sa sn sc, .slice ga gn_ gc]) (u' := u) ?_ (Kp.refl _ _) rfl
      go_simp
    | 3, ho =>
      obtain rfl := Option.some.inj ho
      have e40 : a.tmps[40]?.getD undef = .agg #[.int .i64 1, .int .i64 prop, .slice sa sn sc, .slice ga gn_ gc] := slot_at (hdep ⟨2, .data⟩ (by simp) rfl _ 40 rfl rfl)
      refine lg_none rfl ?_
      obtain ⟨V1, ev, hC1, hy1⟩ : ∃ V1, (a.tmps.getD 39 undef) = .agg (cvals V1 C) ∧ CAt u V1 C ∧ V1.ny = V.ny := hdep ⟨1, .data⟩ (by simp) rfl _ 39 rfl rfl
      have e39 := slot_at ev
      refine lw_call (f := 10) (args := #[.agg (cvals V1 C), .agg #[.int .i64 1, .int .i64 prop, .slice sa sn sc, .slice ga gn_ gc]]) ?_ ?_
      · go_simp
      · exact (HRep.out u hk V1 hC1 hy1).mono (by
          rintro e u' ⟨rfl, hK⟩
          exact ⟨_, rfl, hK, rfl⟩)
    | 4, ho =>
      obtain rfl := Option.some.inj ho
      refine lg_none rfl ?_
      refine lw_value (v := (.bool r)) (u' := u) ?_ (Kp.refl _ _) rfl
      go_simp
    | 5, ho =>
      obtain rfl := Option.some.inj ho
      have e41 : a.tmps[41]?.getD undef = .bool r := slot_at (hdep ⟨3, .data⟩ (by simp) rfl _ 41 rfl rfl)
      have e42 : a.tmps[42]?.getD undef = (.bool r) := slot_at (hdep ⟨4, .data⟩ (by simp) rfl _ 42 rfl rfl)
      refine lg_none rfl ?_
      refine lw_value (v := .bool true) (u' := u) ?_ (Kp.refl _ _) rfl
      go_simp
    | 6, ho =>
      obtain rfl := Option.some.inj ho
      have e43 : a.tmps[43]?.getD undef = .bool true := slot_at (hdep ⟨5, .data⟩ (by simp) rfl _ 43 rfl rfl)
      refine lg_none rfl ?_
      refine lw_value (v := .bool true) (u' := u) ?_ (Kp.refl _ _) rfl
      go_simp
    | 7, ho =>
      obtain rfl := Option.some.inj ho
      have e44 : a.tmps[44]?.getD undef = .bool true := slot_at (hdep ⟨6, .chain⟩ (by simp) rfl _ 44 rfl rfl)
      refine lg_on (x := 44) rfl rfl e44 ?_
      refine lw_call (f := 6) (args := #[]) ?_ ?_
      · go_simp
      · exact (HLv.out u hk).mono (by
          rintro e u' ⟨rfl, hK⟩
          exact ⟨_, rfl, hK, rfl⟩)
    | 8, ho =>
      obtain rfl := Option.some.inj ho
      have e44 : a.tmps[44]?.getD undef = .bool true := slot_at (hdep ⟨6, .data⟩ (by simp) rfl _ 44 rfl rfl)
      have e45 : a.tmps[45]?.getD undef = .bool true := slot_at (hdep ⟨7, .data⟩ (by simp) rfl _ 45 rfl rfl)
      refine lg_none rfl ?_
      refine lw_value (v := .bool true) (u' := u) ?_ (Kp.refl _ _) rfl
      go_simp
    | n + 9, _ => exact absurd hp (by simp [upTo])
  intro a u hI
  have hsz : a.tmps.size = 47 := hI.size
  have hdf : a.defers = [] := hI.defers
  have f0 : a.tmps.getD 0 undef = _ := hI.off 0 (noDst_spec (p := upTo 9) (by kernel_rfl))
  have f1 : a.tmps.getD 1 undef = _ := hI.off 1 (noDst_spec (p := upTo 9) (by kernel_rfl))
  have f2 : a.tmps.getD 2 undef = _ := hI.off 2 (noDst_spec (p := upTo 9) (by kernel_rfl))
  have f3 : a.tmps.getD 3 undef = _ := hI.off 3 (noDst_spec (p := upTo 9) (by kernel_rfl))
  have f4 : a.tmps.getD 4 undef = _ := hI.off 4 (noDst_spec (p := upTo 9) (by kernel_rfl))
  have f5 : a.tmps.getD 5 undef = _ := hI.off 5 (noDst_spec (p := upTo 9) (by kernel_rfl))
  have f6 : a.tmps.getD 6 undef = _ := hI.off 6 (noDst_spec (p := upTo 9) (by kernel_rfl))
  have f7 : a.tmps.getD 7 undef = _ := hI.off 7 (noDst_spec (p := upTo 9) (by kernel_rfl))
  have f8 : a.tmps.getD 8 undef = _ := hI.off 8 (noDst_spec (p := upTo 9) (by kernel_rfl))
  have f9 : a.tmps.getD 9 undef = _ := hI.off 9 (noDst_spec (p := upTo 9) (by kernel_rfl))
  have f10 : a.tmps.getD 10 undef = _ := hI.off 10 (noDst_spec (p := upTo 9) (by kernel_rfl))
  have f11 : a.tmps.getD 11 undef = _ := hI.off 11 (noDst_spec (p := upTo 9) (by kernel_rfl))
  have f12 : a.tmps.getD 12 undef = _ := hI.off 12 (noDst_spec (p := upTo 9) (by kernel_rfl))
  have f13 : a.tmps.getD 13 undef = _ := hI.off 13 (noDst_spec (p := upTo 9) (by kernel_rfl))
  have f14 : a.tmps.getD 14 undef = _ := hI.off 14 (noDst_spec (p := upTo 9) (by kernel_rfl))
  have f15 : a.tmps.getD 15 undef = _ := hI.off 15 (noDst_spec (p := upTo 9) (by kernel_rfl))
  have f16 : a.tmps.getD 16 undef = _ := hI.off 16 (noDst_spec (p := upTo 9) (by kernel_rfl))
  have f17 : a.tmps.getD 17 undef = _ := hI.off 17 (noDst_spec (p := upTo 9) (by kernel_rfl))
  have f18 : a.tmps.getD 18 undef = _ := hI.off 18 (noDst_spec (p := upTo 9) (by kernel_rfl))
  have f19 : a.tmps.getD 19 undef = _ := hI.off 19 (noDst_spec (p := upTo 9) (by kernel_rfl))
  have f20 : a.tmps.getD 20 undef = _ := hI.off 20 (noDst_spec (p := upTo 9) (by kernel_rfl))
  have f21 : a.tmps.getD 21 undef = _ := hI.off 21 (noDst_spec (p := upTo 9) (by kernel_rfl))
  have f22 : a.tmps.getD 22 undef = _ := hI.off 22 (noDst_spec (p := upTo 9) (by kernel_rfl))
  have f23 : a.tmps.getD 23 undef = _ := hI.off 23 (noDst_spec (p := upTo 9) (by kernel_rfl))
  have f24 : a.tmps.getD 24 undef = _ := hI.off 24 (noDst_spec (p := upTo 9) (by kernel_rfl))
  have f25 : a.tmps.getD 25 undef = _ := hI.off 25 (noDst_spec (p := upTo 9) (by kernel_rfl))
  have f26 : a.tmps.getD 26 undef = _ := hI.off 26 (noDst_spec (p := upTo 9) (by kernel_rfl))
  have f27 : a.tmps.getD 27 undef = _ := hI.off 27 (noDst_spec (p := upTo 9) (by kernel_rfl))
  have f28 : a.tmps.getD 28 undef = _ := hI.off 28 (noDst_spec (p := upTo 9) (by kernel_rfl))
  have f29 : a.tmps.getD 29 undef = _ := hI.off 29 (noDst_spec (p := upTo 9) (by kernel_rfl))
  have f30 : a.tmps.getD 30 undef = _ := hI.off 30 (noDst_spec (p := upTo 9) (by kernel_rfl))
  have f31 : a.tmps.getD 31 undef = _ := hI.off 31 (noDst_spec (p := upTo 9) (by kernel_rfl))
  have f32 : a.tmps.getD 32 undef = _ := hI.off 32 (noDst_spec (p := upTo 9) (by kernel_rfl))
  have f33 : a.tmps.getD 33 undef = _ := hI.off 33 (noDst_spec (p := upTo 9) (by kernel_rfl))
  have f34 : a.tmps.getD 34 undef = _ := hI.off 34 (noDst_spec (p := upTo 9) (by kernel_rfl))
  have f35 : a.tmps.getD 35 undef = _ := hI.off 35 (noDst_spec (p := upTo 9) (by kernel_rfl))
  have f36 : a.tmps.getD 36 undef = _ := hI.off 36 (noDst_spec (p := upTo 9) (by kernel_rfl))
  have f37 : a.tmps.getD 37 undef = _ := hI.off 37 (noDst_spec (p := upTo 9) (by kernel_rfl))
  have f38 : a.tmps.getD 38 undef = .agg #[.int .i64 C.max, .slice V.ai C.ins.length V.ci, .slice V.al C.lats.length V.cl, .slice V.ao C.outs.length V.co, .slice V.ab C.bads.length V.cb, .slice V.ac C.cons.length V.cc, .slice V.ag C.gates.length V.cg, .slice V.ay V.ny V.cy, .string V.cm] := hI.val 0 _ 38 rfl rfl rfl
  have g39 : ((fun u v => ∃ V1, v = .agg (cvals V1 C) ∧ CAt u V1 C ∧ V1.ny = V.ny)) u (a.tmps.getD 39 undef) := hI.val 1 _ 39 rfl rfl rfl
  have f40 : a.tmps.getD 40 undef = .agg #[.int .i64 1, .int .i64 prop, .slice sa sn sc, .slice ga gn_ gc] := hI.val 2 _ 40 rfl rfl rfl
  have f41 : a.tmps.getD 41 undef = .bool r := hI.val 3 _ 41 rfl rfl rfl
  have f42 : a.tmps.getD 42 undef = (.bool r) := hI.val 4 _ 42 rfl rfl rfl
  have f43 : a.tmps.getD 43 undef = .bool true := hI.val 5 _ 43 rfl rfl rfl
  have f44 : a.tmps.getD 44 undef = .bool true := hI.val 6 _ 44 rfl rfl rfl
  have f45 : a.tmps.getD 45 undef = .bool true := hI.val 7 _ 45 rfl rfl rfl
  have f46 : a.tmps.getD 46 undef = .bool true := hI.val 8 _ 46 rfl rfl rfl
  have ha : a = ⟨#[a.tmps.getD 0 undef, a.tmps.getD 1 undef, a.tmps.getD 2 undef, a.tmps.getD 3 undef, a.tmps.getD 4 undef, a.tmps.getD 5 undef, a.tmps.getD 6 undef, a.tmps.getD 7 undef, a.tmps.getD 8 undef, a.tmps.getD 9 undef, a.tmps.getD 10 undef, a.tmps.getD 11 undef, a.tmps.getD 12 undef, a.tmps.getD 13 undef, a.tmps.getD 14 undef, a.tmps.getD 15 undef, a.tmps.getD 16 undef, a.tmps.getD 17 undef, a.tmps.getD 18 undef, a.tmps.getD 19 undef, a.tmps.getD 20 undef, a.tmps.getD 21 undef, a.tmps.getD 22 undef, a.tmps.getD 23 undef, a.tmps.getD 24 undef, a.tmps.getD 25 undef, a.tmps.getD 26 undef, a.tmps.getD 27 undef, a.tmps.getD 28 undef, a.tmps.getD 29 undef, a.tmps.getD 30 undef, a.tmps.getD 31 undef, a.tmps.getD 32 undef, a.tmps.getD 33 undef, a.tmps.getD 34 undef, a.tmps.getD 35 undef, a.tmps.getD 36 undef, a.tmps.getD 37 undef, a.tmps.getD 38 undef, a.tmps.getD 39 undef, a.tmps.getD 40 undef, a.tmps.getD 41 undef, a.tmps.getD 42 undef, a.tmps.getD 43 undef, a.tmps.getD 44 undef, a.tmps.getD 45 undef, a.tmps.getD 46 undef], a.defers⟩ := act_list a 47 hsz
  rw [hdf, f0, f1, f2, f3, f4, f5, f6, f7, f8, f9, f10, f11, f12, f13, f14, f15, f16, f17, f18, f19, f20, f21, f22, f23, f24, f25, f26, f27, f28, f29, f30, f31, f32, f33, f34, f35, f36, f37, f38, f40, f41, f42, f43, f44, f45, f46] at ha
  obtain ⟨x39, hx39⟩ : ∃ x, a.tmps.getD 39 undef = x := ⟨_, rfl⟩
  rw [hx39] at ha
  rw [hx39] at g39
  have hku := hI.kp
  clear hI hsz hdf f0 f1 f2 f3 f4 f5 f6 f7 f8 f9 f10 f11 f12 f13 f14 f15 f16 f17 f18 f19 f20 f21 f22 f23 f24 f25 f26 f27 f28 f29 f30 f31 f32 f33 f34 f35 f36 f37 f38 f40 f41 f42 f43 f44 f45 f46 hx39
  subst ha
  refine wpAny_tail 9 rfl (by kernel_rfl) ?_
  simp only [List.drop_succ_cons, List.drop_zero]
  have HKz := Lib.hid (HK0.out.trans (HKy.out.trans hku (fun _ _ h => h)) (fun _ _ h => h))
  clear hku g39
  go_wp2_with fail
  go_ret
  exact ⟨rfl, HKz.out⟩

theorem grid_gs {w : World} {v : Value} {L : List (List Bool)} {st : List Bool} {m : Nat} (h : GridSl w v L) (hp : shortP st L m) (hm : m ≤ 1000000) : ∃ a c, v = .slice a L.length c ∧ GS w a L.length c L := by
  obtain ⟨a, c, e, h1, h2, h3, rs, h4, h5, h6⟩ := h
  refine ⟨a, c, e, ⟨rs, h4, h5, fun k hk => ?_⟩, rfl, Nat.le_trans hp.2.1 hm⟩
  obtain ⟨x, hx⟩ : ∃ x, L[k]? = some x := ⟨_, List.getElem?_eq_getElem hk⟩
  obtain ⟨r, hr⟩ : ∃ r, rs[k]? = some r := ⟨_, List.getElem?_eq_getElem (by rw [h5]; exact hk)⟩
  obtain ⟨b, d, er, q1, q2, q3, q4⟩ := h6 k r x hr hx
  refine ⟨b, x.length, d, by rw [hr, er], ?_⟩
  rw [hx]
  exact ⟨q4, rfl, Nat.le_trans (short_mem hp x (List.mem_of_getElem? hx)) (by decide)⟩

theorem bools_bs {w : World} {v : Value} {l : List Bool} (h : BoolsSl w v l) (hl : l.length ≤ 60) : ∃ a c, v = .slice a l.length c ∧ BS w a l.length l := by
  obtain ⟨a, c, e, h1, h2, h3, h4⟩ := h
  exact ⟨a, c, e, h4, rfl, Nat.le_trans hl (by decide)⟩

theorem witReplays_walk (w : World) (v0 : Value) (hv0 : CircArg w v0) (v1 : Value) (hv1 : WitArg w v1) (ht : Tab w) (hm : ML w) :
    Calls Tryz.prog 3 #[v0, v1] w fun e w' => e = .returned (.bool true) ∧ Below w.heap.size w w' := by
  have fin : ∀ {e : Ending} {w' : World}, (e = .returned (.bool true) ∧ Kp (fun _ => False) w w') → (e = .returned (.bool true) ∧ Below w.heap.size w w') := fun ⟨h1, h2⟩ => ⟨h1, h2.below (Nat.le_refl _) (fun _ _ h => h)⟩
  obtain ⟨V, C, rfl, hC, -⟩ := hv0
  obtain ⟨kind, prop, v2, v3, start, ins, rfl, -, hs, hi⟩ := hv1
  have hSh := fun u (hu : Kp (fun _ => False) w u) => law17_Short v2 v3 start ins 20 u (hs.kp hu) (hi.kp hu)
  by_cases hF : FewP V C 30
  · by_cases hM : 300 < C.max
    · obtain ⟨a2, c2, rfl, _⟩ := hs
      obtain ⟨a3, c3, rfl, _⟩ := hi
      exact (replays_long V C kind prop a2 _ c2 a3 _ c3 start ins w hC hm (.inr (.inl ⟨hF, hM⟩))).mono fun e w' h => fin h
    · by_cases hp : shortP start ins 20
      · obtain ⟨a2, c2, rfl, hbs⟩ := bools_bs hs hp.1
        obtain ⟨a3, c3, rfl, hgs⟩ := grid_gs hi hp (by decide)
        rw [decide_eq_true hp] at hSh
        by_cases hk : kind = 1
        · subst hk
          by_cases hc : ckCode C = 0
          · exact (replays_3 V C prop a2 _ c2 a3 _ c3 start ins w hC hm hF hM hSh hbs hgs hc).mono fun e w' h => fin h
          · exact (replays_2 V C prop a2 _ c2 a3 _ c3 start ins w hC hm hF hM hSh hbs hgs hc).mono fun e w' h => fin h
        · exact (replays_1 V C kind prop a2 _ c2 a3 _ c3 start ins w hC hm hF hM hSh hbs hgs hk).mono fun e w' h => fin h
      · rw [decide_eq_false hp] at hSh
        obtain ⟨a2, c2, rfl, _⟩ := hs
        obtain ⟨a3, c3, rfl, _⟩ := hi
        exact (replays_long V C kind prop a2 _ c2 a3 _ c3 start ins w hC hm (.inr (.inr ⟨hF, hM, hSh⟩))).mono fun e w' h => fin h
  · obtain ⟨a2, c2, rfl, _⟩ := hs
    obtain ⟨a3, c3, rfl, _⟩ := hi
    exact (replays_long V C kind prop a2 _ c2 a3 _ c3 start ins w hC hm (.inl hF)).mono fun e w' h => fin h

end Go.Proofs.YtcnegeggecmncaaGreatDoor

/-
  The package-level variables that the rows list: a world that holds them, and the table of powers of ten out of a row's list.
-/
namespace Go.Proofs.YtcnegeggecmncaaGreatDoor
open Go.RowKit

def synS : ByteArray := { data := #[105, 110, 118, 97, 108, 105, 100, 32, 115, 121, 110, 116, 97, 120] }
def rangeS : ByteArray := { data := #[118, 97, 108, 117, 101, 32, 111, 117, 116, 32, 111, 102, 32, 114, 97, 110, 103, 101] }
noncomputable def low : Nat := (World.holding Tryz.prog default ⟨#[], #[], []⟩).heap.size

def putCells (g : Nat) (cs : Array Value) (w : World) : World :=
  { w with heap := w.heap.modify g fun
      | .cells _ t frozen => .cells cs t frozen
      | o => o }

def tab32 : Array Value := #[0, 1, 28, 2, 29, 14, 24, 3, 30, 22, 20, 15, 25, 17, 4, 8, 31, 27, 13, 23, 21, 19, 16, 7, 26, 12, 18, 6, 11, 5, 10, 9].map (Value.int .u8)
def tab64 : Array Value := #[0, 1, 56, 2, 57, 49, 28, 3, 61, 58, 42, 50, 38, 29, 17, 4, 62, 47, 59, 36, 45, 43, 51, 22, 53, 39, 33, 30, 24, 18, 12, 5, 63, 55, 48, 27, 60, 41, 37, 16, 46, 35, 44, 21, 52, 32, 23, 11, 54, 26, 40, 15, 34, 20, 31, 10, 25, 14, 19, 9, 13, 8, 7, 6].map (Value.int .u8)
def tabPow : Array Value := (Lib.pow10Tab.map (Value.int .u64)).toArray

noncomputable def laidWorld (os : Os) : World :=
  putCells 5 tab64 (putCells 4 tab32 (putCells 3 tabPow
    (putCells 2 #[.iface 163 (.pointer (some ⟨low + 1, 0, none⟩))] (putCells 1 #[.iface 163 (.pointer (some ⟨low, 0, none⟩))]
      (World.holding Tryz.prog os ⟨#[.cells #[.string synS] 165, .cells #[.string rangeS] 165], #[], []⟩)))))

theorem gPowType : (Tryz.prog.globals[3]?).map (·.type) = some 173 := by kernel_rfl
theorem cells64 : Tryz.prog.cellsOf 149 = 1 := by kernel_rfl
theorem cellsPow : Tryz.prog.cellsOf 173 = 20 := by kernel_rfl

theorem tab_of_laid {W : World} {x y : String × DataW Unit} {r : List (String × DataW Unit)}
    (h : laidMet Tryz.prog (x :: y :: ("internal/strconv.uint64pow10", Rows.laid_internal_strconv_uint64pow10) :: r) W) : Tab W :=
  Lib.tabIs_of_head (zs := Lib.pow10Tab) gPow gPowType Tryz.underlying173 Tryz.underlying149 cells64 cellsPow (laidMet.tail (laidMet.tail h))

end Go.Proofs.YtcnegeggecmncaaGreatDoor

/-
  As Laid, with the two tables of unicode/utf8, and the library's MaxLen out of the world's shape.
-/
namespace Go.Proofs.YtcnegeggecmncaaGreatDoor
open Go.RowKit

def tabFirst : Array Value := (Go.Pinned.utf8FirstZ.map (fun (n : Nat) => Value.int .u8 (n : Int))).toArray
def tabAccept : Array Value := #[128, 191, 160, 191, 128, 159, 144, 191, 128, 143, 0, 0, 0, 0, 0, 0, 0, 0, 0, 0, 0, 0, 0, 0, 0, 0, 0, 0, 0, 0, 0, 0].map (Value.int .u8)

theorem maxLen_cell {W : World} (h : W.ShapedOpen Tryz.prog) : ∃ m, W.cell? ⟨0, 0, none⟩ = some (.int .i64 m) :=
  cell_of_shapedOpen_int (t := 3) (zero := #[.int .i64 0]) h (of_decide_eq_true (by kernel_rfl)) (by kernel_rfl) rfl (by kernel_rfl) (by kernel_rfl) Tryz.underlying3

end Go.Proofs.YtcnegeggecmncaaGreatDoor
