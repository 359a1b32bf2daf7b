/-
  latchetlaw11.Small.
-/
import Derived.Test.YtnoknecfdnjomaaGreatM9
import Derived.Test.YtnoknecfdnjomaaGreatM1
import Derived.Deep.CutBlock
import Derived.Test.YtnoknecfdnjomaaGreatRows
import Derived.ProofKit
import Derived.OpenShut
import Derived.Deep.Slices
import Derived.Lib.SmallJoins
import Derived.Test.YtnoknecfdnjomaaGreatM8
import Derived.Test.YtnoknecfdnjomaaGreatM6
import Derived.Test.YtnoknecfdnjomaaGreatM7
import Derived.Test.YtnoknecfdnjomaaGreatM5
set_option linter.unusedVariables false
set_option linter.unusedSimpArgs false
namespace Go.Proofs.YtnoknecfdnjomaaGreat
open Go.RowKit

theorem few_ok {V : CV} {C : Circ} {w : World} {m : Nat} (hF : FewP V C m) : Calls Tryz.prog 5 #[.agg (cvals V C), .int .i64 m] w fun e w' => e = .returned (.bool true) ∧ Kp (fun _ => False) w w' :=
  (law11_Few V C m w).mono (by
    rintro e w' ⟨r, rfl, hr, hK⟩
    obtain rfl := hr.2 hF
    exact ⟨rfl, hK⟩)
theorem few_no {V : CV} {C : Circ} {w : World} {m : Nat} (hF : ¬ FewP V C m) : Calls Tryz.prog 5 #[.agg (cvals V C), .int .i64 m] w fun e w' => e = .returned (.bool false) ∧ Kp (fun _ => False) w w' :=
  (law11_Few V C m w).mono (by
    rintro e w' ⟨r, rfl, hr, hK⟩
    cases r with
    | false => exact ⟨rfl, hK⟩
    | true => exact absurd (hr.1 rfl) hF)

/-- a good circuit of few things -/
structure SmallP (V : CV) (C : Circ) (m : Nat) : Prop where
  few : FewP V C m
  max : C.max ≤ 300
  good : ckCode C = 0

set_option maxRecDepth 100000 in
set_option maxHeartbeats 4000000 in
theorem law11_Small (V : CV) (C : Circ) (m : Nat) (w : World) (h : CAt w V C) (hm : m ≤ 1000) (r : Bool) (hr : r = true ↔ SmallP V C m) :
    Calls Tryz.prog 25 #[.agg (cvals V C), .int .i64 m] w fun e w' => e = .returned (.bool r) ∧ Kp (fun _ => False) w w' := by
  obtain ⟨wz, hwz⟩ : ∃ wz : World, wz = w.alloc (.cells (cvals V C) 27) := ⟨_, rfl⟩
  have HK0 := Lib.hid (show Kp (fun _ => False) w wz by rw [hwz]; exact (Kp.refl _ w).alloc _)
  have HC0 := Lib.hid (show Blk wz w.heap.size #[.int .i64 C.max, .slice V.ai C.ins.length V.ci, .slice V.al C.lats.length V.cl, .slice V.ao C.outs.length V.co, .slice V.ab C.bads.length V.cb, .slice V.ac C.cons.length V.cc, .slice V.ag C.gates.length V.cg, .slice V.ay V.ny V.cy, .string V.cm] 27 by rw [hwz]; exact Blk.new w (cvals V C) _)
  obtain ⟨d0, d1, d2, d3, d4, d5, d6, d7, d8⟩ := Blk.cells9 HC0.out
  have HZ := Lib.hid hwz
  have hA : CAt wz V C := h.kp HK0.out
  clear hwz
  by_cases hF : FewP V C m
  case neg =>
    obtain rfl : r = false := by cases r with | false => rfl | true => exact absurd (hr.1 rfl).few hF
    have HFw := Lib.hid (few_no (w := wz) hF)
    unfold cvals at HFw HZ ⊢
    clear hF hr h hA
    go_enter Tryz.func25, Tryz.ntmps25
    go_upto_region 1 with fail
    rw [← HZ.out]
    clear HZ
    go_wp2_with (go_at_call 5; with_reducible refine Calls.mono HFw.out ?_; rintro e w1 ⟨rfl, hK1⟩; have HK1 := Lib.hid (HK0.out.trans hK1 (fun _ _ h => h)); clear hK1)
    go_ret
    exact ⟨rfl, HK1.out⟩
  have HFw := Lib.hid (few_ok (w := wz) hF)
  have HCk := Lib.hid (fun u (hu : Kp (fun _ => False) wz u) => ref11_Chk V C u (hA.kp hu) (hF.few (by omega)))
  have HSp := Lib.hid (show SmallP V C m ↔ C.max ≤ 300 ∧ ckCode C = 0 from ⟨fun h => ⟨h.max, h.good⟩, fun h => ⟨hF, h.1, h.2⟩⟩)
  obtain ⟨mx, hmx⟩ : ∃ n, C.max = n := ⟨_, rfl⟩
  obtain ⟨ck, hck⟩ : ∃ n, ckCode C = n := ⟨_, rfl⟩
  have HB1 := Lib.hid (fun u (hu : Kp (fun _ => False) wz u) => (Blk.cells9 (HC0.out.kp hu (fun h => h))).1)
  unfold cvals at HFw HCk HZ ⊢
  rw [hmx] at HFw d0 HSp HZ ⊢
  simp only [hmx] at HB1
  simp only [hmx] at HCk
  rw [hck] at HSp
  simp only [hck] at HCk
  have HB := Lib.hid (fun u (hu : Kp (fun _ => False) wz u) => Blk.cells9 (HC0.out.kp hu (fun h => h)))
  rw [hmx] at HB
  clear hF h hA hmx hck
  by_cases hM : mx ≤ 300
  case neg =>
    obtain rfl : r = false := by cases r with | false => rfl | true => exact absurd (HSp.out.1 (hr.1 rfl)).1 hM
    clear hr
    go_enter Tryz.func25, Tryz.ntmps25
    go_upto_region 1 with fail
    rw [← HZ.out]
    clear HZ
    go_wp2_with (go_at_call 5; with_reducible refine Calls.mono HFw.out ?_; rintro e w1 ⟨rfl, hK1⟩; have HK1 := Lib.hid (HK0.out.trans hK1 (fun _ _ h => h)); have z0 := HB1.out _ hK1; clear hK1)
    go_ret
    exact ⟨rfl, HK1.out⟩
  by_cases hc : ck = 0
  · obtain rfl : r = true := hr.2 (HSp.out.2 ⟨hM, hc⟩)
    have q : ((ck : Int) == 0) = true := by simp [hc]
    clear hr hc
    go_enter Tryz.func25, Tryz.ntmps25
    go_upto_region 1 with fail
    rw [← HZ.out]
    clear HZ
    go_wp2_with (first
      | (go_at_call 5; with_reducible refine Calls.mono HFw.out ?_; rintro e w1 ⟨rfl, hK1⟩; have HK1 := Lib.hid (HK0.out.trans hK1 (fun _ _ h => h)); obtain ⟨z0, z1, z2, z3, z4, z5, z6, z7, z8⟩ := HB.out _ hK1; have HCk1 := Lib.hid (HCk.out _ hK1); clear hK1)
      | (go_at_call 7; with_reducible refine Calls.mono HCk1.out ?_; rintro e w2 ⟨rfl, hK2⟩; have HK2 := Lib.hid (HK1.out.trans hK2 (fun _ _ h => h)); clear hK2))
    go_ret
    exact ⟨rfl, HK2.out⟩
  · obtain rfl : r = false := by cases r with | false => rfl | true => exact absurd (HSp.out.1 (hr.1 rfl)).2 hc
    have q : ((ck : Int) == 0) = false := by simp [hc]
    clear hr hc
    go_enter Tryz.func25, Tryz.ntmps25
    go_upto_region 1 with fail
    rw [← HZ.out]
    clear HZ
    go_wp2_with (first
      | (go_at_call 5; with_reducible refine Calls.mono HFw.out ?_; rintro e w1 ⟨rfl, hK1⟩; have HK1 := Lib.hid (HK0.out.trans hK1 (fun _ _ h => h)); obtain ⟨z0, z1, z2, z3, z4, z5, z6, z7, z8⟩ := HB.out _ hK1; have HCk1 := Lib.hid (HCk.out _ hK1); clear hK1)
      | (go_at_call 7; with_reducible refine Calls.mono HCk1.out ?_; rintro e w2 ⟨rfl, hK2⟩; have HK2 := Lib.hid (HK1.out.trans hK2 (fun _ _ h => h)); clear hK2))
    go_ret
    exact ⟨rfl, HK2.out⟩

end Go.Proofs.YtnoknecfdnjomaaGreat

/-
  How a circuit that came in is opened.
-/
namespace Go.Proofs.YtnoknecfdnjomaaGreat
open Go.RowKit Go.ChangeShapes Go.WideShapes Go.ChangeAt Go.Joins Go.Deep

section
variable {H : Type} {enc : TypeId × Value → H} {W : World}

/-- a row of ints among the cells of what came in -/
theorem circ_ints {fuel : Nat} {v : Value} {x : DataW H × List MemPlace}
    (h : DataW.trod enc Tryz.prog W 0 (fun _ => true) true fuel 22 [v] = some x) : ∃ (a : Option Addr) (c : Nat) (L : List Int), v = .slice a L.length c ∧ SlOK a L.length c ∧ IntsAt W a L := by
  rcases open_ints Tryz.underlying22 Tryz.underlying3 (by kernel_rfl) h with ⟨hcs, _⟩ | ⟨a, len, cap, zs, hcs, _, hl, hm, hz, _, hcell, hwz⟩
  · simp at hcs
    subst hcs
    exact ⟨none, 0, [], rfl, ⟨Nat.le_refl _, by simp [maxLen], fun _ => rfl⟩, RowAt.nil _ _⟩
  · simp at hcs
    subst hcs
    simp only [if_true] at hz
    have hlen : (zs.take len).length = len := by rw [List.length_take, hz]; omega
    refine ⟨some a, cap, zs.take len, by rw [hlen], ⟨by rw [hlen]; exact hl, hm, (fun h => by cases h)⟩, ?_⟩
    intro j u hu
    rw [List.getElem?_map, List.getElem?_take] at hu
    split at hu
    · rename_i hj
      have h0 := hcell 0 (by omega)
      have hs : a.spot = none := by
        have := World.cell?_spot h0
        simpa [Addr.add] using this
      obtain ⟨b, off, spot⟩ := a
      simp only at hs
      subst hs
      refine ⟨b, off, rfl, ?_⟩
      have hc := hcell j (by omega)
      rw [add_plain'] at hc
      rw [hc]
      rw [List.getElem?_eq_getElem (by omega)] at hu
      simp only [Option.map_some] at hu
      rw [← hu]
      simp [List.getD, List.getElem?_eq_getElem (show j < zs.length by omega)]
    · simp at hu

def row3 (V0 V1 V2 : Nat → Value) (n : Nat) : List (List Value) := (List.range n).map (fun i => [V0 i, V1 i, V2 i])
theorem row3_len (V0 V1 V2 : Nat → Value) (n : Nat) : ∀ r ∈ row3 V0 V1 V2 n, r.length = 3 := fun r h => by
  unfold row3 at h
  obtain ⟨i, -, rfl⟩ := List.mem_map.1 h
  rfl

set_option maxRecDepth 100000 in
/-- a row of structs of three cells -/
theorem circ_rows {t e : TypeId} {f0 f1 f2 : Field} {fuel : Nat} {v : Value} {x : DataW H × List MemPlace} (ht : Tryz.prog.underlying t = some (.slice e)) (he : Tryz.prog.underlying e = some (.struct #[f0, f1, f2]))
    (ce : Tryz.prog.cellsOf e = 3) (o0 : f0.offset = 0) (o1 : f1.offset = 1) (o2 : f2.offset = 2) (c0 : Tryz.prog.cellsOf f0.type = 1) (c1 : Tryz.prog.cellsOf f1.type = 1) (c2 : Tryz.prog.cellsOf f2.type = 1)
    (h : DataW.trod enc Tryz.prog W 0 (fun _ => true) true fuel t [v] = some x) : ∃ (a : Option Addr) (n c : Nat) (V0 V1 V2 : Nat → Value), v = .slice a n c ∧ SlOK a n c ∧ RowAt W a (row3 V0 V1 V2 n).flatten ∧
      ∀ i, i < n → (∃ m y, DataW.trod enc Tryz.prog W 0 (fun _ => true) true m f0.type [V0 i] = some y) ∧ (∃ m y, DataW.trod enc Tryz.prog W 0 (fun _ => true) true m f1.type [V1 i] = some y) ∧ (∃ m y, DataW.trod enc Tryz.prog W 0 (fun _ => true) true m f2.type [V2 i] = some y) := by
  rcases open_slice ht h with ⟨hcs, _⟩ | ⟨a, len, cap, m, n, D, Pl, hcs, _, hl, hm, hmm, _, hx⟩
  · simp at hcs
    subst hcs
    exact ⟨none, 0, 0, fun _ => .bool false, fun _ => .bool false, fun _ => .bool false, rfl, ⟨Nat.le_refl _, by simp [maxLen], fun _ => rfl⟩, RowAt.nil _ _, fun i hi => by omega⟩
  · simp at hcs
    subst hcs
    simp only [if_true] at hmm
    subst hmm
    have each : ∀ i, i < len → ∃ q : Value × Value × Value, W.cell? (a.add (i * 3)) = some q.1 ∧ W.cell? (a.add (i * 3 + 1)) = some q.2.1 ∧ W.cell? (a.add (i * 3 + 2)) = some q.2.2 ∧
        (∃ m y, DataW.trod enc Tryz.prog W 0 (fun _ => true) true m f0.type [q.1] = some y) ∧ (∃ m y, DataW.trod enc Tryz.prog W 0 (fun _ => true) true m f1.type [q.2.1] = some y) ∧ (∃ m y, DataW.trod enc Tryz.prog W 0 (fun _ => true) true m f2.type [q.2.2] = some y) := by
      intro i hi
      obtain ⟨cs', h1, h2⟩ := hx i (by omega)
      rw [ce] at h1
      obtain ⟨_, hlen, hcell⟩ := World.cells?_some h1
      obtain ⟨xs, k, _, _, _, hxl, hf⟩ := DataW.trod_struct he h2
      match xs, hxl, cs', hlen with
      | [y0, y1, y2], _, [v0, v1, v2], _ =>
        have g0 := hf 0 f0 rfl
        have g1 := hf 1 f1 rfl
        have g2 := hf 2 f2 rfl
        simp [o0, o1, o2, c0, c1, c2] at g0 g1 g2
        have e0 := hcell 0 (by omega)
        have e1 := hcell 1 (by omega)
        have e2 := hcell 2 (by omega)
        rw [add_add] at e0 e1 e2
        exact ⟨(v0, v1, v2), by simpa using e0, by simpa using e1, by simpa using e2, ⟨_, _, g0⟩, ⟨_, _, g1⟩, ⟨_, _, g2⟩⟩
    obtain ⟨q, hq⟩ := choose_lt each
    refine ⟨some a, len, m, fun i => (q i).1, fun i => (q i).2.1, fun i => (q i).2.2, rfl, ⟨hl, hm, fun h => by cases h⟩, ?_, fun i hi => (hq i hi).2.2.2⟩
    intro j u hu
    have hlen : (row3 (fun i => (q i).1) (fun i => (q i).2.1) (fun i => (q i).2.2) len).flatten.length = len * 3 := by
      rw [flat_length (row3_len _ _ _ _)]; simp [row3]
    have hj : j < len * 3 := by rw [← hlen]; exact (List.getElem?_eq_some_iff.1 hu).1
    have hr : (row3 (fun i => (q i).1) (fun i => (q i).2.1) (fun i => (q i).2.2) len)[j / 3]? = some [(q (j / 3)).1, (q (j / 3)).2.1, (q (j / 3)).2.2] := by
      have : j / 3 < len := by omega
      simp [row3, this]
    obtain ⟨q0, q1, q2, -⟩ := hq (j / 3) (by omega)
    have hs : a.spot = none := by
      have := World.cell?_spot (hq 0 (by omega)).1
      simpa [Addr.add] using this
    obtain ⟨b, off, spot⟩ := a
    simp only at hs
    subst hs
    refine ⟨b, off, rfl, ?_⟩
    rw [add_plain'] at q0 q1 q2
    have hc : j % 3 = 0 ∨ j % 3 = 1 ∨ j % 3 = 2 := by omega
    rcases hc with hp | hp | hp
    · have h0 := flat_at (row3_len _ _ _ _) hr (i := 0) rfl
      rw [show j / 3 * 3 + 0 = j by omega, hu] at h0
      rw [show off + j = off + j / 3 * 3 by omega, q0]
      exact h0.symm
    · have h0 := flat_at (row3_len _ _ _ _) hr (i := 1) rfl
      rw [show j / 3 * 3 + 1 = j by omega, hu] at h0
      rw [show off + j = off + (j / 3 * 3 + 1) by omega, q1]
      exact h0.symm
    · have h0 := flat_at (row3_len _ _ _ _) hr (i := 2) rfl
      rw [show j / 3 * 3 + 2 = j by omega, hu] at h0
      rw [show off + j = off + (j / 3 * 3 + 2) by omega, q2]
      exact h0.symm

theorem trod_i64 {m : Nat} {u : Value} {y : DataW H × List MemPlace} (h : DataW.trod enc Tryz.prog W 0 (fun _ => true) true m 3 [u] = some y) : ∃ z : Int, u = .int .i64 z := by
  obtain ⟨z, e, _, _⟩ := DataW.trod_int Tryz.underlying3 h
  simp at e
  exact ⟨z, e⟩

/-- three ints each -/
theorem circ_tris {V0 V1 V2 : Nat → Value} {n : Nat} (h0 : ∀ i, i < n → ∃ z : Int, V0 i = .int .i64 z) (h1 : ∀ i, i < n → ∃ z : Int, V1 i = .int .i64 z) (h2 : ∀ i, i < n → ∃ z : Int, V2 i = .int .i64 z) :
    ∃ L : List (Int × Int × Int), L.length = n ∧ row3 V0 V1 V2 n = L.map tri := by
  obtain ⟨z0, e0⟩ := choose_lt h0
  obtain ⟨z1, e1⟩ := choose_lt h1
  obtain ⟨z2, e2⟩ := choose_lt h2
  refine ⟨(List.range n).map (fun i => (z0 i, z1 i, z2 i)), by simp, ?_⟩
  unfold row3
  rw [List.map_map]
  refine List.map_congr_left fun i hi => ?_
  have hi := List.mem_range.1 hi
  simp only [Function.comp_apply, e0 i hi, e1 i hi, e2 i hi]
  rfl

end

theorem circ_cells : Tryz.prog.cellsOf 27 = 9 := by kernel_rfl
theorem circ_c0 : Tryz.prog.cellsOf 3 = 1 := by kernel_rfl
theorem circ_c1 : Tryz.prog.cellsOf 22 = 1 := by kernel_rfl
theorem circ_c2 : Tryz.prog.cellsOf 23 = 1 := by kernel_rfl
theorem circ_c3 : Tryz.prog.cellsOf 24 = 1 := by kernel_rfl
theorem circ_c4 : Tryz.prog.cellsOf 25 = 1 := by kernel_rfl
theorem circ_c5 : Tryz.prog.cellsOf 9 = 1 := by kernel_rfl

/-- a circuit that came in -/
def CircArg (W : World) (v : Value) : Prop := ∃ (V : CV) (C : Circ), v = .agg (cvals V C) ∧ CAt W V C ∧ V.cm.size ≤ maxLen
/-- .. with its symbols' kinds, and its greatest variable an int -/
def CircArgS (W : World) (v : Value) : Prop := ∃ (V : CV) (C : Circ), v = .agg (cvals V C) ∧ CAt W V C ∧ V.cm.size ≤ maxLen ∧ (-9223372036854775808 ≤ C.max ∧ C.max ≤ 9223372036854775807) ∧
  ∃ rows : List (List Value), RowAt W V.ay rows.flatten ∧ rows.length = V.ny ∧ ∀ (k : Nat) (r : List Value), rows[k]? = some r → ∃ (a b : Int) (s : ByteArray), r = [.int .u8 a, .int .i64 b, .string s]

set_option maxRecDepth 100000 in
theorem open_circArgS {H : Type} {enc : TypeId × Value → H} {W : World} {base : Nat} {v : Value} {d : DataW H} {ps : List MemPlace}
    (hv : Value.okWide Tryz.prog W .any base 27 v) (h : DataW.Trod enc Tryz.prog W 0 (fun _ => true) true 27 v d ps) : CircArgS W v := by
  obtain ⟨cs, rfl, hsz⟩ := okWide_struct Tryz.underlying27 hv
  obtain ⟨l⟩ := cs
  match l, hsz.trans circ_cells with
  | [k0, k1, k2, k3, k4, k5, k6, k7, k8], _ =>
    obtain ⟨fuel, hf⟩ := h
    obtain ⟨xs, n, _, _, _, hlen, hg⟩ := DataW.trod_struct Tryz.underlying27 hf
    have g0 : DataW.trod enc Tryz.prog W 0 (fun _ => true) true n 3 [k0] = xs[0]? := by simpa [Value.cells, circ_c0, circ_c1, circ_c2, circ_c3, circ_c4, circ_c5] using hg 0 _ rfl
    have g1 : DataW.trod enc Tryz.prog W 0 (fun _ => true) true n 22 [k1] = xs[1]? := by simpa [Value.cells, circ_c0, circ_c1, circ_c2, circ_c3, circ_c4, circ_c5] using hg 1 _ rfl
    have g2 : DataW.trod enc Tryz.prog W 0 (fun _ => true) true n 23 [k2] = xs[2]? := by simpa [Value.cells, circ_c0, circ_c1, circ_c2, circ_c3, circ_c4, circ_c5] using hg 2 _ rfl
    have g3 : DataW.trod enc Tryz.prog W 0 (fun _ => true) true n 22 [k3] = xs[3]? := by simpa [Value.cells, circ_c0, circ_c1, circ_c2, circ_c3, circ_c4, circ_c5] using hg 3 _ rfl
    have g4 : DataW.trod enc Tryz.prog W 0 (fun _ => true) true n 22 [k4] = xs[4]? := by simpa [Value.cells, circ_c0, circ_c1, circ_c2, circ_c3, circ_c4, circ_c5] using hg 4 _ rfl
    have g5 : DataW.trod enc Tryz.prog W 0 (fun _ => true) true n 22 [k5] = xs[5]? := by simpa [Value.cells, circ_c0, circ_c1, circ_c2, circ_c3, circ_c4, circ_c5] using hg 5 _ rfl
    have g6 : DataW.trod enc Tryz.prog W 0 (fun _ => true) true n 24 [k6] = xs[6]? := by simpa [Value.cells, circ_c0, circ_c1, circ_c2, circ_c3, circ_c4, circ_c5] using hg 6 _ rfl
    have g7 : DataW.trod enc Tryz.prog W 0 (fun _ => true) true n 25 [k7] = xs[7]? := by simpa [Value.cells, circ_c0, circ_c1, circ_c2, circ_c3, circ_c4, circ_c5] using hg 7 _ rfl
    have g8 : DataW.trod enc Tryz.prog W 0 (fun _ => true) true n 9 [k8] = xs[8]? := by simpa [Value.cells, circ_c0, circ_c1, circ_c2, circ_c3, circ_c4, circ_c5] using hg 8 _ rfl
    match xs, hlen with
    | [y0, y1, y2, y3, y4, y5, y6, y7, y8], _ =>
      obtain ⟨mx, hmx, -, hmr⟩ := DataW.trod_int Tryz.underlying3 g0
      simp at hmx
      subst hmx
      obtain ⟨a1, c1, L1, rfl, s1, r1⟩ := circ_ints g1
      obtain ⟨a2, n2, c2, P0, P1, P2, rfl, s2, r2, t2⟩ := circ_rows Tryz.underlying23 Tryz.underlying64 (by kernel_rfl) rfl rfl rfl circ_c0 circ_c0 circ_c0 g2
      obtain ⟨a3, c3, L3, rfl, s3, r3⟩ := circ_ints g3
      obtain ⟨a4, c4, L4, rfl, s4, r4⟩ := circ_ints g4
      obtain ⟨a5, c5, L5, rfl, s5, r5⟩ := circ_ints g5
      obtain ⟨a6, n6, c6, Q0, Q1, Q2, rfl, s6, r6, t6⟩ := circ_rows Tryz.underlying24 Tryz.underlying95 (by kernel_rfl) rfl rfl rfl circ_c0 circ_c0 circ_c0 g6
      obtain ⟨a7, n7, c7, R0, R1, R2, rfl, s7, r7, t7⟩ := circ_rows Tryz.underlying25 Tryz.underlying113 (by kernel_rfl) rfl rfl rfl (by kernel_rfl) circ_c0 circ_c5 g7
      obtain ⟨sm, e8, _, w8⟩ := DataW.trod_string Tryz.underlying9 g8
      simp only [List.cons.injEq, and_true] at e8
      subst e8
      obtain ⟨L2, l2, m2⟩ := circ_tris (fun i hi => by obtain ⟨m, y, h⟩ := (t2 i hi).1; exact trod_i64 h) (fun i hi => by obtain ⟨m, y, h⟩ := (t2 i hi).2.1; exact trod_i64 h) (fun i hi => by obtain ⟨m, y, h⟩ := (t2 i hi).2.2; exact trod_i64 h)
      obtain ⟨L6, l6, m6⟩ := circ_tris (fun i hi => by obtain ⟨m, y, h⟩ := (t6 i hi).1; exact trod_i64 h) (fun i hi => by obtain ⟨m, y, h⟩ := (t6 i hi).2.1; exact trod_i64 h) (fun i hi => by obtain ⟨m, y, h⟩ := (t6 i hi).2.2; exact trod_i64 h)
      rw [m2] at r2
      rw [m6] at r6
      subst l2 l6
      refine ⟨⟨a1, c1, a2, c2, a3, c3, a4, c4, a5, c5, a6, c6, a7, n7, c7, sm⟩, ⟨mx, L1, L2, L3, L4, L5, L6⟩, rfl, ⟨r1, r2, r3, r4, r5, r6, ⟨_, r7, by simp [row3], row3_len _ _ _ _, fun r hr u hu => ?_⟩, s1, s2, s3, s4, s5, s6, s7⟩, w8, by simp [Lit.wf, IntKind.min, IntKind.max, IntKind.signed, IntKind.bits] at hmr; simp only; omega, ⟨_, r7, by simp [row3], fun k r hk => ?_⟩⟩
      rotate_left
      · unfold row3 at hk
        obtain ⟨i, hi, rfl⟩ := List.mem_map.1 (List.mem_of_getElem? hk)
        have hi := List.mem_range.1 hi
        obtain ⟨⟨m0, y0, q0⟩, ⟨m1, y1, q1⟩, ⟨m2, y2, q2⟩⟩ := t7 i hi
        obtain ⟨z0, e0, _, _⟩ := DataW.trod_int Tryz.underlying5 q0
        obtain ⟨z1, e1⟩ := trod_i64 q1
        obtain ⟨z2, e2, _, _⟩ := DataW.trod_string Tryz.underlying9 q2
        simp at e0 e2
        exact ⟨z0, z1, z2, by rw [e0, e1, e2]⟩
      unfold row3 at hr
      obtain ⟨i, hi, rfl⟩ := List.mem_map.1 hr
      have hi := List.mem_range.1 hi
      obtain ⟨⟨m0, y0, q0⟩, ⟨m1, y1, q1⟩, ⟨m2, y2, q2⟩⟩ := t7 i hi
      obtain ⟨z0, e0, _, _⟩ := DataW.trod_int Tryz.underlying5 q0
      obtain ⟨z1, e1⟩ := trod_i64 q1
      obtain ⟨z2, e2, _, _⟩ := DataW.trod_string Tryz.underlying9 q2
      simp at e0 e2
      simp only [List.mem_cons, List.not_mem_nil, or_false] at hu
      rcases hu with rfl | rfl | rfl
      · rw [e0]; rfl
      · rw [e1]; rfl
      · rw [e2]; rfl

set_option maxRecDepth 100000 in
theorem open_circArg {H : Type} {enc : TypeId × Value → H} {W : World} {base : Nat} {v : Value} {d : DataW H} {ps : List MemPlace}
    (hv : Value.okWide Tryz.prog W .any base 27 v) (h : DataW.Trod enc Tryz.prog W 0 (fun _ => true) true 27 v d ps) : CircArg W v := by
  obtain ⟨V, C, h1, h2, h3, -⟩ := open_circArgS hv h
  exact ⟨V, C, h1, h2, h3⟩

end Go.Proofs.YtnoknecfdnjomaaGreat

/-
  latchetlaw43.ExploreRuns: the run that is told.
-/
namespace Go.Proofs.YtnoknecfdnjomaaGreat
open Go.RowKit

/-- the first step in which it can break is the least sum -/
theorem beg_some {C : Circ} {pr : Int} {s : Nat} (h : beg (nS C) (rchS C) (dstS C pr) = (s : Int)) : s < nS C ∧ stS C s = true ∧ ∃ d : Nat, dstS C pr s = (d : Int) ∧ sumG (rchS C) (dstS C pr) (nS C) = (d : Int) := by
  have e : (fun t => decide (rchS C t = 0)) = stS C := funext fun t => rch_zero
  unfold beg at h
  rw [e] at h
  have h2 := h
  rcases bestG_cases (st := stS C) (d := dstS C pr) (nS C) with ⟨q, -⟩ | ⟨b, hb, q1, q2, q3, -⟩
  · rw [q] at h2; omega
  · rw [q1] at h2
    obtain rfl : b = s := by omega
    refine ⟨hb, q2, ?_⟩
    obtain ⟨d, hd⟩ : ∃ d : Nat, dstS C pr b = (d : Int) := by
      rcases distG_cases (n := nS C) (st := bdS C pr) (E := revG (edS C)) (nS C) b with ⟨_, q⟩ | ⟨_, q, _⟩
      · exact absurd q q3
      · exact ⟨(dstS C pr b).toNat, by have : 0 ≤ dstS C pr b := q; omega⟩
    refine ⟨d, hd, ?_⟩
    have hf := first_least (n := nS C) (m := nS C) (st := stS C) (bad := bdS C pr) (E := edS C) (b := (b : Int)) h.symm
    rw [if_neg (by omega), Int.toNat_natCast] at hf
    have hf' : dstS C pr b = leastG (canG (nS C) (stS C) (bdS C pr) (edS C)) (nS C) := hf
    rcases sum_least (n := nS C) (m := nS C) (st := stS C) (bad := bdS C pr) (E := edS C) with ⟨_, q⟩ | q | ⟨_, q⟩
    · rw [hd, q] at hf'; omega
    · rw [← hf', hd] at q; exact q
    · rw [hd, q] at hf'; omega
theorem beg_cases (n : Nat) (R D : Nat → Int) : beg n R D = -1 ∨ ∃ s : Nat, beg n R D = (s : Int) := by
  rcases bestG_cases (st := fun t => decide (R t = 0)) (d := D) n with ⟨q, -⟩ | ⟨b, hb, q1, -⟩
  · exact .inl q
  · exact .inr ⟨b, q1⟩

theorem own_bools2 {w : World} {B : Nat} {v : Value} {l : List Bool} (h : Own w B 4 v (bv l)) : BoolsSl w v l := by
  obtain ⟨a, c, e, h1, h2, h3, -, h5⟩ := ownForm h
  rw [bv_length] at e h1
  exact ⟨a, c, e, h1, h2, h3, h5⟩
theorem own_grid2 {w : World} {B : Nat} {v : Value} {L : List (List Bool)} (h : OwnR w B v L) : GridSl w v L := by
  obtain ⟨vs, h, hl, hr⟩ := h
  obtain ⟨a, c, e, h1, h2, h3, -, h5⟩ := ownForm h
  rw [hl] at e h1
  exact ⟨a, c, e, h1, h2, h3, vs, h5, hl, fun k r x hk hx => by
    obtain ⟨y, h6, h7⟩ := hr k x hx
    rw [hk] at h6
    cases h6
    exact own_bools2 h7⟩
theorem own_gs2 {w : World} {B : Nat} {v : Value} {L : List (List Bool)} (h : OwnR w B v L) (hm : L.length ≤ 1000000) (hx : ∀ x ∈ L, x.length ≤ 1000000) : ∃ a c, v = .slice a L.length c ∧ GS w a L.length c L := by
  obtain ⟨vs, h, hl, hr⟩ := h
  obtain ⟨a, c, e, h1, h2, h3, -, h5⟩ := ownForm h
  rw [hl] at e h1
  refine ⟨a, c, e, ⟨vs, h5, hl, fun k hk => ?_⟩, rfl, hm⟩
  obtain ⟨y, h6, h7⟩ := hr k L[k] (List.getElem?_eq_getElem hk)
  obtain ⟨b, d, e2, -, -, -, -, h8⟩ := ownForm h7
  rw [bv_length] at e2
  exact ⟨b, L[k].length, d, by rw [h6, e2], by rw [List.getElem?_eq_getElem hk]; exact ⟨h8, rfl, Nat.le_trans (hx _ (List.getElem_mem hk)) (by decide)⟩⟩
theorem GS.kp2 {w w' : World} {a : Option Addr} {n c : Nat} {L : List (List Bool)} (h : GS w a n c L) (k : Kp (fun _ => False) w w') : GS w' a n c L := by
  obtain ⟨⟨vs, h1, h2, h3⟩, h4, h5⟩ := h
  exact ⟨⟨vs, h1.kp k (fun _ _ h => h), h2, fun i hi => by
    obtain ⟨b, m, d, h6, h7⟩ := h3 i hi
    exact ⟨b, m, d, h6, h7.kp k⟩⟩, h4, h5⟩
theorem nilBools2 (w : World) : BoolsSl w (.slice none 0 0) [] := ⟨none, 0, rfl, Nat.le_refl _, Nat.zero_le _, fun _ => rfl, RowAt.nil _ _⟩
theorem nilGrid2 (w : World) : GridSl w (.slice none 0 0) [] := ⟨none, 0, rfl, Nat.le_refl _, Nat.zero_le _, fun _ => rfl, [], RowAt.nil _ _, rfl, fun k r x h => by cases h⟩

/-- a machine, told by its place -/
def PtrM (V : CV) (C : Circ) (u : World) (v : Value) : Prop := ∃ p a4 c4 a5 c5, v = .pointer (some ⟨p, 0, none⟩) ∧ MAt u 81 V C p a4 c4 a5 c5
theorem PtrM.st (V : CV) (C : Circ) : Stable (PtrM V C) := fun _ _ _ k ⟨p, a4, c4, a5, c5, h1, h2⟩ => ⟨p, a4, c4, a5, c5, h1, h2.kp k⟩

set_option maxRecDepth 100000 in
set_option maxHeartbeats 8000000 in
theorem runs_not {V : CV} {C : Circ} {w : World} (h : CAt w V C) (pr : Int) (hS : ¬ SmallP V C 14) :
    Calls Tryz.prog 4 #[.agg (cvals V C), .int .i64 pr] w fun e w' => e = .returned (.bool true) ∧ Kp (fun _ => False) w w' := by
  obtain ⟨wz, hwz⟩ : ∃ wz : World, wz = w.alloc (.cells (cvals V C) 27) := ⟨_, rfl⟩
  have HK0 := Lib.hid (show Kp (fun _ => False) w wz by rw [hwz]; exact (Kp.refl _ w).alloc _)
  have HC0 := Lib.hid (show Blk wz w.heap.size (cvals V C) 27 by rw [hwz]; exact Blk.new _ _ _)
  have HSm := Lib.hid (law11_Small V C 14 wz (h.kp HK0.out) (by decide) false ⟨fun q => (by cases q), fun q => absurd q hS⟩)
  have HLi := Lib.hid (fun u => law43_lives u)
  obtain ⟨d0, d1, d2, d3, d4, d5, d6, d7, d8⟩ := Blk.cells9 (show Blk wz w.heap.size #[.int .i64 C.max, .slice V.ai C.ins.length V.ci, .slice V.al C.lats.length V.cl, .slice V.ao C.outs.length V.co, .slice V.ab C.bads.length V.cb, .slice V.ac C.cons.length V.cc, .slice V.ag C.gates.length V.cg, .slice V.ay V.ny V.cy, .string V.cm] 27 from HC0.out)
  have HZ := Lib.hid hwz
  unfold cvals at HSm
  clear h hwz hS
  go_enter Tryz.func4, Tryz.ntmps4
  go_upto_region 1 with fail
  rw [← HZ.out]
  clear HZ
  go_wp2_with (first
    | (go_at_call 25; with_reducible refine Calls.mono HSm.out ?_; rintro e w1 ⟨rfl, hK1⟩; have HK1 := Lib.hid hK1; clear hK1)
    | (go_at_call 6; refine Calls.mono (HLi.out _) ?_; rintro e w2 ⟨rfl, hK2⟩; have HK2 := Lib.hid hK2; clear hK2))
  go_ret
  exact ⟨rfl, (HK0.out.trans HK1.out (fun _ _ h => h)).trans HK2.out (fun _ _ h => h)⟩

set_option maxRecDepth 100000 in
set_option maxHeartbeats 8000000 in
theorem runs_much {V : CV} {C : Circ} {w : World} (h : CAt w V C) (pr : Int) (hS : SmallP V C 14) (hm : 7 < C.lats.length + C.ins.length) :
    Calls Tryz.prog 4 #[.agg (cvals V C), .int .i64 pr] w fun e w' => e = .returned (.bool true) ∧ Kp (fun _ => False) w w' := by
  obtain ⟨wz, hwz⟩ : ∃ wz : World, wz = w.alloc (.cells (cvals V C) 27) := ⟨_, rfl⟩
  have HK0 := Lib.hid (show Kp (fun _ => False) w wz by rw [hwz]; exact (Kp.refl _ w).alloc _)
  have HC0 := Lib.hid (fun u (hu : Kp (fun _ => False) wz u) => Blk.cells9 (show Blk u w.heap.size #[.int .i64 C.max, .slice V.ai C.ins.length V.ci, .slice V.al C.lats.length V.cl, .slice V.ao C.outs.length V.co, .slice V.ab C.bads.length V.cb, .slice V.ac C.cons.length V.cc, .slice V.ag C.gates.length V.cg, .slice V.ay V.ny V.cy, .string V.cm] 27 from (show Blk wz w.heap.size (cvals V C) 27 by rw [hwz]; exact Blk.new _ _ _).kp hu (fun h => h)))
  have HSm := Lib.hid (law11_Small V C 14 wz (h.kp HK0.out) (by decide) true ⟨fun _ => hS, fun _ => rfl⟩)
  have HLi := Lib.hid (fun u => law43_lives u)
  obtain ⟨d0, d1, d2, d3, d4, d5, d6, d7, d8⟩ := HC0.out wz (Kp.refl _ _)
  have HZ := Lib.hid hwz
  have hl := hS.few.l
  have hi := hS.few.i
  have q1 : ((C.lats.length : Nat) : Int) + ((C.ins.length : Nat) : Int) > 7 := by omega
  unfold cvals at HSm
  clear h hwz hS
  go_enter Tryz.func4, Tryz.ntmps4
  go_upto_region 1 with fail
  rw [← HZ.out]
  clear HZ
  go_wp2_with (first
    | (go_at_call 25; with_reducible refine Calls.mono HSm.out ?_; rintro e w1 ⟨rfl, hK1⟩; have HK1 := Lib.hid hK1; clear d0 d1 d2 d3 d4 d5 d6 d7 d8; obtain ⟨d0, d1, d2, d3, d4, d5, d6, d7, d8⟩ := HC0.out w1 hK1; clear hK1)
    | (go_at_call 6; refine Calls.mono (HLi.out _) ?_; rintro e w2 ⟨rfl, hK2⟩; have HK2 := Lib.hid hK2; clear hK2))
  go_ret
  exact ⟨rfl, (HK0.out.trans HK1.out (fun _ _ h => h)).trans HK2.out (fun _ _ h => h)⟩

set_option maxRecDepth 100000 in
set_option maxHeartbeats 16000000 in
theorem runs_none {V : CV} {C : Circ} {w : World} (h : CAt w V C) (pr : Int) (hS : SmallP V C 14) (hm : C.lats.length + C.ins.length ≤ 7) (hb : beg (nS C) (rchS C) (dstS C pr) = -1) :
    Calls Tryz.prog 4 #[.agg (cvals V C), .int .i64 pr] w fun e w' => e = .returned (.bool true) ∧ Kp (fun _ => False) w w' := by
  obtain ⟨wz, hwz⟩ : ∃ wz : World, wz = w.alloc (.cells (cvals V C) 27) := ⟨_, rfl⟩
  have HK0 := Lib.hid (show Kp (fun _ => False) w wz by rw [hwz]; exact (Kp.refl _ w).alloc _)
  have HCz := Lib.hid (fun u (hu : Kp (fun _ => False) wz u) => (show Blk u w.heap.size (cvals V C) 27 from (show Blk wz w.heap.size (cvals V C) 27 by rw [hwz]; exact Blk.new _ _ _).kp hu (fun h => h)))
  have HC0 := Lib.hid (fun u (hu : Kp (fun _ => False) wz u) => Blk.cells9 (show Blk u w.heap.size #[.int .i64 C.max, .slice V.ai C.ins.length V.ci, .slice V.al C.lats.length V.cl, .slice V.ao C.outs.length V.co, .slice V.ab C.bads.length V.cb, .slice V.ac C.cons.length V.cc, .slice V.ag C.gates.length V.cg, .slice V.ay V.ny V.cy, .string V.cm] 27 from HCz.out u hu))
  have hM := h.kp HK0.out
  have HA := Lib.hid hM
  have HSm := Lib.hid (law11_Small V C 14 wz hM (by decide) true ⟨fun _ => hS, fun _ => rfl⟩)
  have HLi := Lib.hid (fun u => law43_lives u)
  have HOw := Lib.hid (fun u (hu : Kp (fun _ => False) wz u) => law11_Own V C u (hM.kp hu) (hS.few.few (by decide)) (Nat.le_trans hS.few.y (by decide)))
  have HNw := Lib.hid (fun (V' : CV) u (h' : CAt u V' C) (hy : V'.ny = V.ny) => ex_New V' C u h' (hS.few.few (by decide)) (by rw [hy]; exact Nat.le_trans hS.few.y (by decide)) (GoodC.of hS.good) (by omega) (by omega) pr)
  obtain ⟨d0, d1, d2, d3, d4, d5, d6, d7, d8⟩ := HC0.out wz (Kp.refl _ _)
  have HZ := Lib.hid hwz
  have q1 : ¬ ((C.lats.length : Nat) : Int) + ((C.ins.length : Nat) : Int) > 7 := by omega
  have HRun := Lib.hid (fun u sp (hs : SpcAt u C pr sp) => ex_Run_none hs (by omega) hb)
  have HFi := Lib.hid (fun u sp (hs : SpcAt u C pr sp) => sp_First hs (by omega))
  rw [hb, show atS (nS C) (dstS C pr) (-1) = -1 from atS_out (by omega)] at HFi
  have HSa := Lib.hid (fun u => ref18_SameI 0 0 (.slice none 0 0) (.slice none 0 0) (.slice none 0 0) (.slice none 0 0) [] [] u (nilBools2 u) (nilGrid2 u) (nilBools2 u) (nilGrid2 u) (by decide))
  unfold cvals at HSm HOw HNw
  clear h hwz hS hb hM
  go_enter Tryz.func4, Tryz.ntmps4
  go_upto_region 1 with fail
  rw [← HZ.out]
  clear HZ
  go_upto_region 3 with (go_at_call 25; with_reducible refine Calls.mono HSm.out ?_; rintro e w1 ⟨rfl, hK1⟩; have HK1 := Lib.hid hK1; have HOw1 := Lib.hid (HOw.out w1 hK1); clear d0 d1 d2 d3 d4 d5 d6 d7 d8; obtain ⟨d0, d1, d2, d3, d4, d5, d6, d7, d8⟩ := HC0.out w1 hK1; clear hK1)
  go_upto_region 6 with (first
    | (go_at_call 9; with_reducible refine Calls.mono HOw1.out ?_; rintro e w2 ⟨V', rfl, hA2, hy2, hK⟩; have HK2 := Lib.hid (HK1.out.trans hK (fun _ _ h => h)); have HNw2 := Lib.hid (HNw.out V' w2 hA2 hy2); clear hA2 hy2 hK; unfold cvals)
    | (go_at_call 8; with_reducible refine Calls.mono HNw2.out ?_; rintro e w3 ⟨sp, rfl, hSp, hK⟩; have HSp := Lib.hid hSp; have HK3z := Lib.hid (HK2.out.trans hK (fun _ _ h => h)); have HK3 := Lib.hid (HK0.out.trans HK3z.out (fun _ _ h => h)); clear hSp hK))
  clear d0 d1 d2 d3 d4 d5 d6 d7 d8 HK1 HOw1 HOw HNw HSm HK2 HNw2
  go_upto_region 7 with (go_at_call 26; refine Calls.mono (HRun.out _ _ HSp.out) ?_; rintro e w4 ⟨rfl, hK⟩; have HK4 := Lib.hid (HK3.out.trans hK (fun _ _ h => h)); have HS4 := Lib.hid (HSp.out.kp hK); clear hK)
  have HB5 := Lib.hid (Blk.new w4 #[.slice none 0 0, .slice none 0 0] 56)
  obtain ⟨w5, hw5⟩ : ∃ w5 : World, w5 = w4.alloc (.cells #[.slice none 0 0, .slice none 0 0] 56) := ⟨_, rfl⟩
  obtain ⟨r1, hr1⟩ : ∃ r1, w4.heap.size = r1 := ⟨_, rfl⟩
  have HK5 := Lib.hid (show Kp (fun _ => False) w w5 by rw [hw5]; exact HK4.out.alloc _)
  have HS5 := Lib.hid (show SpcAt w5 C pr sp by rw [hw5]; exact HS4.out.kp ((Kp.refl _ w4).alloc _))
  rw [← hw5, hr1] at HB5 ⊢
  clear hw5 hr1 HK4 HS4
  go_upto_region 8 with (go_at_call 26; refine Calls.mono (HRun.out _ _ HS5.out) ?_; rintro e w6 ⟨rfl, hK⟩; have HK6 := Lib.hid (HK5.out.trans hK (fun _ _ h => h)); have HS6 := Lib.hid (HS5.out.kp hK); have HB6 := Lib.hid (HB5.out.kp hK (fun h => h)); clear hK)
  have HC7 := Lib.hid (Blk.new w6 #[.slice none 0 0, .slice none 0 0] 56)
  obtain ⟨w7, hw7⟩ : ∃ w7 : World, w7 = w6.alloc (.cells #[.slice none 0 0, .slice none 0 0] 56) := ⟨_, rfl⟩
  obtain ⟨r2, hr2⟩ : ∃ r2, w6.heap.size = r2 := ⟨_, rfl⟩
  have HK7 := Lib.hid (show Kp (fun _ => False) w w7 by rw [hw7]; exact HK6.out.alloc _)
  have HS7 := Lib.hid (show SpcAt w7 C pr sp by rw [hw7]; exact HS6.out.kp ((Kp.refl _ w6).alloc _))
  have HB7 := Lib.hid (show Blk w7 r1 #[.slice none 0 0, .slice none 0 0] 56 by rw [hw7]; exact HB6.out.alloc _)
  rw [← hw7, hr2] at HC7 ⊢
  have HFi7 := Lib.hid (HFi.out w7 sp HS7.out)
  clear hw7 hr2 HK6 HS6 HB6 HB5
  go_wp2_with (first
    | (go_at_call 15; refine Calls.mono HFi7.out ?_; rintro e w8 ⟨rfl, hK⟩; have HK8 := Lib.hid (HK7.out.trans hK (fun _ _ h => h)); have HB8 := Lib.hid (HB7.out.kp hK (fun h => h)); have y0 := HB8.out.cell (i := 0) (v := .slice none 0 0) rfl; have y1 := HB8.out.cell (i := 1) (v := .slice none 0 0) rfl; have z0 := (HC7.out.kp hK (fun h => h)).cell (i := 0) (v := .slice none 0 0) rfl; have z1 := (HC7.out.kp hK (fun h => h)).cell (i := 1) (v := .slice none 0 0) rfl; have HSa8 := Lib.hid (HSa.out w8); clear hK)
    | (go_at_call 27; refine Calls.mono HSa8.out ?_; rintro e w9 ⟨rfl, hK⟩; have HK9 := Lib.hid (HK8.out.trans hK (fun _ _ h => h)); have x0 := (HB8.out.kp hK (fun h => h)).cell (i := 0) (v := .slice none 0 0) rfl; have x1 := (HB8.out.kp hK (fun h => h)).cell (i := 1) (v := .slice none 0 0) rfl; have HSa9 := Lib.hid (HSa.out w9); clear hK HSa8)
    | (go_at_call 27; refine Calls.mono HSa9.out ?_; rintro e w10 ⟨rfl, hK⟩; have HK10 := Lib.hid (HK9.out.trans hK (fun _ _ h => h)); clear hK)
    | (go_at_call 6; refine Calls.mono (HLi.out _) ?_; rintro e w11 ⟨rfl, hK⟩; have HK11 := Lib.hid (HK10.out.trans hK (fun _ _ h => h)); clear hK))
  go_ret
  exact ⟨rfl, HK11.out⟩

theorem sp_Run {w : World} {C : Circ} {pr : Int} {sp : Nat} (h : SpcAt w C pr sp) (hf : CFew C 1000000) (hl : C.lats.length ≤ 10) (hi : C.ins.length ≤ 8) {s d : Nat} (hb : beg (nS C) (rchS C) (dstS C pr) = (s : Int)) (hs : s < nS C) (hd : dstS C pr s = (d : Int)) (hd9 : d ≤ 1024) :
    Calls Tryz.prog 26 #[.pointer (some ⟨sp, 0, none⟩)] w fun e w' => ∃ a1 c1 a2 c2, e = .returned (.tuple #[.agg #[.slice a1 C.lats.length c1, .slice a2 (d + 1) c2], .bool true]) ∧ (BS w' a1 C.lats.length (stN C s) ∧ GS w' a2 (d + 1) c2 (rowsG C pr s d)) ∧ (BoolsSl w' (.slice a1 C.lats.length c1) (stN C s) ∧ GridSl w' (.slice a2 (d + 1) c2) (rowsG C pr s d)) ∧ Kp (fun _ => False) w w' := by
  refine (ex_Run h hf hl hi hb hs hd).mono ?_
  rintro e w' ⟨v1, v2, rfl, h1, h2, hK⟩
  obtain ⟨a1, c1, e1, -, -, -, h3⟩ := h1.form
  rw [bv_length, stN_len] at e1
  subst e1
  obtain ⟨a2, c2, e2, hg⟩ := own_gs2 h2 (by rw [rowsG_len]; omega) (fun x hx => by
    unfold rowsG at hx
    obtain ⟨k, -, rfl⟩ := List.mem_map.1 hx
    rw [inN2_len]; exact Nat.le_trans hi (by decide))
  rw [rowsG_len] at e2 hg
  subst e2
  exact ⟨a1, c1, a2, c2, rfl, ⟨⟨h3, stN_len _ _, Nat.le_trans hl (by decide)⟩, hg⟩, ⟨own_bools2 h1, own_grid2 h2⟩, hK⟩

set_option maxRecDepth 100000 in
set_option maxHeartbeats 16000000 in
theorem runs_some {V : CV} {C : Circ} {w : World} (h : CAt w V C) (pr : Int) (hS : SmallP V C 14) (hm : C.lats.length + C.ins.length ≤ 7) {s : Nat} (hb : beg (nS C) (rchS C) (dstS C pr) = (s : Int)) :
    Calls Tryz.prog 4 #[.agg (cvals V C), .int .i64 pr] w fun e w' => e = .returned (.bool true) ∧ Kp (fun _ => False) w w' := by
  obtain ⟨hsn, hst, d, hd, hsum⟩ := beg_some hb
  have hn9 : nS C ≤ 1024 := nS_le (by omega)
  have hd9 : d ≤ 1024 := by
    rcases distG_cases (n := nS C) (st := bdS C pr) (E := revG (edS C)) (nS C) s with ⟨_, q⟩ | ⟨_, _, q⟩
    · have : dstS C pr s = -1 := q
      omega
    · have : dstS C pr s ≤ nS C := q
      omega
  obtain ⟨wz, hwz⟩ : ∃ wz : World, wz = w.alloc (.cells (cvals V C) 27) := ⟨_, rfl⟩
  have HK0 := Lib.hid (show Kp (fun _ => False) w wz by rw [hwz]; exact (Kp.refl _ w).alloc _)
  have HCz := Lib.hid (fun u (hu : Kp (fun _ => False) wz u) => (show Blk u w.heap.size (cvals V C) 27 from (show Blk wz w.heap.size (cvals V C) 27 by rw [hwz]; exact Blk.new _ _ _).kp hu (fun h => h)))
  have HC0 := Lib.hid (fun u (hu : Kp (fun _ => False) wz u) => Blk.cells9 (show Blk u w.heap.size #[.int .i64 C.max, .slice V.ai C.ins.length V.ci, .slice V.al C.lats.length V.cl, .slice V.ao C.outs.length V.co, .slice V.ab C.bads.length V.cb, .slice V.ac C.cons.length V.cc, .slice V.ag C.gates.length V.cg, .slice V.ay V.ny V.cy, .string V.cm] 27 from HCz.out u hu))
  have hM := h.kp HK0.out
  have HA := Lib.hid hM
  have HSm := Lib.hid (law11_Small V C 14 wz hM (by decide) true ⟨fun _ => hS, fun _ => rfl⟩)
  have HLi := Lib.hid (fun u => law43_lives u)
  have HOw := Lib.hid (fun u (hu : Kp (fun _ => False) wz u) => law11_Own V C u (hM.kp hu) (hS.few.few (by decide)) (Nat.le_trans hS.few.y (by decide)))
  have HNw := Lib.hid (fun (V' : CV) u (h' : CAt u V' C) (hy : V'.ny = V.ny) => ex_New V' C u h' (hS.few.few (by decide)) (by rw [hy]; exact Nat.le_trans hS.few.y (by decide)) (GoodC.of hS.good) (by omega) (by omega) pr)
  obtain ⟨d0, d1, d2, d3, d4, d5, d6, d7, d8⟩ := HC0.out wz (Kp.refl _ _)
  have HZ := Lib.hid hwz
  have q1 : ¬ ((C.lats.length : Nat) : Int) + ((C.ins.length : Nat) : Int) > 7 := by omega
  have HRun := Lib.hid (fun u sp (hs : SpcAt u C pr sp) => sp_Run hs (hS.few.few (by decide)) (by omega) (by omega) hb hsn hd hd9)
  have HFi := Lib.hid (fun u sp (hs : SpcAt u C pr sp) => sp_First hs (by omega))
  rw [hb, show atS (nS C) (dstS C pr) (s : Int) = (d : Int) from (atS_in hsn).trans hd] at HFi
  have HRch := Lib.hid (fun u sp (hs : SpcAt u C pr sp) (t : Nat) (ht : t < nS C) => (atS_in (R := rchS C) ht) ▸ sp_Reached hs (t : Int))
  have HDst := Lib.hid (fun u sp (hs : SpcAt u C pr sp) (t : Nat) (ht : t < nS C) => (atS_in (R := dstS C pr) ht) ▸ sp_Distance hs (t : Int))
  have HSta := Lib.hid (fun u sp (hs : SpcAt u C pr sp) => sp_States hs)
  have HRb := Lib.hid (fun t => show -1 ≤ rchS C t ∧ rchS C t ≤ 1024 from by
    rcases distG_cases (n := nS C) (st := stS C) (E := edS C) (nS C) t with ⟨_, q⟩ | ⟨_, q1, q2⟩
    · have : rchS C t = -1 := q
      omega
    · have h1 : 0 ≤ rchS C t := q1
      have h2 : rchS C t ≤ nS C := q2
      omega)
  have HDb := Lib.hid (fun t => show -1 ≤ dstS C pr t ∧ dstS C pr t ≤ 1024 from by
    rcases distG_cases (n := nS C) (st := bdS C pr) (E := revG (edS C)) (nS C) t with ⟨_, q⟩ | ⟨_, q1, q2⟩
    · have : dstS C pr t = -1 := q
      omega
    · have h1 : 0 ≤ dstS C pr t := q1
      have h2 : dstS C pr t ≤ nS C := q2
      omega)
  have HSk := Lib.hid (fun k => show sumG (rchS C) (dstS C pr) (k + 1) = if 0 ≤ rchS C k ∧ 0 ≤ dstS C pr k ∧ (sumG (rchS C) (dstS C pr) k < 0 ∨ rchS C k + dstS C pr k < sumG (rchS C) (dstS C pr) k) then rchS C k + dstS C pr k else sumG (rchS C) (dstS C pr) k from rfl)
  have HS0 := Lib.hid (show sumG (rchS C) (dstS C pr) 0 = -1 from rfl)
  have HSn := Lib.hid hsum
  have HSa := Lib.hid (fun u u2 u3 x2 x3 (h2 : BoolsSl u u2 (stN C s)) (h3 : GridSl u u3 (rowsG C pr s d)) (h2' : BoolsSl u x2 (stN C s)) (h3' : GridSl u x3 (rowsG C pr s d)) => ref18_SameI 0 0 u2 u3 x2 x3 (stN C s) (rowsG C pr s d) u h2 h3 h2' h3' (by rw [rowsG_len]; omega))
  have HNm := Lib.hid (fun u (hu : Kp (fun _ => False) wz u) => ref17_New V C u (hM.kp hu) (hS.few.few (by decide)) (GoodC.of hS.good))
  have HBr := Lib.hid (fun u p a4 c4 a5 c5 sa sc ga gc (hMp : MAt u 81 V C p a4 c4 a5 c5) (h1 : BS u sa C.lats.length (stN C s)) (h2 : GS u ga (d + 1) gc (rowsG C pr s d)) => (run_breaks hsn hst hd) ▸ ref17_Breaks V C p a4 a5 c4 c5 sa _ sc ga _ gc (stN C s) (rowsG C pr s d) pr u hMp (hS.few.few (by decide)) (GoodC.of hS.good) h1 h2)
  obtain ⟨n, hn⟩ : ∃ n, nS C = n := ⟨_, rfl⟩
  simp only [hn] at HRch HDst HSta HSn
  rw [hn] at hn9
  obtain ⟨R, hR⟩ : ∃ R, rchS C = R := ⟨_, rfl⟩
  simp only [hR] at HRch HRb HSk HS0 HSn
  obtain ⟨D, hD⟩ : ∃ D, dstS C pr = D := ⟨_, rfl⟩
  simp only [hD] at HDst HDb HSk HS0 HSn
  obtain ⟨SG, hSG⟩ : ∃ SG, sumG R D = SG := ⟨_, rfl⟩
  simp only [hSG] at HSk HS0 HSn
  obtain ⟨S0, hS0⟩ : ∃ S, stN C s = S := ⟨_, rfl⟩
  simp only [hS0] at HRun HSa HBr
  obtain ⟨RG, hRG⟩ : ∃ S, rowsG C pr s d = S := ⟨_, rfl⟩
  simp only [hRG] at HRun HSa HBr
  obtain ⟨m, hmd⟩ : ∃ m, d + 1 = m := ⟨_, rfl⟩
  simp only [hmd] at HRun HBr
  have qm : ((m : Int) == (d : Int) + 1) = true := by simp; omega
  have d0' : (0 : Int) ≤ (d : Int) := by omega
  unfold cvals at HSm HOw HNw HNm
  clear h hwz hS hb hM hsn hst hd hsum hn hR hD hSG hS0 hRG hmd
  go_enter Tryz.func4, Tryz.ntmps4
  go_upto_region 1 with fail
  rw [← HZ.out]
  clear HZ
  go_upto_region 3 with (go_at_call 25; with_reducible refine Calls.mono HSm.out ?_; rintro e w1 ⟨rfl, hK1⟩; have HK1 := Lib.hid hK1; have HOw1 := Lib.hid (HOw.out w1 hK1); clear d0 d1 d2 d3 d4 d5 d6 d7 d8; obtain ⟨d0, d1, d2, d3, d4, d5, d6, d7, d8⟩ := HC0.out w1 hK1; clear hK1)
  go_upto_region 6 with (first
    | (go_at_call 9; with_reducible refine Calls.mono HOw1.out ?_; rintro e w2 ⟨V', rfl, hA2, hy2, hK⟩; have HK2 := Lib.hid (HK1.out.trans hK (fun _ _ h => h)); have HNw2 := Lib.hid (HNw.out V' w2 hA2 hy2); clear hA2 hy2 hK; unfold cvals)
    | (go_at_call 8; with_reducible refine Calls.mono HNw2.out ?_; rintro e w3 ⟨sp, rfl, hSp, hK⟩; have HSp := Lib.hid hSp; have HK3z := Lib.hid (HK2.out.trans hK (fun _ _ h => h)); have HK3 := Lib.hid (HK0.out.trans HK3z.out (fun _ _ h => h)); clear hSp hK))
  clear d0 d1 d2 d3 d4 d5 d6 d7 d8 HK1 HOw1 HOw HNw HSm HK2 HNw2
  go_upto_region 7 with (go_at_call 26; refine Calls.mono (HRun.out _ _ HSp.out) ?_; rintro e w4 ⟨a1, c1, a2, c2, rfl, hbg, hsl, hK⟩; have HK4 := Lib.hid (HK3z.out.trans hK (fun _ _ h => h)); have HS4 := Lib.hid (HSp.out.kp hK); have HG4 := Lib.hid hbg; have HL4 := Lib.hid hsl; clear hK hbg hsl)
  obtain ⟨nl, hnl⟩ : ∃ nl, C.lats.length = nl := ⟨_, rfl⟩
  have HB5 := Lib.hid (Blk.new w4 #[.slice a1 C.lats.length c1, .slice a2 m c2] 56)
  obtain ⟨w5, hw5⟩ : ∃ w5 : World, w5 = w4.alloc (.cells #[.slice a1 C.lats.length c1, .slice a2 m c2] 56) := ⟨_, rfl⟩
  obtain ⟨r1, hr1⟩ : ∃ r1, w4.heap.size = r1 := ⟨_, rfl⟩
  have k45 : Kp (fun _ => False) w4 w5 := by rw [hw5]; exact (Kp.refl _ w4).alloc _
  have HK5 := Lib.hid (HK4.out.trans k45 (fun _ _ h => h))
  have HS5 := Lib.hid (HS4.out.kp k45)
  have HG5 := Lib.hid (show BS w5 a1 C.lats.length S0 ∧ GS w5 a2 m c2 RG from ⟨HG4.out.1.kp k45, HG4.out.2.kp2 k45⟩)
  have HL5 := Lib.hid (show BoolsSl w5 (.slice a1 C.lats.length c1) S0 ∧ GridSl w5 (.slice a2 m c2) RG from ⟨HL4.out.1.kp k45, HL4.out.2.kp k45⟩)
  rw [← hw5, hr1] at HB5
  rw [← hw5, hr1]
  clear hw5 hr1 HK4 HS4 HG4 HL4 k45 hnl
  go_upto_region 8 with (go_at_call 26; refine Calls.mono (HRun.out _ _ HS5.out) ?_; rintro e w6 ⟨b1, e1, b2, e2, rfl, -, hsl, hK⟩; have HK6 := Lib.hid (HK5.out.trans hK (fun _ _ h => h)); have HS6 := Lib.hid (HS5.out.kp hK); have HB6 := Lib.hid (HB5.out.kp hK (fun h => h)); have HG6 := Lib.hid (show BS w6 a1 C.lats.length S0 ∧ GS w6 a2 m c2 RG from ⟨HG5.out.1.kp hK, HG5.out.2.kp2 hK⟩); have HL6 := Lib.hid (show BoolsSl w6 (.slice a1 C.lats.length c1) S0 ∧ GridSl w6 (.slice a2 m c2) RG from ⟨HL5.out.1.kp hK, HL5.out.2.kp hK⟩); have HM6 := Lib.hid hsl; clear hK hsl)
  have HC7 := Lib.hid (Blk.new w6 #[.slice b1 C.lats.length e1, .slice b2 m e2] 56)
  obtain ⟨w7, hw7⟩ : ∃ w7 : World, w7 = w6.alloc (.cells #[.slice b1 C.lats.length e1, .slice b2 m e2] 56) := ⟨_, rfl⟩
  obtain ⟨r2, hr2⟩ : ∃ r2, w6.heap.size = r2 := ⟨_, rfl⟩
  have k67 : Kp (fun _ => False) w6 w7 := by rw [hw7]; exact (Kp.refl _ w6).alloc _
  have HK7 := Lib.hid (HK6.out.trans k67 (fun _ _ h => h))
  have HS7 := Lib.hid (HS6.out.kp k67)
  have HB7 := Lib.hid (HB6.out.kp k67 (fun h => h))
  have HG7 := Lib.hid (show BS w7 a1 C.lats.length S0 ∧ GS w7 a2 m c2 RG from ⟨HG6.out.1.kp k67, HG6.out.2.kp2 k67⟩)
  have HSa7 := Lib.hid (fun u (hu : Kp (fun _ => False) w7 u) => HSa.out u (.slice a1 C.lats.length c1) (.slice a2 m c2) (.slice b1 C.lats.length e1) (.slice b2 m e2) ((HL6.out.1.kp k67).kp hu) ((HL6.out.2.kp k67).kp hu) ((HM6.out.1.kp k67).kp hu) ((HM6.out.2.kp k67).kp hu))
  rw [← hw7, hr2] at HC7
  rw [← hw7, hr2]
  have HFi7 := Lib.hid (fun u (hu : Kp (fun _ => False) w7 u) => HFi.out u sp (HS7.out.kp hu))
  clear hw7 hr2 HK6 HS6 HB6 HB5 HG6 HL6 HM6 k67 HK5 HS5 HG5 HL5 HRun HSp HFi HSa
  go_upto_region 10 with (first
    | (go_at_call 15; refine Calls.mono (HFi7.out w7 (Kp.refl _ _)) ?_; rintro e w8 ⟨rfl, hK⟩; have HK8 := Lib.hid hK; have HB8 := Lib.hid (HB7.out.kp hK (fun h => h)); have y0 := HB8.out.cell (i := 0) (v := .slice a1 C.lats.length c1) rfl; have y1 := HB8.out.cell (i := 1) (v := .slice a2 m c2) rfl; have z0 := (HC7.out.kp hK (fun h => h)).cell (i := 0) (v := .slice b1 C.lats.length e1) rfl; have z1 := (HC7.out.kp hK (fun h => h)).cell (i := 1) (v := .slice b2 m e2) rfl; have HSa8 := Lib.hid (HSa7.out w8 hK); clear hK)
    | (go_at_call 27; refine Calls.mono HSa8.out ?_; rintro e w9 ⟨rfl, hK⟩; have HK9 := Lib.hid (HK8.out.trans hK (fun _ _ h => h)); clear hK))
  have HS9 := Lib.hid (HS7.out.kp HK9.out)
  have HSt9 := Lib.hid (HSta.out w9 sp HS9.out)
  have HRc9 := Lib.hid (fun t ht => HRch.out w9 sp HS9.out t ht)
  have HDs9 := Lib.hid (fun t ht => HDst.out w9 sp HS9.out t ht)
  clear y0 y1 z0 z1 HSa8 HK8 HB8 HSa7 HC7 HSta HRch HDst HS7
  go_wp2_with fail
  go_loopw [11, 12] (fun v11 v12 wr => ∃ k : Nat, v12 = .int .i64 (k : Int) ∧ k ≤ n ∧ v11 = .int .i64 (SG k) ∧ wr = w9) (fun _ v12 _ => n - (intOf v12).toNat)
  case atStart => exact ⟨0, rfl, Nat.zero_le _, by rw [HS0.out], rfl⟩
  case round =>
    obtain ⟨k, rfl, hk, rfl, rfl⟩ := hrel
    by_cases hlt : k < n
    · have k1 : (k : Int) < (n : Int) := by omega
      have HRk := Lib.hid (HRc9.out k hlt)
      have HDk := Lib.hid (HDs9.out k hlt)
      have hsk := HSk.out k
      have hrb := HRb.out k
      have hdb := HDb.out k
      obtain ⟨x, hx⟩ : ∃ x, R k = x := ⟨_, rfl⟩
      obtain ⟨y, hy⟩ : ∃ y, D k = y := ⟨_, rfl⟩
      obtain ⟨g, hg⟩ : ∃ g, SG k = g := ⟨_, rfl⟩
      rw [hx] at HRk hsk hrb
      rw [hy] at HDk hsk hdb
      rw [hg] at hsk ⊢
      clear hx hy hg
      by_cases hx0 : x ≥ 0
      · by_cases hy0 : y ≥ 0
        · by_cases hg0 : g < 0
          · have HE := Lib.hid (show SG (k + 1) = x + y by rw [hsk, if_pos ⟨hx0, hy0, .inl hg0⟩])
            clear hsk
            go_wp2_with (first
              | (go_at_call 14; refine Calls.mono HSt9.out ?_; rintro e w2 ⟨rfl, rfl⟩)
              | (go_at_call 17; refine Calls.mono HRk.out ?_; rintro e w2 ⟨rfl, rfl⟩)
              | (go_at_call 18; refine Calls.mono HDk.out ?_; rintro e w2 ⟨rfl, rfl⟩))
            go_roundw
            case rel => exact ⟨k + 1, by go_num, by omega, by rw [HE.out], trivial⟩
            case measure => simp [intOf]; omega
          · by_cases hg1 : x + y < g
            · have HE := Lib.hid (show SG (k + 1) = x + y by rw [hsk, if_pos ⟨hx0, hy0, .inr hg1⟩])
              clear hsk
              go_wp2_with (first
                | (go_at_call 14; refine Calls.mono HSt9.out ?_; rintro e w2 ⟨rfl, rfl⟩)
                | (go_at_call 17; refine Calls.mono HRk.out ?_; rintro e w2 ⟨rfl, rfl⟩)
                | (go_at_call 18; refine Calls.mono HDk.out ?_; rintro e w2 ⟨rfl, rfl⟩))
              go_roundw
              case rel => exact ⟨k + 1, by go_num, by omega, by rw [HE.out], trivial⟩
              case measure => simp [intOf]; omega
            · have HE := Lib.hid (show SG (k + 1) = g by rw [hsk, if_neg (fun q => by rcases q.2.2 with q | q <;> omega)])
              clear hsk
              go_wp2_with (first
                | (go_at_call 14; refine Calls.mono HSt9.out ?_; rintro e w2 ⟨rfl, rfl⟩)
                | (go_at_call 17; refine Calls.mono HRk.out ?_; rintro e w2 ⟨rfl, rfl⟩)
                | (go_at_call 18; refine Calls.mono HDk.out ?_; rintro e w2 ⟨rfl, rfl⟩))
              go_roundw
              case rel => exact ⟨k + 1, by go_num, by omega, by rw [HE.out], trivial⟩
              case measure => simp [intOf]; omega
        · have HE := Lib.hid (show SG (k + 1) = g by rw [hsk, if_neg (fun q => hy0 q.2.1)])
          clear hsk
          go_wp2_with (first
            | (go_at_call 14; refine Calls.mono HSt9.out ?_; rintro e w2 ⟨rfl, rfl⟩)
            | (go_at_call 17; refine Calls.mono HRk.out ?_; rintro e w2 ⟨rfl, rfl⟩)
            | (go_at_call 18; refine Calls.mono HDk.out ?_; rintro e w2 ⟨rfl, rfl⟩))
          go_roundw
          case rel => exact ⟨k + 1, by go_num, by omega, by rw [HE.out], trivial⟩
          case measure => simp [intOf]; omega
      · have HE := Lib.hid (show SG (k + 1) = g by rw [hsk, if_neg (fun q => hx0 q.1)])
        clear hsk
        go_wp2_with (first
          | (go_at_call 14; refine Calls.mono HSt9.out ?_; rintro e w2 ⟨rfl, rfl⟩)
          | (go_at_call 17; refine Calls.mono HRk.out ?_; rintro e w2 ⟨rfl, rfl⟩)
          | (go_at_call 18; refine Calls.mono HDk.out ?_; rintro e w2 ⟨rfl, rfl⟩))
        go_roundw
        case rel => exact ⟨k + 1, by go_num, by omega, by rw [HE.out], trivial⟩
        case measure => simp [intOf]; omega
    · obtain rfl : k = n := by omega
      rw [HSn.out]
      have HKz := Lib.hid (HK7.out.trans HK9.out (fun _ _ h => h))
      go_upto_region 18 with (go_at_call 14; refine Calls.mono HSt9.out ?_; rintro e w2 ⟨rfl, rfl⟩)
      refine wp_region_looseG (p := upTo 22) (V := atV [EqV ((.int .i64 (d : Int))), EqV ((.pointer (some ⟨sp, 0, none⟩))), EqV (.int .i64 (d : Int)), EqV (.bool true), EqV (.bool true), EqV (.pointer (some ⟨r1, 1, none⟩)), EqV (.slice a2 m c2), EqV (.int .i64 (m : Int)), EqV ((.int .i64 (d : Int))), EqV (.int .i64 ((d : Int) + 1)), EqV (.bool true), EqV (.bool true), EqV (.bool true), EqV (.agg #[.int .i64 C.max, .slice V.ai C.ins.length V.ci, .slice V.al C.lats.length V.cl, .slice V.ao C.outs.length V.co, .slice V.ab C.bads.length V.cb, .slice V.ac C.cons.length V.cc, .slice V.ag C.gates.length V.cg, .slice V.ay V.ny V.cy, .string V.cm]), PtrM V C, EqV (.agg #[.slice a1 C.lats.length c1, .slice a2 m c2]), EqV ((.int .i64 pr)), EqV (.bool true), EqV (.bool true), EqV (.bool true), EqV (.bool true), EqV (.bool true)]) (LP := #[true, true, true, true, true, true, true, true, true, true, true, true, true, true, true, true, true, true, true, true, true, true, false]) (K := 1) (by kernel_rfl) (by kernel_rfl) (atV_st ?hstW18) ?hstepW18 (by kernel_rfl) ?hLPW18 (by kernel_rfl) ?hendW18
      case hstW18 =>
        intro W h
        simp only [List.mem_cons, List.not_mem_nil, or_false] at h
        rcases h with rfl | rfl | rfl | rfl | rfl | rfl | rfl | rfl | rfl | rfl | rfl | rfl | rfl | rfl | rfl | rfl | rfl | rfl | rfl | rfl | rfl | rfl <;> first | exact EqV.st _ | exact EqV.st _ | exact PtrM.st _ _
      case hLPW18 => exact upTo_spec (by kernel_rfl)
      case hstepW18 =>
        intro i o ho hp a u hk hoff hdep
        have e1 : a.tmps[1]?.getD undef = (.int .i64 pr) := slot_at (hoff 1 (noDst_spec (by kernel_rfl)))
        have e2 : a.tmps[2]?.getD undef = (.pointer (some ⟨w.heap.size, 0, none⟩)) := slot_at (hoff 2 (noDst_spec (by kernel_rfl)))
        have e5 : a.tmps[5]?.getD undef = (.pointer (some ⟨sp, 0, none⟩)) := slot_at (hoff 5 (noDst_spec (by kernel_rfl)))
        have e7 : a.tmps[7]?.getD undef = (.pointer (some ⟨r1, 0, none⟩)) := slot_at (hoff 7 (noDst_spec (by kernel_rfl)))
        have e11 : a.tmps[11]?.getD undef = (.int .i64 (d : Int)) := slot_at (hoff 11 (noDst_spec (by kernel_rfl)))
        clear hoff
        match i, ho with
        | 0, ho =>
          obtain rfl := Option.some.inj ho
          refine lg_none rfl ?_
          refine lw_value (v := (.int .i64 (d : Int))) (u' := u) ?_ (Kp.refl _ _) rfl
          go_simp
        | 1, ho =>
          obtain rfl := Option.some.inj ho
          refine lg_none rfl ?_
          refine lw_value (v := (.pointer (some ⟨sp, 0, none⟩))) (u' := u) ?_ (Kp.refl _ _) rfl
          go_simp
        | 2, ho =>
          obtain rfl := Option.some.inj ho
          have e116 : a.tmps[116]?.getD undef = (.pointer (some ⟨sp, 0, none⟩)) := slot_at (hdep ⟨1, .data⟩ (by simp) rfl _ 116 rfl rfl)
          refine lg_none rfl ?_
          refine lw_call (f := 15) (args := #[.pointer (some ⟨sp, 0, none⟩)]) ?_ ?_
          · go_simp
          · exact (HFi7.out u (HK9.out.trans hk (fun _ _ h => h))).mono (by
              rintro e u' ⟨rfl, hK⟩
              exact ⟨_, rfl, hK, rfl⟩)
        | 3, ho =>
          obtain rfl := Option.some.inj ho
          have e115 : a.tmps[115]?.getD undef = (.int .i64 (d : Int)) := slot_at (hdep ⟨0, .data⟩ (by simp) rfl _ 115 rfl rfl)
          have e117 : a.tmps[117]?.getD undef = .int .i64 (d : Int) := slot_at (hdep ⟨2, .data⟩ (by simp) rfl _ 117 rfl rfl)
          refine lg_none rfl ?_
          refine lw_value (v := .bool true) (u' := u) ?_ (Kp.refl _ _) rfl
          go_simp
        | 4, ho =>
          obtain rfl := Option.some.inj ho
          have e118 : a.tmps[118]?.getD undef = .bool true := slot_at (hdep ⟨3, .data⟩ (by simp) rfl _ 118 rfl rfl)
          refine lg_none rfl ?_
          refine lw_value (v := .bool true) (u' := u) ?_ (Kp.refl _ _) rfl
          go_simp
        | 5, ho =>
          obtain rfl := Option.some.inj ho
          have e119 : a.tmps[119]?.getD undef = .bool true := slot_at (hdep ⟨4, .guard⟩ (by simp) rfl _ 119 rfl rfl)
          refine lg_on (x := 119) rfl rfl e119 ?_
          refine lw_value (v := .pointer (some ⟨r1, 1, none⟩)) (u' := u) ?_ (Kp.refl _ _) rfl
          go_simp
        | 6, ho =>
          obtain rfl := Option.some.inj ho
          have e120 : a.tmps[120]?.getD undef = .pointer (some ⟨r1, 1, none⟩) := slot_at (hdep ⟨5, .data⟩ (by simp) rfl _ 120 rfl rfl)
          have e119 : a.tmps[119]?.getD undef = .bool true := slot_at (hdep ⟨4, .guard⟩ (by simp) rfl _ 119 rfl rfl)
          refine lg_on (x := 119) rfl rfl e119 ?_
          have kc1 := (HB7.out.kp (HK9.out.trans hk (fun _ _ h => h)) (fun h => h)).cell (i := 1) (v := .slice a2 m c2) rfl
          refine lw_value (v := .slice a2 m c2) (u' := u) ?_ (Kp.refl _ _) rfl
          go_simp
        | 7, ho =>
          obtain rfl := Option.some.inj ho
          have e121 : a.tmps[121]?.getD undef = .slice a2 m c2 := slot_at (hdep ⟨6, .data⟩ (by simp) rfl _ 121 rfl rfl)
          have e119 : a.tmps[119]?.getD undef = .bool true := slot_at (hdep ⟨4, .guard⟩ (by simp) rfl _ 119 rfl rfl)
          refine lg_on (x := 119) rfl rfl e119 ?_
          refine lw_value (v := .int .i64 (m : Int)) (u' := u) ?_ (Kp.refl _ _) rfl
          go_simp
        | 8, ho =>
          obtain rfl := Option.some.inj ho
          have e119 : a.tmps[119]?.getD undef = .bool true := slot_at (hdep ⟨4, .guard⟩ (by simp) rfl _ 119 rfl rfl)
          refine lg_on (x := 119) rfl rfl e119 ?_
          refine lw_value (v := (.int .i64 (d : Int))) (u' := u) ?_ (Kp.refl _ _) rfl
          go_simp
        | 9, ho =>
          obtain rfl := Option.some.inj ho
          have e123 : a.tmps[123]?.getD undef = (.int .i64 (d : Int)) := slot_at (hdep ⟨8, .data⟩ (by simp) rfl _ 123 rfl rfl)
          have e119 : a.tmps[119]?.getD undef = .bool true := slot_at (hdep ⟨4, .guard⟩ (by simp) rfl _ 119 rfl rfl)
          refine lg_on (x := 119) rfl rfl e119 ?_
          refine lw_value (v := .int .i64 ((d : Int) + 1)) (u' := u) ?_ (Kp.refl _ _) rfl
          go_simp
          all_goals (first | done | (unfold IntKind.wrap; simp [IntKind.signed, IntKind.bits]; omega))
        | 10, ho =>
          obtain rfl := Option.some.inj ho
          have e122 : a.tmps[122]?.getD undef = .int .i64 (m : Int) := slot_at (hdep ⟨7, .data⟩ (by simp) rfl _ 122 rfl rfl)
          have e124 : a.tmps[124]?.getD undef = .int .i64 ((d : Int) + 1) := slot_at (hdep ⟨9, .data⟩ (by simp) rfl _ 124 rfl rfl)
          have e119 : a.tmps[119]?.getD undef = .bool true := slot_at (hdep ⟨4, .guard⟩ (by simp) rfl _ 119 rfl rfl)
          refine lg_on (x := 119) rfl rfl e119 ?_
          refine lw_value (v := .bool true) (u' := u) ?_ (Kp.refl _ _) rfl
          go_simp
        | 11, ho =>
          obtain rfl := Option.some.inj ho
          have e119 : a.tmps[119]?.getD undef = .bool true := slot_at (hdep ⟨4, .data⟩ (by simp) rfl _ 119 rfl rfl)
          have e125 : a.tmps[125]?.getD undef = .bool true := slot_at (hdep ⟨10, .data⟩ (by simp) rfl _ 125 rfl rfl)
          refine lg_none rfl ?_
          refine lw_value (v := .bool true) (u' := u) ?_ (Kp.refl _ _) rfl
          go_simp
        | 12, ho =>
          obtain rfl := Option.some.inj ho
          have e126 : a.tmps[126]?.getD undef = .bool true := slot_at (hdep ⟨11, .data⟩ (by simp) rfl _ 126 rfl rfl)
          refine lg_none rfl ?_
          refine lw_value (v := .bool true) (u' := u) ?_ (Kp.refl _ _) rfl
          go_simp
        | 13, ho =>
          obtain rfl := Option.some.inj ho
          have e127 : a.tmps[127]?.getD undef = .bool true := slot_at (hdep ⟨12, .guard⟩ (by simp) rfl _ 127 rfl rfl)
          refine lg_on (x := 127) rfl rfl e127 ?_
          obtain ⟨d0, d1, d2, d3, d4, d5, d6, d7, d8⟩ := HC0.out u (HKz.out.trans hk (fun _ _ h => h))
          refine lw_value (v := .agg #[.int .i64 C.max, .slice V.ai C.ins.length V.ci, .slice V.al C.lats.length V.cl, .slice V.ao C.outs.length V.co, .slice V.ab C.bads.length V.cb, .slice V.ac C.cons.length V.cc, .slice V.ag C.gates.length V.cg, .slice V.ay V.ny V.cy, .string V.cm]) (u' := u) ?_ (Kp.refl _ _) rfl
          go_simp
        | 14, ho =>
          obtain rfl := Option.some.inj ho
          have e128 : a.tmps[128]?.getD undef = .agg #[.int .i64 C.max, .slice V.ai C.ins.length V.ci, .slice V.al C.lats.length V.cl, .slice V.ao C.outs.length V.co, .slice V.ab C.bads.length V.cb, .slice V.ac C.cons.length V.cc, .slice V.ag C.gates.length V.cg, .slice V.ay V.ny V.cy, .string V.cm] := slot_at (hdep ⟨13, .data⟩ (by simp) rfl _ 128 rfl rfl)
          have e127 : a.tmps[127]?.getD undef = .bool true := slot_at (hdep ⟨12, .chain⟩ (by simp) rfl _ 127 rfl rfl)
          refine lg_on (x := 127) rfl rfl e127 ?_
          refine lw_call (f := 10) (args := #[.agg #[.int .i64 C.max, .slice V.ai C.ins.length V.ci, .slice V.al C.lats.length V.cl, .slice V.ao C.outs.length V.co, .slice V.ab C.bads.length V.cb, .slice V.ac C.cons.length V.cc, .slice V.ag C.gates.length V.cg, .slice V.ay V.ny V.cy, .string V.cm]]) ?_ ?_
          · go_simp
          · exact (HNm.out u (HKz.out.trans hk (fun _ _ h => h))).mono (by
              rintro e u' ⟨p, a4, c4, a5, c5, rfl, h1, hK⟩
              exact ⟨_, rfl, hK, p, a4, c4, a5, c5, rfl, h1⟩)
        | 15, ho =>
          obtain rfl := Option.some.inj ho
          have e127 : a.tmps[127]?.getD undef = .bool true := slot_at (hdep ⟨12, .guard⟩ (by simp) rfl _ 127 rfl rfl)
          refine lg_on (x := 127) rfl rfl e127 ?_
          have kc0 := (HB7.out.kp (HK9.out.trans hk (fun _ _ h => h)) (fun h => h)).cell (i := 0) (v := .slice a1 C.lats.length c1) rfl
          have kc1 := (HB7.out.kp (HK9.out.trans hk (fun _ _ h => h)) (fun h => h)).cell (i := 1) (v := .slice a2 m c2) rfl
          refine lw_value (v := .agg #[.slice a1 C.lats.length c1, .slice a2 m c2]) (u' := u) ?_ (Kp.refl _ _) rfl
          go_simp
        | 16, ho =>
          obtain rfl := Option.some.inj ho
          have e127 : a.tmps[127]?.getD undef = .bool true := slot_at (hdep ⟨12, .guard⟩ (by simp) rfl _ 127 rfl rfl)
          refine lg_on (x := 127) rfl rfl e127 ?_
          refine lw_value (v := (.int .i64 pr)) (u' := u) ?_ (Kp.refl _ _) rfl
          go_simp
        | 17, ho =>
          obtain rfl := Option.some.inj ho
          have e130 : a.tmps[130]?.getD undef = .agg #[.slice a1 C.lats.length c1, .slice a2 m c2] := slot_at (hdep ⟨15, .data⟩ (by simp) rfl _ 130 rfl rfl)
          have e131 : a.tmps[131]?.getD undef = (.int .i64 pr) := slot_at (hdep ⟨16, .data⟩ (by simp) rfl _ 131 rfl rfl)
          have e127 : a.tmps[127]?.getD undef = .bool true := slot_at (hdep ⟨12, .guard⟩ (by simp) rfl _ 127 rfl rfl)
          refine lg_on (x := 127) rfl rfl e127 ?_
          have g := hdep ⟨14, .data⟩ (by simp) rfl _ 129 rfl rfl
          obtain ⟨p, a4, c4, a5, c5, ep, hMp⟩ := g
          have HMp := Lib.hid hMp
          have e129 := slot_at ep
          clear hMp ep
          refine lw_call (f := 28) (args := #[.pointer (some ⟨p, 0, none⟩), .agg #[.slice a1 C.lats.length c1, .slice a2 m c2], .int .i64 pr]) ?_ ?_
          · go_simp
          · exact (HBr.out u p a4 c4 a5 c5 a1 c1 a2 c2 HMp.out (HG7.out.1.kp (HK9.out.trans hk (fun _ _ h => h))) (HG7.out.2.kp2 (HK9.out.trans hk (fun _ _ h => h)))).mono (by
              rintro e u' ⟨rfl, hK⟩
              exact ⟨_, rfl, hK, rfl⟩)
        | 18, ho =>
          obtain rfl := Option.some.inj ho
          have e127 : a.tmps[127]?.getD undef = .bool true := slot_at (hdep ⟨12, .data⟩ (by simp) rfl _ 127 rfl rfl)
          have e132 : a.tmps[132]?.getD undef = .bool true := slot_at (hdep ⟨17, .data⟩ (by simp) rfl _ 132 rfl rfl)
          refine lg_none rfl ?_
          refine lw_value (v := .bool true) (u' := u) ?_ (Kp.refl _ _) rfl
          go_simp
        | 19, ho =>
          obtain rfl := Option.some.inj ho
          have e133 : a.tmps[133]?.getD undef = .bool true := slot_at (hdep ⟨18, .data⟩ (by simp) rfl _ 133 rfl rfl)
          refine lg_none rfl ?_
          refine lw_value (v := .bool true) (u' := u) ?_ (Kp.refl _ _) rfl
          go_simp
        | 20, ho =>
          obtain rfl := Option.some.inj ho
          have e134 : a.tmps[134]?.getD undef = .bool true := slot_at (hdep ⟨19, .chain⟩ (by simp) rfl _ 134 rfl rfl)
          refine lg_on (x := 134) rfl rfl e134 ?_
          refine lw_call (f := 6) (args := #[]) ?_ ?_
          · go_simp
          · exact (HLi.out u).mono (by
              rintro e u' ⟨rfl, hK⟩
              exact ⟨_, rfl, hK, rfl⟩)
        | 21, ho =>
          obtain rfl := Option.some.inj ho
          have e134 : a.tmps[134]?.getD undef = .bool true := slot_at (hdep ⟨19, .data⟩ (by simp) rfl _ 134 rfl rfl)
          have e135 : a.tmps[135]?.getD undef = .bool true := slot_at (hdep ⟨20, .data⟩ (by simp) rfl _ 135 rfl rfl)
          refine lg_none rfl ?_
          refine lw_value (v := .bool true) (u' := u) ?_ (Kp.refl _ _) rfl
          go_simp
        | n + 22, _ => exact absurd hp (by simp [upTo])
      case hendW18 =>
        intro a u hI
        have hsz : a.tmps.size = 137 := hI.size
        have hdf : a.defers = [] := hI.defers
        have f0 : a.tmps.getD 0 undef = _ := hI.off 0 (noDst_spec (p := upTo 22) (by kernel_rfl))
        have f1 : a.tmps.getD 1 undef = _ := hI.off 1 (noDst_spec (p := upTo 22) (by kernel_rfl))
        have f2 : a.tmps.getD 2 undef = _ := hI.off 2 (noDst_spec (p := upTo 22) (by kernel_rfl))
        have f3 : a.tmps.getD 3 undef = _ := hI.off 3 (noDst_spec (p := upTo 22) (by kernel_rfl))
        have f4 : a.tmps.getD 4 undef = _ := hI.off 4 (noDst_spec (p := upTo 22) (by kernel_rfl))
        have f5 : a.tmps.getD 5 undef = _ := hI.off 5 (noDst_spec (p := upTo 22) (by kernel_rfl))
        have f6 : a.tmps.getD 6 undef = _ := hI.off 6 (noDst_spec (p := upTo 22) (by kernel_rfl))
        have f7 : a.tmps.getD 7 undef = _ := hI.off 7 (noDst_spec (p := upTo 22) (by kernel_rfl))
        have f8 : a.tmps.getD 8 undef = _ := hI.off 8 (noDst_spec (p := upTo 22) (by kernel_rfl))
        have f9 : a.tmps.getD 9 undef = _ := hI.off 9 (noDst_spec (p := upTo 22) (by kernel_rfl))
        have f10 : a.tmps.getD 10 undef = _ := hI.off 10 (noDst_spec (p := upTo 22) (by kernel_rfl))
        have f11 : a.tmps.getD 11 undef = _ := hI.off 11 (noDst_spec (p := upTo 22) (by kernel_rfl))
        have f12 : a.tmps.getD 12 undef = _ := hI.off 12 (noDst_spec (p := upTo 22) (by kernel_rfl))
        have f13 : a.tmps.getD 13 undef = _ := hI.off 13 (noDst_spec (p := upTo 22) (by kernel_rfl))
        have f14 : a.tmps.getD 14 undef = _ := hI.off 14 (noDst_spec (p := upTo 22) (by kernel_rfl))
        have f15 : a.tmps.getD 15 undef = _ := hI.off 15 (noDst_spec (p := upTo 22) (by kernel_rfl))
        have f16 : a.tmps.getD 16 undef = _ := hI.off 16 (noDst_spec (p := upTo 22) (by kernel_rfl))
        have f17 : a.tmps.getD 17 undef = _ := hI.off 17 (noDst_spec (p := upTo 22) (by kernel_rfl))
        have f18 : a.tmps.getD 18 undef = _ := hI.off 18 (noDst_spec (p := upTo 22) (by kernel_rfl))
        have f19 : a.tmps.getD 19 undef = _ := hI.off 19 (noDst_spec (p := upTo 22) (by kernel_rfl))
        have f20 : a.tmps.getD 20 undef = _ := hI.off 20 (noDst_spec (p := upTo 22) (by kernel_rfl))
        have f21 : a.tmps.getD 21 undef = _ := hI.off 21 (noDst_spec (p := upTo 22) (by kernel_rfl))
        have f22 : a.tmps.getD 22 undef = _ := hI.off 22 (noDst_spec (p := upTo 22) (by kernel_rfl))
        have f23 : a.tmps.getD 23 undef = _ := hI.off 23 (noDst_spec (p := upTo 22) (by kernel_rfl))
        have f24 : a.tmps.getD 24 undef = _ := hI.off 24 (noDst_spec (p := upTo 22) (by kernel_rfl))
        have f25 : a.tmps.getD 25 undef = _ := hI.off 25 (noDst_spec (p := upTo 22) (by kernel_rfl))
        have f26 : a.tmps.getD 26 undef = _ := hI.off 26 (noDst_spec (p := upTo 22) (by kernel_rfl))
        have f27 : a.tmps.getD 27 undef = _ := hI.off 27 (noDst_spec (p := upTo 22) (by kernel_rfl))
        have f28 : a.tmps.getD 28 undef = _ := hI.off 28 (noDst_spec (p := upTo 22) (by kernel_rfl))
        have f29 : a.tmps.getD 29 undef = _ := hI.off 29 (noDst_spec (p := upTo 22) (by kernel_rfl))
        have f30 : a.tmps.getD 30 undef = _ := hI.off 30 (noDst_spec (p := upTo 22) (by kernel_rfl))
        have f31 : a.tmps.getD 31 undef = _ := hI.off 31 (noDst_spec (p := upTo 22) (by kernel_rfl))
        have f32 : a.tmps.getD 32 undef = _ := hI.off 32 (noDst_spec (p := upTo 22) (by kernel_rfl))
        have f33 : a.tmps.getD 33 undef = _ := hI.off 33 (noDst_spec (p := upTo 22) (by kernel_rfl))
        have f34 : a.tmps.getD 34 undef = _ := hI.off 34 (noDst_spec (p := upTo 22) (by kernel_rfl))
        have f35 : a.tmps.getD 35 undef = _ := hI.off 35 (noDst_spec (p := upTo 22) (by kernel_rfl))
        have f36 : a.tmps.getD 36 undef = _ := hI.off 36 (noDst_spec (p := upTo 22) (by kernel_rfl))
        have f37 : a.tmps.getD 37 undef = _ := hI.off 37 (noDst_spec (p := upTo 22) (by kernel_rfl))
        have f38 : a.tmps.getD 38 undef = _ := hI.off 38 (noDst_spec (p := upTo 22) (by kernel_rfl))
        have f39 : a.tmps.getD 39 undef = _ := hI.off 39 (noDst_spec (p := upTo 22) (by kernel_rfl))
        have f40 : a.tmps.getD 40 undef = _ := hI.off 40 (noDst_spec (p := upTo 22) (by kernel_rfl))
        have f41 : a.tmps.getD 41 undef = _ := hI.off 41 (noDst_spec (p := upTo 22) (by kernel_rfl))
        have f42 : a.tmps.getD 42 undef = _ := hI.off 42 (noDst_spec (p := upTo 22) (by kernel_rfl))
        have f43 : a.tmps.getD 43 undef = _ := hI.off 43 (noDst_spec (p := upTo 22) (by kernel_rfl))
        have f44 : a.tmps.getD 44 undef = _ := hI.off 44 (noDst_spec (p := upTo 22) (by kernel_rfl))
        have f45 : a.tmps.getD 45 undef = _ := hI.off 45 (noDst_spec (p := upTo 22) (by kernel_rfl))
        have f46 : a.tmps.getD 46 undef = _ := hI.off 46 (noDst_spec (p := upTo 22) (by kernel_rfl))
        have f47 : a.tmps.getD 47 undef = _ := hI.off 47 (noDst_spec (p := upTo 22) (by kernel_rfl))
        have f48 : a.tmps.getD 48 undef = _ := hI.off 48 (noDst_spec (p := upTo 22) (by kernel_rfl))
        have f49 : a.tmps.getD 49 undef = _ := hI.off 49 (noDst_spec (p := upTo 22) (by kernel_rfl))
        have f50 : a.tmps.getD 50 undef = _ := hI.off 50 (noDst_spec (p := upTo 22) (by kernel_rfl))
        have f51 : a.tmps.getD 51 undef = _ := hI.off 51 (noDst_spec (p := upTo 22) (by kernel_rfl))
        have f52 : a.tmps.getD 52 undef = _ := hI.off 52 (noDst_spec (p := upTo 22) (by kernel_rfl))
        have f53 : a.tmps.getD 53 undef = _ := hI.off 53 (noDst_spec (p := upTo 22) (by kernel_rfl))
        have f54 : a.tmps.getD 54 undef = _ := hI.off 54 (noDst_spec (p := upTo 22) (by kernel_rfl))
        have f55 : a.tmps.getD 55 undef = _ := hI.off 55 (noDst_spec (p := upTo 22) (by kernel_rfl))
        have f56 : a.tmps.getD 56 undef = _ := hI.off 56 (noDst_spec (p := upTo 22) (by kernel_rfl))
        have f57 : a.tmps.getD 57 undef = _ := hI.off 57 (noDst_spec (p := upTo 22) (by kernel_rfl))
        have f58 : a.tmps.getD 58 undef = _ := hI.off 58 (noDst_spec (p := upTo 22) (by kernel_rfl))
        have f59 : a.tmps.getD 59 undef = _ := hI.off 59 (noDst_spec (p := upTo 22) (by kernel_rfl))
        have f60 : a.tmps.getD 60 undef = _ := hI.off 60 (noDst_spec (p := upTo 22) (by kernel_rfl))
        have f61 : a.tmps.getD 61 undef = _ := hI.off 61 (noDst_spec (p := upTo 22) (by kernel_rfl))
        have f62 : a.tmps.getD 62 undef = _ := hI.off 62 (noDst_spec (p := upTo 22) (by kernel_rfl))
        have f63 : a.tmps.getD 63 undef = _ := hI.off 63 (noDst_spec (p := upTo 22) (by kernel_rfl))
        have f64 : a.tmps.getD 64 undef = _ := hI.off 64 (noDst_spec (p := upTo 22) (by kernel_rfl))
        have f65 : a.tmps.getD 65 undef = _ := hI.off 65 (noDst_spec (p := upTo 22) (by kernel_rfl))
        have f66 : a.tmps.getD 66 undef = _ := hI.off 66 (noDst_spec (p := upTo 22) (by kernel_rfl))
        have f67 : a.tmps.getD 67 undef = _ := hI.off 67 (noDst_spec (p := upTo 22) (by kernel_rfl))
        have f68 : a.tmps.getD 68 undef = _ := hI.off 68 (noDst_spec (p := upTo 22) (by kernel_rfl))
        have f69 : a.tmps.getD 69 undef = _ := hI.off 69 (noDst_spec (p := upTo 22) (by kernel_rfl))
        have f70 : a.tmps.getD 70 undef = _ := hI.off 70 (noDst_spec (p := upTo 22) (by kernel_rfl))
        have f71 : a.tmps.getD 71 undef = _ := hI.off 71 (noDst_spec (p := upTo 22) (by kernel_rfl))
        have f72 : a.tmps.getD 72 undef = _ := hI.off 72 (noDst_spec (p := upTo 22) (by kernel_rfl))
        have f73 : a.tmps.getD 73 undef = _ := hI.off 73 (noDst_spec (p := upTo 22) (by kernel_rfl))
        have f74 : a.tmps.getD 74 undef = _ := hI.off 74 (noDst_spec (p := upTo 22) (by kernel_rfl))
        have f75 : a.tmps.getD 75 undef = _ := hI.off 75 (noDst_spec (p := upTo 22) (by kernel_rfl))
        have f76 : a.tmps.getD 76 undef = _ := hI.off 76 (noDst_spec (p := upTo 22) (by kernel_rfl))
        have f77 : a.tmps.getD 77 undef = _ := hI.off 77 (noDst_spec (p := upTo 22) (by kernel_rfl))
        have f78 : a.tmps.getD 78 undef = _ := hI.off 78 (noDst_spec (p := upTo 22) (by kernel_rfl))
        have f79 : a.tmps.getD 79 undef = _ := hI.off 79 (noDst_spec (p := upTo 22) (by kernel_rfl))
        have f80 : a.tmps.getD 80 undef = _ := hI.off 80 (noDst_spec (p := upTo 22) (by kernel_rfl))
        have f81 : a.tmps.getD 81 undef = _ := hI.off 81 (noDst_spec (p := upTo 22) (by kernel_rfl))
        have f82 : a.tmps.getD 82 undef = _ := hI.off 82 (noDst_spec (p := upTo 22) (by kernel_rfl))
        have f83 : a.tmps.getD 83 undef = _ := hI.off 83 (noDst_spec (p := upTo 22) (by kernel_rfl))
        have f84 : a.tmps.getD 84 undef = _ := hI.off 84 (noDst_spec (p := upTo 22) (by kernel_rfl))
        have f85 : a.tmps.getD 85 undef = _ := hI.off 85 (noDst_spec (p := upTo 22) (by kernel_rfl))
        have f86 : a.tmps.getD 86 undef = _ := hI.off 86 (noDst_spec (p := upTo 22) (by kernel_rfl))
        have f87 : a.tmps.getD 87 undef = _ := hI.off 87 (noDst_spec (p := upTo 22) (by kernel_rfl))
        have f88 : a.tmps.getD 88 undef = _ := hI.off 88 (noDst_spec (p := upTo 22) (by kernel_rfl))
        have f89 : a.tmps.getD 89 undef = _ := hI.off 89 (noDst_spec (p := upTo 22) (by kernel_rfl))
        have f90 : a.tmps.getD 90 undef = _ := hI.off 90 (noDst_spec (p := upTo 22) (by kernel_rfl))
        have f91 : a.tmps.getD 91 undef = _ := hI.off 91 (noDst_spec (p := upTo 22) (by kernel_rfl))
        have f92 : a.tmps.getD 92 undef = _ := hI.off 92 (noDst_spec (p := upTo 22) (by kernel_rfl))
        have f93 : a.tmps.getD 93 undef = _ := hI.off 93 (noDst_spec (p := upTo 22) (by kernel_rfl))
        have f94 : a.tmps.getD 94 undef = _ := hI.off 94 (noDst_spec (p := upTo 22) (by kernel_rfl))
        have f95 : a.tmps.getD 95 undef = _ := hI.off 95 (noDst_spec (p := upTo 22) (by kernel_rfl))
        have f96 : a.tmps.getD 96 undef = _ := hI.off 96 (noDst_spec (p := upTo 22) (by kernel_rfl))
        have f97 : a.tmps.getD 97 undef = _ := hI.off 97 (noDst_spec (p := upTo 22) (by kernel_rfl))
        have f98 : a.tmps.getD 98 undef = _ := hI.off 98 (noDst_spec (p := upTo 22) (by kernel_rfl))
        have f99 : a.tmps.getD 99 undef = _ := hI.off 99 (noDst_spec (p := upTo 22) (by kernel_rfl))
        have f100 : a.tmps.getD 100 undef = _ := hI.off 100 (noDst_spec (p := upTo 22) (by kernel_rfl))
        have f101 : a.tmps.getD 101 undef = _ := hI.off 101 (noDst_spec (p := upTo 22) (by kernel_rfl))
        have f102 : a.tmps.getD 102 undef = _ := hI.off 102 (noDst_spec (p := upTo 22) (by kernel_rfl))
        have f103 : a.tmps.getD 103 undef = _ := hI.off 103 (noDst_spec (p := upTo 22) (by kernel_rfl))
        have f104 : a.tmps.getD 104 undef = _ := hI.off 104 (noDst_spec (p := upTo 22) (by kernel_rfl))
        have f105 : a.tmps.getD 105 undef = _ := hI.off 105 (noDst_spec (p := upTo 22) (by kernel_rfl))
        have f106 : a.tmps.getD 106 undef = _ := hI.off 106 (noDst_spec (p := upTo 22) (by kernel_rfl))
        have f107 : a.tmps.getD 107 undef = _ := hI.off 107 (noDst_spec (p := upTo 22) (by kernel_rfl))
        have f108 : a.tmps.getD 108 undef = _ := hI.off 108 (noDst_spec (p := upTo 22) (by kernel_rfl))
        have f109 : a.tmps.getD 109 undef = _ := hI.off 109 (noDst_spec (p := upTo 22) (by kernel_rfl))
        have f110 : a.tmps.getD 110 undef = _ := hI.off 110 (noDst_spec (p := upTo 22) (by kernel_rfl))
        have f111 : a.tmps.getD 111 undef = _ := hI.off 111 (noDst_spec (p := upTo 22) (by kernel_rfl))
        have f112 : a.tmps.getD 112 undef = _ := hI.off 112 (noDst_spec (p := upTo 22) (by kernel_rfl))
        have f113 : a.tmps.getD 113 undef = _ := hI.off 113 (noDst_spec (p := upTo 22) (by kernel_rfl))
        have f114 : a.tmps.getD 114 undef = _ := hI.off 114 (noDst_spec (p := upTo 22) (by kernel_rfl))
        have f115 : a.tmps.getD 115 undef = (.int .i64 (d : Int)) := hI.val 0 _ 115 rfl rfl rfl
        have f116 : a.tmps.getD 116 undef = (.pointer (some ⟨sp, 0, none⟩)) := hI.val 1 _ 116 rfl rfl rfl
        have f117 : a.tmps.getD 117 undef = .int .i64 (d : Int) := hI.val 2 _ 117 rfl rfl rfl
        have f118 : a.tmps.getD 118 undef = .bool true := hI.val 3 _ 118 rfl rfl rfl
        have f119 : a.tmps.getD 119 undef = .bool true := hI.val 4 _ 119 rfl rfl rfl
        have f120 : a.tmps.getD 120 undef = .pointer (some ⟨r1, 1, none⟩) := hI.val 5 _ 120 rfl rfl rfl
        have f121 : a.tmps.getD 121 undef = .slice a2 m c2 := hI.val 6 _ 121 rfl rfl rfl
        have f122 : a.tmps.getD 122 undef = .int .i64 (m : Int) := hI.val 7 _ 122 rfl rfl rfl
        have f123 : a.tmps.getD 123 undef = (.int .i64 (d : Int)) := hI.val 8 _ 123 rfl rfl rfl
        have f124 : a.tmps.getD 124 undef = .int .i64 ((d : Int) + 1) := hI.val 9 _ 124 rfl rfl rfl
        have f125 : a.tmps.getD 125 undef = .bool true := hI.val 10 _ 125 rfl rfl rfl
        have f126 : a.tmps.getD 126 undef = .bool true := hI.val 11 _ 126 rfl rfl rfl
        have f127 : a.tmps.getD 127 undef = .bool true := hI.val 12 _ 127 rfl rfl rfl
        have f128 : a.tmps.getD 128 undef = .agg #[.int .i64 C.max, .slice V.ai C.ins.length V.ci, .slice V.al C.lats.length V.cl, .slice V.ao C.outs.length V.co, .slice V.ab C.bads.length V.cb, .slice V.ac C.cons.length V.cc, .slice V.ag C.gates.length V.cg, .slice V.ay V.ny V.cy, .string V.cm] := hI.val 13 _ 128 rfl rfl rfl
        have g129 : (PtrM V C) u (a.tmps.getD 129 undef) := hI.val 14 _ 129 rfl rfl rfl
        have f130 : a.tmps.getD 130 undef = .agg #[.slice a1 C.lats.length c1, .slice a2 m c2] := hI.val 15 _ 130 rfl rfl rfl
        have f131 : a.tmps.getD 131 undef = (.int .i64 pr) := hI.val 16 _ 131 rfl rfl rfl
        have f132 : a.tmps.getD 132 undef = .bool true := hI.val 17 _ 132 rfl rfl rfl
        have f133 : a.tmps.getD 133 undef = .bool true := hI.val 18 _ 133 rfl rfl rfl
        have f134 : a.tmps.getD 134 undef = .bool true := hI.val 19 _ 134 rfl rfl rfl
        have f135 : a.tmps.getD 135 undef = .bool true := hI.val 20 _ 135 rfl rfl rfl
        have f136 : a.tmps.getD 136 undef = .bool true := hI.val 21 _ 136 rfl rfl rfl
        have ha : a = ⟨#[a.tmps.getD 0 undef, a.tmps.getD 1 undef, a.tmps.getD 2 undef, a.tmps.getD 3 undef, a.tmps.getD 4 undef, a.tmps.getD 5 undef, a.tmps.getD 6 undef, a.tmps.getD 7 undef, a.tmps.getD 8 undef, a.tmps.getD 9 undef, a.tmps.getD 10 undef, a.tmps.getD 11 undef, a.tmps.getD 12 undef, a.tmps.getD 13 undef, a.tmps.getD 14 undef, a.tmps.getD 15 undef, a.tmps.getD 16 undef, a.tmps.getD 17 undef, a.tmps.getD 18 undef, a.tmps.getD 19 undef, a.tmps.getD 20 undef, a.tmps.getD 21 undef, a.tmps.getD 22 undef, a.tmps.getD 23 undef, a.tmps.getD 24 undef, a.tmps.getD 25 undef, a.tmps.getD 26 undef, a.tmps.getD 27 undef, a.tmps.getD 28 undef, a.tmps.getD 29 undef, a.tmps.getD 30 undef, a.tmps.getD 31 undef, a.tmps.getD 32 undef, a.tmps.getD 33 undef, a.tmps.getD 34 undef, a.tmps.getD 35 undef, a.tmps.getD 36 undef, a.tmps.getD 37 undef, a.tmps.getD 38 undef, a.tmps.getD 39 undef, a.tmps.getD 40 undef, a.tmps.getD 41 undef, a.tmps.getD 42 undef, a.tmps.getD 43 undef, a.tmps.getD 44 undef, a.tmps.getD 45 undef, a.tmps.getD 46 undef, a.tmps.getD 47 undef, a.tmps.getD 48 undef, a.tmps.getD 49 undef, a.tmps.getD 50 undef, a.tmps.getD 51 undef, a.tmps.getD 52 undef, a.tmps.getD 53 undef, a.tmps.getD 54 undef, a.tmps.getD 55 undef, a.tmps.getD 56 undef, a.tmps.getD 57 undef, a.tmps.getD 58 undef, a.tmps.getD 59 undef, a.tmps.getD 60 undef, a.tmps.getD 61 undef, a.tmps.getD 62 undef, a.tmps.getD 63 undef, a.tmps.getD 64 undef, a.tmps.getD 65 undef, a.tmps.getD 66 undef, a.tmps.getD 67 undef, a.tmps.getD 68 undef, a.tmps.getD 69 undef, a.tmps.getD 70 undef, a.tmps.getD 71 undef, a.tmps.getD 72 undef, a.tmps.getD 73 undef, a.tmps.getD 74 undef, a.tmps.getD 75 undef, a.tmps.getD 76 undef, a.tmps.getD 77 undef, a.tmps.getD 78 undef, a.tmps.getD 79 undef, a.tmps.getD 80 undef, a.tmps.getD 81 undef, a.tmps.getD 82 undef, a.tmps.getD 83 undef, a.tmps.getD 84 undef, a.tmps.getD 85 undef, a.tmps.getD 86 undef, a.tmps.getD 87 undef, a.tmps.getD 88 undef, a.tmps.getD 89 undef, a.tmps.getD 90 undef, a.tmps.getD 91 undef, a.tmps.getD 92 undef, a.tmps.getD 93 undef, a.tmps.getD 94 undef, a.tmps.getD 95 undef, a.tmps.getD 96 undef, a.tmps.getD 97 undef, a.tmps.getD 98 undef, a.tmps.getD 99 undef, a.tmps.getD 100 undef, a.tmps.getD 101 undef, a.tmps.getD 102 undef, a.tmps.getD 103 undef, a.tmps.getD 104 undef, a.tmps.getD 105 undef, a.tmps.getD 106 undef, a.tmps.getD 107 undef, a.tmps.getD 108 undef, a.tmps.getD 109 undef, a.tmps.getD 110 undef, a.tmps.getD 111 undef, a.tmps.getD 112 undef, a.tmps.getD 113 undef, a.tmps.getD 114 undef, a.tmps.getD 115 undef, a.tmps.getD 116 undef, a.tmps.getD 117 undef, a.tmps.getD 118 undef, a.tmps.getD 119 undef, a.tmps.getD 120 undef, a.tmps.getD 121 undef, a.tmps.getD 122 undef, a.tmps.getD 123 undef, a.tmps.getD 124 undef, a.tmps.getD 125 undef, a.tmps.getD 126 undef, a.tmps.getD 127 undef, a.tmps.getD 128 undef, a.tmps.getD 129 undef, a.tmps.getD 130 undef, a.tmps.getD 131 undef, a.tmps.getD 132 undef, a.tmps.getD 133 undef, a.tmps.getD 134 undef, a.tmps.getD 135 undef, a.tmps.getD 136 undef], a.defers⟩ := act_list a 137 hsz
        rw [hdf, f0, f1, f2, f3, f4, f5, f6, f7, f8, f9, f10, f11, f12, f13, f14, f15, f16, f17, f18, f19, f20, f21, f22, f23, f24, f25, f26, f27, f28, f29, f30, f31, f32, f33, f34, f35, f36, f37, f38, f39, f40, f41, f42, f43, f44, f45, f46, f47, f48, f49, f50, f51, f52, f53, f54, f55, f56, f57, f58, f59, f60, f61, f62, f63, f64, f65, f66, f67, f68, f69, f70, f71, f72, f73, f74, f75, f76, f77, f78, f79, f80, f81, f82, f83, f84, f85, f86, f87, f88, f89, f90, f91, f92, f93, f94, f95, f96, f97, f98, f99, f100, f101, f102, f103, f104, f105, f106, f107, f108, f109, f110, f111, f112, f113, f114, f115, f116, f117, f118, f119, f120, f121, f122, f123, f124, f125, f126, f127, f128, f130, f131, f132, f133, f134, f135, f136] at ha
        obtain ⟨x129, hx129⟩ : ∃ x, a.tmps.getD 129 undef = x := ⟨_, rfl⟩
        rw [hx129] at ha
        rw [hx129] at g129
        have hku := hI.kp
        clear hI hsz hdf f0 f1 f2 f3 f4 f5 f6 f7 f8 f9 f10 f11 f12 f13 f14 f15 f16 f17 f18 f19 f20 f21 f22 f23 f24 f25 f26 f27 f28 f29 f30 f31 f32 f33 f34 f35 f36 f37 f38 f39 f40 f41 f42 f43 f44 f45 f46 f47 f48 f49 f50 f51 f52 f53 f54 f55 f56 f57 f58 f59 f60 f61 f62 f63 f64 f65 f66 f67 f68 f69 f70 f71 f72 f73 f74 f75 f76 f77 f78 f79 f80 f81 f82 f83 f84 f85 f86 f87 f88 f89 f90 f91 f92 f93 f94 f95 f96 f97 f98 f99 f100 f101 f102 f103 f104 f105 f106 f107 f108 f109 f110 f111 f112 f113 f114 f115 f116 f117 f118 f119 f120 f121 f122 f123 f124 f125 f126 f127 f128 f130 f131 f132 f133 f134 f135 f136 hx129
        subst ha
        refine wpAny_tail 22 rfl (by kernel_rfl) ?_
        simp only [List.drop_succ_cons, List.drop_zero]
        simp only [Array.getD_eq_getD_getElem?, List.getElem?_toArray, List.getElem?_cons_zero, List.getElem?_cons_succ, Option.getD_some]
        have HKu := Lib.hid ((HK0.out.trans HKz.out (fun _ _ h => h)).trans hku (fun _ _ h => h))
        clear hku
        go_wp2_with fail
        go_ret
        exact ⟨rfl, HKu.out⟩

end Go.Proofs.YtnoknecfdnjomaaGreat

/-
  latchetlaw43.ExploreRuns: the walk.
-/
namespace Go.Proofs.YtnoknecfdnjomaaGreat
open Go.RowKit

theorem exploreRuns_walk (W : World) (v : Value) (hv : CircArg W v) (pr : Int) (_wf : (Lit.int .i64 pr).wf = true) :
    Calls Tryz.prog 4 #[v, .int .i64 pr] W fun e W' => e = .returned (.bool true) ∧ Below W.heap.size W W' := by
  obtain ⟨V, C, rfl, h, -⟩ := hv
  refine Calls.mono (R := fun e W' => e = .returned (.bool true) ∧ Kp (fun _ => False) W W') ?_ (fun e W' h => ⟨h.1, h.2.below (Nat.le_refl _) (fun _ _ h => h)⟩)
  by_cases hS : SmallP V C 14
  · by_cases hm : 7 < C.lats.length + C.ins.length
    · exact runs_much h pr hS hm
    · rcases beg_cases (nS C) (rchS C) (dstS C pr) with hb | ⟨s, hb⟩
      · exact runs_none h pr hS (by omega) hb
      · exact runs_some h pr hS (by omega) hb
  · exact runs_not h pr hS

end Go.Proofs.YtnoknecfdnjomaaGreat
