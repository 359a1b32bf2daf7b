/-
  circ.Clone: a circuit in memory of its own. (Printed by mkown.py.)
-/
import Derived.Test.YtnoknecfdnjomaaGreatM7
import Derived.Test.YtnoknecfdnjomaaGreatM6
import Derived.Test.YtnoknecfdnjomaaGreatM5
import Derived.Test.YtnoknecfdnjomaaGreatRows
import Derived.Test.YtnoknecfdnjomaaGreatM1
import Derived.Deep.QuietTactic
import Derived.BigQuiet
import Derived.Test.YtnoknecfdnjomaaGreatM3
set_option linter.unusedVariables false
set_option linter.unusedSimpArgs false
namespace Go.Proofs.YtnoknecfdnjomaaGreat
open Go Go.RowKit

/-- a circuit that no store into older memory spoils -/
def CKeep (B : Nat) (w : World) (V : CV) (C : Circ) : Prop := ∀ (S : Nat → Prop) (w2 : World), (∀ j, S j → j < B) → Kp S w w2 → CAt w2 V C

def cln1V (b1 b3 B : Nat) (V : CV) (C : Circ) (rows : List (List Value)) : List (World → Value → Prop) :=
  [EqV (.pointer (some ⟨b1, 1, none⟩)), SlK (ir C.ins) C.ins.length, SlF B (ir C.ins) C.ins.length, EqV (.pointer (some ⟨b1, 2, none⟩)), SlK (C.lats.map tri) C.lats.length, SlF B (C.lats.map tri) C.lats.length, EqV (.pointer (some ⟨b1, 6, none⟩)), SlK (C.gates.map tri) C.gates.length, SlF B (C.gates.map tri) C.gates.length, EqV (.pointer (some ⟨b1, 7, none⟩)), SlK rows V.ny, SlF B rows V.ny, EqV (.pointer (some ⟨b3, 1, none⟩))]

theorem cln1V_st (b1 b3 B : Nat) (V : CV) (C : Circ) (rows : List (List Value)) : ∀ W ∈ cln1V b1 b3 B V C rows, Stable W := by
  intro W h
  unfold cln1V at h
  simp only [List.mem_cons, List.not_mem_nil, or_false] at h
  rcases h with rfl | rfl | rfl | rfl | rfl | rfl | rfl | rfl | rfl | rfl | rfl | rfl | rfl <;> first | exact LitV.st _ | exact EqV.st _ | exact SlK.st _ _ | exact SlF.st _ _ _

def cln2V (b1 b3 B : Nat) (V : CV) (C : Circ) (rows : List (List Value)) : List (World → Value → Prop) :=
  [EqV (.pointer (some ⟨b1, 3, none⟩)), SlK (ir C.outs) C.outs.length, SlF B (ir C.outs) C.outs.length, EqV (.pointer (some ⟨b1, 4, none⟩)), SlK (ir C.bads) C.bads.length, SlF B (ir C.bads) C.bads.length, EqV (.pointer (some ⟨b1, 5, none⟩)), SlK (ir C.cons) C.cons.length, SlF B (ir C.cons) C.cons.length, EqV (.pointer (some ⟨b3, 3, none⟩))]

theorem cln2V_st (b1 b3 B : Nat) (V : CV) (C : Circ) (rows : List (List Value)) : ∀ W ∈ cln2V b1 b3 B V C rows, Stable W := by
  intro W h
  unfold cln2V at h
  simp only [List.mem_cons, List.not_mem_nil, or_false] at h
  rcases h with rfl | rfl | rfl | rfl | rfl | rfl | rfl | rfl | rfl | rfl <;> first | exact LitV.st _ | exact EqV.st _ | exact SlK.st _ _ | exact SlF.st _ _ _

set_option maxRecDepth 100000 in
set_option maxHeartbeats 8000000 in
theorem circ_Clone (V : CV) (C : Circ) (w : World) (h : CAt w V C) (hf : CFew C 1000000) (hy : V.ny ≤ 1000000) :
    Calls Tryz.prog 58 #[.agg (cvals V C)] w fun e w' => ∃ V', e = .returned (.agg (cvals V' C)) ∧ CAt w' V' C ∧ V'.ny = V.ny ∧ Kp (fun _ => False) w w' ∧ CKeep (w.heap.size + 2) w' V' C := by
  have HA := Lib.hid h
  have HF := Lib.hid hf
  have HY := Lib.hid hy
  have HI := Lib.hid (show (Tryz.prog.info? 3).map (fun i => (i.zero, i.size, i.bytes)) = some (some (.int .i64 0), 1, 8) by kernel_rfl)
  have HIl := Lib.hid (show (Tryz.prog.info? 64).map (fun i => (i.zero, i.size, i.bytes)) = some (some (.agg #[.int .i64 0, .int .i64 0, .int .i64 0]), 3, 24) by kernel_rfl)
  have HIg := Lib.hid (show (Tryz.prog.info? 95).map (fun i => (i.zero, i.size, i.bytes)) = some (some (.agg #[.int .i64 0, .int .i64 0, .int .i64 0]), 3, 24) by kernel_rfl)
  have HIs := Lib.hid (show (Tryz.prog.info? 113).map (fun i => (i.zero, i.size, i.bytes)) = some (some (.agg #[.int .u8 0, .int .i64 0, .string ⟨#[]⟩]), 3, 32) by kernel_rfl)
  obtain ⟨rows, hrows, hrl⟩ := h.y
  have HRows := Lib.hid hrows
  have HRL := Lib.hid hrl
  have HC1 := Lib.hid (Blk.new w (cvals V C) 27)
  obtain ⟨wz, hwz⟩ : ∃ wz : World, wz = (w.alloc (.cells (cvals V C) 27)).alloc (.cells #[.int .i64 0, .slice none 0 0, .slice none 0 0, .slice none 0 0, .slice none 0 0, .slice none 0 0, .slice none 0 0, .slice none 0 0, .string ⟨#[]⟩] 27) := ⟨_, rfl⟩
  have HCb := Lib.hid (show Blk wz w.heap.size (cvals V C) 27 by rw [hwz]; exact HC1.out.alloc _)
  have HDcln1 := Lib.hid (show Blk wz w.heap.size #[.int .i64 C.max, .slice V.ai C.ins.length V.ci, .slice V.al C.lats.length V.cl, .slice V.ao C.outs.length V.co, .slice V.ab C.bads.length V.cb, .slice V.ac C.cons.length V.cc, .slice V.ag C.gates.length V.cg, .slice V.ay V.ny V.cy, .string V.cm] 27 from HCb.out)
  have HBb := Lib.hid (show Blk wz (w.heap.size + 1) #[.int .i64 0, .slice none 0 0, .slice none 0 0, .slice none 0 0, .slice none 0 0, .slice none 0 0, .slice none 0 0, .slice none 0 0, .string ⟨#[]⟩] 27 by rw [hwz]; exact two_blk _ _ _ _ _)
  have HKb := Lib.hid (show Kp (fun _ => False) w wz by rw [hwz]; exact ((Kp.refl _ w).alloc _).alloc _)
  have HLt := Lib.hid (show w.heap.size < wz.heap.size by rw [hwz]; simp; omega)
  have HLt2 := Lib.hid (show w.heap.size + 1 < wz.heap.size by rw [hwz]; simp)
  have HZ := Lib.hid hwz
  clear h hf hy hwz hrows hrl HC1
  go_enter Tryz.func58, Tryz.ntmps58
  go_upto_region 1 with fail
  rw [← HZ.out]
  clear HZ
  refine wp_region_loose (p := upTo 13) (V := atV (cln1V w.heap.size w.heap.size wz.heap.size V C rows)) (LP := #[true, true, true, true, true, true, true, true, true, true, true, true, true, false, false, false, false, false, false, false]) (K := 7) (by kernel_rfl) (by kernel_rfl) (atV_st (cln1V_st _ _ _ V C rows)) ?hstepcln1 (by kernel_rfl) ?hLPcln1 (by kernel_rfl) ?hendcln1
  case hLPcln1 => exact upTo_spec (by kernel_rfl)
  case hstepcln1 =>
    intro i o ho hp a u hk hoff hdep
    have e1 : a.tmps[1]?.getD undef = .pointer (some ⟨w.heap.size, 0, none⟩) := slot_at (hoff 1 (noDst_spec (by kernel_rfl)))
    clear hoff
    match i, ho with
    | 0, ho =>
      obtain rfl := Option.some.inj ho
      refine lw_value (v := .pointer (some ⟨w.heap.size, 1, none⟩)) (u' := u) ?_ (Kp.refl _ _) rfl
      go_simp
    | 1, ho =>
      obtain rfl := Option.some.inj ho
      have e6 : a.tmps[3]?.getD undef = .pointer (some ⟨w.heap.size, 1, none⟩) := slot_at (hdep ⟨0, .data⟩ (by simp) rfl _ 3 rfl rfl)
      have c1 := (HCb.out.kp hk (fun h => h)).cell (i := 1) (v := .slice V.ai C.ins.length V.ci) rfl
      refine lw_value (v := .slice V.ai C.ins.length V.ci) (u' := u) ?_ (Kp.refl _ _) (SlK.of_ints HA.out.fi (HA.out.kp (HKb.out.trans hk (fun _ _ h => h))).i)
      go_simp
    | 2, ho =>
      obtain rfl := Option.some.inj ho
      obtain ⟨a2, c2, e8, ok2, hr2⟩ := SlK.ints (show SlK (ir C.ins) C.ins.length u (a.tmps.getD 4 undef) from hdep ⟨1, .data⟩ (by simp) rfl _ 4 rfl rfl)
      have e9 := slot_at e8
      refine lw_call (f := 77) (args := #[.slice a2 C.ins.length c2]) ?_ ?_
      · go_simp
      · exact (clone_ints a2 C.ins.length c2 _ u hr2 rfl ok2 (by have := HF.out.i; omega)).mono (by
          rintro e u' ⟨v, rfl, hO, hK⟩
          obtain ⟨a3, c3, e3, h1, h2, h3, h5, h4⟩ := ownForm hO
          rw [List.length_map] at e3 h1
          exact ⟨v, rfl, hK, a3, c3, e3, ⟨h1, h2, h3⟩, by rw [ir_flat]; exact h4, fun _ p hp => Nat.le_trans hk.size (h5 p hp)⟩)
    | 3, ho =>
      obtain rfl := Option.some.inj ho
      refine lw_value (v := .pointer (some ⟨w.heap.size, 2, none⟩)) (u' := u) ?_ (Kp.refl _ _) rfl
      go_simp
    | 4, ho =>
      obtain rfl := Option.some.inj ho
      have e6 : a.tmps[6]?.getD undef = .pointer (some ⟨w.heap.size, 2, none⟩) := slot_at (hdep ⟨3, .data⟩ (by simp) rfl _ 6 rfl rfl)
      have c1 := (HCb.out.kp hk (fun h => h)).cell (i := 2) (v := .slice V.al C.lats.length V.cl) rfl
      refine lw_value (v := .slice V.al C.lats.length V.cl) (u' := u) ?_ (Kp.refl _ _) ⟨_, _, rfl, HA.out.fl, (HA.out.kp (HKb.out.trans hk (fun _ _ h => h))).l⟩
      go_simp
    | 5, ho =>
      obtain rfl := Option.some.inj ho
      obtain ⟨a2, c2, e8, ok2, hr2⟩ := (show SlK (C.lats.map tri) C.lats.length u (a.tmps.getD 7 undef) from hdep ⟨4, .data⟩ (by simp) rfl _ 7 rfl rfl)
      have e9 := slot_at e8
      refine lw_call (f := 78) (args := #[.slice a2 C.lats.length c2]) ?_ ?_
      · go_simp
      · exact (clone_lats a2 C.lats.length c2 (C.lats.map tri) u hr2 (List.length_map ..) (tri_len _) (tri_one _) ok2 (by have := HF.out.l; omega)).mono (by
          rintro e u' ⟨v, rfl, hO, hK⟩
          obtain ⟨a3, c3, e3, h1, h2, h3, h5, h4⟩ := hO.form
          rw [List.length_map] at e3 h1
          exact ⟨v, rfl, hK, a3, c3, e3, ⟨h1, h2, h3⟩, h4, fun _ p hp => by obtain ⟨g, rfl, hb, -⟩ := h5 p hp; exact Nat.le_trans hk.size hb⟩)
    | 6, ho =>
      obtain rfl := Option.some.inj ho
      refine lw_value (v := .pointer (some ⟨w.heap.size, 6, none⟩)) (u' := u) ?_ (Kp.refl _ _) rfl
      go_simp
    | 7, ho =>
      obtain rfl := Option.some.inj ho
      have e6 : a.tmps[9]?.getD undef = .pointer (some ⟨w.heap.size, 6, none⟩) := slot_at (hdep ⟨6, .data⟩ (by simp) rfl _ 9 rfl rfl)
      have c1 := (HCb.out.kp hk (fun h => h)).cell (i := 6) (v := .slice V.ag C.gates.length V.cg) rfl
      refine lw_value (v := .slice V.ag C.gates.length V.cg) (u' := u) ?_ (Kp.refl _ _) ⟨_, _, rfl, HA.out.fg, (HA.out.kp (HKb.out.trans hk (fun _ _ h => h))).g⟩
      go_simp
    | 8, ho =>
      obtain rfl := Option.some.inj ho
      obtain ⟨a2, c2, e8, ok2, hr2⟩ := (show SlK (C.gates.map tri) C.gates.length u (a.tmps.getD 10 undef) from hdep ⟨7, .data⟩ (by simp) rfl _ 10 rfl rfl)
      have e9 := slot_at e8
      refine lw_call (f := 79) (args := #[.slice a2 C.gates.length c2]) ?_ ?_
      · go_simp
      · exact (clone_gates a2 C.gates.length c2 (C.gates.map tri) u hr2 (List.length_map ..) (tri_len _) (tri_one _) ok2 (by have := HF.out.g; omega)).mono (by
          rintro e u' ⟨v, rfl, hO, hK⟩
          obtain ⟨a3, c3, e3, h1, h2, h3, h5, h4⟩ := hO.form
          rw [List.length_map] at e3 h1
          exact ⟨v, rfl, hK, a3, c3, e3, ⟨h1, h2, h3⟩, h4, fun _ p hp => by obtain ⟨g, rfl, hb, -⟩ := h5 p hp; exact Nat.le_trans hk.size hb⟩)
    | 9, ho =>
      obtain rfl := Option.some.inj ho
      refine lw_value (v := .pointer (some ⟨w.heap.size, 7, none⟩)) (u' := u) ?_ (Kp.refl _ _) rfl
      go_simp
    | 10, ho =>
      obtain rfl := Option.some.inj ho
      have e6 : a.tmps[12]?.getD undef = .pointer (some ⟨w.heap.size, 7, none⟩) := slot_at (hdep ⟨9, .data⟩ (by simp) rfl _ 12 rfl rfl)
      have c1 := (HCb.out.kp hk (fun h => h)).cell (i := 7) (v := .slice V.ay V.ny V.cy) rfl
      refine lw_value (v := .slice V.ay V.ny V.cy) (u' := u) ?_ (Kp.refl _ _) ⟨_, _, rfl, HA.out.fy, HRows.out.kp (HKb.out.trans hk (fun _ _ h => h)) (fun _ _ h => h)⟩
      go_simp
    | 11, ho =>
      obtain rfl := Option.some.inj ho
      obtain ⟨a2, c2, e8, ok2, hr2⟩ := (show SlK rows V.ny u (a.tmps.getD 13 undef) from hdep ⟨10, .data⟩ (by simp) rfl _ 13 rfl rfl)
      have e9 := slot_at e8
      refine lw_call (f := 80) (args := #[.slice a2 V.ny c2]) ?_ ?_
      · go_simp
      · exact (clone_syms a2 V.ny c2 rows u hr2 HRL.out.1 HRL.out.2.1 HRL.out.2.2 ok2 (by have := HY.out; omega)).mono (by
          rintro e u' ⟨v, rfl, hO, hK⟩
          obtain ⟨a3, c3, e3, h1, h2, h3, h5, h4⟩ := hO.form
          rw [HRL.out.1] at e3 h1
          exact ⟨v, rfl, hK, a3, c3, e3, ⟨h1, h2, h3⟩, h4, fun _ p hp => by obtain ⟨g, rfl, hb, -⟩ := h5 p hp; exact Nat.le_trans hk.size hb⟩)
    | 12, ho =>
      obtain rfl := Option.some.inj ho
      refine lw_value (v := .pointer (some ⟨w.heap.size, 1, none⟩)) (u' := u) ?_ (Kp.refl _ _) rfl
      go_simp
    | n + 13, _ => exact absurd hp (by simp [upTo])
  case hendcln1 =>
    intro a u hI
    have hsz : a.tmps.size = 32 := hI.size
    have hdf : a.defers = [] := hI.defers
    have f0 : a.tmps.getD 0 undef = _ := hI.off 0 (noDst_spec (p := upTo 13) (by kernel_rfl))
    have f1 : a.tmps.getD 1 undef = _ := hI.off 1 (noDst_spec (p := upTo 13) (by kernel_rfl))
    have f2 : a.tmps.getD 2 undef = _ := hI.off 2 (noDst_spec (p := upTo 13) (by kernel_rfl))
    have f16 : a.tmps.getD 16 undef = _ := hI.off 16 (noDst_spec (p := upTo 13) (by kernel_rfl))
    have f17 : a.tmps.getD 17 undef = _ := hI.off 17 (noDst_spec (p := upTo 13) (by kernel_rfl))
    have f18 : a.tmps.getD 18 undef = _ := hI.off 18 (noDst_spec (p := upTo 13) (by kernel_rfl))
    have f19 : a.tmps.getD 19 undef = _ := hI.off 19 (noDst_spec (p := upTo 13) (by kernel_rfl))
    have f20 : a.tmps.getD 20 undef = _ := hI.off 20 (noDst_spec (p := upTo 13) (by kernel_rfl))
    have f21 : a.tmps.getD 21 undef = _ := hI.off 21 (noDst_spec (p := upTo 13) (by kernel_rfl))
    have f22 : a.tmps.getD 22 undef = _ := hI.off 22 (noDst_spec (p := upTo 13) (by kernel_rfl))
    have f23 : a.tmps.getD 23 undef = _ := hI.off 23 (noDst_spec (p := upTo 13) (by kernel_rfl))
    have f24 : a.tmps.getD 24 undef = _ := hI.off 24 (noDst_spec (p := upTo 13) (by kernel_rfl))
    have f25 : a.tmps.getD 25 undef = _ := hI.off 25 (noDst_spec (p := upTo 13) (by kernel_rfl))
    have f26 : a.tmps.getD 26 undef = _ := hI.off 26 (noDst_spec (p := upTo 13) (by kernel_rfl))
    have f27 : a.tmps.getD 27 undef = _ := hI.off 27 (noDst_spec (p := upTo 13) (by kernel_rfl))
    have f28 : a.tmps.getD 28 undef = _ := hI.off 28 (noDst_spec (p := upTo 13) (by kernel_rfl))
    have f29 : a.tmps.getD 29 undef = _ := hI.off 29 (noDst_spec (p := upTo 13) (by kernel_rfl))
    have f30 : a.tmps.getD 30 undef = _ := hI.off 30 (noDst_spec (p := upTo 13) (by kernel_rfl))
    have f31 : a.tmps.getD 31 undef = _ := hI.off 31 (noDst_spec (p := upTo 13) (by kernel_rfl))
    have g1 : SlF wz.heap.size (ir C.ins) C.ins.length u (a.tmps.getD 5 undef) := hI.val 2 _ 5 rfl rfl rfl
    obtain ⟨a1, p1, f5, -, -, -⟩ := id g1
    rw [f5] at g1
    have g2 : SlF wz.heap.size (C.lats.map tri) C.lats.length u (a.tmps.getD 8 undef) := hI.val 5 _ 8 rfl rfl rfl
    obtain ⟨a2, p2, f8, -, -, -⟩ := id g2
    rw [f8] at g2
    have g6 : SlF wz.heap.size (C.gates.map tri) C.gates.length u (a.tmps.getD 11 undef) := hI.val 8 _ 11 rfl rfl rfl
    obtain ⟨a6, p6, f11, -, -, -⟩ := id g6
    rw [f11] at g6
    have g7 : SlF wz.heap.size rows V.ny u (a.tmps.getD 14 undef) := hI.val 11 _ 14 rfl rfl rfl
    obtain ⟨a7, p7, f14, -, -, -⟩ := id g7
    rw [f14] at g7
    have f15 : a.tmps.getD 15 undef = .pointer (some ⟨w.heap.size, 1, none⟩) := hI.val 12 _ 15 rfl rfl rfl
    have ha : a = ⟨#[a.tmps.getD 0 undef, a.tmps.getD 1 undef, a.tmps.getD 2 undef, a.tmps.getD 3 undef, a.tmps.getD 4 undef, a.tmps.getD 5 undef, a.tmps.getD 6 undef, a.tmps.getD 7 undef, a.tmps.getD 8 undef, a.tmps.getD 9 undef, a.tmps.getD 10 undef, a.tmps.getD 11 undef, a.tmps.getD 12 undef, a.tmps.getD 13 undef, a.tmps.getD 14 undef, a.tmps.getD 15 undef, a.tmps.getD 16 undef, a.tmps.getD 17 undef, a.tmps.getD 18 undef, a.tmps.getD 19 undef, a.tmps.getD 20 undef, a.tmps.getD 21 undef, a.tmps.getD 22 undef, a.tmps.getD 23 undef, a.tmps.getD 24 undef, a.tmps.getD 25 undef, a.tmps.getD 26 undef, a.tmps.getD 27 undef, a.tmps.getD 28 undef, a.tmps.getD 29 undef, a.tmps.getD 30 undef, a.tmps.getD 31 undef], a.defers⟩ := act_list a 32 hsz
    rw [hdf, f0, f1, f2, f5, f8, f11, f14, f15, f16, f17, f18, f19, f20, f21, f22, f23, f24, f25, f26, f27, f28, f29, f30, f31] at ha
    obtain ⟨x3, hx3⟩ : ∃ x, a.tmps.getD 3 undef = x := ⟨_, rfl⟩
    obtain ⟨x4, hx4⟩ : ∃ x, a.tmps.getD 4 undef = x := ⟨_, rfl⟩
    obtain ⟨x6, hx6⟩ : ∃ x, a.tmps.getD 6 undef = x := ⟨_, rfl⟩
    obtain ⟨x7, hx7⟩ : ∃ x, a.tmps.getD 7 undef = x := ⟨_, rfl⟩
    obtain ⟨x9, hx9⟩ : ∃ x, a.tmps.getD 9 undef = x := ⟨_, rfl⟩
    obtain ⟨x10, hx10⟩ : ∃ x, a.tmps.getD 10 undef = x := ⟨_, rfl⟩
    obtain ⟨x12, hx12⟩ : ∃ x, a.tmps.getD 12 undef = x := ⟨_, rfl⟩
    obtain ⟨x13, hx13⟩ : ∃ x, a.tmps.getD 13 undef = x := ⟨_, rfl⟩
    rw [hx3, hx4, hx6, hx7, hx9, hx10, hx12, hx13] at ha
    have hku := hI.kp
    have hB := HDcln1.out.kp hku (fun h => h)
    clear hI hsz hdf f0 f1 f2 f5 f8 f11 f14 f15 f16 f17 f18 f19 f20 f21 f22 f23 f24 f25 f26 f27 f28 f29 f30 f31 hx3 hx4 hx6 hx7 hx9 hx10 hx12 hx13
    subst ha
    have cs := hB.cell (i := 1) (v := .slice V.ai C.ins.length V.ci) rfl
    have fs := hB.free 1
    have hB' : Blk (u.setCell ⟨w.heap.size, 1, none⟩ (.slice a1 C.ins.length p1)) w.heap.size #[.int .i64 C.max, .slice a1 C.ins.length p1, .slice V.al C.lats.length V.cl, .slice V.ao C.outs.length V.co, .slice V.ab C.bads.length V.cb, .slice V.ac C.cons.length V.cc, .slice V.ag C.gates.length V.cg, .slice V.ay V.ny V.cy, .string V.cm] 27 := hB.set_same 1 (.slice a1 C.ins.length p1)
    have hk' : Kp (fun j => j = w.heap.size) wz (u.setCell ⟨w.heap.size, 1, none⟩ (.slice a1 C.ins.length p1)) := (hku.mono (fun _ _ h => h.elim)).setCell (S := fun j => j = w.heap.size) (p := ⟨w.heap.size, 1, none⟩) (fun _ => rfl) _
    have hkk := Kp.set u ⟨w.heap.size, 1, none⟩ (.slice a1 C.ins.length p1)
    refine wpAny_ready (rs := [13]) (by kernel_rfl) (by simp) ?_
    refine AllReady.cons (o := _) rfl (fun K1 hK1 => ?_) AllReady.nil
    go_simp
    refine hK1 _ _ ?_
    clear hK1 K1 cs fs hB hku
    have g1' := SlF.kp g1 hkk (fun j hj => by have hj2 : j = w.heap.size := hj; have := HLt.out; omega)
    clear g1
    have g1 := g1'
    clear g1'
    have g2' := SlF.kp g2 hkk (fun j hj => by have hj2 : j = w.heap.size := hj; have := HLt.out; omega)
    clear g2
    have g2 := g2'
    clear g2'
    have g6' := SlF.kp g6 hkk (fun j hj => by have hj2 : j = w.heap.size := hj; have := HLt.out; omega)
    clear g6
    have g6 := g6'
    clear g6'
    have g7' := SlF.kp g7 hkk (fun j hj => by have hj2 : j = w.heap.size := hj; have := HLt.out; omega)
    clear g7
    have g7 := g7'
    clear g7'
    clear hkk
    generalize u.setCell ⟨w.heap.size, 1, none⟩ (.slice a1 C.ins.length p1) = u2 at hB' hk' g1 g2 g6 g7 ⊢
    obtain ⟨u, rfl⟩ : ∃ u, u = u2 := ⟨_, rfl⟩
    have hB := hB'
    have hku := hk'
    clear hB' hk'
    try simp only [Act.put, List.setIfInBounds_toArray, List.set_cons_zero, List.set_cons_succ]
    refine wpAny_ready (rs := [14]) (by kernel_rfl) (by simp) ?_
    refine AllReady.cons (o := _) rfl (fun K1 hK1 => ?_) AllReady.nil
    go_simp
    refine hK1 _ _ ?_
    clear hK1 K1
    try simp only [Act.put, List.setIfInBounds_toArray, List.set_cons_zero, List.set_cons_succ]
    have cs := hB.cell (i := 2) (v := .slice V.al C.lats.length V.cl) rfl
    have fs := hB.free 2
    have hB' : Blk (u.setCell ⟨w.heap.size, 2, none⟩ (.slice a2 C.lats.length p2)) w.heap.size #[.int .i64 C.max, .slice a1 C.ins.length p1, .slice a2 C.lats.length p2, .slice V.ao C.outs.length V.co, .slice V.ab C.bads.length V.cb, .slice V.ac C.cons.length V.cc, .slice V.ag C.gates.length V.cg, .slice V.ay V.ny V.cy, .string V.cm] 27 := hB.set_same 2 (.slice a2 C.lats.length p2)
    have hk' : Kp (fun j => j = w.heap.size) wz (u.setCell ⟨w.heap.size, 2, none⟩ (.slice a2 C.lats.length p2)) := hku.setCell (S := fun j => j = w.heap.size) (p := ⟨w.heap.size, 2, none⟩) (fun _ => rfl) _
    have hkk := Kp.set u ⟨w.heap.size, 2, none⟩ (.slice a2 C.lats.length p2)
    refine wpAny_ready (rs := [15]) (by kernel_rfl) (by simp) ?_
    refine AllReady.cons (o := _) rfl (fun K1 hK1 => ?_) AllReady.nil
    go_simp
    refine hK1 _ _ ?_
    clear hK1 K1 cs fs hB hku
    have g1' := SlF.kp g1 hkk (fun j hj => by have hj2 : j = w.heap.size := hj; have := HLt.out; omega)
    clear g1
    have g1 := g1'
    clear g1'
    have g2' := SlF.kp g2 hkk (fun j hj => by have hj2 : j = w.heap.size := hj; have := HLt.out; omega)
    clear g2
    have g2 := g2'
    clear g2'
    have g6' := SlF.kp g6 hkk (fun j hj => by have hj2 : j = w.heap.size := hj; have := HLt.out; omega)
    clear g6
    have g6 := g6'
    clear g6'
    have g7' := SlF.kp g7 hkk (fun j hj => by have hj2 : j = w.heap.size := hj; have := HLt.out; omega)
    clear g7
    have g7 := g7'
    clear g7'
    clear hkk
    generalize u.setCell ⟨w.heap.size, 2, none⟩ (.slice a2 C.lats.length p2) = u2 at hB' hk' g1 g2 g6 g7 ⊢
    obtain ⟨u, rfl⟩ : ∃ u, u = u2 := ⟨_, rfl⟩
    have hB := hB'
    have hku := hk'
    clear hB' hk'
    try simp only [Act.put, List.setIfInBounds_toArray, List.set_cons_zero, List.set_cons_succ]
    refine wpAny_ready (rs := [16]) (by kernel_rfl) (by simp) ?_
    refine AllReady.cons (o := _) rfl (fun K1 hK1 => ?_) AllReady.nil
    go_simp
    refine hK1 _ _ ?_
    clear hK1 K1
    try simp only [Act.put, List.setIfInBounds_toArray, List.set_cons_zero, List.set_cons_succ]
    have cs := hB.cell (i := 6) (v := .slice V.ag C.gates.length V.cg) rfl
    have fs := hB.free 6
    have hB' : Blk (u.setCell ⟨w.heap.size, 6, none⟩ (.slice a6 C.gates.length p6)) w.heap.size #[.int .i64 C.max, .slice a1 C.ins.length p1, .slice a2 C.lats.length p2, .slice V.ao C.outs.length V.co, .slice V.ab C.bads.length V.cb, .slice V.ac C.cons.length V.cc, .slice a6 C.gates.length p6, .slice V.ay V.ny V.cy, .string V.cm] 27 := hB.set_same 6 (.slice a6 C.gates.length p6)
    have hk' : Kp (fun j => j = w.heap.size) wz (u.setCell ⟨w.heap.size, 6, none⟩ (.slice a6 C.gates.length p6)) := hku.setCell (S := fun j => j = w.heap.size) (p := ⟨w.heap.size, 6, none⟩) (fun _ => rfl) _
    have hkk := Kp.set u ⟨w.heap.size, 6, none⟩ (.slice a6 C.gates.length p6)
    refine wpAny_ready (rs := [17]) (by kernel_rfl) (by simp) ?_
    refine AllReady.cons (o := _) rfl (fun K1 hK1 => ?_) AllReady.nil
    go_simp
    refine hK1 _ _ ?_
    clear hK1 K1 cs fs hB hku
    have g1' := SlF.kp g1 hkk (fun j hj => by have hj2 : j = w.heap.size := hj; have := HLt.out; omega)
    clear g1
    have g1 := g1'
    clear g1'
    have g2' := SlF.kp g2 hkk (fun j hj => by have hj2 : j = w.heap.size := hj; have := HLt.out; omega)
    clear g2
    have g2 := g2'
    clear g2'
    have g6' := SlF.kp g6 hkk (fun j hj => by have hj2 : j = w.heap.size := hj; have := HLt.out; omega)
    clear g6
    have g6 := g6'
    clear g6'
    have g7' := SlF.kp g7 hkk (fun j hj => by have hj2 : j = w.heap.size := hj; have := HLt.out; omega)
    clear g7
    have g7 := g7'
    clear g7'
    clear hkk
    generalize u.setCell ⟨w.heap.size, 6, none⟩ (.slice a6 C.gates.length p6) = u2 at hB' hk' g1 g2 g6 g7 ⊢
    obtain ⟨u, rfl⟩ : ∃ u, u = u2 := ⟨_, rfl⟩
    have hB := hB'
    have hku := hk'
    clear hB' hk'
    try simp only [Act.put, List.setIfInBounds_toArray, List.set_cons_zero, List.set_cons_succ]
    refine wpAny_ready (rs := [18]) (by kernel_rfl) (by simp) ?_
    refine AllReady.cons (o := _) rfl (fun K1 hK1 => ?_) AllReady.nil
    go_simp
    refine hK1 _ _ ?_
    clear hK1 K1
    try simp only [Act.put, List.setIfInBounds_toArray, List.set_cons_zero, List.set_cons_succ]
    have cs := hB.cell (i := 7) (v := .slice V.ay V.ny V.cy) rfl
    have fs := hB.free 7
    have hB' : Blk (u.setCell ⟨w.heap.size, 7, none⟩ (.slice a7 V.ny p7)) w.heap.size #[.int .i64 C.max, .slice a1 C.ins.length p1, .slice a2 C.lats.length p2, .slice V.ao C.outs.length V.co, .slice V.ab C.bads.length V.cb, .slice V.ac C.cons.length V.cc, .slice a6 C.gates.length p6, .slice a7 V.ny p7, .string V.cm] 27 := hB.set_same 7 (.slice a7 V.ny p7)
    have hk' : Kp (fun j => j = w.heap.size) wz (u.setCell ⟨w.heap.size, 7, none⟩ (.slice a7 V.ny p7)) := hku.setCell (S := fun j => j = w.heap.size) (p := ⟨w.heap.size, 7, none⟩) (fun _ => rfl) _
    have hkk := Kp.set u ⟨w.heap.size, 7, none⟩ (.slice a7 V.ny p7)
    refine wpAny_ready (rs := [19]) (by kernel_rfl) (by simp) ?_
    refine AllReady.cons (o := _) rfl (fun K1 hK1 => ?_) AllReady.nil
    go_simp
    refine hK1 _ _ ?_
    clear hK1 K1 cs fs hB hku
    have g1' := SlF.kp g1 hkk (fun j hj => by have hj2 : j = w.heap.size := hj; have := HLt.out; omega)
    clear g1
    have g1 := g1'
    clear g1'
    have g2' := SlF.kp g2 hkk (fun j hj => by have hj2 : j = w.heap.size := hj; have := HLt.out; omega)
    clear g2
    have g2 := g2'
    clear g2'
    have g6' := SlF.kp g6 hkk (fun j hj => by have hj2 : j = w.heap.size := hj; have := HLt.out; omega)
    clear g6
    have g6 := g6'
    clear g6'
    have g7' := SlF.kp g7 hkk (fun j hj => by have hj2 : j = w.heap.size := hj; have := HLt.out; omega)
    clear g7
    have g7 := g7'
    clear g7'
    clear hkk
    generalize u.setCell ⟨w.heap.size, 7, none⟩ (.slice a7 V.ny p7) = u2 at hB' hk' g1 g2 g6 g7 ⊢
    obtain ⟨u, rfl⟩ : ∃ u, u = u2 := ⟨_, rfl⟩
    have hB := hB'
    have hku := hk'
    clear hB' hk'
    try simp only [Act.put, List.setIfInBounds_toArray, List.set_cons_zero, List.set_cons_succ]
    refine wpAny_done (by kernel_rfl) ?_ _
    obtain ⟨w4, rfl⟩ : ∃ w4 : World, w4 = u := ⟨_, rfl⟩
    have HLe := Lib.hid hku.size
    have HKb4 := Lib.hid (HKb.out.trans hku (fun j hj e => by have e2 : j = w.heap.size := e; omega))
    have HBb4 := Lib.hid (HBb.out.kp hku (fun e => by have e2 : w.heap.size + 1 = w.heap.size := e; omega))
    have HDcln2 := Lib.hid hB
    have HLt4 := Lib.hid (show w.heap.size < w4.heap.size by have := HLt.out; have := HLe.out; omega)
    have HG := Lib.hid (And.intro g1 (And.intro g2 (And.intro g6 g7)))
    clear hku hB g1 g2 g6 g7 HKb HCb HBb HDcln1
    have HKb := HKb4
    have HCb := HDcln2
    have HBb := HBb4
    have HLt0 := HLt
    clear HKb4 HBb4 HLt
    have HLt := HLt4
    clear HLt4
    go_upto_region 2 with fail
    refine wp_region_loose (p := upTo 10) (V := atV (cln2V w.heap.size w.heap.size w4.heap.size V C rows)) (LP := #[true, true, true, true, true, true, true, true, true, true, false, false, false, false, false]) (K := 5) (by kernel_rfl) (by kernel_rfl) (atV_st (cln2V_st _ _ _ V C rows)) ?hstepcln2 (by kernel_rfl) ?hLPcln2 (by kernel_rfl) ?hendcln2
    case hLPcln2 => exact upTo_spec (by kernel_rfl)
    case hstepcln2 =>
      intro i o ho hp a u hk hoff hdep
      have e1 : a.tmps[1]?.getD undef = .pointer (some ⟨w.heap.size, 0, none⟩) := slot_at (hoff 1 (noDst_spec (by kernel_rfl)))
      clear hoff
      match i, ho with
      | 0, ho =>
        obtain rfl := Option.some.inj ho
        refine lw_value (v := .pointer (some ⟨w.heap.size, 3, none⟩)) (u' := u) ?_ (Kp.refl _ _) rfl
        go_simp
      | 1, ho =>
        obtain rfl := Option.some.inj ho
        have e6 : a.tmps[19]?.getD undef = .pointer (some ⟨w.heap.size, 3, none⟩) := slot_at (hdep ⟨0, .data⟩ (by simp) rfl _ 19 rfl rfl)
        have c1 := (HCb.out.kp hk (fun h => h)).cell (i := 3) (v := .slice V.ao C.outs.length V.co) rfl
        refine lw_value (v := .slice V.ao C.outs.length V.co) (u' := u) ?_ (Kp.refl _ _) (SlK.of_ints HA.out.fo (HA.out.kp (HKb.out.trans hk (fun _ _ h => h))).o)
        go_simp
      | 2, ho =>
        obtain rfl := Option.some.inj ho
        obtain ⟨a2, c2, e8, ok2, hr2⟩ := SlK.ints (show SlK (ir C.outs) C.outs.length u (a.tmps.getD 20 undef) from hdep ⟨1, .data⟩ (by simp) rfl _ 20 rfl rfl)
        have e9 := slot_at e8
        refine lw_call (f := 77) (args := #[.slice a2 C.outs.length c2]) ?_ ?_
        · go_simp
        · exact (clone_ints a2 C.outs.length c2 _ u hr2 rfl ok2 (by have := HF.out.o; omega)).mono (by
            rintro e u' ⟨v, rfl, hO, hK⟩
            obtain ⟨a3, c3, e3, h1, h2, h3, h5, h4⟩ := ownForm hO
            rw [List.length_map] at e3 h1
            exact ⟨v, rfl, hK, a3, c3, e3, ⟨h1, h2, h3⟩, by rw [ir_flat]; exact h4, fun _ p hp => Nat.le_trans hk.size (h5 p hp)⟩)
      | 3, ho =>
        obtain rfl := Option.some.inj ho
        refine lw_value (v := .pointer (some ⟨w.heap.size, 4, none⟩)) (u' := u) ?_ (Kp.refl _ _) rfl
        go_simp
      | 4, ho =>
        obtain rfl := Option.some.inj ho
        have e6 : a.tmps[22]?.getD undef = .pointer (some ⟨w.heap.size, 4, none⟩) := slot_at (hdep ⟨3, .data⟩ (by simp) rfl _ 22 rfl rfl)
        have c1 := (HCb.out.kp hk (fun h => h)).cell (i := 4) (v := .slice V.ab C.bads.length V.cb) rfl
        refine lw_value (v := .slice V.ab C.bads.length V.cb) (u' := u) ?_ (Kp.refl _ _) (SlK.of_ints HA.out.fb (HA.out.kp (HKb.out.trans hk (fun _ _ h => h))).b)
        go_simp
      | 5, ho =>
        obtain rfl := Option.some.inj ho
        obtain ⟨a2, c2, e8, ok2, hr2⟩ := SlK.ints (show SlK (ir C.bads) C.bads.length u (a.tmps.getD 23 undef) from hdep ⟨4, .data⟩ (by simp) rfl _ 23 rfl rfl)
        have e9 := slot_at e8
        refine lw_call (f := 77) (args := #[.slice a2 C.bads.length c2]) ?_ ?_
        · go_simp
        · exact (clone_ints a2 C.bads.length c2 _ u hr2 rfl ok2 (by have := HF.out.b; omega)).mono (by
            rintro e u' ⟨v, rfl, hO, hK⟩
            obtain ⟨a3, c3, e3, h1, h2, h3, h5, h4⟩ := ownForm hO
            rw [List.length_map] at e3 h1
            exact ⟨v, rfl, hK, a3, c3, e3, ⟨h1, h2, h3⟩, by rw [ir_flat]; exact h4, fun _ p hp => Nat.le_trans hk.size (h5 p hp)⟩)
      | 6, ho =>
        obtain rfl := Option.some.inj ho
        refine lw_value (v := .pointer (some ⟨w.heap.size, 5, none⟩)) (u' := u) ?_ (Kp.refl _ _) rfl
        go_simp
      | 7, ho =>
        obtain rfl := Option.some.inj ho
        have e6 : a.tmps[25]?.getD undef = .pointer (some ⟨w.heap.size, 5, none⟩) := slot_at (hdep ⟨6, .data⟩ (by simp) rfl _ 25 rfl rfl)
        have c1 := (HCb.out.kp hk (fun h => h)).cell (i := 5) (v := .slice V.ac C.cons.length V.cc) rfl
        refine lw_value (v := .slice V.ac C.cons.length V.cc) (u' := u) ?_ (Kp.refl _ _) (SlK.of_ints HA.out.fc (HA.out.kp (HKb.out.trans hk (fun _ _ h => h))).c)
        go_simp
      | 8, ho =>
        obtain rfl := Option.some.inj ho
        obtain ⟨a2, c2, e8, ok2, hr2⟩ := SlK.ints (show SlK (ir C.cons) C.cons.length u (a.tmps.getD 26 undef) from hdep ⟨7, .data⟩ (by simp) rfl _ 26 rfl rfl)
        have e9 := slot_at e8
        refine lw_call (f := 77) (args := #[.slice a2 C.cons.length c2]) ?_ ?_
        · go_simp
        · exact (clone_ints a2 C.cons.length c2 _ u hr2 rfl ok2 (by have := HF.out.c; omega)).mono (by
            rintro e u' ⟨v, rfl, hO, hK⟩
            obtain ⟨a3, c3, e3, h1, h2, h3, h5, h4⟩ := ownForm hO
            rw [List.length_map] at e3 h1
            exact ⟨v, rfl, hK, a3, c3, e3, ⟨h1, h2, h3⟩, by rw [ir_flat]; exact h4, fun _ p hp => Nat.le_trans hk.size (h5 p hp)⟩)
      | 9, ho =>
        obtain rfl := Option.some.inj ho
        refine lw_value (v := .pointer (some ⟨w.heap.size, 3, none⟩)) (u' := u) ?_ (Kp.refl _ _) rfl
        go_simp
      | n + 10, _ => exact absurd hp (by simp [upTo])
    case hendcln2 =>
      intro a u hI
      have hsz : a.tmps.size = 32 := hI.size
      have hdf : a.defers = [] := hI.defers
      have f0 : a.tmps.getD 0 undef = _ := hI.off 0 (noDst_spec (p := upTo 10) (by kernel_rfl))
      have f1 : a.tmps.getD 1 undef = _ := hI.off 1 (noDst_spec (p := upTo 10) (by kernel_rfl))
      have f2 : a.tmps.getD 2 undef = _ := hI.off 2 (noDst_spec (p := upTo 10) (by kernel_rfl))
      have f3 : a.tmps.getD 3 undef = _ := hI.off 3 (noDst_spec (p := upTo 10) (by kernel_rfl))
      have f4 : a.tmps.getD 4 undef = _ := hI.off 4 (noDst_spec (p := upTo 10) (by kernel_rfl))
      have f5 : a.tmps.getD 5 undef = _ := hI.off 5 (noDst_spec (p := upTo 10) (by kernel_rfl))
      have f6 : a.tmps.getD 6 undef = _ := hI.off 6 (noDst_spec (p := upTo 10) (by kernel_rfl))
      have f7 : a.tmps.getD 7 undef = _ := hI.off 7 (noDst_spec (p := upTo 10) (by kernel_rfl))
      have f8 : a.tmps.getD 8 undef = _ := hI.off 8 (noDst_spec (p := upTo 10) (by kernel_rfl))
      have f9 : a.tmps.getD 9 undef = _ := hI.off 9 (noDst_spec (p := upTo 10) (by kernel_rfl))
      have f10 : a.tmps.getD 10 undef = _ := hI.off 10 (noDst_spec (p := upTo 10) (by kernel_rfl))
      have f11 : a.tmps.getD 11 undef = _ := hI.off 11 (noDst_spec (p := upTo 10) (by kernel_rfl))
      have f12 : a.tmps.getD 12 undef = _ := hI.off 12 (noDst_spec (p := upTo 10) (by kernel_rfl))
      have f13 : a.tmps.getD 13 undef = _ := hI.off 13 (noDst_spec (p := upTo 10) (by kernel_rfl))
      have f14 : a.tmps.getD 14 undef = _ := hI.off 14 (noDst_spec (p := upTo 10) (by kernel_rfl))
      have f15 : a.tmps.getD 15 undef = _ := hI.off 15 (noDst_spec (p := upTo 10) (by kernel_rfl))
      have f16 : a.tmps.getD 16 undef = _ := hI.off 16 (noDst_spec (p := upTo 10) (by kernel_rfl))
      have f17 : a.tmps.getD 17 undef = _ := hI.off 17 (noDst_spec (p := upTo 10) (by kernel_rfl))
      have f18 : a.tmps.getD 18 undef = _ := hI.off 18 (noDst_spec (p := upTo 10) (by kernel_rfl))
      have f29 : a.tmps.getD 29 undef = _ := hI.off 29 (noDst_spec (p := upTo 10) (by kernel_rfl))
      have f30 : a.tmps.getD 30 undef = _ := hI.off 30 (noDst_spec (p := upTo 10) (by kernel_rfl))
      have f31 : a.tmps.getD 31 undef = _ := hI.off 31 (noDst_spec (p := upTo 10) (by kernel_rfl))
      have g3 : SlF w4.heap.size (ir C.outs) C.outs.length u (a.tmps.getD 21 undef) := hI.val 2 _ 21 rfl rfl rfl
      obtain ⟨a3, p3, f21, -, -, -⟩ := id g3
      rw [f21] at g3
      have g4 : SlF w4.heap.size (ir C.bads) C.bads.length u (a.tmps.getD 24 undef) := hI.val 5 _ 24 rfl rfl rfl
      obtain ⟨a4, p4, f24, -, -, -⟩ := id g4
      rw [f24] at g4
      have g5 : SlF w4.heap.size (ir C.cons) C.cons.length u (a.tmps.getD 27 undef) := hI.val 8 _ 27 rfl rfl rfl
      obtain ⟨a5, p5, f27, -, -, -⟩ := id g5
      rw [f27] at g5
      have f28 : a.tmps.getD 28 undef = .pointer (some ⟨w.heap.size, 3, none⟩) := hI.val 9 _ 28 rfl rfl rfl
      have ha : a = ⟨#[a.tmps.getD 0 undef, a.tmps.getD 1 undef, a.tmps.getD 2 undef, a.tmps.getD 3 undef, a.tmps.getD 4 undef, a.tmps.getD 5 undef, a.tmps.getD 6 undef, a.tmps.getD 7 undef, a.tmps.getD 8 undef, a.tmps.getD 9 undef, a.tmps.getD 10 undef, a.tmps.getD 11 undef, a.tmps.getD 12 undef, a.tmps.getD 13 undef, a.tmps.getD 14 undef, a.tmps.getD 15 undef, a.tmps.getD 16 undef, a.tmps.getD 17 undef, a.tmps.getD 18 undef, a.tmps.getD 19 undef, a.tmps.getD 20 undef, a.tmps.getD 21 undef, a.tmps.getD 22 undef, a.tmps.getD 23 undef, a.tmps.getD 24 undef, a.tmps.getD 25 undef, a.tmps.getD 26 undef, a.tmps.getD 27 undef, a.tmps.getD 28 undef, a.tmps.getD 29 undef, a.tmps.getD 30 undef, a.tmps.getD 31 undef], a.defers⟩ := act_list a 32 hsz
      rw [hdf, f0, f1, f2, f3, f4, f5, f6, f7, f8, f9, f10, f11, f12, f13, f14, f15, f16, f17, f18, f21, f24, f27, f28, f29, f30, f31] at ha
      obtain ⟨x19, hx19⟩ : ∃ x, a.tmps.getD 19 undef = x := ⟨_, rfl⟩
      obtain ⟨x20, hx20⟩ : ∃ x, a.tmps.getD 20 undef = x := ⟨_, rfl⟩
      obtain ⟨x22, hx22⟩ : ∃ x, a.tmps.getD 22 undef = x := ⟨_, rfl⟩
      obtain ⟨x23, hx23⟩ : ∃ x, a.tmps.getD 23 undef = x := ⟨_, rfl⟩
      obtain ⟨x25, hx25⟩ : ∃ x, a.tmps.getD 25 undef = x := ⟨_, rfl⟩
      obtain ⟨x26, hx26⟩ : ∃ x, a.tmps.getD 26 undef = x := ⟨_, rfl⟩
      rw [hx19, hx20, hx22, hx23, hx25, hx26] at ha
      have hku := hI.kp
      have hB := HDcln2.out.kp hku (fun h => h)
      clear hI hsz hdf f0 f1 f2 f3 f4 f5 f6 f7 f8 f9 f10 f11 f12 f13 f14 f15 f16 f17 f18 f21 f24 f27 f28 f29 f30 f31 hx19 hx20 hx22 hx23 hx25 hx26
      subst ha
      have cs := hB.cell (i := 3) (v := .slice V.ao C.outs.length V.co) rfl
      have fs := hB.free 3
      have hB' : Blk (u.setCell ⟨w.heap.size, 3, none⟩ (.slice a3 C.outs.length p3)) w.heap.size #[.int .i64 C.max, .slice a1 C.ins.length p1, .slice a2 C.lats.length p2, .slice a3 C.outs.length p3, .slice V.ab C.bads.length V.cb, .slice V.ac C.cons.length V.cc, .slice a6 C.gates.length p6, .slice a7 V.ny p7, .string V.cm] 27 := hB.set_same 3 (.slice a3 C.outs.length p3)
      have hk' : Kp (fun j => j = w.heap.size) w4 (u.setCell ⟨w.heap.size, 3, none⟩ (.slice a3 C.outs.length p3)) := (hku.mono (fun _ _ h => h.elim)).setCell (S := fun j => j = w.heap.size) (p := ⟨w.heap.size, 3, none⟩) (fun _ => rfl) _
      have hkk := Kp.set u ⟨w.heap.size, 3, none⟩ (.slice a3 C.outs.length p3)
      refine wpAny_ready (rs := [10]) (by kernel_rfl) (by simp) ?_
      refine AllReady.cons (o := _) rfl (fun K1 hK1 => ?_) AllReady.nil
      go_simp
      refine hK1 _ _ ?_
      clear hK1 K1 cs fs hB hku
      have g3' := SlF.kp g3 hkk (fun j hj => by have hj2 : j = w.heap.size := hj; have := HLt.out; omega)
      clear g3
      have g3 := g3'
      clear g3'
      have g4' := SlF.kp g4 hkk (fun j hj => by have hj2 : j = w.heap.size := hj; have := HLt.out; omega)
      clear g4
      have g4 := g4'
      clear g4'
      have g5' := SlF.kp g5 hkk (fun j hj => by have hj2 : j = w.heap.size := hj; have := HLt.out; omega)
      clear g5
      have g5 := g5'
      clear g5'
      clear hkk
      generalize u.setCell ⟨w.heap.size, 3, none⟩ (.slice a3 C.outs.length p3) = u2 at hB' hk' g3 g4 g5 ⊢
      obtain ⟨u, rfl⟩ : ∃ u, u = u2 := ⟨_, rfl⟩
      have hB := hB'
      have hku := hk'
      clear hB' hk'
      try simp only [Act.put, List.setIfInBounds_toArray, List.set_cons_zero, List.set_cons_succ]
      refine wpAny_ready (rs := [11]) (by kernel_rfl) (by simp) ?_
      refine AllReady.cons (o := _) rfl (fun K1 hK1 => ?_) AllReady.nil
      go_simp
      refine hK1 _ _ ?_
      clear hK1 K1
      try simp only [Act.put, List.setIfInBounds_toArray, List.set_cons_zero, List.set_cons_succ]
      have cs := hB.cell (i := 4) (v := .slice V.ab C.bads.length V.cb) rfl
      have fs := hB.free 4
      have hB' : Blk (u.setCell ⟨w.heap.size, 4, none⟩ (.slice a4 C.bads.length p4)) w.heap.size #[.int .i64 C.max, .slice a1 C.ins.length p1, .slice a2 C.lats.length p2, .slice a3 C.outs.length p3, .slice a4 C.bads.length p4, .slice V.ac C.cons.length V.cc, .slice a6 C.gates.length p6, .slice a7 V.ny p7, .string V.cm] 27 := hB.set_same 4 (.slice a4 C.bads.length p4)
      have hk' : Kp (fun j => j = w.heap.size) w4 (u.setCell ⟨w.heap.size, 4, none⟩ (.slice a4 C.bads.length p4)) := hku.setCell (S := fun j => j = w.heap.size) (p := ⟨w.heap.size, 4, none⟩) (fun _ => rfl) _
      have hkk := Kp.set u ⟨w.heap.size, 4, none⟩ (.slice a4 C.bads.length p4)
      refine wpAny_ready (rs := [12]) (by kernel_rfl) (by simp) ?_
      refine AllReady.cons (o := _) rfl (fun K1 hK1 => ?_) AllReady.nil
      go_simp
      refine hK1 _ _ ?_
      clear hK1 K1 cs fs hB hku
      have g3' := SlF.kp g3 hkk (fun j hj => by have hj2 : j = w.heap.size := hj; have := HLt.out; omega)
      clear g3
      have g3 := g3'
      clear g3'
      have g4' := SlF.kp g4 hkk (fun j hj => by have hj2 : j = w.heap.size := hj; have := HLt.out; omega)
      clear g4
      have g4 := g4'
      clear g4'
      have g5' := SlF.kp g5 hkk (fun j hj => by have hj2 : j = w.heap.size := hj; have := HLt.out; omega)
      clear g5
      have g5 := g5'
      clear g5'
      clear hkk
      generalize u.setCell ⟨w.heap.size, 4, none⟩ (.slice a4 C.bads.length p4) = u2 at hB' hk' g3 g4 g5 ⊢
      obtain ⟨u, rfl⟩ : ∃ u, u = u2 := ⟨_, rfl⟩
      have hB := hB'
      have hku := hk'
      clear hB' hk'
      try simp only [Act.put, List.setIfInBounds_toArray, List.set_cons_zero, List.set_cons_succ]
      refine wpAny_ready (rs := [13]) (by kernel_rfl) (by simp) ?_
      refine AllReady.cons (o := _) rfl (fun K1 hK1 => ?_) AllReady.nil
      go_simp
      refine hK1 _ _ ?_
      clear hK1 K1
      try simp only [Act.put, List.setIfInBounds_toArray, List.set_cons_zero, List.set_cons_succ]
      have cs := hB.cell (i := 5) (v := .slice V.ac C.cons.length V.cc) rfl
      have fs := hB.free 5
      have hB' : Blk (u.setCell ⟨w.heap.size, 5, none⟩ (.slice a5 C.cons.length p5)) w.heap.size #[.int .i64 C.max, .slice a1 C.ins.length p1, .slice a2 C.lats.length p2, .slice a3 C.outs.length p3, .slice a4 C.bads.length p4, .slice a5 C.cons.length p5, .slice a6 C.gates.length p6, .slice a7 V.ny p7, .string V.cm] 27 := hB.set_same 5 (.slice a5 C.cons.length p5)
      have hk' : Kp (fun j => j = w.heap.size) w4 (u.setCell ⟨w.heap.size, 5, none⟩ (.slice a5 C.cons.length p5)) := hku.setCell (S := fun j => j = w.heap.size) (p := ⟨w.heap.size, 5, none⟩) (fun _ => rfl) _
      have hkk := Kp.set u ⟨w.heap.size, 5, none⟩ (.slice a5 C.cons.length p5)
      refine wpAny_ready (rs := [14]) (by kernel_rfl) (by simp) ?_
      refine AllReady.cons (o := _) rfl (fun K1 hK1 => ?_) AllReady.nil
      go_simp
      refine hK1 _ _ ?_
      clear hK1 K1 cs fs hB hku
      have g3' := SlF.kp g3 hkk (fun j hj => by have hj2 : j = w.heap.size := hj; have := HLt.out; omega)
      clear g3
      have g3 := g3'
      clear g3'
      have g4' := SlF.kp g4 hkk (fun j hj => by have hj2 : j = w.heap.size := hj; have := HLt.out; omega)
      clear g4
      have g4 := g4'
      clear g4'
      have g5' := SlF.kp g5 hkk (fun j hj => by have hj2 : j = w.heap.size := hj; have := HLt.out; omega)
      clear g5
      have g5 := g5'
      clear g5'
      clear hkk
      generalize u.setCell ⟨w.heap.size, 5, none⟩ (.slice a5 C.cons.length p5) = u2 at hB' hk' g3 g4 g5 ⊢
      obtain ⟨u, rfl⟩ : ∃ u, u = u2 := ⟨_, rfl⟩
      have hB := hB'
      have hku := hk'
      clear hB' hk'
      try simp only [Act.put, List.setIfInBounds_toArray, List.set_cons_zero, List.set_cons_succ]
      refine wpAny_done (by kernel_rfl) ?_ _
      have hG := HG.out
      obtain ⟨g1, g2, g6, g7⟩ := hG
      have q : ∀ j, (fun j => j = w.heap.size) j → j < wz.heap.size := fun j hj => by have hj2 : j = w.heap.size := hj; have := HLt0.out; omega
      have g1' := SlF.kp g1 hku q
      have g2' := SlF.kp g2 hku q
      have g6' := SlF.kp g6 hku q
      have g7' := SlF.kp g7 hku q
      clear g1 g2 g6 g7 q
      have hB2 := HBb.out.kp hku (fun e => by have e2 : w.heap.size + 1 = w.heap.size := e; omega)
      have HKf := Lib.hid (HKb.out.trans hku (fun j hj e => by have e2 : j = w.heap.size := e; omega))
      have hle : wz.heap.size ≤ w4.heap.size := HLe.out
      have g3 := g3.low hle
      have g4 := g4.low hle
      have g5 := g5.low hle
      have HGf := Lib.hid (And.intro g1' (And.intro g2' (And.intro g3 (And.intro g4 (And.intro g5 (And.intro g6' g7'))))))
      have HB3 := Lib.hid hB
      have HB2 := Lib.hid hB2
      clear hB hB2 hku g1' g2' g3 g4 g5 g6' g7' HG
      obtain ⟨d0, d1, d2, d3, d4, d5, d6, d7, d8⟩ := HB3.out.cells9
      obtain ⟨z0, z1, z2, z3, z4, z5, z6, z7, z8⟩ := HB2.out.cells9
      have fr := HB2.out.free
      have fr0 := fr 0
      have fr1 := fr 1
      have fr2 := fr 2
      have fr3 := fr 3
      have fr4 := fr 4
      have fr5 := fr 5
      have fr6 := fr 6
      have fr7 := fr 7
      have fr8 := fr 8
      clear fr
      have HBe := Lib.hid (HB2.out.set9 (.int .i64 C.max) (.slice a1 C.ins.length p1) (.slice a2 C.lats.length p2) (.slice a3 C.outs.length p3) (.slice a4 C.bads.length p4) (.slice a5 C.cons.length p5) (.slice a6 C.gates.length p6) (.slice a7 V.ny p7) (.string V.cm))
      have HKe := Lib.hid (Kp.set9 u (w.heap.size + 1) (.int .i64 C.max) (.slice a1 C.ins.length p1) (.slice a2 C.lats.length p2) (.slice a3 C.outs.length p3) (.slice a4 C.bads.length p4) (.slice a5 C.cons.length p5) (.slice a6 C.gates.length p6) (.slice a7 V.ny p7) (.string V.cm))
      unfold Go.Proofs.YtnoknecfdnjomaaGreat.set9 at HBe HKe
      have HKw := Lib.hid (HKf.out.trans HKe.out (fun j hj e => by have e2 : j = (w.heap.size + 1) := e; omega))
      have q : ∀ j, (fun j => j = (w.heap.size + 1)) j → j < wz.heap.size := fun j hj => by have hj2 : j = w.heap.size + 1 := hj; have := HLt2.out; omega
      have HCat := Lib.hid (HGf.out)
      obtain ⟨g1, g2, g3, g4, g5, g6, g7⟩ := HCat.out
      have HG2 := Lib.hid (And.intro (SlF.kp g1 HKe.out q) (And.intro (SlF.kp g2 HKe.out q) (And.intro (SlF.kp g3 HKe.out q) (And.intro (SlF.kp g4 HKe.out q) (And.intro (SlF.kp g5 HKe.out q) (And.intro (SlF.kp g6 HKe.out q) (SlF.kp g7 HKe.out q)))))))
      clear q g1 g2 g3 g4 g5 g6 g7 HCat
      go_wp2_with fail
      obtain ⟨s0, s1, s2, s3, s4, s5, s6, s7, s8⟩ := HBe.out.cells9
      obtain ⟨g1, g2, g3, g4, g5, g6, g7⟩ := HG2.out
      have HRes := Lib.hid (show CAt _ ⟨a1, p1, a2, p2, a3, p3, a4, p4, a5, p5, a6, p6, a7, V.ny, p7, V.cm⟩ C from ⟨(by have h := (SlF.row g1).2; rw [ir_flat] at h; exact h), (SlF.row g2).2, (by have h := (SlF.row g3).2; rw [ir_flat] at h; exact h), (by have h := (SlF.row g4).2; rw [ir_flat] at h; exact h), (by have h := (SlF.row g5).2; rw [ir_flat] at h; exact h), (SlF.row g6).2, ⟨rows, (SlF.row g7).2, HRL.out⟩, (SlF.row g1).1, (SlF.row g2).1, (SlF.row g3).1, (SlF.row g4).1, (SlF.row g5).1, (SlF.row g6).1, (SlF.row g7).1⟩)
      clear g1 g2 g3 g4 g5 g6 g7
      have HKeep : CKeep (w.heap.size + 2) _ ⟨a1, p1, a2, p2, a3, p3, a4, p4, a5, p5, a6, p6, a7, V.ny, p7, V.cm⟩ C := fun S w2 hS k => by
        obtain ⟨g1, g2, g3, g4, g5, g6, g7⟩ := HG2.out
        have q : ∀ j, S j → j < wz.heap.size := fun j hj => by have := hS j hj; have := HLt2.out; omega
        have g1 := SlF.kp g1 k q
        have g2 := SlF.kp g2 k q
        have g3 := SlF.kp g3 k q
        have g4 := SlF.kp g4 k q
        have g5 := SlF.kp g5 k q
        have g6 := SlF.kp g6 k q
        have g7 := SlF.kp g7 k q
        exact ⟨(by have h := (SlF.row g1).2; rw [ir_flat] at h; exact h), (SlF.row g2).2, (by have h := (SlF.row g3).2; rw [ir_flat] at h; exact h), (by have h := (SlF.row g4).2; rw [ir_flat] at h; exact h), (by have h := (SlF.row g5).2; rw [ir_flat] at h; exact h), (SlF.row g6).2, ⟨rows, (SlF.row g7).2, HRL.out⟩, (SlF.row g1).1, (SlF.row g2).1, (SlF.row g3).1, (SlF.row g4).1, (SlF.row g5).1, (SlF.row g6).1, (SlF.row g7).1⟩
      exact bodyPost_ret (v := .agg #[.int .i64 C.max, .slice a1 C.ins.length p1, .slice a2 C.lats.length p2, .slice a3 C.outs.length p3, .slice a4 C.bads.length p4, .slice a5 C.cons.length p5, .slice a6 C.gates.length p6, .slice a7 V.ny p7, .string V.cm]) (by simp [results, Tryz.results58, go_sem, s0, s1, s2, s3, s4, s5, s6, s7, s8]) rfl ⟨⟨a1, p1, a2, p2, a3, p3, a4, p4, a5, p5, a6, p6, a7, V.ny, p7, V.cm⟩, rfl, HRes.out, rfl, HKw.out, HKeep⟩

end Go.Proofs.YtnoknecfdnjomaaGreat

/-
  step.New of a circuit with which something is wrong.
-/
namespace Go.Proofs.YtnoknecfdnjomaaGreat
open Go.RowKit

end Go.Proofs.YtnoknecfdnjomaaGreat

/-
  step.New of a good circuit.
-/
namespace Go.Proofs.YtnoknecfdnjomaaGreat
open Go.RowKit

/-- what Net tells, as slices that no store into older memory spoils -/
def NetK (C : Circ) (w : World) (e : Ending) (w' : World) : Prop := ∃ a4 c4 a5 c5, e = .returned (.tuple #[.slice a4 (netOf C).1.length c4, .slice a5 (netOf C).2.length c5]) ∧
  (∀ (S : Nat → Prop) (w2 : World), (∀ j, S j → j < w.heap.size) → Kp S w' w2 → RowAt w2 a4 ((netOf C).1.map pr2).flatten ∧ RowAt w2 a5 (iv (netOf C).2)) ∧ Kp (fun _ => False) w w'
theorem NetK.of {C : Circ} {w : World} {e : Ending} {w' : World} (h : ∃ v4 v5, e = .returned (.tuple #[v4, v5]) ∧ OwnK w' w.heap.size 102 2 v4 ((netOf C).1.map pr2) ∧ Own w' w.heap.size 3 v5 (iv (netOf C).2) ∧ Kp (fun _ => False) w w') : NetK C w e w' := by
  obtain ⟨v4, v5, rfl, h4, h5, hK⟩ := h
  obtain ⟨a4, c4, e4, -, -, -, -, -⟩ := h4.form
  obtain ⟨a5, c5, e5, -, -, -, -⟩ := h5.form
  rw [List.length_map] at e4
  rw [iv_length] at e5
  subst e4
  subst e5
  refine ⟨a4, c4, a5, c5, rfl, fun S w2 hS k => ?_, hK⟩
  have g4 := h4.kp k (fun j hj hs => by have := (h4.own.lt j hj).1; have := hS j hs; omega)
  have g5 := Own.kp h5 k (fun j hj hs => by have := (h5.lt j hj).1; have := hS j hs; omega)
  obtain ⟨a4', c4', e4', -, -, -, -, hr4⟩ := g4.form
  obtain ⟨a5', c5', e5', -, -, -, hr5⟩ := g5.form
  simp only [Value.slice.injEq] at e4' e5'
  rw [← e4'.1] at hr4
  rw [← e5'.1] at hr5
  exact ⟨hr4, hr5⟩

/-- a machine that no store into older memory spoils -/
def MKeep (B : Nat) (w : World) (t : TypeId) (V : CV) (C : Circ) (p : Nat) (a4 : Option Addr) (c4 : Nat) (a5 : Option Addr) (c5 : Nat) : Prop := ∀ (S : Nat → Prop) (w2 : World), (∀ j, S j → j < B) → Kp S w w2 → MAt w2 t V C p a4 c4 a5 c5

set_option maxRecDepth 100000 in
set_option maxHeartbeats 8000000 in
theorem step_NewK (V : CV) (C : Circ) (w : World) (h : CAt w V C) (hf : CFew C 1000000) (hy : V.ny ≤ 1000000) (hg : GoodC C) :
    Calls Tryz.prog 33 #[.agg (cvals V C)] w fun e w' => ∃ V' p a4 c4 a5 c5, e = .returned (.tuple #[.pointer (some ⟨p, 0, none⟩), .int .i64 0]) ∧ MKeep w.heap.size w' 99 V' C p a4 c4 a5 c5 ∧ Kp (fun _ => False) w w' := by
  obtain ⟨wz, hwz⟩ : ∃ wz : World, wz = w.alloc (.cells (cvals V C) 27) := ⟨_, rfl⟩
  have HK0 := Lib.hid (show Kp (fun _ => False) w wz by rw [hwz]; exact (Kp.refl _ w).alloc _)
  have HC0 := Lib.hid (show Blk wz w.heap.size #[.int .i64 C.max, .slice V.ai C.ins.length V.ci, .slice V.al C.lats.length V.cl, .slice V.ao C.outs.length V.co, .slice V.ab C.bads.length V.cb, .slice V.ac C.cons.length V.cc, .slice V.ag C.gates.length V.cg, .slice V.ay V.ny V.cy, .string V.cm] 27 by rw [hwz]; exact Blk.new w (cvals V C) _)
  have HSz := Lib.hid (show wz.heap.size = w.heap.size + 1 by rw [hwz]; simp)
  have HN := Lib.hid (circ_Chk V C wz (h.kp HK0.out) hf)
  have HCl := Lib.hid (fun u (hu : Kp (fun _ => False) wz u) => circ_Clone V C u ((h.kp HK0.out).kp hu) hf hy)
  obtain ⟨d0, d1, d2, d3, d4, d5, d6, d7, d8⟩ := Blk.cells9 HC0.out
  have HZ := Lib.hid hwz
  have HF := Lib.hid hf
  have HG := Lib.hid hg
  rw [hg.code] at HN
  unfold cvals at HN HCl
  clear h hwz hf hg hy
  go_enter Tryz.func33, Tryz.ntmps33
  go_upto_region 1 with fail
  rw [← HZ.out]
  clear HZ
  go_upto_region 4 with (go_at_call 57; with_reducible refine Calls.mono HN.out ?_; rintro e w1 ⟨rfl, hK1⟩)
  have HC1 := Lib.hid (HC0.out.kp hK1 (fun h => h))
  have HCl1 := Lib.hid (HCl.out w1 hK1)
  have HK1 := Lib.hid (HK0.out.trans hK1 (fun _ _ h => h))
  have HSz1 := Lib.hid (show w.heap.size + 1 ≤ w1.heap.size by have := hK1.size; have := HSz.out; omega)
  clear d0 d1 d2 d3 d4 d5 d6 d7 d8 hK1 HCl HC0
  obtain ⟨d0, d1, d2, d3, d4, d5, d6, d7, d8⟩ := Blk.cells9 HC1.out
  go_upto_region 5 with (go_at_call 58; with_reducible refine Calls.mono HCl1.out ?_; rintro e w2 ⟨V', rfl, -, hny, hK2, hkeep⟩; obtain ⟨z0, z1, z2, z3, z4, z5, z6, z7, z8⟩ := Blk.cells9 (HC1.out.kp hK2 (fun h => h)); have fr := (HC1.out.kp hK2 (fun h => h)).free; have fr0 := fr 0; have fr1 := fr 1; have fr2 := fr 2; have fr3 := fr 3; have fr4 := fr 4; have fr5 := fr 5; have fr6 := fr 6; have fr7 := fr 7; have fr8 := fr 8; have HK2 := Lib.hid hK2; have HKeep := Lib.hid hkeep; clear fr d0 d1 d2 d3 d4 d5 d6 d7 d8 hK2 hkeep hny)
  obtain ⟨w3, hw3⟩ : ∃ w3 : World, w3 = set9 w2 w.heap.size (.int .i64 C.max) (.slice V'.ai C.ins.length V'.ci) (.slice V'.al C.lats.length V'.cl) (.slice V'.ao C.outs.length V'.co) (.slice V'.ab C.bads.length V'.cb) (.slice V'.ac C.cons.length V'.cc) (.slice V'.ag C.gates.length V'.cg) (.slice V'.ay V'.ny V'.cy) (.string V'.cm) := ⟨_, rfl⟩
  have hB3 : Blk w3 w.heap.size #[.int .i64 C.max, .slice V'.ai C.ins.length V'.ci, .slice V'.al C.lats.length V'.cl, .slice V'.ao C.outs.length V'.co, .slice V'.ab C.bads.length V'.cb, .slice V'.ac C.cons.length V'.cc, .slice V'.ag C.gates.length V'.cg, .slice V'.ay V'.ny V'.cy, .string V'.cm] 27 := by
    rw [hw3]; exact (HC1.out.kp HK2.out (fun h => h)).set9 _ _ _ _ _ _ _ _ _
  have hk3 : Kp (fun j => j = w.heap.size) w2 w3 := by rw [hw3]; exact Kp.set9 _ _ _ _ _ _ _ _ _ _ _
  have HA3 := Lib.hid (HKeep.out _ w3 (fun j hj => by have hj2 : j = w.heap.size := hj; have := HSz1.out; omega) hk3)
  have HK3 := Lib.hid ((HK1.out.trans HK2.out (fun _ _ h => h)).trans hk3 (fun j hj e => by have e2 : j = w.heap.size := e; omega))
  have HB3 := Lib.hid hB3
  unfold Go.Proofs.YtnoknecfdnjomaaGreat.set9 at hw3
  rw [← hw3]
  have HN3 := Lib.hid ((circ_Net V' C w3 HA3.out HF.out HG.out).mono (fun e w' h => NetK.of h))
  have Hk3 := Lib.hid hk3
  clear hw3 hk3 hB3 z0 z1 z2 z3 z4 z5 z6 z7 z8 fr0 fr1 fr2 fr3 fr4 fr5 fr6 fr7 fr8 HK1 HC1
  obtain ⟨d0, d1, d2, d3, d4, d5, d6, d7, d8⟩ := Blk.cells9 HB3.out
  unfold cvals at HN3
  go_wp2_with fail
  refine Calls.mono HN3.out ?_
  rintro e w4 ⟨a4, c4, a5, c5, rfl, hr45, hK4⟩
  obtain ⟨f0, f1, f2, f3, f4, f5, f6, f7, f8⟩ := Blk.cells9 (HB3.out.kp hK4 (fun h => h))
  go_wp2_with fail
  have HK4 := Lib.hid (HK3.out.trans hK4 (fun _ _ h => h))
  have H45 := Lib.hid hr45
  have hK4' := Lib.hid hK4
  go_ret2
  have hka := (Kp.refl (fun _ => False) w4).alloc (.cells (cvals V' C ++ #[.slice a4 (netOf C).1.length c4, .slice a5 (netOf C).2.length c5]) 99)
  refine ⟨V', _, a4, c4, a5, c5, rfl, fun S w5 hS k5 => ?_, HK4.out.trans hka (fun _ _ h => h)⟩
  have hz4 := HK4.out.size
  have hz3 := HK3.out.size
  have k25 : Kp (fun j => j = w.heap.size ∨ S j) w2 w5 := ((Hk3.out.trans (hK4'.out.trans hka (fun _ _ h => h)) (fun _ _ h => h.elim)).mono (fun j _ h => Or.inl h)).trans (k5.mono (fun j _ h => Or.inr h)) (fun _ _ h => h)
  have hC := HKeep.out _ w5 (fun j hj => by have := HSz1.out; rcases hj with hj | hj <;> (try have := hS j hj) <;> omega) k25
  have hN := H45.out S w5 (fun j hj => by have := hS j hj; omega) ((hka.mono (fun _ _ h => h.elim)).trans k5 (fun _ _ h => h))
  exact ⟨(Blk.new w4 _ _).kp k5 (fun h => by have := hS _ h; omega), hC, hN.1, hN.2⟩

theorem step_New (V : CV) (C : Circ) (w : World) (h : CAt w V C) (hf : CFew C 1000000) (hy : V.ny ≤ 1000000) (hg : GoodC C) :
    Calls Tryz.prog 33 #[.agg (cvals V C)] w fun e w' => ∃ V' p a4 c4 a5 c5, e = .returned (.tuple #[.pointer (some ⟨p, 0, none⟩), .int .i64 0]) ∧ MAt w' 99 V' C p a4 c4 a5 c5 ∧ Kp (fun _ => False) w w' :=
  (step_NewK V C w h hf hy hg).mono (by
    rintro e w' ⟨V', p, a4, c4, a5, c5, rfl, hM, hK⟩
    exact ⟨V', p, a4, c4, a5, c5, rfl, hM (fun _ => False) w' (fun _ h => h.elim) (Kp.refl _ _), hK⟩)

end Go.Proofs.YtnoknecfdnjomaaGreat

/-
  explore.New.
-/
namespace Go.Proofs.YtnoknecfdnjomaaGreat
open Go.RowKit

def nS (C : Circ) : Nat := 2 ^ C.lats.length
def stS (C : Circ) : Nat → Bool := fun t => startsM C (stN C t)
def edS (C : Circ) : Nat → Nat → Bool := fun s t => (rowF2 C s (t : Int)).isSome
def bdS (C : Circ) (pr : Int) : Nat → Bool := fun t => decide (rowB C pr t ≠ -1)
def rchS (C : Circ) : Nat → Int := distG (nS C) (stS C) (edS C) (nS C)
def dstS (C : Circ) (pr : Int) : Nat → Int := distG (nS C) (bdS C pr) (revG (edS C)) (nS C)

/-- a space in memory -/
def SpcAt (w : World) (C : Circ) (pr : Int) (sp : Nat) : Prop := ∃ (V : CV) (p g cg : Nat) (mb : Nat → Nat) (a4 a5 : Option Addr) (c4 c5 : Nat),
  MAt w 99 V C p a4 c4 a5 c5 ∧ w.cell? ⟨sp, 0, none⟩ = some (.pointer (some ⟨p, 0, none⟩)) ∧ w.cell? ⟨sp, 1, none⟩ = some (.slice (some ⟨g, 0, none⟩) (nS C) cg) ∧ RowsS w g (nS C) mb (rowF2 C) (rowB C pr) (rchS C) (dstS C pr)
theorem SpcAt.kp {w w' : World} {C : Circ} {pr : Int} {sp : Nat} (h : SpcAt w C pr sp) (k : Kp (fun _ => False) w w') : SpcAt w' C pr sp := by
  obtain ⟨V, p, g, cg, mb, a4, a5, c4, c5, h1, h2, h3, h4⟩ := h
  exact ⟨V, p, g, cg, mb, a4, a5, c4, c5, h1.kp k, k.cellAt2 h2, k.cellAt2 h3, h4.kp k⟩

/-- only new memory may have turned -/
theorem Kp.ofNew {S : Nat → Prop} {a w w' : World} (h : Kp (fun _ => False) a w) (k : Kp S w w') (hS : ∀ j, S j → a.heap.size ≤ j) : Kp (fun _ => False) a w' :=
  h.trans k (fun j h1 h2 => by have := hS j h2; omega)

theorem rowF2_lt {C : Circ} {t : Nat} {u i : Int} (h : rowF2 C t u = some i) : ∃ v : Nat, u = (v : Int) ∧ v < 2 ^ C.lats.length := by
  obtain ⟨j, -, -, -, h2⟩ := succK_some h
  refine ⟨nxtN C t j, h2.symm, ?_⟩
  have h1 := numP_lt (nextM C (stN C t) (inN2 C j))
  rw [nextM_len] at h1
  exact h1

/-- rows on the way: the first k are there -/
def rowHP (mb : Nat → Nat) (BD : Nat → Int) (k i : Nat) : Value := if i / 4 < k then rowH mb BD (fun _ => -1) (fun _ => -1) i else if i % 4 = 0 then .map none else .int .i64 0
structure RowsW (w : World) (g n k : Nat) (mb : Nat → Nat) (F : Nat → Int → Option Int) (BD : Nat → Int) : Prop where
  blk : Blk w g (rowC n (rowHP mb BD k)) 75
  map : ∀ t, t < k → ∃ q, IMI w (mb t) q (F t) ∧ q ≤ 256
  ne : ∀ t, t < k → mb t ≠ g
theorem made_rows (mb : Nat → Nat) (BD : Nat → Int) (n : Nat) : madeCells #[.map none, .int .i64 0, .int .i64 0, .int .i64 0] (n * 4) = rowC n (rowHP mb BD 0) := by
  apply Array.ext
  · simp [madeCells, rowC]
  · intro i h1 h2
    have h3 : i % 4 = 0 ∨ i % 4 = 1 ∨ i % 4 = 2 ∨ i % 4 = 3 := by omega
    rcases h3 with e | e | e | e <;> simp [madeCells, rowC, rowHP, e]
theorem RowsW.kp {w w' : World} {g n k : Nat} {mb : Nat → Nat} {F : Nat → Int → Option Int} {BD : Nat → Int} (h : RowsW w g n k mb F BD) (kk : Kp (fun _ => False) w w') : RowsW w' g n k mb F BD :=
  ⟨h.blk.kp kk (fun h => h), fun t ht => by
    obtain ⟨q, h1, h2⟩ := h.map t ht
    exact ⟨q, h1.kp kk (fun h => h), h2⟩, h.ne⟩
def set4 (w : World) (g i : Nat) (a b c d : Value) : World := (((w.setCell ⟨g, i, none⟩ a).setCell ⟨g, i + 1, none⟩ b).setCell ⟨g, i + 2, none⟩ c).setCell ⟨g, i + 3, none⟩ d
theorem Kp.set4 (w : World) (g i : Nat) (a b c d : Value) : Kp (fun j => j = g) w (set4 w g i a b c d) := by
  have q1 := (Kp.refl (fun j => j = g) w).setCell (p := ⟨g, i, none⟩) (fun _ => rfl) a
  have q2 := q1.setCell (p := ⟨g, i + 1, none⟩) (fun _ => rfl) b
  have q3 := q2.setCell (p := ⟨g, i + 2, none⟩) (fun _ => rfl) c
  exact q3.setCell (p := ⟨g, i + 3, none⟩) (fun _ => rfl) d
theorem RowsW.put {w : World} {g n k b q : Nat} {mb : Nat → Nat} {F : Nat → Int → Option Int} {BD : Nat → Int} (h : RowsW w g n k mb F BD) (hI : IMI w b q (F k)) (hq : q ≤ 256) (hb : b ≠ g) :
    RowsW (set4 w g (k * 4) (.map (some b)) (.int .i64 (BD k)) (.int .i64 (-1)) (.int .i64 (-1))) g n (k + 1) (fun t => if t = k then b else mb t) F BD := by
  have hK := Kp.set4 w g (k * 4) (.map (some b)) (.int .i64 (BD k)) (.int .i64 (-1)) (.int .i64 (-1))
  refine ⟨?_, fun t ht => ?_, fun t ht => ?_⟩
  · have := (((h.blk.set_same (k * 4) (.map (some b))).set_same (k * 4 + 1) (.int .i64 (BD k))).set_same (k * 4 + 2) (.int .i64 (-1))).set_same (k * 4 + 3) (.int .i64 (-1))
    rw [rowC_set, rowC_set, rowC_set, rowC_set] at this
    rw [show rowC n (rowHP (fun t => if t = k then b else mb t) BD (k + 1)) = _ from rowC_congr fun i hi => ?_]
    · exact this
    · show rowHP (fun t => if t = k then b else mb t) BD (k + 1) i = if i = k * 4 + 3 then _ else if i = k * 4 + 2 then _ else if i = k * 4 + 1 then _ else if i = k * 4 then _ else _
      unfold rowHP rowH rowV
      by_cases e : i / 4 = k
      · have h4 : i % 4 = 0 ∨ i % 4 = 1 ∨ i % 4 = 2 ∨ i % 4 = 3 := by omega
        rw [if_pos (by omega)]
        rcases h4 with e4 | e4 | e4 | e4
        · rw [if_pos e4, if_neg (by omega), if_neg (by omega), if_neg (by omega), if_pos (by omega)]; simp [e]
        · rw [if_neg (by omega), if_pos e4, if_neg (by omega), if_neg (by omega), if_pos (by omega), e]
        · rw [if_neg (by omega), if_neg (by omega), if_pos e4, if_neg (by omega), if_pos (by omega)]
        · rw [if_neg (by omega), if_neg (by omega), if_neg (by omega), if_pos (by omega)]
      · rw [if_neg (show ¬ i = k * 4 + 3 by omega), if_neg (show ¬ i = k * 4 + 2 by omega), if_neg (show ¬ i = k * 4 + 1 by omega), if_neg (show ¬ i = k * 4 by omega)]
        by_cases e2 : i / 4 < k
        · rw [if_pos (by omega), if_pos e2]; simp [e]
        · rw [if_neg (by omega), if_neg e2]
  · by_cases e : t = k
    · subst e
      exact ⟨q, by simp only [if_true]; exact hI.kp hK (fun e => hb e), hq⟩
    · obtain ⟨q2, h1, h2⟩ := h.map t (by omega)
      exact ⟨q2, by simp only [e, if_false]; exact h1.kp hK (fun e2 => h.ne t (by omega) e2), h2⟩
  · by_cases e : t = k
    · simp only [e, if_true]; exact hb
    · simp only [e, if_false]; exact h.ne t (by omega)
theorem RowsW.done {w : World} {g n : Nat} {mb : Nat → Nat} {F : Nat → Int → Option Int} {BD : Nat → Int} (h : RowsW w g n n mb F BD) : RowsS w g n mb F BD (fun _ => -1) (fun _ => -1) := by
  refine ⟨?_, h.map, h.ne⟩
  have := h.blk
  rw [rowC_congr (h' := rowH mb BD (fun _ => -1) (fun _ => -1)) fun i hi => by
    unfold rowHP
    rw [if_pos (by omega)]] at this
  exact this
/-- what row tells -/
def RowVV (C : Circ) (pr : Int) (B k : Nat) (u : World) (v : Value) : Prop := ∃ b q, v = .agg #[.map (some b), .int .i64 (rowB C pr k), .int .i64 (-1), .int .i64 (-1)] ∧ IMI u b q (rowF2 C k) ∧ B ≤ b ∧ q ≤ 256
theorem RowVV.st (C : Circ) (pr : Int) (B k : Nat) : Stable (RowVV C pr B k) := fun _ _ _ k ⟨b, q, h1, h2, h3⟩ => ⟨b, q, h1, h2.kp k (fun h => h), h3⟩

set_option maxRecDepth 100000 in
set_option maxHeartbeats 8000000 in
theorem ex_New (V : CV) (C : Circ) (w : World) (h : CAt w V C) (hf : CFew C 1000000) (hy : V.ny ≤ 1000000) (hg : GoodC C) (hl : C.lats.length ≤ 10) (hi : C.ins.length ≤ 8) (pr : Int) :
    Calls Tryz.prog 8 #[.agg (cvals V C), .int .i64 pr] w fun e w' => ∃ sp, e = .returned (.tuple #[.pointer (some ⟨sp, 0, none⟩), .int .i64 0]) ∧ SpcAt w' C pr sp ∧ Kp (fun _ => False) w w' := by
  obtain ⟨n, hn⟩ : ∃ n, nS C = n := ⟨_, rfl⟩
  have hn' : 2 ^ C.lats.length = n := hn
  have hn9 : n ≤ 1024 := by rw [← hn']; have := Nat.pow_le_pow_right (n := 2) (by decide) hl; exact this
  have hn1 : 0 < n := by rw [← hn']; exact Nat.pow_pos (by decide)
  have HPw := Lib.hid (show wrap64 ((2 : Int) ^ C.lats.length) = (n : Int) by
    have e0 : ((2 : Int) ^ C.lats.length) = ((2 ^ C.lats.length : Nat) : Int) := by push_cast; rfl
    rw [e0, hn']
    unfold wrap64; omega)
  obtain ⟨i0, hi0, hz0, hz1, hz2⟩ := info_parts (show (Tryz.prog.info? 75).map (fun i => (i.zero, i.size, i.bytes)) = some (some (.agg #[.map none, .int .i64 0, .int .i64 0, .int .i64 0]), 4, 32) by kernel_rfl)
  have hmk : ∀ u : World, (Instr.makeSlice 70 (.int .i64 (n : Int)) (.int .i64 (n : Int))).run Tryz.prog u =
      .ok (.slice (some ⟨u.heap.size, 0, none⟩) n n) (u.alloc (.cells (madeCells #[.map none, .int .i64 0, .int .i64 0, .int .i64 0] (n * 4)) 75)) := fun u => by
    have h := run_make (P := Tryz.prog) u 70 75 i0 (.agg #[.map none, .int .i64 0, .int .i64 0, .int .i64 0]) Tryz.underlying70 hi0 hz0 .i64 .i64 (n : Int) (n : Int) (by omega) (Int.le_refl _) (by rw [hz2]; omega) (by omega)
    simpa [hz1, Value.cells] using h
  clear hi0 hz0 hz1 hz2 i0
  obtain ⟨wz, hwz⟩ : ∃ wz : World, wz = w.alloc (.cells (cvals V C) 27) := ⟨_, rfl⟩
  have HK0 := Lib.hid (show Kp (fun _ => False) w wz by rw [hwz]; exact (Kp.refl _ w).alloc _)
  have HC0 := Lib.hid (show Blk wz w.heap.size (cvals V C) 27 by rw [hwz]; exact Blk.new _ _ _)
  have HN := Lib.hid (step_New V C wz (h.kp HK0.out) hf hy hg)
  have HF := Lib.hid hf
  have HG := Lib.hid hg
  have HMk := Lib.hid hmk
  have HNn := Lib.hid hn
  obtain ⟨d0, d1, d2, d3, d4, d5, d6, d7, d8⟩ := Blk.cells9 (show Blk wz w.heap.size #[.int .i64 C.max, .slice V.ai C.ins.length V.ci, .slice V.al C.lats.length V.cl, .slice V.ao C.outs.length V.co, .slice V.ab C.bads.length V.cb, .slice V.ac C.cons.length V.cc, .slice V.ag C.gates.length V.cg, .slice V.ay V.ny V.cy, .string V.cm] 27 from HC0.out)
  have HZ := Lib.hid hwz
  unfold cvals at HN
  clear h hwz hf hg hmk hn hn'
  go_enter Tryz.func8, Tryz.ntmps8
  go_upto_region 1 with fail
  rw [← HZ.out]
  clear HZ
  have q1 : ¬ ((C.lats.length : Nat) : Int) > 10 := by omega
  have q2 : ¬ ((C.ins.length : Nat) : Int) > 8 := by omega
  go_upto_region 4 with (go_at_call 33; with_reducible refine Calls.mono HN.out ?_; rintro e w1 ⟨V', p, a4, c4, a5, c5, rfl, hM, hK1⟩; have HM := Lib.hid hM; have HK1 := Lib.hid (HK0.out.trans hK1 (fun _ _ h => h)); clear hK1 hM)
  have HLa := Lib.hid (step_Latches V' C p a4 a5 c4 c5 w1 HM.out HF.out)
  have HIn := Lib.hid (step_Inputs V' C p a4 a5 c4 c5 w1 HM.out HF.out)
  clear d0 d1 d2 d3 d4 d5 d6 d7 d8 HC0 HN
  go_upto_region 6 with (first
      | (go_at_call 34; refine Calls.mono HLa.out ?_; rintro e w2 ⟨rfl, rfl⟩)
      | (go_at_call 35; refine Calls.mono HIn.out ?_; rintro e w2 ⟨rfl, rfl⟩))
  have hmk := HMk.out
  have wn := HPw.out
  go_upto_region 7 with (first
      | (go_at_call 34; refine Calls.mono HLa.out ?_; rintro e w2 ⟨rfl, rfl⟩))
  obtain ⟨g, hgd⟩ : ∃ g, w1.heap.size = g := ⟨_, rfl⟩
  obtain ⟨sp, hsp⟩ : ∃ sp, g + 1 = sp := ⟨_, rfl⟩
  rw [hgd, hsp]
  obtain ⟨wB, hwB⟩ : ∃ wB : World, wB = ((w1.alloc (.cells (madeCells #[.map none, .int .i64 0, .int .i64 0, .int .i64 0] (n * 4)) 75)).alloc (.cells #[.pointer (some ⟨p, 0, none⟩), .slice (some ⟨g, 0, none⟩) n n] 72)) := ⟨_, rfl⟩
  rw [← hwB]
  have HKB := Lib.hid (show Kp (fun _ => False) w1 wB by rw [hwB]; exact ((Kp.refl _ w1).alloc _).alloc _)
  have HBs := Lib.hid (show Blk wB sp #[.pointer (some ⟨p, 0, none⟩), .slice (some ⟨g, 0, none⟩) n n] 72 by
    rw [hwB, ← hsp, ← hgd, ← World.size_alloc w1 (.cells (madeCells #[.map none, .int .i64 0, .int .i64 0, .int .i64 0] (n * 4)) 75)]; exact Blk.new _ _ _)
  have HR0 := Lib.hid (show RowsW wB g n 0 (fun _ => 0) (rowF2 C) (rowB C pr) from ⟨by rw [hwB, ← made_rows, ← hgd]; exact (Blk.new w1 _ _).alloc _, fun t ht => absurd ht (Nat.not_lt_zero t), fun t ht => absurd ht (Nat.not_lt_zero t)⟩)
  have HGd := Lib.hid (show w1.heap.size = g ∧ sp ≠ g from ⟨hgd, by omega⟩)
  have hs1' := HBs.out.cell (i := 1) (v := .slice (some ⟨g, 0, none⟩) n n) rfl
  clear hwB hgd hsp hmk wn HLa HIn
  go_wp2_with fail
  go_loopw [9, 40] (fun v9 v40 wr => ∃ (k : Nat) (mb : Nat → Nat), v40 = .int .i64 (k : Int) ∧ k ≤ n ∧ RowsW wr g n k mb (rowF2 C) (rowB C pr) ∧ Kp (fun j => j = g) wB wr) (fun _ v40 _ => n - (intOf v40).toNat)
  case atStart => exact ⟨0, _, rfl, Nat.zero_le _, HR0.out, Kp.refl _ _⟩
  case round =>
    clear HR0 hs1'
    obtain ⟨k, mb, rfl, hk, hRw, hK⟩ := hrel
    have HRw := Lib.hid hRw
    have HK := Lib.hid hK
    have hBp := HBs.out.kp hK (fun e => HGd.out.2 e)
    have HBp := Lib.hid hBp
    have hs1 := hBp.cell (i := 1) (v := .slice (some ⟨g, 0, none⟩) n n) rfl
    have hs0 := hBp.cell (i := 0) (v := .pointer (some ⟨p, 0, none⟩)) rfl
    have hgw := HGd.out.1
    have hKw : Kp (fun _ => False) w1 wr := HKB.out.ofNew hK (fun j e => by omega)
    have HKw := Lib.hid hKw
    have HMp := Lib.hid (HM.out.kp hKw)
    clear hRw hK hBp hKw hgw
    obtain ⟨wp, rfl⟩ : ∃ wp : World, wp = wr := ⟨_, rfl⟩
    by_cases hlt : k < n
    · have k0 : (0 : Int) ≤ (k : Int) := by omega
      have k1 : (k : Int) < (n : Int) := by omega
      have HRwk := Lib.hid (fun u (hu : Kp (fun _ => False) wp u) => (ex_row (HMp.out.kp hu) HF.out HG.out (hu.cellAt2 hs0) hl hi k (by have := HNn.out; unfold nS at this; omega) pr).mono (R' := fun e w' => ∃ v, e = .returned v ∧ Kp (fun _ => False) u w' ∧ RowVV C pr wp.heap.size k w' v) (by
        rintro e w' ⟨⟨b, q, rfl, h1, h2, h3⟩, h4⟩
        exact ⟨_, rfl, h4, b, q, rfl, h1, Nat.le_trans hu.size h2, h3⟩))
      clear hs0
      go_upto_region 10 with fail
      refine wp_region_loose (p := upTo 10) (V := atV [EqV ((.pointer (some ⟨sp, 0, none⟩))), EqV (.pointer (some ⟨sp, 0, none⟩)), EqV (.pointer (some ⟨sp, 1, none⟩)), EqV (.slice (some ⟨g, 0, none⟩) n n), EqV ((.int .i64 (k : Int))), EqV ((.pointer (some ⟨sp, 0, none⟩))), EqV ((.int .i64 (k : Int))), EqV ((.int .i64 pr)), RowVV C pr wp.heap.size k, EqV (.pointer (some ⟨g, k * 4, none⟩))]) (LP := #[true, true, true, true, true, true, true, true, true, true, false]) (K := 1) (by kernel_rfl) (by kernel_rfl) (atV_st ?hstN10) ?hstepN10 (by kernel_rfl) ?hLPN10 (by kernel_rfl) ?hendN10
      case hstN10 =>
        intro W h
        simp only [List.mem_cons, List.not_mem_nil, or_false] at h
        rcases h with rfl | rfl | rfl | rfl | rfl | rfl | rfl | rfl | rfl | rfl <;> first | exact EqV.st _ | exact RowVV.st _ _ _ _
      case hLPN10 => exact upTo_spec (by kernel_rfl)
      case hstepN10 =>
        intro i o ho hp a u hk hoff hdep
        have e1 : a.tmps[1]?.getD undef = (.int .i64 pr) := slot_at (hoff 1 (noDst_spec (by kernel_rfl)))
        have e8 : a.tmps[8]?.getD undef = (.pointer (some ⟨sp, 0, none⟩)) := slot_at (hoff 8 (noDst_spec (by kernel_rfl)))
        have e9 : a.tmps[9]?.getD undef = (.int .i64 (k : Int)) := slot_at (hoff 9 (noDst_spec (by kernel_rfl)))
        clear hoff
        match i, ho with
        | 0, ho =>
          obtain rfl := Option.some.inj ho
          refine lw_value (v := (.pointer (some ⟨sp, 0, none⟩))) (u' := u) ?_ (Kp.refl _ _) rfl
          go_simp
        | 1, ho =>
          obtain rfl := Option.some.inj ho
          have e43 : a.tmps[43]?.getD undef = (.pointer (some ⟨sp, 0, none⟩)) := slot_at (hdep ⟨0, .data⟩ (by simp) rfl _ 43 rfl rfl)
          refine lw_value (v := .pointer (some ⟨sp, 0, none⟩)) (u' := u) ?_ (Kp.refl _ _) rfl
          go_simp
        | 2, ho =>
          obtain rfl := Option.some.inj ho
          have e44 : a.tmps[44]?.getD undef = .pointer (some ⟨sp, 0, none⟩) := slot_at (hdep ⟨1, .data⟩ (by simp) rfl _ 44 rfl rfl)
          refine lw_value (v := .pointer (some ⟨sp, 1, none⟩)) (u' := u) ?_ (Kp.refl _ _) rfl
          go_simp
        | 3, ho =>
          obtain rfl := Option.some.inj ho
          have e45 : a.tmps[45]?.getD undef = .pointer (some ⟨sp, 1, none⟩) := slot_at (hdep ⟨2, .data⟩ (by simp) rfl _ 45 rfl rfl)
          have c1 := hk.cellAt2 hs1
          refine lw_value (v := .slice (some ⟨g, 0, none⟩) n n) (u' := u) ?_ (Kp.refl _ _) rfl
          go_simp
        | 4, ho =>
          obtain rfl := Option.some.inj ho
          refine lw_value (v := (.int .i64 (k : Int))) (u' := u) ?_ (Kp.refl _ _) rfl
          go_simp
        | 5, ho =>
          obtain rfl := Option.some.inj ho
          refine lw_value (v := (.pointer (some ⟨sp, 0, none⟩))) (u' := u) ?_ (Kp.refl _ _) rfl
          go_simp
        | 6, ho =>
          obtain rfl := Option.some.inj ho
          refine lw_value (v := (.int .i64 (k : Int))) (u' := u) ?_ (Kp.refl _ _) rfl
          go_simp
        | 7, ho =>
          obtain rfl := Option.some.inj ho
          refine lw_value (v := (.int .i64 pr)) (u' := u) ?_ (Kp.refl _ _) rfl
          go_simp
        | 8, ho =>
          obtain rfl := Option.some.inj ho
          have e48 : a.tmps[48]?.getD undef = (.pointer (some ⟨sp, 0, none⟩)) := slot_at (hdep ⟨5, .data⟩ (by simp) rfl _ 48 rfl rfl)
          have e49 : a.tmps[49]?.getD undef = (.int .i64 (k : Int)) := slot_at (hdep ⟨6, .data⟩ (by simp) rfl _ 49 rfl rfl)
          have e50 : a.tmps[50]?.getD undef = (.int .i64 pr) := slot_at (hdep ⟨7, .data⟩ (by simp) rfl _ 50 rfl rfl)
          refine lw_call (f := 36) (args := #[.pointer (some ⟨sp, 0, none⟩), .int .i64 (k : Int), .int .i64 pr]) ?_ ?_
          · go_simp
          · exact HRwk.out u hk
        | 9, ho =>
          obtain rfl := Option.some.inj ho
          have e46 : a.tmps[46]?.getD undef = .slice (some ⟨g, 0, none⟩) n n := slot_at (hdep ⟨3, .data⟩ (by simp) rfl _ 46 rfl rfl)
          have e47 : a.tmps[47]?.getD undef = (.int .i64 (k : Int)) := slot_at (hdep ⟨4, .data⟩ (by simp) rfl _ 47 rfl rfl)
          refine lw_value (v := .pointer (some ⟨g, k * 4, none⟩)) (u' := u) ?_ (Kp.refl _ _) rfl
          go_simp
        | n + 10, _ => exact absurd hp (by simp [upTo])
      case hendN10 =>
        intro a u hI
        have hsz : a.tmps.size = 59 := hI.size
        have hdf : a.defers = [] := hI.defers
        have f0 : a.tmps.getD 0 undef = _ := hI.off 0 (noDst_spec (p := upTo 10) (by kernel_rfl))
        have f1 : a.tmps.getD 1 undef = _ := hI.off 1 (noDst_spec (p := upTo 10) (by kernel_rfl))
        have f2 : a.tmps.getD 2 undef = _ := hI.off 2 (noDst_spec (p := upTo 10) (by kernel_rfl))
        have f3 : a.tmps.getD 3 undef = _ := hI.off 3 (noDst_spec (p := upTo 10) (by kernel_rfl))
        have f4 : a.tmps.getD 4 undef = _ := hI.off 4 (noDst_spec (p := upTo 10) (by kernel_rfl))
        have f5 : a.tmps.getD 5 undef = _ := hI.off 5 (noDst_spec (p := upTo 10) (by kernel_rfl))
        have f6 : a.tmps.getD 6 undef = _ := hI.off 6 (noDst_spec (p := upTo 10) (by kernel_rfl))
        have f7 : a.tmps.getD 7 undef = _ := hI.off 7 (noDst_spec (p := upTo 10) (by kernel_rfl))
        have f8 : a.tmps.getD 8 undef = _ := hI.off 8 (noDst_spec (p := upTo 10) (by kernel_rfl))
        have f9 : a.tmps.getD 9 undef = _ := hI.off 9 (noDst_spec (p := upTo 10) (by kernel_rfl))
        have f10 : a.tmps.getD 10 undef = _ := hI.off 10 (noDst_spec (p := upTo 10) (by kernel_rfl))
        have f11 : a.tmps.getD 11 undef = _ := hI.off 11 (noDst_spec (p := upTo 10) (by kernel_rfl))
        have f12 : a.tmps.getD 12 undef = _ := hI.off 12 (noDst_spec (p := upTo 10) (by kernel_rfl))
        have f13 : a.tmps.getD 13 undef = _ := hI.off 13 (noDst_spec (p := upTo 10) (by kernel_rfl))
        have f14 : a.tmps.getD 14 undef = _ := hI.off 14 (noDst_spec (p := upTo 10) (by kernel_rfl))
        have f15 : a.tmps.getD 15 undef = _ := hI.off 15 (noDst_spec (p := upTo 10) (by kernel_rfl))
        have f16 : a.tmps.getD 16 undef = _ := hI.off 16 (noDst_spec (p := upTo 10) (by kernel_rfl))
        have f17 : a.tmps.getD 17 undef = _ := hI.off 17 (noDst_spec (p := upTo 10) (by kernel_rfl))
        have f18 : a.tmps.getD 18 undef = _ := hI.off 18 (noDst_spec (p := upTo 10) (by kernel_rfl))
        have f19 : a.tmps.getD 19 undef = _ := hI.off 19 (noDst_spec (p := upTo 10) (by kernel_rfl))
        have f20 : a.tmps.getD 20 undef = _ := hI.off 20 (noDst_spec (p := upTo 10) (by kernel_rfl))
        have f21 : a.tmps.getD 21 undef = _ := hI.off 21 (noDst_spec (p := upTo 10) (by kernel_rfl))
        have f22 : a.tmps.getD 22 undef = _ := hI.off 22 (noDst_spec (p := upTo 10) (by kernel_rfl))
        have f23 : a.tmps.getD 23 undef = _ := hI.off 23 (noDst_spec (p := upTo 10) (by kernel_rfl))
        have f24 : a.tmps.getD 24 undef = _ := hI.off 24 (noDst_spec (p := upTo 10) (by kernel_rfl))
        have f25 : a.tmps.getD 25 undef = _ := hI.off 25 (noDst_spec (p := upTo 10) (by kernel_rfl))
        have f26 : a.tmps.getD 26 undef = _ := hI.off 26 (noDst_spec (p := upTo 10) (by kernel_rfl))
        have f27 : a.tmps.getD 27 undef = _ := hI.off 27 (noDst_spec (p := upTo 10) (by kernel_rfl))
        have f28 : a.tmps.getD 28 undef = _ := hI.off 28 (noDst_spec (p := upTo 10) (by kernel_rfl))
        have f29 : a.tmps.getD 29 undef = _ := hI.off 29 (noDst_spec (p := upTo 10) (by kernel_rfl))
        have f30 : a.tmps.getD 30 undef = _ := hI.off 30 (noDst_spec (p := upTo 10) (by kernel_rfl))
        have f31 : a.tmps.getD 31 undef = _ := hI.off 31 (noDst_spec (p := upTo 10) (by kernel_rfl))
        have f32 : a.tmps.getD 32 undef = _ := hI.off 32 (noDst_spec (p := upTo 10) (by kernel_rfl))
        have f33 : a.tmps.getD 33 undef = _ := hI.off 33 (noDst_spec (p := upTo 10) (by kernel_rfl))
        have f34 : a.tmps.getD 34 undef = _ := hI.off 34 (noDst_spec (p := upTo 10) (by kernel_rfl))
        have f35 : a.tmps.getD 35 undef = _ := hI.off 35 (noDst_spec (p := upTo 10) (by kernel_rfl))
        have f36 : a.tmps.getD 36 undef = _ := hI.off 36 (noDst_spec (p := upTo 10) (by kernel_rfl))
        have f37 : a.tmps.getD 37 undef = _ := hI.off 37 (noDst_spec (p := upTo 10) (by kernel_rfl))
        have f38 : a.tmps.getD 38 undef = _ := hI.off 38 (noDst_spec (p := upTo 10) (by kernel_rfl))
        have f39 : a.tmps.getD 39 undef = _ := hI.off 39 (noDst_spec (p := upTo 10) (by kernel_rfl))
        have f40 : a.tmps.getD 40 undef = _ := hI.off 40 (noDst_spec (p := upTo 10) (by kernel_rfl))
        have f41 : a.tmps.getD 41 undef = _ := hI.off 41 (noDst_spec (p := upTo 10) (by kernel_rfl))
        have f42 : a.tmps.getD 42 undef = _ := hI.off 42 (noDst_spec (p := upTo 10) (by kernel_rfl))
        have f53 : a.tmps.getD 53 undef = _ := hI.off 53 (noDst_spec (p := upTo 10) (by kernel_rfl))
        have f54 : a.tmps.getD 54 undef = _ := hI.off 54 (noDst_spec (p := upTo 10) (by kernel_rfl))
        have f55 : a.tmps.getD 55 undef = _ := hI.off 55 (noDst_spec (p := upTo 10) (by kernel_rfl))
        have f56 : a.tmps.getD 56 undef = _ := hI.off 56 (noDst_spec (p := upTo 10) (by kernel_rfl))
        have f57 : a.tmps.getD 57 undef = _ := hI.off 57 (noDst_spec (p := upTo 10) (by kernel_rfl))
        have f58 : a.tmps.getD 58 undef = _ := hI.off 58 (noDst_spec (p := upTo 10) (by kernel_rfl))
        have f43 : a.tmps.getD 43 undef = (.pointer (some ⟨sp, 0, none⟩)) := hI.val 0 _ 43 rfl rfl rfl
        have f44 : a.tmps.getD 44 undef = .pointer (some ⟨sp, 0, none⟩) := hI.val 1 _ 44 rfl rfl rfl
        have f45 : a.tmps.getD 45 undef = .pointer (some ⟨sp, 1, none⟩) := hI.val 2 _ 45 rfl rfl rfl
        have f46 : a.tmps.getD 46 undef = .slice (some ⟨g, 0, none⟩) n n := hI.val 3 _ 46 rfl rfl rfl
        have f47 : a.tmps.getD 47 undef = (.int .i64 (k : Int)) := hI.val 4 _ 47 rfl rfl rfl
        have f48 : a.tmps.getD 48 undef = (.pointer (some ⟨sp, 0, none⟩)) := hI.val 5 _ 48 rfl rfl rfl
        have f49 : a.tmps.getD 49 undef = (.int .i64 (k : Int)) := hI.val 6 _ 49 rfl rfl rfl
        have f50 : a.tmps.getD 50 undef = (.int .i64 pr) := hI.val 7 _ 50 rfl rfl rfl
        have g51 : (RowVV C pr wp.heap.size k) u (a.tmps.getD 51 undef) := hI.val 8 _ 51 rfl rfl rfl
        have f52 : a.tmps.getD 52 undef = .pointer (some ⟨g, k * 4, none⟩) := hI.val 9 _ 52 rfl rfl rfl
        have ha : a = ⟨#[a.tmps.getD 0 undef, a.tmps.getD 1 undef, a.tmps.getD 2 undef, a.tmps.getD 3 undef, a.tmps.getD 4 undef, a.tmps.getD 5 undef, a.tmps.getD 6 undef, a.tmps.getD 7 undef, a.tmps.getD 8 undef, a.tmps.getD 9 undef, a.tmps.getD 10 undef, a.tmps.getD 11 undef, a.tmps.getD 12 undef, a.tmps.getD 13 undef, a.tmps.getD 14 undef, a.tmps.getD 15 undef, a.tmps.getD 16 undef, a.tmps.getD 17 undef, a.tmps.getD 18 undef, a.tmps.getD 19 undef, a.tmps.getD 20 undef, a.tmps.getD 21 undef, a.tmps.getD 22 undef, a.tmps.getD 23 undef, a.tmps.getD 24 undef, a.tmps.getD 25 undef, a.tmps.getD 26 undef, a.tmps.getD 27 undef, a.tmps.getD 28 undef, a.tmps.getD 29 undef, a.tmps.getD 30 undef, a.tmps.getD 31 undef, a.tmps.getD 32 undef, a.tmps.getD 33 undef, a.tmps.getD 34 undef, a.tmps.getD 35 undef, a.tmps.getD 36 undef, a.tmps.getD 37 undef, a.tmps.getD 38 undef, a.tmps.getD 39 undef, a.tmps.getD 40 undef, a.tmps.getD 41 undef, a.tmps.getD 42 undef, a.tmps.getD 43 undef, a.tmps.getD 44 undef, a.tmps.getD 45 undef, a.tmps.getD 46 undef, a.tmps.getD 47 undef, a.tmps.getD 48 undef, a.tmps.getD 49 undef, a.tmps.getD 50 undef, a.tmps.getD 51 undef, a.tmps.getD 52 undef, a.tmps.getD 53 undef, a.tmps.getD 54 undef, a.tmps.getD 55 undef, a.tmps.getD 56 undef, a.tmps.getD 57 undef, a.tmps.getD 58 undef], a.defers⟩ := act_list a 59 hsz
        rw [hdf, f0, f1, f2, f3, f4, f5, f6, f7, f8, f9, f10, f11, f12, f13, f14, f15, f16, f17, f18, f19, f20, f21, f22, f23, f24, f25, f26, f27, f28, f29, f30, f31, f32, f33, f34, f35, f36, f37, f38, f39, f40, f41, f42, f43, f44, f45, f46, f47, f48, f49, f50, f52, f53, f54, f55, f56, f57, f58] at ha
        obtain ⟨x51, hx51⟩ : ∃ x, a.tmps.getD 51 undef = x := ⟨_, rfl⟩
        rw [hx51] at ha
        rw [hx51] at g51
        have hku := hI.kp
        clear hI hsz hdf f0 f1 f2 f3 f4 f5 f6 f7 f8 f9 f10 f11 f12 f13 f14 f15 f16 f17 f18 f19 f20 f21 f22 f23 f24 f25 f26 f27 f28 f29 f30 f31 f32 f33 f34 f35 f36 f37 f38 f39 f40 f41 f42 f43 f44 f45 f46 f47 f48 f49 f50 f52 f53 f54 f55 f56 f57 f58 hx51
        subst ha
        refine wpAny_tail 10 rfl (by kernel_rfl) ?_
        simp only [List.drop_succ_cons, List.drop_zero]
        obtain ⟨b, q, rfl, hI, hb, hq⟩ := g51
        have HRu := Lib.hid (HRw.out.kp hku)
        have HIu := Lib.hid hI
        have hglt := HRw.out.blk.lt
        have HP := Lib.hid (HRu.out.put HIu.out hq (by omega))
        have HKu := Lib.hid (HK.out.trans (hku.mono (T := fun j => j = g) (fun _ _ h => h.elim)) (fun _ _ h => h))
        have y0 : u.cell? ⟨g, k * 4, none⟩ = _ := HRu.out.blk.cell (rowC_at (by omega))
        have y1 : u.cell? ⟨g, k * 4 + 1, none⟩ = _ := HRu.out.blk.cell (rowC_at (by omega))
        have y2 : u.cell? ⟨g, k * 4 + 2, none⟩ = _ := HRu.out.blk.cell (rowC_at (by omega))
        have y3 : u.cell? ⟨g, k * 4 + 3, none⟩ = _ := HRu.out.blk.cell (rowC_at (by omega))
        have f0 := HRu.out.blk.free (k * 4)
        have f1 := HRu.out.blk.free (k * 4 + 1)
        have f2 := HRu.out.blk.free (k * 4 + 2)
        have f3 := HRu.out.blk.free (k * 4 + 3)
        clear hku hI HRw HK
        simp only [Array.getD_eq_getD_getElem?, List.getElem?_toArray, List.getElem?_cons_zero, List.getElem?_cons_succ, Option.getD_some]
        go_wp2_with fail
        go_roundw
        case rel =>
          exact ⟨k + 1, _, by go_num, by omega, HP.out, HKu.out.trans (Kp.set4 u g (k * 4) _ _ _ _) (fun _ _ h => h)⟩
        case measure => simp [intOf]; omega
    · obtain hk' : k = n := by omega
      subst hk'
      have k1 : ¬ (k : Int) < (k : Int) := by omega
      have hn2 : k = 2 ^ C.lats.length := by rw [← HNn.out]; rfl
      have hFr : ∀ t, t < k → ∀ u i, rowF2 C t u = some i → ∃ v : Nat, u = (v : Int) ∧ v < k := fun t ht u i h => by
        have := rowF2_lt h
        rw [← hn2] at this
        exact this
      have hpg : g ≠ p := by have := HM.out.blk.lt; have := HGd.out.1; omega
      have HFw := Lib.hid (ex_forwards HMp.out HF.out HG.out hl hn2 hs0 hs1 HRw.out.done hFr hpg (fun e => HGd.out.2 e.symm) (fun w2 hk => HM.out.kp (HKw.out.ofNew hk (fun j e => by have := HGd.out.1; omega))))
      have HBw := Lib.hid (fun (u : World) (R : Nat → Int) (hu : Kp (fun j => j = g) wp u) (hR : RowsS u g k mb (rowF2 C) (rowB C pr) R (fun _ => -1)) => ex_backwards (Rc := R) hn9 hn1 ((HBp.out.kp hu (fun e => HGd.out.2 e)).cell (i := 1) (v := .slice (some ⟨g, 0, none⟩) k k) rfl) hR hFr (fun e => HGd.out.2 e.symm))
      clear hs0 hs1 hFr hpg
      go_upto_region 13 with (go_at_call 37; refine Calls.mono HFw.out ?_; rintro e w2 ⟨rfl, hR2, hK2⟩; have HBk := Lib.hid (HBw.out w2 _ hK2 hR2); have HK2 := Lib.hid hK2; clear hR2 hK2)
      go_wp2_with (go_at_call 38; refine Calls.mono HBk.out ?_; rintro e w3 ⟨rfl, hR3, hK3⟩; have HR3 := Lib.hid hR3; have HK3 := Lib.hid (HK2.out.trans hK3 (fun _ _ h => h)); clear hR3 hK3)
      go_ret2
      have hkk : Kp (fun _ => False) w1 w3 := HKw.out.ofNew HK3.out (fun j e => by have := HGd.out.1; omega)
      have hBe := HBp.out.kp HK3.out (fun e => HGd.out.2 e)
      have hnk := HNn.out
      subst hnk
      exact ⟨sp, rfl, ⟨V', p, g, _, mb, a4, a5, c4, c5, HM.out.kp hkk, hBe.cell (i := 0) rfl, hBe.cell (i := 1) rfl, HR3.out⟩, HK1.out.trans hkk (fun _ _ h => h)⟩

end Go.Proofs.YtnoknecfdnjomaaGreat

/-
  latchetref02.Ints: whether two lists of ints are one.
-/
namespace Go.Proofs.YtnoknecfdnjomaaGreat
open Go.RowKit

theorem ints_ext {l l' : List Int} (hl : l.length = l'.length) (h : ∀ j, j < l.length → gi l j = gi l' j) : l = l' := by
  apply List.ext_getElem?
  intro j
  by_cases hj : j < l.length
  · have := h j hj
    unfold gi at this
    rw [List.getElem?_eq_getElem hj, List.getElem?_eq_getElem (by omega)] at this ⊢
    simpa using this
  · rw [List.getElem?_eq_none (by omega), List.getElem?_eq_none (by omega)]

set_option maxHeartbeats 400000 in
theorem ref_Ints (a a' : Option Addr) (n n' cap cap' : Nat) (l l' : List Int) (w : World) (ha : IntsAt w a l) (ha' : IntsAt w a' l') (hl : l.length = n) (hl' : l'.length = n') (hn : n ≤ 9223372036854775807) :
    Calls Tryz.prog 19 #[.slice a n cap, .slice a' n' cap'] w fun e w' => e = .returned (.bool (l == l')) ∧ ∃ n, w' = w.drewN n := by
  have HL := Lib.hid hl; clear hl
  have HL' := Lib.hid hl'; clear hl'
  by_cases hne : n = n'
  · subst hne
    have b1 : ((n : Int) != (n : Int)) = false := by simp
    go_enter Tryz.func19, Tryz.ntmps19
    go_wp2
    go_loopw [5] (fun i wr => ∃ k m : Nat, k ≤ n ∧ i = .int .i64 k ∧ (∀ j, j < k → gi l j = gi l' j) ∧ wr = w.drewN m) (fun i _ => n - (intOf i).toNat)
    case atStart => exact ⟨0, 0, Nat.zero_le _, rfl, fun j hj => by omega, rfl⟩
    case round =>
      obtain ⟨k, m, hk, rfl, he, rfl⟩ := hrel
      have HE := Lib.hid he
      clear he
      by_cases hlt : k < n
      · obtain ⟨b, off, rfl, hc⟩ := ha.get (j := k) (by rw [HL.out]; exact hlt)
        obtain ⟨b', off', rfl, hc'⟩ := ha'.get (j := k) (by rw [HL'.out]; exact hlt)
        have i1 : (0 : Int) ≤ (k : Int) := by omega
        have i2 : (k : Int) < (n : Int) := by omega
        by_cases hq : gi l k = gi l' k
        · have q1 : (gi l k != gi l' k) = false := by simp [hq]
          have HQ := Lib.hid hq
          clear hq
          go_wp2
          go_quiet (fail)
          go_wp2
          go_roundw
          case rel =>
            refine ⟨k + 1, _, by omega, by go_num, fun j hj => ?_, rfl⟩
            by_cases e : j = k
            · subst e; exact HQ.out
            · exact HE.out j (by omega)
          case measure => simp [intOf]; omega
        · have q1 : (gi l k != gi l' k) = true := by simp [hq]
          have HQ := Lib.hid hq
          clear hq
          go_wp2
          go_quiet (fail)
          go_wp2
          go_ret
          have e : (l == l') = false := by
            rw [beq_eq_false_iff_ne]
            intro e
            exact HQ.out (by rw [e])
          rw [e]
          exact ⟨rfl, _, World.drewN_drewN ..⟩
      · go_wp2
        go_ret
        have e : (l == l') = true := by
          rw [beq_iff_eq]
          exact ints_ext (by rw [HL.out, HL'.out]) (fun j hj => HE.out j (by rw [HL.out] at hj; omega))
        rw [e]
        exact ⟨rfl, _, rfl⟩
  · have b1 : ((n : Int) != (n' : Int)) = true := by simp; omega
    have e : Hid ((l == l') = false) := by
      show _ = _
      rw [beq_eq_false_iff_ne]
      intro e
      exact hne (by rw [← HL.out, ← HL'.out, e])
    clear hne
    go_enter Tryz.func19, Tryz.ntmps19
    go_wp2
    go_ret
    rw [e.out]
    exact ⟨rfl, 0, rfl⟩

end Go.Proofs.YtnoknecfdnjomaaGreat

/-
  latchetlaw43.lives.
-/
namespace Go.Proofs.YtnoknecfdnjomaaGreat
open Go.RowKit Go.Sort

section
variable {w : World} {C : Circ} {pr : Int} {sp : Nat}
theorem sp_States (h : SpcAt w C pr sp) : Calls Tryz.prog 14 #[.pointer (some ⟨sp, 0, none⟩)] w fun e w' => e = .returned (.int .i64 (nS C : Int)) ∧ w = w' := by
  obtain ⟨V, p, g, cg, mb, a4, a5, c4, c5, -, -, hs1, -⟩ := h
  exact ex_States hs1
theorem sp_Reached (h : SpcAt w C pr sp) (t : Int) : Calls Tryz.prog 17 #[.pointer (some ⟨sp, 0, none⟩), .int .i64 t] w fun e w' => e = .returned (.int .i64 (atS (nS C) (rchS C) t)) ∧ w = w' := by
  obtain ⟨V, p, g, cg, mb, a4, a5, c4, c5, -, -, hs1, hR⟩ := h
  exact ex_Reached hs1 hR t
theorem sp_Distance (h : SpcAt w C pr sp) (t : Int) : Calls Tryz.prog 18 #[.pointer (some ⟨sp, 0, none⟩), .int .i64 t] w fun e w' => e = .returned (.int .i64 (atS (nS C) (dstS C pr) t)) ∧ w = w' := by
  obtain ⟨V, p, g, cg, mb, a4, a5, c4, c5, -, -, hs1, hR⟩ := h
  exact ex_Distance hs1 hR t
theorem nS_le {C : Circ} (hl : C.lats.length ≤ 10) : nS C ≤ 1024 := Nat.pow_le_pow_right (n := 2) (by decide) hl
theorem sp_First (h : SpcAt w C pr sp) (hl : C.lats.length ≤ 10) : Calls Tryz.prog 15 #[.pointer (some ⟨sp, 0, none⟩)] w fun e w' => e = .returned (.int .i64 (atS (nS C) (dstS C pr) (beg (nS C) (rchS C) (dstS C pr)))) ∧ Kp (fun _ => False) w w' := by
  obtain ⟨V, p, g, cg, mb, a4, a5, c4, c5, -, -, hs1, hR⟩ := h
  exact ex_First hs1 hR (nS_le hl)
theorem sp_Step (h : SpcAt w C pr sp) (hl : C.lats.length ≤ 10) (t : Int) : Calls Tryz.prog 20 #[.pointer (some ⟨sp, 0, none⟩), .int .i64 t] w fun e w' => ∃ a c, e = .returned (.slice a (stepS (nS C) (rowF2 C) t).length c) ∧ IntsAt w' a (stepS (nS C) (rowF2 C) t) ∧ Kp (fun _ => False) w w' := by
  obtain ⟨V, p, g, cg, mb, a4, a5, c4, c5, -, -, hs1, hR⟩ := h
  refine (ex_Step hs1 hR (fun t _ u i h => rowF2_lt h) (nS_le hl) t).mono ?_
  rintro e w' ⟨v, rfl, hO, hK⟩
  obtain ⟨a, c, e, -, -, -, hr⟩ := hO.form
  rw [List.length_map] at e
  exact ⟨a, c, by rw [e], hr, hK⟩
end

/-- the example -/
def exT : Circ := ⟨1, [], [(2, 3, 0)], [], [2], [], []⟩
theorem exT_code : ckCode exT = 0 := by decide +kernel
theorem exT_few : CFew exT 1000000 := ⟨by decide, by decide, by decide, by decide, by decide, by decide⟩
theorem exT_n : nS exT = 2 := by decide +kernel
theorem exT_step : stepS 2 (rowF2 exT) 0 = [1] := by decide +kernel
theorem exT_first : atS 2 (dstS exT 0) (beg 2 (rchS exT) (dstS exT 0)) = 1 := by decide +kernel
def exTV (n : Nat) : CV := ⟨none, 0, some ⟨n, 0, none⟩, 1, none, 0, some ⟨n + 1, 0, none⟩, 1, none, 0, none, 0, none, 0, 0, ⟨#[]⟩⟩
theorem exTV_at {w : World} {n : Nat} (h : Blk w n #[.int .i64 2, .int .i64 3, .int .i64 0] 64) (h' : Blk w (n + 1) #[.int .i64 2] 3) : CAt w (exTV n) exT := by
  have hb : IntsAt w (some ⟨n + 1, 0, none⟩) [2] := by
    intro j v hj
    match j, hj with
    | 0, hj => exact ⟨n + 1, 0, rfl, by rw [← hj]; exact h'.cell (i := 0) rfl⟩
    | j + 1, hj => cases hj
  have hl : RowAt w (some ⟨n, 0, none⟩) ([((2 : Int), (3 : Int), (0 : Int))].map tri).flatten := by
    intro j v hj
    match j, hj with
    | 0, hj => exact ⟨n, 0, rfl, by rw [← hj]; exact h.cell (i := 0) rfl⟩
    | 1, hj => exact ⟨n, 0, rfl, by rw [← hj]; exact h.cell (i := 1) rfl⟩
    | 2, hj => exact ⟨n, 0, rfl, by rw [← hj]; exact h.cell (i := 2) rfl⟩
    | j + 3, hj => cases hj
  exact ⟨RowAt.nil _ _, hl, RowAt.nil _ _, hb, RowAt.nil _ _, RowAt.nil _ _,
    ⟨[], RowAt.nil _ _, rfl, (fun r h => by cases h), (fun r h => by cases h)⟩,
    ⟨Nat.le_refl _, (by simp [exTV, maxLen]), fun _ => rfl⟩, ⟨Nat.le_refl _, (by simp [exTV, maxLen]), (fun h => by cases h)⟩, ⟨Nat.le_refl _, (by simp [exTV, maxLen]), fun _ => rfl⟩, ⟨Nat.le_refl _, (by simp [exTV, maxLen]), (fun h => by cases h)⟩, ⟨Nat.le_refl _, (by simp [exTV, maxLen]), fun _ => rfl⟩, ⟨Nat.le_refl _, (by simp [exTV, maxLen]), fun _ => rfl⟩, ⟨Nat.le_refl _, (by simp [exTV, maxLen]), fun _ => rfl⟩⟩
def cxT (n : Nat) : Array Value := #[.int .i64 1, .slice none 0 0, .slice (some ⟨n, 0, none⟩) 1 1, .slice none 0 0, .slice (some ⟨n + 1, 0, none⟩) 1 1, .slice none 0 0, .slice none 0 0, .slice none 0 0, .string ⟨#[]⟩]
theorem cxT_eq (n : Nat) : cvals (exTV n) exT = cxT n := rfl

set_option maxRecDepth 100000 in
set_option maxHeartbeats 8000000 in
theorem law43_lives (w : World) : Calls Tryz.prog 6 #[] w fun e w' => e = .returned (.bool true) ∧ Kp (fun _ => False) w w' := by
  obtain ⟨wz, hwz⟩ : ∃ wz : World, wz = ((w.alloc (.cells #[.int .i64 2, .int .i64 3, .int .i64 0] 64)).alloc (.cells #[.int .i64 2] 3)) := ⟨_, rfl⟩
  have HK0 := Lib.hid (show Kp (fun _ => False) w wz by rw [hwz]; exact ((Kp.refl _ w).alloc _).alloc _)
  have hA : CAt wz (exTV w.heap.size) exT := exTV_at (by rw [hwz]; exact (Blk.new w _ _).alloc _) (by rw [hwz]; exact two_blk w _ _ _ _)
  have HN := Lib.hid (ex_New (exTV w.heap.size) exT wz hA exT_few (show 0 ≤ 1000000 by decide) (GoodC.of exT_code) (by decide) (by decide) 0)
  rw [cxT_eq] at HN
  unfold cxT at HN
  have HZ := Lib.hid hwz
  clear hwz hA
  go_enter Tryz.func6, Tryz.ntmps6
  go_upto_region 1 with fail
  go_upto_region 2 with (first
    | (rw [← HZ.out]; go_at_call 8; with_reducible refine Calls.mono HN.out ?_; rintro e w1 ⟨sp, rfl, hS, hK⟩; have HS := Lib.hid hS; have HK := Lib.hid (HK0.out.trans hK (fun _ _ h => h)); clear hS hK)
    | (go_at_call 8; with_reducible refine Calls.mono HN.out ?_; rintro e w1 ⟨sp, rfl, hS, hK⟩; have HS := Lib.hid hS; have HK := Lib.hid (HK0.out.trans hK (fun _ _ h => h)); clear hS hK))
  have HSt := Lib.hid (sp_States HS.out)
  have HSp := Lib.hid (sp_Step HS.out (by decide) 0)
  have HFi := Lib.hid (fun u (hu : Kp (fun _ => False) w1 u) => sp_First (HS.out.kp hu) (by decide))
  rw [exT_n] at HSt HSp HFi
  rw [exT_step] at HSp
  rw [exT_first] at HFi
  clear HN HZ
  go_wp2_with (first
    | (go_at_call 14; refine Calls.mono HSt.out ?_; rintro e w2 ⟨rfl, rfl⟩)
    | (go_at_call 20; refine Calls.mono HSp.out ?_; rintro e w3 ⟨a, c, rfl, hr, hK3⟩; have HK3 := Lib.hid hK3; have HR := Lib.hid hr; clear hr hK3)
    | (go_at_call 19; refine Calls.mono (ref_Ints _ _ _ _ _ _ [1] [1] _ (RowAt.kp HR.out ((Kp.refl (fun _ => False) w3).alloc _) (fun _ _ h => h)) ((Blk.new w3 #[.int .i64 1] 3).rowAt (n := 1) rfl) rfl rfl (by decide)) ?_; rintro e w4 ⟨rfl, q, rfl⟩; have HF4 := Lib.hid (HFi.out _ ((HK3.out.alloc (.cells #[.int .i64 1] 3)).drewN q)))
    | (go_at_call 15; refine Calls.mono HF4.out ?_; rintro e w5 ⟨rfl, hK5⟩; have HK5 := Lib.hid hK5; clear hK5))
  go_ret
  exact ⟨rfl, (HK.out.trans ((HK3.out.alloc _).drewN q) (fun _ _ h => h)).trans HK5.out (fun _ _ h => h)⟩

end Go.Proofs.YtnoknecfdnjomaaGreat

/-
  The run that is told breaks the property.
-/
namespace Go.Proofs.YtnoknecfdnjomaaGreat
open Go.RowKit

/-- the inputs of the run, from state s, in d steps and one more -/
def rowsG (C : Circ) (pr : Int) (s d : Nat) : List (List Bool) := (List.range (d + 1)).map (fun k => inN2 C (inpG (nS C) (rowF2 C) (rowB C pr) (dstS C pr) s d k).toNat)
theorem rowsG_at {C : Circ} {pr : Int} {s d k : Nat} (hk : k ≤ d) : (rowsG C pr s d)[k]? = some (inN2 C (inpG (nS C) (rowF2 C) (rowB C pr) (dstS C pr) s d k).toNat) := by
  unfold rowsG
  rw [List.getElem?_map, List.getElem?_range (by omega)]
  rfl
theorem rowsG_len {C : Circ} {pr : Int} {s d : Nat} : (rowsG C pr s d).length = d + 1 := by unfold rowsG; simp
theorem brought_self (l : List Bool) : brought l l.length = l := by
  unfold brought
  apply List.ext_getElem?
  intro i
  rw [List.getElem?_map]
  by_cases h : i < l.length
  · rw [List.getElem?_range h]
    simp [vb, h]
  · rw [List.getElem?_eq_none (by simp; omega), List.getElem?_eq_none (by omega)]; rfl
theorem stN_len (C : Circ) (t : Nat) : (stN C t).length = C.lats.length := bitsP_len _ _
theorem inN2_len (C : Circ) (t : Nat) : (inN2 C t).length = C.ins.length := bitsP_len _ _
theorem nearS (C : Circ) (pr : Int) : NearG (nS C) (rowF2 C) (bdS C pr) (dstS C pr) := near_dist
theorem stN_next {C : Circ} {t j u : Nat} (h : nxtN C t j = u) : nextM C (stN C t) (inN2 C j) = stN C u := by
  have := bitsP_num (nextM C (stN C t) (inN2 C j))
  rw [nextM_len] at this
  unfold stN
  rw [← h]
  exact this.symm

/-- each step of it -/
theorem inp_step {C : Circ} {pr : Int} {s d k : Nat} (hs : s < nS C) (hd : dstS C pr s = (d : Int)) (hk : k < d) :
    ∃ j : Nat, inpG (nS C) (rowF2 C) (rowB C pr) (dstS C pr) s d k = (j : Int) ∧ j < 2 ^ C.ins.length ∧ hldN C (chainG (nS C) (rowF2 C) (dstS C pr) s k) j = true ∧ nxtN C (chainG (nS C) (rowF2 C) (dstS C pr) s k) j = chainG (nS C) (rowF2 C) (dstS C pr) s (k + 1) := by
  have h1 := (nearS C pr).edge hs hd hk
  obtain ⟨i, hi⟩ := Option.isSome_iff_exists.1 h1
  obtain ⟨j, h2, h3, h4, h5⟩ := succK_some hi
  refine ⟨j, ?_, h3, h4, by omega⟩
  unfold inpG
  rw [if_pos hk, hi, h2]; rfl
theorem inp_last {C : Circ} {pr : Int} {s d : Nat} (hs : s < nS C) (hd : dstS C pr s = (d : Int)) :
    ∃ j : Nat, inpG (nS C) (rowF2 C) (rowB C pr) (dstS C pr) s d d = (j : Int) ∧ j < 2 ^ C.ins.length ∧ hldN C (chainG (nS C) (rowF2 C) (dstS C pr) s d) j = true ∧ bdN C pr (chainG (nS C) (rowF2 C) (dstS C pr) s d) j = true := by
  obtain ⟨h1, h2⟩ := (nearS C pr).chain hs hd d (Nat.le_refl _)
  have h3 := (nearS C pr).zero _ h1 (by omega)
  unfold bdS at h3
  simp only [decide_eq_true_eq] at h3
  unfold inpG
  rw [if_neg (Nat.lt_irrefl d)]
  rcases badK_cases (H := hldN C (chainG (nS C) (rowF2 C) (dstS C pr) s d)) (B := bdN C pr (chainG (nS C) (rowF2 C) (dstS C pr) s d)) (2 ^ C.ins.length) with ⟨q, -⟩ | ⟨j, q1, q2, q3, q4⟩
  · exact absurd q h3
  · exact ⟨j, q1, q2, q3, q4⟩
theorem run_state {C : Circ} {pr : Int} {s d : Nat} (hs : s < nS C) (hd : dstS C pr s = (d : Int)) : ∀ k, k ≤ d → stateM C (stN C s) (rowsG C pr s d) k = stN C (chainG (nS C) (rowF2 C) (dstS C pr) s k)
  | 0, _ => by
    have := brought_self (stN C s)
    rw [stN_len] at this
    exact this
  | k + 1, hk => by
    show nextM C (stateM C (stN C s) (rowsG C pr s d) k) ((rowsG C pr s d)[k]?.getD []) = _
    rw [run_state hs hd k (by omega), rowsG_at (by omega)]
    obtain ⟨j, h1, -, -, h4⟩ := inp_step hs hd (show k < d by omega)
    rw [h1]
    exact stN_next h4
theorem run_breaks {C : Circ} {pr : Int} {s d : Nat} (hs : s < nS C) (hst : stS C s = true) (hd : dstS C pr s = (d : Int)) : breaksM C (stN C s) (rowsG C pr s d) pr = true := by
  unfold breaksM
  rw [rowsG_len]
  simp only [Bool.and_eq_true, decide_eq_true_eq, List.all_eq_true, List.mem_range]
  refine ⟨⟨⟨hst, by omega⟩, fun k hk => ?_⟩, ?_⟩
  · rw [run_state hs hd k (by omega), rowsG_at (by omega)]
    refine ⟨inN2_len _ _, ?_⟩
    by_cases e : k = d
    · subst e
      obtain ⟨j, h1, -, h3, -⟩ := inp_last hs hd
      rw [h1]; exact h3
    · obtain ⟨j, h1, -, h3, -⟩ := inp_step hs hd (show k < d by omega)
      rw [h1]; exact h3
  · show badM C (stateM C (stN C s) (rowsG C pr s d) d) ((rowsG C pr s d)[d]?.getD []) pr = true
    rw [run_state hs hd d (Nat.le_refl _), rowsG_at (Nat.le_refl _)]
    obtain ⟨j, h1, -, -, h4⟩ := inp_last hs hd
    rw [h1]; exact h4

/-- First is the least step in which it can break, and the least sum -/
theorem rch_zero {C : Circ} {t : Nat} : decide (rchS C t = 0) = stS C t := by
  unfold rchS
  have h0 : distG (nS C) (stS C) (edS C) 0 t = if stS C t = true then 0 else -1 := rfl
  by_cases h : stS C t = true
  · rw [distG_le (m := 0) (k := nS C) (by rw [h0, if_pos h]; decide) (Nat.zero_le _), h0, if_pos h, h]; rfl
  · have e : ¬ distG (nS C) (stS C) (edS C) (nS C) t = 0 := fun q => by
      have := distG_at (k := 0) (m := nS C) q (Nat.zero_le _)
      rw [h0, if_neg h] at this
      exact absurd this (by decide)
    rw [decide_eq_false e]
    cases h2 : stS C t
    · rfl
    · exact absurd h2 h

end Go.Proofs.YtnoknecfdnjomaaGreat

/-
  The law of loose regions once more, where the last operations wait for the others by longer ways.
-/
namespace Go.Proofs.YtnoknecfdnjomaaGreat
open Go Go.RowKit

/-- how the operations hang together: those of p come first -/
structure LooseOKD (ops : Array Oper) (p : Nat → Bool) (N : Nat) : Prop where
  ng : ∀ (i : Nat) (o : Oper), ops[i]? = some o → o.guard = none
  low : ∀ (i : Nat) (o : Oper), ops[i]? = some o → p i = true → ∀ e ∈ o.after, Region.binds .any e = true → e.on < i ∧ p e.on = true
  dst : ∀ (i : Nat) (o : Oper), ops[i]? = some o → p i = true → ∃ d, o.dst = some d ∧ d < N
  inj : ∀ (i j : Nat) (o o' : Oper), ops[i]? = some o → ops[j]? = some o' → p i = true → p j = true → o.dst = o'.dst → i = j
  bar : ∀ (i : Nat) (o : Oper), ops[i]? = some o → p i = false → ∀ j, j < ops.size → p j = true → j ∈ clo ops 16 (edgesOf ops i)

def looseBD (ops : Array Oper) (p : Nat → Bool) (N : Nat) : Bool :=
  (List.range ops.size).all fun i => match ops[i]? with
    | none => true
    | some o => o.guard.isNone && (if p i then
        o.after.all (fun e => !Region.binds .any e || (decide (e.on < i) && p e.on)) &&
          (match o.dst with
            | none => false
            | some d => decide (d < N) && (List.range ops.size).all (fun j => !p j || decide (j = i) || (match ops[j]? with | none => true | some o' => decide (o'.dst ≠ some d))))
      else (List.range ops.size).all (fun j => !p j || (clo ops 16 (edgesOf ops i)).contains j))

theorem looseB_specD {ops : Array Oper} {p : Nat → Bool} {N : Nat} (h : looseBD ops p N = true) : LooseOKD ops p N := by
  unfold looseBD at h
  rw [List.all_eq_true] at h
  have get : ∀ (i : Nat) (o : Oper), ops[i]? = some o → o.guard.isNone = true ∧ (if p i then
        o.after.all (fun e => !Region.binds .any e || (decide (e.on < i) && p e.on)) &&
          (match o.dst with
            | none => false
            | some d => decide (d < N) && (List.range ops.size).all (fun j => !p j || decide (j = i) || (match ops[j]? with | none => true | some o' => decide (o'.dst ≠ some d))))
      else (List.range ops.size).all (fun j => !p j || (clo ops 16 (edgesOf ops i)).contains j)) = true := fun i o ho => by
    have hi : i < ops.size := (Array.getElem?_eq_some_iff.1 ho).1
    have := h i (List.mem_range.2 hi)
    simp only [ho, Bool.and_eq_true] at this
    exact this
  refine ⟨fun i o ho => ?_, fun i o ho hp e he hb => ?_, fun i o ho hp => ?_, fun i j o o' ho ho' hp hp' hd => ?_, fun i o ho hp j hj hpj => ?_⟩
  · have := (get i o ho).1
    simpa using this
  · have := (get i o ho).2
    rw [if_pos hp, Bool.and_eq_true] at this
    have h1 := this.1
    rw [Array.all_eq_true_iff_forall_mem] at h1
    have h2 := h1 e he
    rw [hb] at h2
    simpa using h2
  · have := (get i o ho).2
    rw [if_pos hp, Bool.and_eq_true] at this
    have h1 := this.2
    cases hd : o.dst with
    | none => rw [hd] at h1; cases h1
    | some d =>
      rw [hd] at h1
      simp only [Bool.and_eq_true, decide_eq_true_eq] at h1
      exact ⟨d, rfl, h1.1⟩
  · have := (get i o ho).2
    rw [if_pos hp, Bool.and_eq_true] at this
    have h1 := this.2
    cases hdd : o.dst with
    | none => rw [hdd] at h1; cases h1
    | some d =>
      rw [hdd] at h1
      simp only [Bool.and_eq_true] at h1
      have h2 := h1.2
      rw [List.all_eq_true] at h2
      have h3 := h2 j (List.mem_range.2 (Array.getElem?_eq_some_iff.1 ho').1)
      rw [hp', ho'] at h3
      simp only [Bool.not_true, Bool.false_or, Bool.or_eq_true, decide_eq_true_eq] at h3
      rcases h3 with h3 | h3
      · exact h3.symm
      · exact absurd (hd.symm.trans hdd) h3
  · have := (get i o ho).2
    rw [if_neg (by simp [hp]), List.all_eq_true] at this
    have h1 := this j (List.mem_range.2 hj)
    rw [hpj, Bool.not_true, Bool.false_or] at h1
    simpa using h1


theorem wpAny_looseD {P : Program} {ops : Array Oper} {Q : Exit → Act → World → Prop} {p : Nat → Bool} {V : Nat → World → Value → Prop} {w0 : World} {a0 : Act} {LP : Array Bool} (L : LooseOKD ops p a0.tmps.size)
    (stable : ∀ i u u' v, Kp (fun _ => False) u u' → V i u v → V i u' v)
    (hstep : ∀ (i : Nat) (o : Oper), ops[i]? = some o → p i = true → ∀ a u, Kp (fun _ => False) w0 u →
      (∀ s, (∀ (j : Nat) (oj : Oper), ops[j]? = some oj → p j = true → oj.dst ≠ some s) → a.tmps.getD s undef = a0.tmps.getD s undef) →
      (∀ e ∈ o.after, Region.binds .any e = true → ∀ (oj : Oper) (d : Nat), ops[e.on]? = some oj → oj.dst = some d → V e.on u (a.tmps.getD d undef)) →
      o.wp P a u (fun a' u' => ∃ v, a' = a.put o.dst v ∧ Kp (fun _ => False) u u' ∧ V i u' v) Q)
    (hLs : LP.size = ops.size) (hLP : ∀ i, i < ops.size → LP.getD i false = p i)
    (hend : ∀ a u, LInv ops V w0 a0 (fun i => p i = true) a u → wpAny P .any ops Q (cntU ops.size LP) LP a u) :
    ∀ (fuel : Nat) (listed : Array Bool) (a : Act) (u : World), listed.size = ops.size → fuel = cntU ops.size listed → (∀ i, i < ops.size → listed.getD i false = true → p i = true) → (∀ j, listed.getD j false = true → ∀ k, k ∈ edgesOf ops j → listed.getD k false = true) →
      LInv ops V w0 a0 (fun i => listed.getD i false = true) a u → wpAny P .any ops Q fuel listed a u := by
  intro fuel
  induction fuel with
  | zero =>
    intro listed a u hs hf hl hcl hI
    have hall : ∀ i, i < ops.size → listed.getD i false = true := fun i hi => by
      by_cases h : listed.getD i false = true
      · exact h
      · have := cntU_set (listed := listed) (by omega) (by simpa using h) ops.size hi
        omega
    have e : listed = LP := listed_ext (by omega) (fun i hi => by
      rw [hall i (by omega), hLP i (by omega)]
      exact (hl i (by omega) (hall i (by omega))).symm)
    subst e
    have := hend a u ⟨hI.kp, fun i o d ho _ hd => hI.val i o d ho (hall i (Array.getElem?_eq_some_iff.1 ho).1) hd, fun s hs' => hI.off s (fun i o ho hi => hs' i o ho (hl i (Array.getElem?_eq_some_iff.1 ho).1 hi)), hI.size, hI.defers⟩
    rwa [← hf] at this
  | succ fuel ih =>
    intro listed a u hs hf hl hcl hI
    by_cases hall : ∀ i, i < ops.size → p i = true → listed.getD i false = true
    · have e : listed = LP := listed_ext (by omega) (fun i hi => by
        rw [hLP i (by omega)]
        by_cases h : p i = true
        · rw [h, hall i (by omega) h]
        · by_cases h2 : listed.getD i false = true
          · exact absurd (hl i (by omega) h2) h
          · have h3 : p i = false := by simpa using h
            have h4 : listed.getD i false = false := by simpa using h2
            rw [h3, h4])
      subst e
      have := hend a u ⟨hI.kp, fun i o d ho hp hd => hI.val i o d ho (hall i (Array.getElem?_eq_some_iff.1 ho).1 hp) hd, fun s hs' => hI.off s (fun i o ho hi => hs' i o ho (hl i (Array.getElem?_eq_some_iff.1 ho).1 hi)), hI.size, hI.defers⟩
      rwa [← hf] at this
    · obtain ⟨i0, ⟨hi0, hp0, hu0⟩, hmin⟩ := least_of (R := fun i => i < ops.size ∧ p i = true ∧ listed.getD i false = false) (by
        refine Classical.byContradiction fun hno => hall fun i hi hp => ?_
        by_cases h : listed.getD i false = true
        · exact h
        · exact absurd ⟨i, hi, hp, by simpa using h⟩ hno)
      have hready : i0 ∈ Region.ready .any ops listed := by
        rw [mem_ready]
        refine ⟨by rw [getD_true_false (by omega)]; exact hu0, ops[i0], Array.getElem?_eq_getElem hi0, fun e he hb => ?_⟩
        obtain ⟨h1, h2⟩ := L.low i0 _ (Array.getElem?_eq_getElem hi0) hp0 e he hb
        by_cases h : listed.getD e.on false = true
        · exact h
        · exact absurd ⟨by omega, h2, by simpa using h⟩ (hmin e.on h1)
      refine ⟨fun h => (by rw [h] at hready; cases hready), fun i hi => ?_⟩
      obtain ⟨h1, o, ho, hedge⟩ := mem_ready.1 hi
      have hisz : i < ops.size := (Array.getElem?_eq_some_iff.1 ho).1
      rw [getD_true_false (by omega)] at h1
      have hpi : p i = true := by
        by_cases h : p i = true
        · exact h
        · have h3 := clo_listed (listed := fun j => listed.getD j false = true) hcl 16 (edgesOf ops i) (fun k hk => by
            obtain ⟨e, he, hb, hon⟩ := (mem_edgesOf ho).1 hk
            have := hedge e he hb
            rwa [hon] at this) i0 (L.bar i o ho (by simpa using h) i0 hi0 hp0)
          rw [hu0] at h3
          cases h3
      obtain ⟨d, hd, hdN⟩ := L.dst i o ho hpi
      have hw : Region.wanted o (yielded ops a.tmps) = true := by simp [Region.wanted, L.ng i o ho]
      unfold wpOp
      rw [ho]
      simp only
      rw [if_pos hw]
      refine .inl (Oper.wp_mono ?_ (hstep i o ho hpi a u hI.kp (fun s hs' => hI.off s (fun j oj hoj hj => hs' j oj hoj (hl j (Array.getElem?_eq_some_iff.1 hoj).1 hj))) (fun e he hb oj d' hoj hd' => hI.val e.on oj d' hoj (hedge e he hb) hd')))
      rintro a' u' ⟨v, rfl, hK, hV⟩
      have hset : ∀ j, (listed.setIfInBounds i true).getD j false = true ↔ j = i ∨ listed.getD j false = true := fun j => by
        simp only [Array.getD_eq_getD_getElem?, Array.getElem?_setIfInBounds]
        by_cases e : i = j
        · subst e; simp [show i < listed.size by omega]
        · rw [if_neg e]
          exact ⟨.inr, fun h => h.resolve_left (fun h => e h.symm)⟩
      refine ih _ _ _ (by simp [hs]) ?_ (fun j hj hlj => ?_) (fun j hj k hk => ?_) ⟨hI.kp.trans hK (fun _ _ h => h), fun j oj dj hoj hj hdj => ?_, fun s hs' => ?_, by rw [put_size]; exact hI.size, by rw [put_defers]; exact hI.defers⟩
      · have := cntU_set (listed := listed) (by omega) h1 ops.size hisz
        omega
      · rcases (hset j).1 hlj with e | e
        · rw [e]; exact hpi
        · exact hl j hj e
      · rcases (hset j).1 hj with e | e
        · subst e
          obtain ⟨e, he, hb, hon⟩ := (mem_edgesOf ho).1 hk
          refine (hset k).2 (.inr ?_)
          rw [← hon]
          exact hedge e he hb
        · exact (hset k).2 (.inr (hcl j e k hk))
      · rcases (hset j).1 hj with e | e
        · subst e
          have : oj = o := by rw [hoj] at ho; exact Option.some.inj ho
          subst this
          rw [hdj] at hd
          have : dj = d := Option.some.inj hd
          subst this
          rw [hdj, put_getD_same (by rw [hI.size]; exact hdN)]
          exact hV
        · by_cases eji : j = i
          · subst eji
            rw [h1] at e; cases e
          · rw [put_getD_ne (fun h => eji (L.inj j i oj o hoj ho (hl j (Array.getElem?_eq_some_iff.1 hoj).1 e) hpi (by rw [hdj, h])))]
            exact stable j u u' _ hK (hI.val j oj dj hoj e hdj)
      · rw [put_getD_ne (hs' i o ho ((hset i).2 (.inl rfl)))]
        exact hI.off s (fun j oj hoj hj => hs' j oj hoj ((hset j).2 (.inr hj)))

/-- the region, whose last ones (not of p) stay to be walked -/
theorem wp_region_looseD {P : Program} {id : Nat} {ops : Array Oper} {Q : Exit → Act → World → Prop} {p : Nat → Bool} {V : Nat → World → Value → Prop} {w : World} {a0 : Act} {LP : Array Bool} {K : Nat} (hm : P.follows .mixedOrders = true) (hB : looseBD ops p a0.tmps.size = true)
    (stable : ∀ i u u' v, Kp (fun _ => False) u u' → V i u v → V i u' v)
    (hstep : ∀ (i : Nat) (o : Oper), ops[i]? = some o → p i = true → ∀ a u, Kp (fun _ => False) w u →
      (∀ s, (∀ (j : Nat) (oj : Oper), ops[j]? = some oj → p j = true → oj.dst ≠ some s) → a.tmps.getD s undef = a0.tmps.getD s undef) →
      (∀ e ∈ o.after, Region.binds .any e = true → ∀ (oj : Oper) (d : Nat), ops[e.on]? = some oj → oj.dst = some d → V e.on u (a.tmps.getD d undef)) →
      o.wp P a u (fun a' u' => ∃ v, a' = a.put o.dst v ∧ Kp (fun _ => False) u u' ∧ V i u' v) Q)
    (hLs : LP.size = ops.size) (hLP : ∀ i, i < ops.size → LP.getD i false = p i) (hK : cntU ops.size LP = K)
    (hend : ∀ a u, LInv ops V w a0 (fun i => p i = true) a u → wpAny P .any ops Q K LP a u) : (Code.region id ops true).wp P Q a0 w := by
  refine wp_region_any hm ?_
  refine wpAny_looseD (looseB_specD hB) stable hstep hLs hLP (fun a u h => by rw [hK]; exact hend a u h) ops.size _ a0 _ (by simp) ?_ (fun i hi h => ?_) (fun i h => ?_) ⟨(Kp.refl (fun _ => False) w).drew, fun i o d ho h => ?_, fun _ _ => rfl, rfl, rfl⟩
  · have : ∀ n, cntU n (Array.replicate ops.size false) = n := fun n => by
      induction n with
      | zero => rfl
      | succ n ih => rw [cntU_succ, ih]; simp [unl, Array.getD_eq_getD_getElem?, Array.getElem?_replicate]; split <;> simp
    rw [this]
  · simp [Array.getD_eq_getD_getElem?, Array.getElem?_replicate] at h
    split at h <;> simp at h
  · simp [Array.getD_eq_getD_getElem?, Array.getElem?_replicate] at h
    split at h <;> simp at h
  · simp [Array.getD_eq_getD_getElem?, Array.getElem?_replicate] at h
    split at h <;> simp at h


end Go.Proofs.YtnoknecfdnjomaaGreat
