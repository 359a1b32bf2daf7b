/-
  latchetlaw11.Own: a circuit in memory of its own. (Printed by mkown.py.)
-/
import Derived.Test.YtmjcpapcmbgkjaaDoorM4
import Derived.Test.YtmjcpapcmbgkjaaDoorM1
import Derived.Test.YtmjcpapcmbgkjaaDoorM6
import Derived.Test.YtmjcpapcmbgkjaaDoorRows
import Derived.ProofKit
import Derived.OpenShut
import Derived.Deep.Slices
import Derived.Lib.SmallJoins
import Derived.Test.YtmjcpapcmbgkjaaDoorM8
import Derived.Deep.CutBlock
import Derived.Lib.LaidTab
import Derived.Stop.LaidErr
set_option linter.unusedVariables false
set_option linter.unusedSimpArgs false
namespace Go.Proofs.YtmjcpapcmbgkjaaDoor
open Go Go.RowKit

def own2V (b1 b3 B : Nat) (V : CV) (C : Circ) (rows : List (List Value)) : List (World → Value → Prop) :=
  [LitV 3, EqV (.pointer (some ⟨b1, 1, none⟩)), SlK (ir C.ins) C.ins.length, SlF B (ir C.ins) C.ins.length, LitV 3, EqV (.pointer (some ⟨b1, 3, none⟩)), SlK (ir C.outs) C.outs.length, SlF B (ir C.outs) C.outs.length, LitV 3, EqV (.pointer (some ⟨b1, 4, none⟩)), SlK (ir C.bads) C.bads.length, SlF B (ir C.bads) C.bads.length, LitV 3, EqV (.pointer (some ⟨b1, 5, none⟩)), SlK (ir C.cons) C.cons.length, SlF B (ir C.cons) C.cons.length, EqV (.pointer (some ⟨b3, 1, none⟩))]

theorem own2V_st (b1 b3 B : Nat) (V : CV) (C : Circ) (rows : List (List Value)) : ∀ W ∈ own2V b1 b3 B V C rows, Stable W := by
  intro W h
  unfold own2V at h
  simp only [List.mem_cons, List.not_mem_nil, or_false] at h
  rcases h with rfl | rfl | rfl | rfl | rfl | rfl | rfl | rfl | rfl | rfl | rfl | rfl | rfl | rfl | rfl | rfl | rfl <;> first | exact LitV.st _ | exact EqV.st _ | exact SlK.st _ _ | exact SlF.st _ _ _

def own3V (b1 b3 B : Nat) (V : CV) (C : Circ) (rows : List (List Value)) : List (World → Value → Prop) :=
  [LitV 51, EqV (.pointer (some ⟨b1, 2, none⟩)), SlK (C.lats.map tri) C.lats.length, SlF B (C.lats.map tri) C.lats.length, LitV 43, EqV (.pointer (some ⟨b1, 6, none⟩)), SlK (C.gates.map tri) C.gates.length, SlF B (C.gates.map tri) C.gates.length, LitV 73, EqV (.pointer (some ⟨b1, 7, none⟩)), SlK rows V.ny, SlF B rows V.ny, EqV (.pointer (some ⟨b3, 2, none⟩))]

theorem own3V_st (b1 b3 B : Nat) (V : CV) (C : Circ) (rows : List (List Value)) : ∀ W ∈ own3V b1 b3 B V C rows, Stable W := by
  intro W h
  unfold own3V at h
  simp only [List.mem_cons, List.not_mem_nil, or_false] at h
  rcases h with rfl | rfl | rfl | rfl | rfl | rfl | rfl | rfl | rfl | rfl | rfl | rfl | rfl <;> first | exact LitV.st _ | exact EqV.st _ | exact SlK.st _ _ | exact SlF.st _ _ _

set_option maxRecDepth 100000 in
set_option maxHeartbeats 8000000 in
theorem law11_Own (V : CV) (C : Circ) (w : World) (h : CAt w V C) (hf : CFew C 1000000) (hy : V.ny ≤ 1000000) :
    Calls Tryd.prog 8 #[.agg (cvals V C)] w fun e w' => ∃ V', e = .returned (.agg (cvals V' C)) ∧ CAt w' V' C ∧ V'.ny = V.ny ∧ Kp (fun _ => False) w w' := by
  have HA := Lib.hid h
  have HF := Lib.hid hf
  have HY := Lib.hid hy
  have HI := Lib.hid (show (Tryd.prog.info? 3).map (fun i => (i.zero, i.size, i.bytes)) = some (some (.int .i64 0), 1, 8) by kernel_rfl)
  have HIl := Lib.hid (show (Tryd.prog.info? 51).map (fun i => (i.zero, i.size, i.bytes)) = some (some (.agg #[.int .i64 0, .int .i64 0, .int .i64 0]), 3, 24) by kernel_rfl)
  have HIg := Lib.hid (show (Tryd.prog.info? 43).map (fun i => (i.zero, i.size, i.bytes)) = some (some (.agg #[.int .i64 0, .int .i64 0, .int .i64 0]), 3, 24) by kernel_rfl)
  have HIs := Lib.hid (show (Tryd.prog.info? 73).map (fun i => (i.zero, i.size, i.bytes)) = some (some (.agg #[.int .u8 0, .int .i64 0, .string ⟨#[]⟩]), 3, 32) by kernel_rfl)
  obtain ⟨rows, hrows, hrl⟩ := h.y
  have HRows := Lib.hid hrows
  have HRL := Lib.hid hrl
  have HC1 := Lib.hid (Blk.new w (cvals V C) 27)
  obtain ⟨wz, hwz⟩ : ∃ wz : World, wz = (w.alloc (.cells (cvals V C) 27)).alloc (.cells #[.int .i64 0, .slice none 0 0, .slice none 0 0, .slice none 0 0, .slice none 0 0, .slice none 0 0, .slice none 0 0, .slice none 0 0, .string ⟨#[]⟩] 27) := ⟨_, rfl⟩
  have HCz := Lib.hid (show Blk wz w.heap.size (cvals V C) 27 by rw [hwz]; exact HC1.out.alloc _)
  have HBz := Lib.hid (show Blk wz (w.heap.size + 1) #[.int .i64 0, .slice none 0 0, .slice none 0 0, .slice none 0 0, .slice none 0 0, .slice none 0 0, .slice none 0 0, .slice none 0 0, .string ⟨#[]⟩] 27 by rw [hwz]; exact two_blk _ _ _ _ _)
  have HKz := Lib.hid (show Kp (fun _ => False) w wz by rw [hwz]; exact ((Kp.refl _ w).alloc _).alloc _)
  have HSz := Lib.hid (show wz.heap.size = w.heap.size + 2 by rw [hwz]; simp)
  have HZ := Lib.hid hwz
  clear h hf hy hwz hrows hrl
  go_enter Tryd.func8, Tryd.ntmps8
  go_upto_region 1 with fail
  rw [← HZ.out]
  clear HZ
  obtain ⟨d0, d1, d2, d3, d4, d5, d6, d7, d8⟩ := HCz.out.cells9
  go_upto_region 2 with fail
  clear d0 d1 d2 d3 d4 d5 d6 d7 d8
  obtain ⟨w3, hw3⟩ : ∃ w3 : World, w3 = wz.alloc (.cells #[.int .i64 C.max, .slice V.ai C.ins.length V.ci, .slice V.al C.lats.length V.cl, .slice V.ao C.outs.length V.co, .slice V.ab C.bads.length V.cb, .slice V.ac C.cons.length V.cc, .slice V.ag C.gates.length V.cg, .slice V.ay V.ny V.cy, .string V.cm] 27) := ⟨_, rfl⟩
  have HCb := Lib.hid (show Blk w3 w.heap.size (cvals V C) 27 by rw [hw3]; exact HCz.out.alloc _)
  have HBb := Lib.hid (show Blk w3 (w.heap.size + 1) #[.int .i64 0, .slice none 0 0, .slice none 0 0, .slice none 0 0, .slice none 0 0, .slice none 0 0, .slice none 0 0, .slice none 0 0, .string ⟨#[]⟩] 27 by rw [hw3]; exact HBz.out.alloc _)
  have HDown2 := Lib.hid (show Blk w3 wz.heap.size #[.int .i64 C.max, .slice V.ai C.ins.length V.ci, .slice V.al C.lats.length V.cl, .slice V.ao C.outs.length V.co, .slice V.ab C.bads.length V.cb, .slice V.ac C.cons.length V.cc, .slice V.ag C.gates.length V.cg, .slice V.ay V.ny V.cy, .string V.cm] 27 by rw [hw3]; exact Blk.new _ _ _)
  have HKb := Lib.hid (show Kp (fun _ => False) w w3 by rw [hw3]; exact HKz.out.alloc _)
  have HLt := Lib.hid (show wz.heap.size < w3.heap.size by rw [hw3]; simp)
  rw [← hw3]
  clear hw3
  refine wp_region_loose (p := upTo 17) (V := atV (own2V w.heap.size wz.heap.size w3.heap.size V C rows)) (LP := #[true, true, true, true, true, true, true, true, true, true, true, true, true, true, true, true, true, false, false, false, false, false, false, false]) (K := 7) (by kernel_rfl) (by kernel_rfl) (atV_st (own2V_st _ _ _ V C rows)) ?hstepown2 (by kernel_rfl) ?hLPown2 (by kernel_rfl) ?hendown2
  case hLPown2 => exact upTo_spec (by kernel_rfl)
  case hstepown2 =>
    intro i o ho hp a u hk hoff hdep
    have e1 : a.tmps[1]?.getD undef = .pointer (some ⟨w.heap.size, 0, none⟩) := slot_at (hoff 1 (noDst_spec (by kernel_rfl)))
    have e3 : a.tmps[3]?.getD undef = .pointer (some ⟨wz.heap.size, 0, none⟩) := slot_at (hoff 3 (noDst_spec (by kernel_rfl)))
    clear hoff
    match i, ho with
    | 0, ho =>
      obtain rfl := Option.some.inj ho
      refine lw_value (v := .slice (some ⟨u.heap.size, 0, none⟩) 0 0) (u' := u.alloc (.cells #[] 3)) ?_ ((Kp.refl _ _).alloc _) ⟨_, rfl, Blk.new _ _ _⟩
      go_simp
    | 1, ho =>
      obtain rfl := Option.some.inj ho
      refine lw_value (v := .pointer (some ⟨w.heap.size, 1, none⟩)) (u' := u) ?_ (Kp.refl _ _) rfl
      go_simp
    | 2, ho =>
      obtain rfl := Option.some.inj ho
      have e6 : a.tmps[6]?.getD undef = .pointer (some ⟨w.heap.size, 1, none⟩) := slot_at (hdep ⟨1, .data⟩ (by simp) rfl _ 6 rfl rfl)
      have c1 := (HCb.out.kp hk (fun h => h)).cell (i := 1) (v := .slice V.ai C.ins.length V.ci) rfl
      refine lw_value (v := .slice V.ai C.ins.length V.ci) (u' := u) ?_ (Kp.refl _ _) (SlK.of_ints HA.out.fi (HA.out.kp (HKb.out.trans hk (fun _ _ h => h))).i)
      go_simp
    | 3, ho =>
      obtain rfl := Option.some.inj ho
      have e5 : LitV 3 u (a.eval (.tmp 5)) := hdep ⟨0, .data⟩ (by simp) rfl _ 5 rfl rfl
      have e7 : SlK (ir C.ins) C.ins.length u (a.eval (.tmp 7)) := hdep ⟨2, .data⟩ (by simp) rfl _ 7 rfl rfl
      exact lw_append (.tmp 5) (.tmp 7) 22 3 rfl Tryd.underlying22 HI.out rfl (by decide) e5 e7 (ir_length _) (ir_len _) (ir_one _) (by have := HF.out.i; unfold maxLen; omega) (by have := HF.out.i; omega) hk.size
    | 4, ho =>
      obtain rfl := Option.some.inj ho
      refine lw_value (v := .slice (some ⟨u.heap.size, 0, none⟩) 0 0) (u' := u.alloc (.cells #[] 3)) ?_ ((Kp.refl _ _).alloc _) ⟨_, rfl, Blk.new _ _ _⟩
      go_simp
    | 5, ho =>
      obtain rfl := Option.some.inj ho
      refine lw_value (v := .pointer (some ⟨w.heap.size, 3, none⟩)) (u' := u) ?_ (Kp.refl _ _) rfl
      go_simp
    | 6, ho =>
      obtain rfl := Option.some.inj ho
      have e6 : a.tmps[10]?.getD undef = .pointer (some ⟨w.heap.size, 3, none⟩) := slot_at (hdep ⟨5, .data⟩ (by simp) rfl _ 10 rfl rfl)
      have c1 := (HCb.out.kp hk (fun h => h)).cell (i := 3) (v := .slice V.ao C.outs.length V.co) rfl
      refine lw_value (v := .slice V.ao C.outs.length V.co) (u' := u) ?_ (Kp.refl _ _) (SlK.of_ints HA.out.fo (HA.out.kp (HKb.out.trans hk (fun _ _ h => h))).o)
      go_simp
    | 7, ho =>
      obtain rfl := Option.some.inj ho
      have e5 : LitV 3 u (a.eval (.tmp 9)) := hdep ⟨4, .data⟩ (by simp) rfl _ 9 rfl rfl
      have e7 : SlK (ir C.outs) C.outs.length u (a.eval (.tmp 11)) := hdep ⟨6, .data⟩ (by simp) rfl _ 11 rfl rfl
      exact lw_append (.tmp 9) (.tmp 11) 22 3 rfl Tryd.underlying22 HI.out rfl (by decide) e5 e7 (ir_length _) (ir_len _) (ir_one _) (by have := HF.out.o; unfold maxLen; omega) (by have := HF.out.o; omega) hk.size
    | 8, ho =>
      obtain rfl := Option.some.inj ho
      refine lw_value (v := .slice (some ⟨u.heap.size, 0, none⟩) 0 0) (u' := u.alloc (.cells #[] 3)) ?_ ((Kp.refl _ _).alloc _) ⟨_, rfl, Blk.new _ _ _⟩
      go_simp
    | 9, ho =>
      obtain rfl := Option.some.inj ho
      refine lw_value (v := .pointer (some ⟨w.heap.size, 4, none⟩)) (u' := u) ?_ (Kp.refl _ _) rfl
      go_simp
    | 10, ho =>
      obtain rfl := Option.some.inj ho
      have e6 : a.tmps[14]?.getD undef = .pointer (some ⟨w.heap.size, 4, none⟩) := slot_at (hdep ⟨9, .data⟩ (by simp) rfl _ 14 rfl rfl)
      have c1 := (HCb.out.kp hk (fun h => h)).cell (i := 4) (v := .slice V.ab C.bads.length V.cb) rfl
      refine lw_value (v := .slice V.ab C.bads.length V.cb) (u' := u) ?_ (Kp.refl _ _) (SlK.of_ints HA.out.fb (HA.out.kp (HKb.out.trans hk (fun _ _ h => h))).b)
      go_simp
    | 11, ho =>
      obtain rfl := Option.some.inj ho
      have e5 : LitV 3 u (a.eval (.tmp 13)) := hdep ⟨8, .data⟩ (by simp) rfl _ 13 rfl rfl
      have e7 : SlK (ir C.bads) C.bads.length u (a.eval (.tmp 15)) := hdep ⟨10, .data⟩ (by simp) rfl _ 15 rfl rfl
      exact lw_append (.tmp 13) (.tmp 15) 22 3 rfl Tryd.underlying22 HI.out rfl (by decide) e5 e7 (ir_length _) (ir_len _) (ir_one _) (by have := HF.out.b; unfold maxLen; omega) (by have := HF.out.b; omega) hk.size
    | 12, ho =>
      obtain rfl := Option.some.inj ho
      refine lw_value (v := .slice (some ⟨u.heap.size, 0, none⟩) 0 0) (u' := u.alloc (.cells #[] 3)) ?_ ((Kp.refl _ _).alloc _) ⟨_, rfl, Blk.new _ _ _⟩
      go_simp
    | 13, ho =>
      obtain rfl := Option.some.inj ho
      refine lw_value (v := .pointer (some ⟨w.heap.size, 5, none⟩)) (u' := u) ?_ (Kp.refl _ _) rfl
      go_simp
    | 14, ho =>
      obtain rfl := Option.some.inj ho
      have e6 : a.tmps[18]?.getD undef = .pointer (some ⟨w.heap.size, 5, none⟩) := slot_at (hdep ⟨13, .data⟩ (by simp) rfl _ 18 rfl rfl)
      have c1 := (HCb.out.kp hk (fun h => h)).cell (i := 5) (v := .slice V.ac C.cons.length V.cc) rfl
      refine lw_value (v := .slice V.ac C.cons.length V.cc) (u' := u) ?_ (Kp.refl _ _) (SlK.of_ints HA.out.fc (HA.out.kp (HKb.out.trans hk (fun _ _ h => h))).c)
      go_simp
    | 15, ho =>
      obtain rfl := Option.some.inj ho
      have e5 : LitV 3 u (a.eval (.tmp 17)) := hdep ⟨12, .data⟩ (by simp) rfl _ 17 rfl rfl
      have e7 : SlK (ir C.cons) C.cons.length u (a.eval (.tmp 19)) := hdep ⟨14, .data⟩ (by simp) rfl _ 19 rfl rfl
      exact lw_append (.tmp 17) (.tmp 19) 22 3 rfl Tryd.underlying22 HI.out rfl (by decide) e5 e7 (ir_length _) (ir_len _) (ir_one _) (by have := HF.out.c; unfold maxLen; omega) (by have := HF.out.c; omega) hk.size
    | 16, ho =>
      obtain rfl := Option.some.inj ho
      refine lw_value (v := .pointer (some ⟨wz.heap.size, 1, none⟩)) (u' := u) ?_ (Kp.refl _ _) rfl
      go_simp
    | n + 17, _ => exact absurd hp (by simp [upTo])
  case hendown2 =>
    intro a u hI
    have hsz : a.tmps.size = 41 := hI.size
    have hdf : a.defers = [] := hI.defers
    have f0 : a.tmps.getD 0 undef = _ := hI.off 0 (noDst_spec (p := upTo 17) (by kernel_rfl))
    have f1 : a.tmps.getD 1 undef = _ := hI.off 1 (noDst_spec (p := upTo 17) (by kernel_rfl))
    have f2 : a.tmps.getD 2 undef = _ := hI.off 2 (noDst_spec (p := upTo 17) (by kernel_rfl))
    have f3 : a.tmps.getD 3 undef = _ := hI.off 3 (noDst_spec (p := upTo 17) (by kernel_rfl))
    have f4 : a.tmps.getD 4 undef = _ := hI.off 4 (noDst_spec (p := upTo 17) (by kernel_rfl))
    have f22 : a.tmps.getD 22 undef = _ := hI.off 22 (noDst_spec (p := upTo 17) (by kernel_rfl))
    have f23 : a.tmps.getD 23 undef = _ := hI.off 23 (noDst_spec (p := upTo 17) (by kernel_rfl))
    have f24 : a.tmps.getD 24 undef = _ := hI.off 24 (noDst_spec (p := upTo 17) (by kernel_rfl))
    have f25 : a.tmps.getD 25 undef = _ := hI.off 25 (noDst_spec (p := upTo 17) (by kernel_rfl))
    have f26 : a.tmps.getD 26 undef = _ := hI.off 26 (noDst_spec (p := upTo 17) (by kernel_rfl))
    have f27 : a.tmps.getD 27 undef = _ := hI.off 27 (noDst_spec (p := upTo 17) (by kernel_rfl))
    have f28 : a.tmps.getD 28 undef = _ := hI.off 28 (noDst_spec (p := upTo 17) (by kernel_rfl))
    have f29 : a.tmps.getD 29 undef = _ := hI.off 29 (noDst_spec (p := upTo 17) (by kernel_rfl))
    have f30 : a.tmps.getD 30 undef = _ := hI.off 30 (noDst_spec (p := upTo 17) (by kernel_rfl))
    have f31 : a.tmps.getD 31 undef = _ := hI.off 31 (noDst_spec (p := upTo 17) (by kernel_rfl))
    have f32 : a.tmps.getD 32 undef = _ := hI.off 32 (noDst_spec (p := upTo 17) (by kernel_rfl))
    have f33 : a.tmps.getD 33 undef = _ := hI.off 33 (noDst_spec (p := upTo 17) (by kernel_rfl))
    have f34 : a.tmps.getD 34 undef = _ := hI.off 34 (noDst_spec (p := upTo 17) (by kernel_rfl))
    have f35 : a.tmps.getD 35 undef = _ := hI.off 35 (noDst_spec (p := upTo 17) (by kernel_rfl))
    have f36 : a.tmps.getD 36 undef = _ := hI.off 36 (noDst_spec (p := upTo 17) (by kernel_rfl))
    have f37 : a.tmps.getD 37 undef = _ := hI.off 37 (noDst_spec (p := upTo 17) (by kernel_rfl))
    have f38 : a.tmps.getD 38 undef = _ := hI.off 38 (noDst_spec (p := upTo 17) (by kernel_rfl))
    have f39 : a.tmps.getD 39 undef = _ := hI.off 39 (noDst_spec (p := upTo 17) (by kernel_rfl))
    have f40 : a.tmps.getD 40 undef = _ := hI.off 40 (noDst_spec (p := upTo 17) (by kernel_rfl))
    have g1 : SlF w3.heap.size (ir C.ins) C.ins.length u (a.tmps.getD 8 undef) := hI.val 3 _ 8 rfl rfl rfl
    obtain ⟨a1, p1, f8, -, -, -⟩ := id g1
    rw [f8] at g1
    have g3 : SlF w3.heap.size (ir C.outs) C.outs.length u (a.tmps.getD 12 undef) := hI.val 7 _ 12 rfl rfl rfl
    obtain ⟨a3, p3, f12, -, -, -⟩ := id g3
    rw [f12] at g3
    have g4 : SlF w3.heap.size (ir C.bads) C.bads.length u (a.tmps.getD 16 undef) := hI.val 11 _ 16 rfl rfl rfl
    obtain ⟨a4, p4, f16, -, -, -⟩ := id g4
    rw [f16] at g4
    have g5 : SlF w3.heap.size (ir C.cons) C.cons.length u (a.tmps.getD 20 undef) := hI.val 15 _ 20 rfl rfl rfl
    obtain ⟨a5, p5, f20, -, -, -⟩ := id g5
    rw [f20] at g5
    have f21 : a.tmps.getD 21 undef = .pointer (some ⟨wz.heap.size, 1, none⟩) := hI.val 16 _ 21 rfl rfl rfl
    have ha : a = ⟨#[a.tmps.getD 0 undef, a.tmps.getD 1 undef, a.tmps.getD 2 undef, a.tmps.getD 3 undef, a.tmps.getD 4 undef, a.tmps.getD 5 undef, a.tmps.getD 6 undef, a.tmps.getD 7 undef, a.tmps.getD 8 undef, a.tmps.getD 9 undef, a.tmps.getD 10 undef, a.tmps.getD 11 undef, a.tmps.getD 12 undef, a.tmps.getD 13 undef, a.tmps.getD 14 undef, a.tmps.getD 15 undef, a.tmps.getD 16 undef, a.tmps.getD 17 undef, a.tmps.getD 18 undef, a.tmps.getD 19 undef, a.tmps.getD 20 undef, a.tmps.getD 21 undef, a.tmps.getD 22 undef, a.tmps.getD 23 undef, a.tmps.getD 24 undef, a.tmps.getD 25 undef, a.tmps.getD 26 undef, a.tmps.getD 27 undef, a.tmps.getD 28 undef, a.tmps.getD 29 undef, a.tmps.getD 30 undef, a.tmps.getD 31 undef, a.tmps.getD 32 undef, a.tmps.getD 33 undef, a.tmps.getD 34 undef, a.tmps.getD 35 undef, a.tmps.getD 36 undef, a.tmps.getD 37 undef, a.tmps.getD 38 undef, a.tmps.getD 39 undef, a.tmps.getD 40 undef], a.defers⟩ := act_list a 41 hsz
    rw [hdf, f0, f1, f2, f3, f4, f8, f12, f16, f20, f21, f22, f23, f24, f25, f26, f27, f28, f29, f30, f31, f32, f33, f34, f35, f36, f37, f38, f39, f40] at ha
    obtain ⟨x5, hx5⟩ : ∃ x, a.tmps.getD 5 undef = x := ⟨_, rfl⟩
    obtain ⟨x6, hx6⟩ : ∃ x, a.tmps.getD 6 undef = x := ⟨_, rfl⟩
    obtain ⟨x7, hx7⟩ : ∃ x, a.tmps.getD 7 undef = x := ⟨_, rfl⟩
    obtain ⟨x9, hx9⟩ : ∃ x, a.tmps.getD 9 undef = x := ⟨_, rfl⟩
    obtain ⟨x10, hx10⟩ : ∃ x, a.tmps.getD 10 undef = x := ⟨_, rfl⟩
    obtain ⟨x11, hx11⟩ : ∃ x, a.tmps.getD 11 undef = x := ⟨_, rfl⟩
    obtain ⟨x13, hx13⟩ : ∃ x, a.tmps.getD 13 undef = x := ⟨_, rfl⟩
    obtain ⟨x14, hx14⟩ : ∃ x, a.tmps.getD 14 undef = x := ⟨_, rfl⟩
    obtain ⟨x15, hx15⟩ : ∃ x, a.tmps.getD 15 undef = x := ⟨_, rfl⟩
    obtain ⟨x17, hx17⟩ : ∃ x, a.tmps.getD 17 undef = x := ⟨_, rfl⟩
    obtain ⟨x18, hx18⟩ : ∃ x, a.tmps.getD 18 undef = x := ⟨_, rfl⟩
    obtain ⟨x19, hx19⟩ : ∃ x, a.tmps.getD 19 undef = x := ⟨_, rfl⟩
    rw [hx5, hx6, hx7, hx9, hx10, hx11, hx13, hx14, hx15, hx17, hx18, hx19] at ha
    have hku := hI.kp
    have hB := HDown2.out.kp hku (fun h => h)
    clear hI hsz hdf f0 f1 f2 f3 f4 f8 f12 f16 f20 f21 f22 f23 f24 f25 f26 f27 f28 f29 f30 f31 f32 f33 f34 f35 f36 f37 f38 f39 f40 hx5 hx6 hx7 hx9 hx10 hx11 hx13 hx14 hx15 hx17 hx18 hx19
    subst ha
    have cs := hB.cell (i := 1) (v := .slice V.ai C.ins.length V.ci) rfl
    have fs := hB.free 1
    have hB' : Blk (u.setCell ⟨wz.heap.size, 1, none⟩ (.slice a1 C.ins.length p1)) wz.heap.size #[.int .i64 C.max, .slice a1 C.ins.length p1, .slice V.al C.lats.length V.cl, .slice V.ao C.outs.length V.co, .slice V.ab C.bads.length V.cb, .slice V.ac C.cons.length V.cc, .slice V.ag C.gates.length V.cg, .slice V.ay V.ny V.cy, .string V.cm] 27 := hB.set_same 1 (.slice a1 C.ins.length p1)
    have hk' : Kp (fun j => j = wz.heap.size) w3 (u.setCell ⟨wz.heap.size, 1, none⟩ (.slice a1 C.ins.length p1)) := (hku.mono (fun _ _ h => h.elim)).setCell (S := fun j => j = wz.heap.size) (p := ⟨wz.heap.size, 1, none⟩) (fun _ => rfl) _
    have hkk := Kp.set u ⟨wz.heap.size, 1, none⟩ (.slice a1 C.ins.length p1)
    refine wpAny_ready (rs := [17]) (by kernel_rfl) (by simp) ?_
    refine AllReady.cons (o := _) rfl (fun K1 hK1 => ?_) AllReady.nil
    go_simp
    refine hK1 _ _ ?_
    clear hK1 K1 cs fs hB hku
    have g1' := SlF.kp g1 hkk (fun j hj => by have hj2 : j = wz.heap.size := hj; have := HLt.out; omega)
    clear g1
    have g1 := g1'
    clear g1'
    have g3' := SlF.kp g3 hkk (fun j hj => by have hj2 : j = wz.heap.size := hj; have := HLt.out; omega)
    clear g3
    have g3 := g3'
    clear g3'
    have g4' := SlF.kp g4 hkk (fun j hj => by have hj2 : j = wz.heap.size := hj; have := HLt.out; omega)
    clear g4
    have g4 := g4'
    clear g4'
    have g5' := SlF.kp g5 hkk (fun j hj => by have hj2 : j = wz.heap.size := hj; have := HLt.out; omega)
    clear g5
    have g5 := g5'
    clear g5'
    clear hkk
    generalize u.setCell ⟨wz.heap.size, 1, none⟩ (.slice a1 C.ins.length p1) = u2 at hB' hk' g1 g3 g4 g5 ⊢
    obtain ⟨u, rfl⟩ : ∃ u, u = u2 := ⟨_, rfl⟩
    have hB := hB'
    have hku := hk'
    clear hB' hk'
    try simp only [Act.put, List.setIfInBounds_toArray, List.set_cons_zero, List.set_cons_succ]
    refine wpAny_ready (rs := [18]) (by kernel_rfl) (by simp) ?_
    refine AllReady.cons (o := _) rfl (fun K1 hK1 => ?_) AllReady.nil
    go_simp
    refine hK1 _ _ ?_
    clear hK1 K1
    try simp only [Act.put, List.setIfInBounds_toArray, List.set_cons_zero, List.set_cons_succ]
    have cs := hB.cell (i := 3) (v := .slice V.ao C.outs.length V.co) rfl
    have fs := hB.free 3
    have hB' : Blk (u.setCell ⟨wz.heap.size, 3, none⟩ (.slice a3 C.outs.length p3)) wz.heap.size #[.int .i64 C.max, .slice a1 C.ins.length p1, .slice V.al C.lats.length V.cl, .slice a3 C.outs.length p3, .slice V.ab C.bads.length V.cb, .slice V.ac C.cons.length V.cc, .slice V.ag C.gates.length V.cg, .slice V.ay V.ny V.cy, .string V.cm] 27 := hB.set_same 3 (.slice a3 C.outs.length p3)
    have hk' : Kp (fun j => j = wz.heap.size) w3 (u.setCell ⟨wz.heap.size, 3, none⟩ (.slice a3 C.outs.length p3)) := hku.setCell (S := fun j => j = wz.heap.size) (p := ⟨wz.heap.size, 3, none⟩) (fun _ => rfl) _
    have hkk := Kp.set u ⟨wz.heap.size, 3, none⟩ (.slice a3 C.outs.length p3)
    refine wpAny_ready (rs := [19]) (by kernel_rfl) (by simp) ?_
    refine AllReady.cons (o := _) rfl (fun K1 hK1 => ?_) AllReady.nil
    go_simp
    refine hK1 _ _ ?_
    clear hK1 K1 cs fs hB hku
    have g1' := SlF.kp g1 hkk (fun j hj => by have hj2 : j = wz.heap.size := hj; have := HLt.out; omega)
    clear g1
    have g1 := g1'
    clear g1'
    have g3' := SlF.kp g3 hkk (fun j hj => by have hj2 : j = wz.heap.size := hj; have := HLt.out; omega)
    clear g3
    have g3 := g3'
    clear g3'
    have g4' := SlF.kp g4 hkk (fun j hj => by have hj2 : j = wz.heap.size := hj; have := HLt.out; omega)
    clear g4
    have g4 := g4'
    clear g4'
    have g5' := SlF.kp g5 hkk (fun j hj => by have hj2 : j = wz.heap.size := hj; have := HLt.out; omega)
    clear g5
    have g5 := g5'
    clear g5'
    clear hkk
    generalize u.setCell ⟨wz.heap.size, 3, none⟩ (.slice a3 C.outs.length p3) = u2 at hB' hk' g1 g3 g4 g5 ⊢
    obtain ⟨u, rfl⟩ : ∃ u, u = u2 := ⟨_, rfl⟩
    have hB := hB'
    have hku := hk'
    clear hB' hk'
    try simp only [Act.put, List.setIfInBounds_toArray, List.set_cons_zero, List.set_cons_succ]
    refine wpAny_ready (rs := [20]) (by kernel_rfl) (by simp) ?_
    refine AllReady.cons (o := _) rfl (fun K1 hK1 => ?_) AllReady.nil
    go_simp
    refine hK1 _ _ ?_
    clear hK1 K1
    try simp only [Act.put, List.setIfInBounds_toArray, List.set_cons_zero, List.set_cons_succ]
    have cs := hB.cell (i := 4) (v := .slice V.ab C.bads.length V.cb) rfl
    have fs := hB.free 4
    have hB' : Blk (u.setCell ⟨wz.heap.size, 4, none⟩ (.slice a4 C.bads.length p4)) wz.heap.size #[.int .i64 C.max, .slice a1 C.ins.length p1, .slice V.al C.lats.length V.cl, .slice a3 C.outs.length p3, .slice a4 C.bads.length p4, .slice V.ac C.cons.length V.cc, .slice V.ag C.gates.length V.cg, .slice V.ay V.ny V.cy, .string V.cm] 27 := hB.set_same 4 (.slice a4 C.bads.length p4)
    have hk' : Kp (fun j => j = wz.heap.size) w3 (u.setCell ⟨wz.heap.size, 4, none⟩ (.slice a4 C.bads.length p4)) := hku.setCell (S := fun j => j = wz.heap.size) (p := ⟨wz.heap.size, 4, none⟩) (fun _ => rfl) _
    have hkk := Kp.set u ⟨wz.heap.size, 4, none⟩ (.slice a4 C.bads.length p4)
    refine wpAny_ready (rs := [21]) (by kernel_rfl) (by simp) ?_
    refine AllReady.cons (o := _) rfl (fun K1 hK1 => ?_) AllReady.nil
    go_simp
    refine hK1 _ _ ?_
    clear hK1 K1 cs fs hB hku
    have g1' := SlF.kp g1 hkk (fun j hj => by have hj2 : j = wz.heap.size := hj; have := HLt.out; omega)
    clear g1
    have g1 := g1'
    clear g1'
    have g3' := SlF.kp g3 hkk (fun j hj => by have hj2 : j = wz.heap.size := hj; have := HLt.out; omega)
    clear g3
    have g3 := g3'
    clear g3'
    have g4' := SlF.kp g4 hkk (fun j hj => by have hj2 : j = wz.heap.size := hj; have := HLt.out; omega)
    clear g4
    have g4 := g4'
    clear g4'
    have g5' := SlF.kp g5 hkk (fun j hj => by have hj2 : j = wz.heap.size := hj; have := HLt.out; omega)
    clear g5
    have g5 := g5'
    clear g5'
    clear hkk
    generalize u.setCell ⟨wz.heap.size, 4, none⟩ (.slice a4 C.bads.length p4) = u2 at hB' hk' g1 g3 g4 g5 ⊢
    obtain ⟨u, rfl⟩ : ∃ u, u = u2 := ⟨_, rfl⟩
    have hB := hB'
    have hku := hk'
    clear hB' hk'
    try simp only [Act.put, List.setIfInBounds_toArray, List.set_cons_zero, List.set_cons_succ]
    refine wpAny_ready (rs := [22]) (by kernel_rfl) (by simp) ?_
    refine AllReady.cons (o := _) rfl (fun K1 hK1 => ?_) AllReady.nil
    go_simp
    refine hK1 _ _ ?_
    clear hK1 K1
    try simp only [Act.put, List.setIfInBounds_toArray, List.set_cons_zero, List.set_cons_succ]
    have cs := hB.cell (i := 5) (v := .slice V.ac C.cons.length V.cc) rfl
    have fs := hB.free 5
    have hB' : Blk (u.setCell ⟨wz.heap.size, 5, none⟩ (.slice a5 C.cons.length p5)) wz.heap.size #[.int .i64 C.max, .slice a1 C.ins.length p1, .slice V.al C.lats.length V.cl, .slice a3 C.outs.length p3, .slice a4 C.bads.length p4, .slice a5 C.cons.length p5, .slice V.ag C.gates.length V.cg, .slice V.ay V.ny V.cy, .string V.cm] 27 := hB.set_same 5 (.slice a5 C.cons.length p5)
    have hk' : Kp (fun j => j = wz.heap.size) w3 (u.setCell ⟨wz.heap.size, 5, none⟩ (.slice a5 C.cons.length p5)) := hku.setCell (S := fun j => j = wz.heap.size) (p := ⟨wz.heap.size, 5, none⟩) (fun _ => rfl) _
    have hkk := Kp.set u ⟨wz.heap.size, 5, none⟩ (.slice a5 C.cons.length p5)
    refine wpAny_ready (rs := [23]) (by kernel_rfl) (by simp) ?_
    refine AllReady.cons (o := _) rfl (fun K1 hK1 => ?_) AllReady.nil
    go_simp
    refine hK1 _ _ ?_
    clear hK1 K1 cs fs hB hku
    have g1' := SlF.kp g1 hkk (fun j hj => by have hj2 : j = wz.heap.size := hj; have := HLt.out; omega)
    clear g1
    have g1 := g1'
    clear g1'
    have g3' := SlF.kp g3 hkk (fun j hj => by have hj2 : j = wz.heap.size := hj; have := HLt.out; omega)
    clear g3
    have g3 := g3'
    clear g3'
    have g4' := SlF.kp g4 hkk (fun j hj => by have hj2 : j = wz.heap.size := hj; have := HLt.out; omega)
    clear g4
    have g4 := g4'
    clear g4'
    have g5' := SlF.kp g5 hkk (fun j hj => by have hj2 : j = wz.heap.size := hj; have := HLt.out; omega)
    clear g5
    have g5 := g5'
    clear g5'
    clear hkk
    generalize u.setCell ⟨wz.heap.size, 5, none⟩ (.slice a5 C.cons.length p5) = u2 at hB' hk' g1 g3 g4 g5 ⊢
    obtain ⟨u, rfl⟩ : ∃ u, u = u2 := ⟨_, rfl⟩
    have hB := hB'
    have hku := hk'
    clear hB' hk'
    try simp only [Act.put, List.setIfInBounds_toArray, List.set_cons_zero, List.set_cons_succ]
    refine wpAny_done (by kernel_rfl) ?_ _
    obtain ⟨w4, rfl⟩ : ∃ w4 : World, w4 = u := ⟨_, rfl⟩
    have HK34 := Lib.hid hku
    have HKb4 := Lib.hid (HKb.out.trans hku (fun j hj e => by have := HSz.out; have e2 : j = wz.heap.size := e; omega))
    have HCb4 := Lib.hid (HCb.out.kp hku (fun e => by have := HSz.out; have e2 : w.heap.size = wz.heap.size := e; omega))
    have HBb4 := Lib.hid (HBb.out.kp hku (fun e => by have := HSz.out; have e2 : w.heap.size + 1 = wz.heap.size := e; omega))
    have HDown3 := Lib.hid hB
    have HLt4 := Lib.hid (show wz.heap.size < w4.heap.size by have := HLt.out; have := HK34.out.size; omega)
    have HG := Lib.hid (And.intro g1 (And.intro g3 (And.intro g4 g5)))
    have HLe := Lib.hid HK34.out.size
    clear hku hB g1 g3 g4 g5 HKb HCb HBb HK34
    have HKb := HKb4
    have HCb := HCb4
    have HBb := HBb4
    have HLt0 := HLt
    clear HKb4 HCb4 HBb4 HLt
    have HLt := HLt4
    clear HLt4
    go_upto_region 3 with fail
    refine wp_region_loose (p := upTo 13) (V := atV (own3V w.heap.size wz.heap.size w4.heap.size V C rows)) (LP := #[true, true, true, true, true, true, true, true, true, true, true, true, true, false, false, false, false, false]) (K := 5) (by kernel_rfl) (by kernel_rfl) (atV_st (own3V_st _ _ _ V C rows)) ?hstepown3 (by kernel_rfl) ?hLPown3 (by kernel_rfl) ?hendown3
    case hLPown3 => exact upTo_spec (by kernel_rfl)
    case hstepown3 =>
      intro i o ho hp a u hk hoff hdep
      have e1 : a.tmps[1]?.getD undef = .pointer (some ⟨w.heap.size, 0, none⟩) := slot_at (hoff 1 (noDst_spec (by kernel_rfl)))
      have e3 : a.tmps[3]?.getD undef = .pointer (some ⟨wz.heap.size, 0, none⟩) := slot_at (hoff 3 (noDst_spec (by kernel_rfl)))
      clear hoff
      match i, ho with
      | 0, ho =>
        obtain rfl := Option.some.inj ho
        refine lw_value (v := .slice (some ⟨u.heap.size, 0, none⟩) 0 0) (u' := u.alloc (.cells #[] 51)) ?_ ((Kp.refl _ _).alloc _) ⟨_, rfl, Blk.new _ _ _⟩
        go_simp
      | 1, ho =>
        obtain rfl := Option.some.inj ho
        refine lw_value (v := .pointer (some ⟨w.heap.size, 2, none⟩)) (u' := u) ?_ (Kp.refl _ _) rfl
        go_simp
      | 2, ho =>
        obtain rfl := Option.some.inj ho
        have e6 : a.tmps[26]?.getD undef = .pointer (some ⟨w.heap.size, 2, none⟩) := slot_at (hdep ⟨1, .data⟩ (by simp) rfl _ 26 rfl rfl)
        have c1 := (HCb.out.kp hk (fun h => h)).cell (i := 2) (v := .slice V.al C.lats.length V.cl) rfl
        refine lw_value (v := .slice V.al C.lats.length V.cl) (u' := u) ?_ (Kp.refl _ _) ⟨_, _, rfl, HA.out.fl, (HA.out.kp (HKb.out.trans hk (fun _ _ h => h))).l⟩
        go_simp
      | 3, ho =>
        obtain rfl := Option.some.inj ho
        have e5 : LitV 51 u (a.eval (.tmp 25)) := hdep ⟨0, .data⟩ (by simp) rfl _ 25 rfl rfl
        have e7 : SlK (C.lats.map tri) C.lats.length u (a.eval (.tmp 27)) := hdep ⟨2, .data⟩ (by simp) rfl _ 27 rfl rfl
        exact lw_append (.tmp 25) (.tmp 27) 23 51 rfl Tryd.underlying23 HIl.out rfl (by decide) e5 e7 (List.length_map ..) (tri_len _) (tri_one _) (by have := HF.out.l; unfold maxLen; omega) (by have := HF.out.l; omega) hk.size
      | 4, ho =>
        obtain rfl := Option.some.inj ho
        refine lw_value (v := .slice (some ⟨u.heap.size, 0, none⟩) 0 0) (u' := u.alloc (.cells #[] 43)) ?_ ((Kp.refl _ _).alloc _) ⟨_, rfl, Blk.new _ _ _⟩
        go_simp
      | 5, ho =>
        obtain rfl := Option.some.inj ho
        refine lw_value (v := .pointer (some ⟨w.heap.size, 6, none⟩)) (u' := u) ?_ (Kp.refl _ _) rfl
        go_simp
      | 6, ho =>
        obtain rfl := Option.some.inj ho
        have e6 : a.tmps[30]?.getD undef = .pointer (some ⟨w.heap.size, 6, none⟩) := slot_at (hdep ⟨5, .data⟩ (by simp) rfl _ 30 rfl rfl)
        have c1 := (HCb.out.kp hk (fun h => h)).cell (i := 6) (v := .slice V.ag C.gates.length V.cg) rfl
        refine lw_value (v := .slice V.ag C.gates.length V.cg) (u' := u) ?_ (Kp.refl _ _) ⟨_, _, rfl, HA.out.fg, (HA.out.kp (HKb.out.trans hk (fun _ _ h => h))).g⟩
        go_simp
      | 7, ho =>
        obtain rfl := Option.some.inj ho
        have e5 : LitV 43 u (a.eval (.tmp 29)) := hdep ⟨4, .data⟩ (by simp) rfl _ 29 rfl rfl
        have e7 : SlK (C.gates.map tri) C.gates.length u (a.eval (.tmp 31)) := hdep ⟨6, .data⟩ (by simp) rfl _ 31 rfl rfl
        exact lw_append (.tmp 29) (.tmp 31) 24 43 rfl Tryd.underlying24 HIg.out rfl (by decide) e5 e7 (List.length_map ..) (tri_len _) (tri_one _) (by have := HF.out.g; unfold maxLen; omega) (by have := HF.out.g; omega) hk.size
      | 8, ho =>
        obtain rfl := Option.some.inj ho
        refine lw_value (v := .slice (some ⟨u.heap.size, 0, none⟩) 0 0) (u' := u.alloc (.cells #[] 73)) ?_ ((Kp.refl _ _).alloc _) ⟨_, rfl, Blk.new _ _ _⟩
        go_simp
      | 9, ho =>
        obtain rfl := Option.some.inj ho
        refine lw_value (v := .pointer (some ⟨w.heap.size, 7, none⟩)) (u' := u) ?_ (Kp.refl _ _) rfl
        go_simp
      | 10, ho =>
        obtain rfl := Option.some.inj ho
        have e6 : a.tmps[34]?.getD undef = .pointer (some ⟨w.heap.size, 7, none⟩) := slot_at (hdep ⟨9, .data⟩ (by simp) rfl _ 34 rfl rfl)
        have c1 := (HCb.out.kp hk (fun h => h)).cell (i := 7) (v := .slice V.ay V.ny V.cy) rfl
        refine lw_value (v := .slice V.ay V.ny V.cy) (u' := u) ?_ (Kp.refl _ _) ⟨_, _, rfl, HA.out.fy, HRows.out.kp (HKb.out.trans hk (fun _ _ h => h)) (fun _ _ h => h)⟩
        go_simp
      | 11, ho =>
        obtain rfl := Option.some.inj ho
        have e5 : LitV 73 u (a.eval (.tmp 33)) := hdep ⟨8, .data⟩ (by simp) rfl _ 33 rfl rfl
        have e7 : SlK rows V.ny u (a.eval (.tmp 35)) := hdep ⟨10, .data⟩ (by simp) rfl _ 35 rfl rfl
        exact lw_append (.tmp 33) (.tmp 35) 25 73 rfl Tryd.underlying25 HIs.out rfl (by decide) e5 e7 HRL.out.1 HRL.out.2.1 HRL.out.2.2 (by have := HY.out; unfold maxLen; omega) (by have := HY.out; omega) hk.size
      | 12, ho =>
        obtain rfl := Option.some.inj ho
        refine lw_value (v := .pointer (some ⟨wz.heap.size, 2, none⟩)) (u' := u) ?_ (Kp.refl _ _) rfl
        go_simp
      | n + 13, _ => exact absurd hp (by simp [upTo])
    case hendown3 =>
      intro a u hI
      have hsz : a.tmps.size = 41 := hI.size
      have hdf : a.defers = [] := hI.defers
      have f0 : a.tmps.getD 0 undef = _ := hI.off 0 (noDst_spec (p := upTo 13) (by kernel_rfl))
      have f1 : a.tmps.getD 1 undef = _ := hI.off 1 (noDst_spec (p := upTo 13) (by kernel_rfl))
      have f2 : a.tmps.getD 2 undef = _ := hI.off 2 (noDst_spec (p := upTo 13) (by kernel_rfl))
      have f3 : a.tmps.getD 3 undef = _ := hI.off 3 (noDst_spec (p := upTo 13) (by kernel_rfl))
      have f4 : a.tmps.getD 4 undef = _ := hI.off 4 (noDst_spec (p := upTo 13) (by kernel_rfl))
      have f5 : a.tmps.getD 5 undef = _ := hI.off 5 (noDst_spec (p := upTo 13) (by kernel_rfl))
      have f6 : a.tmps.getD 6 undef = _ := hI.off 6 (noDst_spec (p := upTo 13) (by kernel_rfl))
      have f7 : a.tmps.getD 7 undef = _ := hI.off 7 (noDst_spec (p := upTo 13) (by kernel_rfl))
      have f8 : a.tmps.getD 8 undef = _ := hI.off 8 (noDst_spec (p := upTo 13) (by kernel_rfl))
      have f9 : a.tmps.getD 9 undef = _ := hI.off 9 (noDst_spec (p := upTo 13) (by kernel_rfl))
      have f10 : a.tmps.getD 10 undef = _ := hI.off 10 (noDst_spec (p := upTo 13) (by kernel_rfl))
      have f11 : a.tmps.getD 11 undef = _ := hI.off 11 (noDst_spec (p := upTo 13) (by kernel_rfl))
      have f12 : a.tmps.getD 12 undef = _ := hI.off 12 (noDst_spec (p := upTo 13) (by kernel_rfl))
      have f13 : a.tmps.getD 13 undef = _ := hI.off 13 (noDst_spec (p := upTo 13) (by kernel_rfl))
      have f14 : a.tmps.getD 14 undef = _ := hI.off 14 (noDst_spec (p := upTo 13) (by kernel_rfl))
      have f15 : a.tmps.getD 15 undef = _ := hI.off 15 (noDst_spec (p := upTo 13) (by kernel_rfl))
      have f16 : a.tmps.getD 16 undef = _ := hI.off 16 (noDst_spec (p := upTo 13) (by kernel_rfl))
      have f17 : a.tmps.getD 17 undef = _ := hI.off 17 (noDst_spec (p := upTo 13) (by kernel_rfl))
      have f18 : a.tmps.getD 18 undef = _ := hI.off 18 (noDst_spec (p := upTo 13) (by kernel_rfl))
      have f19 : a.tmps.getD 19 undef = _ := hI.off 19 (noDst_spec (p := upTo 13) (by kernel_rfl))
      have f20 : a.tmps.getD 20 undef = _ := hI.off 20 (noDst_spec (p := upTo 13) (by kernel_rfl))
      have f21 : a.tmps.getD 21 undef = _ := hI.off 21 (noDst_spec (p := upTo 13) (by kernel_rfl))
      have f22 : a.tmps.getD 22 undef = _ := hI.off 22 (noDst_spec (p := upTo 13) (by kernel_rfl))
      have f23 : a.tmps.getD 23 undef = _ := hI.off 23 (noDst_spec (p := upTo 13) (by kernel_rfl))
      have f24 : a.tmps.getD 24 undef = _ := hI.off 24 (noDst_spec (p := upTo 13) (by kernel_rfl))
      have f38 : a.tmps.getD 38 undef = _ := hI.off 38 (noDst_spec (p := upTo 13) (by kernel_rfl))
      have f39 : a.tmps.getD 39 undef = _ := hI.off 39 (noDst_spec (p := upTo 13) (by kernel_rfl))
      have f40 : a.tmps.getD 40 undef = _ := hI.off 40 (noDst_spec (p := upTo 13) (by kernel_rfl))
      have g2 : SlF w4.heap.size (C.lats.map tri) C.lats.length u (a.tmps.getD 28 undef) := hI.val 3 _ 28 rfl rfl rfl
      obtain ⟨a2, p2, f28, -, -, -⟩ := id g2
      rw [f28] at g2
      have g6 : SlF w4.heap.size (C.gates.map tri) C.gates.length u (a.tmps.getD 32 undef) := hI.val 7 _ 32 rfl rfl rfl
      obtain ⟨a6, p6, f32, -, -, -⟩ := id g6
      rw [f32] at g6
      have g7 : SlF w4.heap.size rows V.ny u (a.tmps.getD 36 undef) := hI.val 11 _ 36 rfl rfl rfl
      obtain ⟨a7, p7, f36, -, -, -⟩ := id g7
      rw [f36] at g7
      have f37 : a.tmps.getD 37 undef = .pointer (some ⟨wz.heap.size, 2, none⟩) := hI.val 12 _ 37 rfl rfl rfl
      have ha : a = ⟨#[a.tmps.getD 0 undef, a.tmps.getD 1 undef, a.tmps.getD 2 undef, a.tmps.getD 3 undef, a.tmps.getD 4 undef, a.tmps.getD 5 undef, a.tmps.getD 6 undef, a.tmps.getD 7 undef, a.tmps.getD 8 undef, a.tmps.getD 9 undef, a.tmps.getD 10 undef, a.tmps.getD 11 undef, a.tmps.getD 12 undef, a.tmps.getD 13 undef, a.tmps.getD 14 undef, a.tmps.getD 15 undef, a.tmps.getD 16 undef, a.tmps.getD 17 undef, a.tmps.getD 18 undef, a.tmps.getD 19 undef, a.tmps.getD 20 undef, a.tmps.getD 21 undef, a.tmps.getD 22 undef, a.tmps.getD 23 undef, a.tmps.getD 24 undef, a.tmps.getD 25 undef, a.tmps.getD 26 undef, a.tmps.getD 27 undef, a.tmps.getD 28 undef, a.tmps.getD 29 undef, a.tmps.getD 30 undef, a.tmps.getD 31 undef, a.tmps.getD 32 undef, a.tmps.getD 33 undef, a.tmps.getD 34 undef, a.tmps.getD 35 undef, a.tmps.getD 36 undef, a.tmps.getD 37 undef, a.tmps.getD 38 undef, a.tmps.getD 39 undef, a.tmps.getD 40 undef], a.defers⟩ := act_list a 41 hsz
      rw [hdf, f0, f1, f2, f3, f4, f5, f6, f7, f8, f9, f10, f11, f12, f13, f14, f15, f16, f17, f18, f19, f20, f21, f22, f23, f24, f28, f32, f36, f37, f38, f39, f40] at ha
      obtain ⟨x25, hx25⟩ : ∃ x, a.tmps.getD 25 undef = x := ⟨_, rfl⟩
      obtain ⟨x26, hx26⟩ : ∃ x, a.tmps.getD 26 undef = x := ⟨_, rfl⟩
      obtain ⟨x27, hx27⟩ : ∃ x, a.tmps.getD 27 undef = x := ⟨_, rfl⟩
      obtain ⟨x29, hx29⟩ : ∃ x, a.tmps.getD 29 undef = x := ⟨_, rfl⟩
      obtain ⟨x30, hx30⟩ : ∃ x, a.tmps.getD 30 undef = x := ⟨_, rfl⟩
      obtain ⟨x31, hx31⟩ : ∃ x, a.tmps.getD 31 undef = x := ⟨_, rfl⟩
      obtain ⟨x33, hx33⟩ : ∃ x, a.tmps.getD 33 undef = x := ⟨_, rfl⟩
      obtain ⟨x34, hx34⟩ : ∃ x, a.tmps.getD 34 undef = x := ⟨_, rfl⟩
      obtain ⟨x35, hx35⟩ : ∃ x, a.tmps.getD 35 undef = x := ⟨_, rfl⟩
      rw [hx25, hx26, hx27, hx29, hx30, hx31, hx33, hx34, hx35] at ha
      have hku := hI.kp
      have hB := HDown3.out.kp hku (fun h => h)
      clear hI hsz hdf f0 f1 f2 f3 f4 f5 f6 f7 f8 f9 f10 f11 f12 f13 f14 f15 f16 f17 f18 f19 f20 f21 f22 f23 f24 f28 f32 f36 f37 f38 f39 f40 hx25 hx26 hx27 hx29 hx30 hx31 hx33 hx34 hx35
      subst ha
      have cs := hB.cell (i := 2) (v := .slice V.al C.lats.length V.cl) rfl
      have fs := hB.free 2
      have hB' : Blk (u.setCell ⟨wz.heap.size, 2, none⟩ (.slice a2 C.lats.length p2)) wz.heap.size #[.int .i64 C.max, .slice a1 C.ins.length p1, .slice a2 C.lats.length p2, .slice a3 C.outs.length p3, .slice a4 C.bads.length p4, .slice a5 C.cons.length p5, .slice V.ag C.gates.length V.cg, .slice V.ay V.ny V.cy, .string V.cm] 27 := hB.set_same 2 (.slice a2 C.lats.length p2)
      have hk' : Kp (fun j => j = wz.heap.size) w4 (u.setCell ⟨wz.heap.size, 2, none⟩ (.slice a2 C.lats.length p2)) := (hku.mono (fun _ _ h => h.elim)).setCell (S := fun j => j = wz.heap.size) (p := ⟨wz.heap.size, 2, none⟩) (fun _ => rfl) _
      have hkk := Kp.set u ⟨wz.heap.size, 2, none⟩ (.slice a2 C.lats.length p2)
      refine wpAny_ready (rs := [13]) (by kernel_rfl) (by simp) ?_
      refine AllReady.cons (o := _) rfl (fun K1 hK1 => ?_) AllReady.nil
      go_simp
      refine hK1 _ _ ?_
      clear hK1 K1 cs fs hB hku
      have g2' := SlF.kp g2 hkk (fun j hj => by have hj2 : j = wz.heap.size := hj; have := HLt.out; omega)
      clear g2
      have g2 := g2'
      clear g2'
      have g6' := SlF.kp g6 hkk (fun j hj => by have hj2 : j = wz.heap.size := hj; have := HLt.out; omega)
      clear g6
      have g6 := g6'
      clear g6'
      have g7' := SlF.kp g7 hkk (fun j hj => by have hj2 : j = wz.heap.size := hj; have := HLt.out; omega)
      clear g7
      have g7 := g7'
      clear g7'
      clear hkk
      generalize u.setCell ⟨wz.heap.size, 2, none⟩ (.slice a2 C.lats.length p2) = u2 at hB' hk' g2 g6 g7 ⊢
      obtain ⟨u, rfl⟩ : ∃ u, u = u2 := ⟨_, rfl⟩
      have hB := hB'
      have hku := hk'
      clear hB' hk'
      try simp only [Act.put, List.setIfInBounds_toArray, List.set_cons_zero, List.set_cons_succ]
      refine wpAny_ready (rs := [14]) (by kernel_rfl) (by simp) ?_
      refine AllReady.cons (o := _) rfl (fun K1 hK1 => ?_) AllReady.nil
      go_simp
      refine hK1 _ _ ?_
      clear hK1 K1
      try simp only [Act.put, List.setIfInBounds_toArray, List.set_cons_zero, List.set_cons_succ]
      have cs := hB.cell (i := 6) (v := .slice V.ag C.gates.length V.cg) rfl
      have fs := hB.free 6
      have hB' : Blk (u.setCell ⟨wz.heap.size, 6, none⟩ (.slice a6 C.gates.length p6)) wz.heap.size #[.int .i64 C.max, .slice a1 C.ins.length p1, .slice a2 C.lats.length p2, .slice a3 C.outs.length p3, .slice a4 C.bads.length p4, .slice a5 C.cons.length p5, .slice a6 C.gates.length p6, .slice V.ay V.ny V.cy, .string V.cm] 27 := hB.set_same 6 (.slice a6 C.gates.length p6)
      have hk' : Kp (fun j => j = wz.heap.size) w4 (u.setCell ⟨wz.heap.size, 6, none⟩ (.slice a6 C.gates.length p6)) := hku.setCell (S := fun j => j = wz.heap.size) (p := ⟨wz.heap.size, 6, none⟩) (fun _ => rfl) _
      have hkk := Kp.set u ⟨wz.heap.size, 6, none⟩ (.slice a6 C.gates.length p6)
      refine wpAny_ready (rs := [15]) (by kernel_rfl) (by simp) ?_
      refine AllReady.cons (o := _) rfl (fun K1 hK1 => ?_) AllReady.nil
      go_simp
      refine hK1 _ _ ?_
      clear hK1 K1 cs fs hB hku
      have g2' := SlF.kp g2 hkk (fun j hj => by have hj2 : j = wz.heap.size := hj; have := HLt.out; omega)
      clear g2
      have g2 := g2'
      clear g2'
      have g6' := SlF.kp g6 hkk (fun j hj => by have hj2 : j = wz.heap.size := hj; have := HLt.out; omega)
      clear g6
      have g6 := g6'
      clear g6'
      have g7' := SlF.kp g7 hkk (fun j hj => by have hj2 : j = wz.heap.size := hj; have := HLt.out; omega)
      clear g7
      have g7 := g7'
      clear g7'
      clear hkk
      generalize u.setCell ⟨wz.heap.size, 6, none⟩ (.slice a6 C.gates.length p6) = u2 at hB' hk' g2 g6 g7 ⊢
      obtain ⟨u, rfl⟩ : ∃ u, u = u2 := ⟨_, rfl⟩
      have hB := hB'
      have hku := hk'
      clear hB' hk'
      try simp only [Act.put, List.setIfInBounds_toArray, List.set_cons_zero, List.set_cons_succ]
      refine wpAny_ready (rs := [16]) (by kernel_rfl) (by simp) ?_
      refine AllReady.cons (o := _) rfl (fun K1 hK1 => ?_) AllReady.nil
      go_simp
      refine hK1 _ _ ?_
      clear hK1 K1
      try simp only [Act.put, List.setIfInBounds_toArray, List.set_cons_zero, List.set_cons_succ]
      have cs := hB.cell (i := 7) (v := .slice V.ay V.ny V.cy) rfl
      have fs := hB.free 7
      have hB' : Blk (u.setCell ⟨wz.heap.size, 7, none⟩ (.slice a7 V.ny p7)) wz.heap.size #[.int .i64 C.max, .slice a1 C.ins.length p1, .slice a2 C.lats.length p2, .slice a3 C.outs.length p3, .slice a4 C.bads.length p4, .slice a5 C.cons.length p5, .slice a6 C.gates.length p6, .slice a7 V.ny p7, .string V.cm] 27 := hB.set_same 7 (.slice a7 V.ny p7)
      have hk' : Kp (fun j => j = wz.heap.size) w4 (u.setCell ⟨wz.heap.size, 7, none⟩ (.slice a7 V.ny p7)) := hku.setCell (S := fun j => j = wz.heap.size) (p := ⟨wz.heap.size, 7, none⟩) (fun _ => rfl) _
      have hkk := Kp.set u ⟨wz.heap.size, 7, none⟩ (.slice a7 V.ny p7)
      refine wpAny_ready (rs := [17]) (by kernel_rfl) (by simp) ?_
      refine AllReady.cons (o := _) rfl (fun K1 hK1 => ?_) AllReady.nil
      go_simp
      refine hK1 _ _ ?_
      clear hK1 K1 cs fs hB hku
      have g2' := SlF.kp g2 hkk (fun j hj => by have hj2 : j = wz.heap.size := hj; have := HLt.out; omega)
      clear g2
      have g2 := g2'
      clear g2'
      have g6' := SlF.kp g6 hkk (fun j hj => by have hj2 : j = wz.heap.size := hj; have := HLt.out; omega)
      clear g6
      have g6 := g6'
      clear g6'
      have g7' := SlF.kp g7 hkk (fun j hj => by have hj2 : j = wz.heap.size := hj; have := HLt.out; omega)
      clear g7
      have g7 := g7'
      clear g7'
      clear hkk
      generalize u.setCell ⟨wz.heap.size, 7, none⟩ (.slice a7 V.ny p7) = u2 at hB' hk' g2 g6 g7 ⊢
      obtain ⟨u, rfl⟩ : ∃ u, u = u2 := ⟨_, rfl⟩
      have hB := hB'
      have hku := hk'
      clear hB' hk'
      try simp only [Act.put, List.setIfInBounds_toArray, List.set_cons_zero, List.set_cons_succ]
      refine wpAny_done (by kernel_rfl) ?_ _
      have hG := HG.out
      obtain ⟨g1, g3, g4, g5⟩ := hG
      have q : ∀ j, (fun j => j = wz.heap.size) j → j < w3.heap.size := fun j hj => by have hj2 : j = wz.heap.size := hj; have := HLt0.out; omega
      have g1' := SlF.kp g1 hku q
      have g3' := SlF.kp g3 hku q
      have g4' := SlF.kp g4 hku q
      have g5' := SlF.kp g5 hku q
      clear g1 g3 g4 g5 q
      have hB2 := HBb.out.kp hku (fun e => by have := HSz.out; have e2 : w.heap.size + 1 = wz.heap.size := e; omega)
      have HKf := Lib.hid (HKb.out.trans hku (fun j hj e => by have := HSz.out; have e2 : j = wz.heap.size := e; omega))
      have hle : w3.heap.size ≤ w4.heap.size := HLe.out
      have g2 := g2.low hle
      have g6 := g6.low hle
      have g7 := g7.low hle
      have HGf := Lib.hid (And.intro g1' (And.intro g2 (And.intro g3' (And.intro g4' (And.intro g5' (And.intro g6 g7))))))
      have HB3 := Lib.hid hB
      have HB2 := Lib.hid hB2
      clear hB hB2 hku g1' g2 g3' g4' g5' g6 g7 HG
      obtain ⟨d0, d1, d2, d3, d4, d5, d6, d7, d8⟩ := HB3.out.cells9
      obtain ⟨z0, z1, z2, z3, z4, z5, z6, z7, z8⟩ := HB2.out.cells9
      have fr := HB2.out.free
      have fr0 := fr 0
      have fr1 := fr 1
      have fr2 := fr 2
      have fr3 := fr 3
      have fr4 := fr 4
      have fr5 := fr 5
      have fr6 := fr 6
      have fr7 := fr 7
      have fr8 := fr 8
      clear fr
      have HBe := Lib.hid (HB2.out.set9 (.int .i64 C.max) (.slice a1 C.ins.length p1) (.slice a2 C.lats.length p2) (.slice a3 C.outs.length p3) (.slice a4 C.bads.length p4) (.slice a5 C.cons.length p5) (.slice a6 C.gates.length p6) (.slice a7 V.ny p7) (.string V.cm))
      have HKe := Lib.hid (Kp.set9 u (w.heap.size + 1) (.int .i64 C.max) (.slice a1 C.ins.length p1) (.slice a2 C.lats.length p2) (.slice a3 C.outs.length p3) (.slice a4 C.bads.length p4) (.slice a5 C.cons.length p5) (.slice a6 C.gates.length p6) (.slice a7 V.ny p7) (.string V.cm))
      unfold Go.Proofs.YtmjcpapcmbgkjaaDoor.set9 at HBe HKe
      have HKw := Lib.hid (HKf.out.trans HKe.out (fun j hj e => by have e2 : j = (w.heap.size + 1) := e; omega))
      have q : ∀ j, (fun j => j = (w.heap.size + 1)) j → j < w3.heap.size := fun j hj => by have hj2 : j = w.heap.size + 1 := hj; have := HLt0.out; have := HSz.out; omega
      have HCat := Lib.hid (HGf.out)
      obtain ⟨g1, g2, g3, g4, g5, g6, g7⟩ := HCat.out
      have HG2 := Lib.hid (And.intro (SlF.kp g1 HKe.out q) (And.intro (SlF.kp g2 HKe.out q) (And.intro (SlF.kp g3 HKe.out q) (And.intro (SlF.kp g4 HKe.out q) (And.intro (SlF.kp g5 HKe.out q) (And.intro (SlF.kp g6 HKe.out q) (SlF.kp g7 HKe.out q)))))))
      clear q g1 g2 g3 g4 g5 g6 g7 HCat
      go_wp2_with fail
      obtain ⟨s0, s1, s2, s3, s4, s5, s6, s7, s8⟩ := HBe.out.cells9
      obtain ⟨g1, g2, g3, g4, g5, g6, g7⟩ := HG2.out
      have HRes := Lib.hid (show CAt _ ⟨a1, p1, a2, p2, a3, p3, a4, p4, a5, p5, a6, p6, a7, V.ny, p7, V.cm⟩ C from ⟨(by have h := (SlF.row g1).2; rw [ir_flat] at h; exact h), (SlF.row g2).2, (by have h := (SlF.row g3).2; rw [ir_flat] at h; exact h), (by have h := (SlF.row g4).2; rw [ir_flat] at h; exact h), (by have h := (SlF.row g5).2; rw [ir_flat] at h; exact h), (SlF.row g6).2, ⟨rows, (SlF.row g7).2, HRL.out⟩, (SlF.row g1).1, (SlF.row g2).1, (SlF.row g3).1, (SlF.row g4).1, (SlF.row g5).1, (SlF.row g6).1, (SlF.row g7).1⟩)
      clear g1 g2 g3 g4 g5 g6 g7
      exact bodyPost_ret (v := .agg #[.int .i64 C.max, .slice a1 C.ins.length p1, .slice a2 C.lats.length p2, .slice a3 C.outs.length p3, .slice a4 C.bads.length p4, .slice a5 C.cons.length p5, .slice a6 C.gates.length p6, .slice a7 V.ny p7, .string V.cm]) (by simp [results, Tryd.results8, go_sem, s0, s1, s2, s3, s4, s5, s6, s7, s8]) rfl ⟨⟨a1, p1, a2, p2, a3, p3, a4, p4, a5, p5, a6, p6, a7, V.ny, p7, V.cm⟩, rfl, HRes.out, rfl, HKw.out⟩

end Go.Proofs.YtmjcpapcmbgkjaaDoor

/-
  How a circuit that came in is opened.
-/
namespace Go.Proofs.YtmjcpapcmbgkjaaDoor
open Go.RowKit Go.ChangeShapes Go.WideShapes Go.ChangeAt Go.Joins Go.Deep

section
variable {H : Type} {enc : TypeId × Value → H} {W : World}

/-- a row of ints among the cells of what came in -/
theorem circ_ints {fuel : Nat} {v : Value} {x : DataW H × List MemPlace}
    (h : DataW.trod enc Tryd.prog W 0 (fun _ => true) true fuel 22 [v] = some x) : ∃ (a : Option Addr) (c : Nat) (L : List Int), v = .slice a L.length c ∧ SlOK a L.length c ∧ IntsAt W a L := by
  rcases open_ints Tryd.underlying22 Tryd.underlying3 (by kernel_rfl) h with ⟨hcs, _⟩ | ⟨a, len, cap, zs, hcs, _, hl, hm, hz, _, hcell, hwz⟩
  · simp at hcs
    subst hcs
    exact ⟨none, 0, [], rfl, ⟨Nat.le_refl _, by simp [maxLen], fun _ => rfl⟩, RowAt.nil _ _⟩
  · simp at hcs
    subst hcs
    simp only [if_true] at hz
    have hlen : (zs.take len).length = len := by rw [List.length_take, hz]; omega
    refine ⟨some a, cap, zs.take len, by rw [hlen], ⟨by rw [hlen]; exact hl, hm, (fun h => by cases h)⟩, ?_⟩
    intro j u hu
    rw [List.getElem?_map, List.getElem?_take] at hu
    split at hu
    · rename_i hj
      have h0 := hcell 0 (by omega)
      have hs : a.spot = none := by
        have := World.cell?_spot h0
        simpa [Addr.add] using this
      obtain ⟨b, off, spot⟩ := a
      simp only at hs
      subst hs
      refine ⟨b, off, rfl, ?_⟩
      have hc := hcell j (by omega)
      rw [add_plain'] at hc
      rw [hc]
      rw [List.getElem?_eq_getElem (by omega)] at hu
      simp only [Option.map_some] at hu
      rw [← hu]
      simp [List.getD, List.getElem?_eq_getElem (show j < zs.length by omega)]
    · simp at hu

def row3 (V0 V1 V2 : Nat → Value) (n : Nat) : List (List Value) := (List.range n).map (fun i => [V0 i, V1 i, V2 i])
theorem row3_len (V0 V1 V2 : Nat → Value) (n : Nat) : ∀ r ∈ row3 V0 V1 V2 n, r.length = 3 := fun r h => by
  unfold row3 at h
  obtain ⟨i, -, rfl⟩ := List.mem_map.1 h
  rfl

set_option maxRecDepth 100000 in
/-- a row of structs of three cells -/
theorem circ_rows {t e : TypeId} {f0 f1 f2 : Field} {fuel : Nat} {v : Value} {x : DataW H × List MemPlace} (ht : Tryd.prog.underlying t = some (.slice e)) (he : Tryd.prog.underlying e = some (.struct #[f0, f1, f2]))
    (ce : Tryd.prog.cellsOf e = 3) (o0 : f0.offset = 0) (o1 : f1.offset = 1) (o2 : f2.offset = 2) (c0 : Tryd.prog.cellsOf f0.type = 1) (c1 : Tryd.prog.cellsOf f1.type = 1) (c2 : Tryd.prog.cellsOf f2.type = 1)
    (h : DataW.trod enc Tryd.prog W 0 (fun _ => true) true fuel t [v] = some x) : ∃ (a : Option Addr) (n c : Nat) (V0 V1 V2 : Nat → Value), v = .slice a n c ∧ SlOK a n c ∧ RowAt W a (row3 V0 V1 V2 n).flatten ∧
      ∀ i, i < n → (∃ m y, DataW.trod enc Tryd.prog W 0 (fun _ => true) true m f0.type [V0 i] = some y) ∧ (∃ m y, DataW.trod enc Tryd.prog W 0 (fun _ => true) true m f1.type [V1 i] = some y) ∧ (∃ m y, DataW.trod enc Tryd.prog W 0 (fun _ => true) true m f2.type [V2 i] = some y) := by
  rcases open_slice ht h with ⟨hcs, _⟩ | ⟨a, len, cap, m, n, D, Pl, hcs, _, hl, hm, hmm, _, hx⟩
  · simp at hcs
    subst hcs
    exact ⟨none, 0, 0, fun _ => .bool false, fun _ => .bool false, fun _ => .bool false, rfl, ⟨Nat.le_refl _, by simp [maxLen], fun _ => rfl⟩, RowAt.nil _ _, fun i hi => by omega⟩
  · simp at hcs
    subst hcs
    simp only [if_true] at hmm
    subst hmm
    have each : ∀ i, i < len → ∃ q : Value × Value × Value, W.cell? (a.add (i * 3)) = some q.1 ∧ W.cell? (a.add (i * 3 + 1)) = some q.2.1 ∧ W.cell? (a.add (i * 3 + 2)) = some q.2.2 ∧
        (∃ m y, DataW.trod enc Tryd.prog W 0 (fun _ => true) true m f0.type [q.1] = some y) ∧ (∃ m y, DataW.trod enc Tryd.prog W 0 (fun _ => true) true m f1.type [q.2.1] = some y) ∧ (∃ m y, DataW.trod enc Tryd.prog W 0 (fun _ => true) true m f2.type [q.2.2] = some y) := by
      intro i hi
      obtain ⟨cs', h1, h2⟩ := hx i (by omega)
      rw [ce] at h1
      obtain ⟨_, hlen, hcell⟩ := World.cells?_some h1
      obtain ⟨xs, k, _, _, _, hxl, hf⟩ := DataW.trod_struct he h2
      match xs, hxl, cs', hlen with
      | [y0, y1, y2], _, [v0, v1, v2], _ =>
        have g0 := hf 0 f0 rfl
        have g1 := hf 1 f1 rfl
        have g2 := hf 2 f2 rfl
        simp [o0, o1, o2, c0, c1, c2] at g0 g1 g2
        have e0 := hcell 0 (by omega)
        have e1 := hcell 1 (by omega)
        have e2 := hcell 2 (by omega)
        rw [add_add] at e0 e1 e2
        exact ⟨(v0, v1, v2), by simpa using e0, by simpa using e1, by simpa using e2, ⟨_, _, g0⟩, ⟨_, _, g1⟩, ⟨_, _, g2⟩⟩
    obtain ⟨q, hq⟩ := choose_lt each
    refine ⟨some a, len, m, fun i => (q i).1, fun i => (q i).2.1, fun i => (q i).2.2, rfl, ⟨hl, hm, fun h => by cases h⟩, ?_, fun i hi => (hq i hi).2.2.2⟩
    intro j u hu
    have hlen : (row3 (fun i => (q i).1) (fun i => (q i).2.1) (fun i => (q i).2.2) len).flatten.length = len * 3 := by
      rw [flat_length (row3_len _ _ _ _)]; simp [row3]
    have hj : j < len * 3 := by rw [← hlen]; exact (List.getElem?_eq_some_iff.1 hu).1
    have hr : (row3 (fun i => (q i).1) (fun i => (q i).2.1) (fun i => (q i).2.2) len)[j / 3]? = some [(q (j / 3)).1, (q (j / 3)).2.1, (q (j / 3)).2.2] := by
      have : j / 3 < len := by omega
      simp [row3, this]
    obtain ⟨q0, q1, q2, -⟩ := hq (j / 3) (by omega)
    have hs : a.spot = none := by
      have := World.cell?_spot (hq 0 (by omega)).1
      simpa [Addr.add] using this
    obtain ⟨b, off, spot⟩ := a
    simp only at hs
    subst hs
    refine ⟨b, off, rfl, ?_⟩
    rw [add_plain'] at q0 q1 q2
    have hc : j % 3 = 0 ∨ j % 3 = 1 ∨ j % 3 = 2 := by omega
    rcases hc with hp | hp | hp
    · have h0 := flat_at (row3_len _ _ _ _) hr (i := 0) rfl
      rw [show j / 3 * 3 + 0 = j by omega, hu] at h0
      rw [show off + j = off + j / 3 * 3 by omega, q0]
      exact h0.symm
    · have h0 := flat_at (row3_len _ _ _ _) hr (i := 1) rfl
      rw [show j / 3 * 3 + 1 = j by omega, hu] at h0
      rw [show off + j = off + (j / 3 * 3 + 1) by omega, q1]
      exact h0.symm
    · have h0 := flat_at (row3_len _ _ _ _) hr (i := 2) rfl
      rw [show j / 3 * 3 + 2 = j by omega, hu] at h0
      rw [show off + j = off + (j / 3 * 3 + 2) by omega, q2]
      exact h0.symm

theorem trod_i64 {m : Nat} {u : Value} {y : DataW H × List MemPlace} (h : DataW.trod enc Tryd.prog W 0 (fun _ => true) true m 3 [u] = some y) : ∃ z : Int, u = .int .i64 z := by
  obtain ⟨z, e, _, _⟩ := DataW.trod_int Tryd.underlying3 h
  simp at e
  exact ⟨z, e⟩

/-- three ints each -/
theorem circ_tris {V0 V1 V2 : Nat → Value} {n : Nat} (h0 : ∀ i, i < n → ∃ z : Int, V0 i = .int .i64 z) (h1 : ∀ i, i < n → ∃ z : Int, V1 i = .int .i64 z) (h2 : ∀ i, i < n → ∃ z : Int, V2 i = .int .i64 z) :
    ∃ L : List (Int × Int × Int), L.length = n ∧ row3 V0 V1 V2 n = L.map tri := by
  obtain ⟨z0, e0⟩ := choose_lt h0
  obtain ⟨z1, e1⟩ := choose_lt h1
  obtain ⟨z2, e2⟩ := choose_lt h2
  refine ⟨(List.range n).map (fun i => (z0 i, z1 i, z2 i)), by simp, ?_⟩
  unfold row3
  rw [List.map_map]
  refine List.map_congr_left fun i hi => ?_
  have hi := List.mem_range.1 hi
  simp only [Function.comp_apply, e0 i hi, e1 i hi, e2 i hi]
  rfl

end

theorem circ_cells : Tryd.prog.cellsOf 27 = 9 := by kernel_rfl
theorem circ_c0 : Tryd.prog.cellsOf 3 = 1 := by kernel_rfl
theorem circ_c1 : Tryd.prog.cellsOf 22 = 1 := by kernel_rfl
theorem circ_c2 : Tryd.prog.cellsOf 23 = 1 := by kernel_rfl
theorem circ_c3 : Tryd.prog.cellsOf 24 = 1 := by kernel_rfl
theorem circ_c4 : Tryd.prog.cellsOf 25 = 1 := by kernel_rfl
theorem circ_c5 : Tryd.prog.cellsOf 9 = 1 := by kernel_rfl

/-- a circuit that came in -/
def CircArg (W : World) (v : Value) : Prop := ∃ (V : CV) (C : Circ), v = .agg (cvals V C) ∧ CAt W V C ∧ V.cm.size ≤ maxLen
/-- .. with its symbols' kinds, and its greatest variable an int -/
def CircArgS (W : World) (v : Value) : Prop := ∃ (V : CV) (C : Circ), v = .agg (cvals V C) ∧ CAt W V C ∧ V.cm.size ≤ maxLen ∧ (-9223372036854775808 ≤ C.max ∧ C.max ≤ 9223372036854775807) ∧
  ∃ rows : List (List Value), RowAt W V.ay rows.flatten ∧ rows.length = V.ny ∧ ∀ (k : Nat) (r : List Value), rows[k]? = some r → ∃ (a b : Int) (s : ByteArray), r = [.int .u8 a, .int .i64 b, .string s]

set_option maxRecDepth 100000 in
theorem open_circArgS {H : Type} {enc : TypeId × Value → H} {W : World} {base : Nat} {v : Value} {d : DataW H} {ps : List MemPlace}
    (hv : Value.okWide Tryd.prog W .any base 27 v) (h : DataW.Trod enc Tryd.prog W 0 (fun _ => true) true 27 v d ps) : CircArgS W v := by
  obtain ⟨cs, rfl, hsz⟩ := okWide_struct Tryd.underlying27 hv
  obtain ⟨l⟩ := cs
  match l, hsz.trans circ_cells with
  | [k0, k1, k2, k3, k4, k5, k6, k7, k8], _ =>
    obtain ⟨fuel, hf⟩ := h
    obtain ⟨xs, n, _, _, _, hlen, hg⟩ := DataW.trod_struct Tryd.underlying27 hf
    have g0 : DataW.trod enc Tryd.prog W 0 (fun _ => true) true n 3 [k0] = xs[0]? := by simpa [Value.cells, circ_c0, circ_c1, circ_c2, circ_c3, circ_c4, circ_c5] using hg 0 _ rfl
    have g1 : DataW.trod enc Tryd.prog W 0 (fun _ => true) true n 22 [k1] = xs[1]? := by simpa [Value.cells, circ_c0, circ_c1, circ_c2, circ_c3, circ_c4, circ_c5] using hg 1 _ rfl
    have g2 : DataW.trod enc Tryd.prog W 0 (fun _ => true) true n 23 [k2] = xs[2]? := by simpa [Value.cells, circ_c0, circ_c1, circ_c2, circ_c3, circ_c4, circ_c5] using hg 2 _ rfl
    have g3 : DataW.trod enc Tryd.prog W 0 (fun _ => true) true n 22 [k3] = xs[3]? := by simpa [Value.cells, circ_c0, circ_c1, circ_c2, circ_c3, circ_c4, circ_c5] using hg 3 _ rfl
    have g4 : DataW.trod enc Tryd.prog W 0 (fun _ => true) true n 22 [k4] = xs[4]? := by simpa [Value.cells, circ_c0, circ_c1, circ_c2, circ_c3, circ_c4, circ_c5] using hg 4 _ rfl
    have g5 : DataW.trod enc Tryd.prog W 0 (fun _ => true) true n 22 [k5] = xs[5]? := by simpa [Value.cells, circ_c0, circ_c1, circ_c2, circ_c3, circ_c4, circ_c5] using hg 5 _ rfl
    have g6 : DataW.trod enc Tryd.prog W 0 (fun _ => true) true n 24 [k6] = xs[6]? := by simpa [Value.cells, circ_c0, circ_c1, circ_c2, circ_c3, circ_c4, circ_c5] using hg 6 _ rfl
    have g7 : DataW.trod enc Tryd.prog W 0 (fun _ => true) true n 25 [k7] = xs[7]? := by simpa [Value.cells, circ_c0, circ_c1, circ_c2, circ_c3, circ_c4, circ_c5] using hg 7 _ rfl
    have g8 : DataW.trod enc Tryd.prog W 0 (fun _ => true) true n 9 [k8] = xs[8]? := by simpa [Value.cells, circ_c0, circ_c1, circ_c2, circ_c3, circ_c4, circ_c5] using hg 8 _ rfl
    match xs, hlen with
    | [y0, y1, y2, y3, y4, y5, y6, y7, y8], _ =>
      obtain ⟨mx, hmx, -, hmr⟩ := DataW.trod_int Tryd.underlying3 g0
      simp at hmx
      subst hmx
      obtain ⟨a1, c1, L1, rfl, s1, r1⟩ := circ_ints g1
      obtain ⟨a2, n2, c2, P0, P1, P2, rfl, s2, r2, t2⟩ := circ_rows Tryd.underlying23 Tryd.underlying51 (by kernel_rfl) rfl rfl rfl circ_c0 circ_c0 circ_c0 g2
      obtain ⟨a3, c3, L3, rfl, s3, r3⟩ := circ_ints g3
      obtain ⟨a4, c4, L4, rfl, s4, r4⟩ := circ_ints g4
      obtain ⟨a5, c5, L5, rfl, s5, r5⟩ := circ_ints g5
      obtain ⟨a6, n6, c6, Q0, Q1, Q2, rfl, s6, r6, t6⟩ := circ_rows Tryd.underlying24 Tryd.underlying43 (by kernel_rfl) rfl rfl rfl circ_c0 circ_c0 circ_c0 g6
      obtain ⟨a7, n7, c7, R0, R1, R2, rfl, s7, r7, t7⟩ := circ_rows Tryd.underlying25 Tryd.underlying73 (by kernel_rfl) rfl rfl rfl (by kernel_rfl) circ_c0 circ_c5 g7
      obtain ⟨sm, e8, _, w8⟩ := DataW.trod_string Tryd.underlying9 g8
      simp only [List.cons.injEq, and_true] at e8
      subst e8
      obtain ⟨L2, l2, m2⟩ := circ_tris (fun i hi => by obtain ⟨m, y, h⟩ := (t2 i hi).1; exact trod_i64 h) (fun i hi => by obtain ⟨m, y, h⟩ := (t2 i hi).2.1; exact trod_i64 h) (fun i hi => by obtain ⟨m, y, h⟩ := (t2 i hi).2.2; exact trod_i64 h)
      obtain ⟨L6, l6, m6⟩ := circ_tris (fun i hi => by obtain ⟨m, y, h⟩ := (t6 i hi).1; exact trod_i64 h) (fun i hi => by obtain ⟨m, y, h⟩ := (t6 i hi).2.1; exact trod_i64 h) (fun i hi => by obtain ⟨m, y, h⟩ := (t6 i hi).2.2; exact trod_i64 h)
      rw [m2] at r2
      rw [m6] at r6
      subst l2 l6
      refine ⟨⟨a1, c1, a2, c2, a3, c3, a4, c4, a5, c5, a6, c6, a7, n7, c7, sm⟩, ⟨mx, L1, L2, L3, L4, L5, L6⟩, rfl, ⟨r1, r2, r3, r4, r5, r6, ⟨_, r7, by simp [row3], row3_len _ _ _ _, fun r hr u hu => ?_⟩, s1, s2, s3, s4, s5, s6, s7⟩, w8, by simp [Lit.wf, IntKind.min, IntKind.max, IntKind.signed, IntKind.bits] at hmr; simp only; omega, ⟨_, r7, by simp [row3], fun k r hk => ?_⟩⟩
      rotate_left
      · unfold row3 at hk
        obtain ⟨i, hi, rfl⟩ := List.mem_map.1 (List.mem_of_getElem? hk)
        have hi := List.mem_range.1 hi
        obtain ⟨⟨m0, y0, q0⟩, ⟨m1, y1, q1⟩, ⟨m2, y2, q2⟩⟩ := t7 i hi
        obtain ⟨z0, e0, _, _⟩ := DataW.trod_int Tryd.underlying5 q0
        obtain ⟨z1, e1⟩ := trod_i64 q1
        obtain ⟨z2, e2, _, _⟩ := DataW.trod_string Tryd.underlying9 q2
        simp at e0 e2
        exact ⟨z0, z1, z2, by rw [e0, e1, e2]⟩
      unfold row3 at hr
      obtain ⟨i, hi, rfl⟩ := List.mem_map.1 hr
      have hi := List.mem_range.1 hi
      obtain ⟨⟨m0, y0, q0⟩, ⟨m1, y1, q1⟩, ⟨m2, y2, q2⟩⟩ := t7 i hi
      obtain ⟨z0, e0, _, _⟩ := DataW.trod_int Tryd.underlying5 q0
      obtain ⟨z1, e1⟩ := trod_i64 q1
      obtain ⟨z2, e2, _, _⟩ := DataW.trod_string Tryd.underlying9 q2
      simp at e0 e2
      simp only [List.mem_cons, List.not_mem_nil, or_false] at hu
      rcases hu with rfl | rfl | rfl
      · rw [e0]; rfl
      · rw [e1]; rfl
      · rw [e2]; rfl

set_option maxRecDepth 100000 in
theorem open_circArg {H : Type} {enc : TypeId × Value → H} {W : World} {base : Nat} {v : Value} {d : DataW H} {ps : List MemPlace}
    (hv : Value.okWide Tryd.prog W .any base 27 v) (h : DataW.Trod enc Tryd.prog W 0 (fun _ => true) true 27 v d ps) : CircArg W v := by
  obtain ⟨V, C, h1, h2, h3, -⟩ := open_circArgS hv h
  exact ⟨V, C, h1, h2, h3⟩

end Go.Proofs.YtmjcpapcmbgkjaaDoor

/-
  latchetlaw14.BinaryWrites.
-/
namespace Go.Proofs.YtmjcpapcmbgkjaaDoor
open Go.RowKit

theorem fewB_ok {V : CV} {C : Circ} {w : World} (hF : FewP V C 30) : Calls Tryd.prog 4 #[.agg (cvals V C), .int .i64 30] w fun e w' => e = .returned (.bool true) ∧ Kp (fun _ => False) w w' :=
  (law11_Few V C 30 w).mono (by
    rintro e w' ⟨r, rfl, hr, hK⟩
    obtain rfl := hr.2 hF
    exact ⟨rfl, hK⟩)
theorem fewB_no {V : CV} {C : Circ} {w : World} (hF : ¬ FewP V C 30) : Calls Tryd.prog 4 #[.agg (cvals V C), .int .i64 30] w fun e w' => e = .returned (.bool false) ∧ Kp (fun _ => False) w w' :=
  (law11_Few V C 30 w).mono (by
    rintro e w' ⟨r, rfl, hr, hK⟩
    cases r with
    | false => exact ⟨rfl, hK⟩
    | true => exact absurd (hr.1 rfl) hF)
theorem ref14_Normal_yes {V : CV} {C : Circ} {w : World} (h : CAt w V C) (hf : CFew C 1000000) (hN : NormC C) :
    Calls Tryd.prog 6 #[.agg (cvals V C)] w fun e w' => e = .returned (.bool true) ∧ Kp (fun _ => False) w w' :=
  (ref14_Normal V C w h hf).mono (by
    rintro e w' ⟨r, rfl, hr, hK⟩
    rw [hr.2 hN]
    exact ⟨rfl, hK⟩)
theorem ref14_Normal_no {V : CV} {C : Circ} {w : World} (h : CAt w V C) (hf : CFew C 1000000) (hN : ¬ NormC C) :
    Calls Tryd.prog 6 #[.agg (cvals V C)] w fun e w' => e = .returned (.bool false) ∧ Kp (fun _ => False) w w' :=
  (ref14_Normal V C w h hf).mono (by
    rintro e w' ⟨r, rfl, hr, hK⟩
    cases r with
    | false => exact ⟨rfl, hK⟩
    | true => exact absurd (hr.1 rfl) hN)

/-- the text of few things is short -/
theorem few_text {C : Circ} {V : CV} (hF : FewP V C 30) (hN : NormC C) : (binB C).length ≤ 150000000 := by
  have hf := hF.few (show 30 ≤ 1000000 by decide)
  have h1 := wtx_len hN hf 3
  have h2 := gates_len hf C.gates.length
  rw [List.take_length] at h2
  rw [wtx_all, List.length_append]
  omega
theorem few_text2 {C : Circ} {V : CV} (hF : FewP V C 30) (hN : NormC C) : (binB C).length ≤ 1000000 := by
  have hf := hF.few (show 30 ≤ 1000000 by decide)
  have h1 : (C.lats.flatMap latB).length ≤ C.lats.length * 44 := flat_len (fun x hx => by
    obtain ⟨i, hi⟩ := List.mem_iff_getElem?.1 hx
    have hl : i < C.lats.length := (List.getElem?_eq_some_iff.1 hi).1
    have h1 := norm_lat hN hf hl
    rw [g3_some hl] at hi
    rw [Option.some.inj hi] at h1
    exact latB_len h1)
  have h2 : ∀ k, ((wl C k).flatMap oneB).length ≤ (wl C k).length * 22 := fun k => flat_len (fun x hx => oneB_len (norm_wl hN hf hx))
  have h3 : (C.gates.flatMap gateB).length ≤ C.gates.length * 12 := flat_len (fun x _ => gateB_len x)
  have l0 : ((C.outs).flatMap oneB).length ≤ C.outs.length * 22 := h2 0
  have l1 : ((C.bads).flatMap oneB).length ≤ C.bads.length * 22 := h2 1
  have l2 : ((C.cons).flatMap oneB).length ≤ C.cons.length * 22 := h2 2
  have := hF.l
  have := hF.o
  have := hF.b
  have := hF.c
  have := hF.g
  unfold binB
  simp only [List.length_append]
  omega

set_option maxRecDepth 100000 in
set_option maxHeartbeats 8000000 in
theorem writes_few (V : CV) (C : Circ) (w : World) (ht : Tab w) (hF : ¬ FewP V C 30) :
    Calls Tryd.prog 3 #[.agg (cvals V C)] w fun e w' => e = .returned (.bool true) ∧ Kp (fun _ => False) w w' := by
  obtain ⟨wz, hwz⟩ : ∃ wz : World, wz = w.alloc (.cells (cvals V C) 27) := ⟨_, rfl⟩
  have HK0 := Lib.hid (show Kp (fun _ => False) w wz by rw [hwz]; exact (Kp.refl _ w).alloc _)
  have HC0 := Lib.hid (show Blk wz w.heap.size #[.int .i64 C.max, .slice V.ai C.ins.length V.ci, .slice V.al C.lats.length V.cl, .slice V.ao C.outs.length V.co, .slice V.ab C.bads.length V.cb, .slice V.ac C.cons.length V.cc, .slice V.ag C.gates.length V.cg, .slice V.ay V.ny V.cy, .string V.cm] 27 by rw [hwz]; exact Blk.new w (cvals V C) _)
  obtain ⟨d0, d1, d2, d3, d4, d5, d6, d7, d8⟩ := Blk.cells9 HC0.out
  have HZ := Lib.hid hwz
  have HLv := Lib.hid (fun u (hu : Kp (fun _ => False) wz u) => law14_lives u (ht.kp (HK0.out.trans hu (fun _ _ h => h))))
  have HFw := Lib.hid (fewB_no (w := wz) hF)
  unfold cvals at HFw HZ ⊢
  clear ht hF hwz
  go_enter Tryd.func3, Tryd.ntmps3
  go_upto_region 1 with fail
  rw [← HZ.out]
  clear HZ
  go_upto_region 2 with (go_at_call 4; with_reducible refine Calls.mono HFw.out ?_; rintro e w1 ⟨rfl, hK1⟩)
  have HLv1 := Lib.hid (HLv.out w1 hK1)
  have HK1 := Lib.hid (HK0.out.trans hK1 (fun _ _ h => h))
  clear hK1
  go_wp2_with (go_at_call 5; with_reducible refine Calls.mono HLv1.out ?_; rintro e w2 ⟨rfl, hK2⟩; have HK2 := Lib.hid (HK1.out.trans hK2 (fun _ _ h => h)); clear hK2)
  go_ret
  exact ⟨rfl, HK2.out⟩

set_option maxRecDepth 100000 in
set_option maxHeartbeats 8000000 in
theorem writes_no (V : CV) (C : Circ) (w : World) (h : CAt w V C) (hM : -9223372036854775808 ≤ C.max ∧ C.max ≤ 9223372036854775807) (ht : Tab w) (hF : FewP V C 30) (hN : ¬ NormC C) :
    Calls Tryd.prog 3 #[.agg (cvals V C)] w fun e w' => e = .returned (.bool true) ∧ Kp (fun _ => False) w w' := by
  obtain ⟨wz, hwz⟩ : ∃ wz : World, wz = w.alloc (.cells (cvals V C) 27) := ⟨_, rfl⟩
  have HK0 := Lib.hid (show Kp (fun _ => False) w wz by rw [hwz]; exact (Kp.refl _ w).alloc _)
  have HC0 := Lib.hid (show Blk wz w.heap.size #[.int .i64 C.max, .slice V.ai C.ins.length V.ci, .slice V.al C.lats.length V.cl, .slice V.ao C.outs.length V.co, .slice V.ab C.bads.length V.cb, .slice V.ac C.cons.length V.cc, .slice V.ag C.gates.length V.cg, .slice V.ay V.ny V.cy, .string V.cm] 27 by rw [hwz]; exact Blk.new w (cvals V C) _)
  obtain ⟨d0, d1, d2, d3, d4, d5, d6, d7, d8⟩ := Blk.cells9 HC0.out
  have HZ := Lib.hid hwz
  have hf := hF.few (show 30 ≤ 1000000 by decide)
  have hy : V.ny ≤ 1000000 := Nat.le_trans hF.y (by decide)
  have HA := Lib.hid h
  have HT := Lib.hid ht
  have HLv := Lib.hid (fun u (hu : Kp (fun _ => False) wz u) => law14_lives u (ht.kp (HK0.out.trans hu (fun _ _ h => h))))
  have HFw := Lib.hid (fewB_ok (w := wz) hF)
  have HNm := Lib.hid (fun u (hu : Kp (fun _ => False) wz u) => ref14_Normal_no (w := u) (h.kp (HK0.out.trans hu (fun _ _ h => h))) hf hN)
  have HOw := Lib.hid (fun u (hu : Kp (fun _ => False) wz u) => law11_Own V C u (h.kp (HK0.out.trans hu (fun _ _ h => h))) hf hy)
  have HWr := Lib.hid (fun u V1 (hu : Kp (fun _ => False) wz u) (h1 : CAt u V1 C) => bin_Write_no V1 C u h1 hf hM (ht.kp (HK0.out.trans hu (fun _ _ h => h))) hN)
  have HBn := Lib.hid (fun u V1 (h1 : CAt u V1 C) => bin_Normal_no V1 C u h1 hf hM hN)
  obtain ⟨cvV, hcv⟩ : ∃ f : CV → Array Value, ∀ V1, cvals V1 C = f V1 := ⟨fun V1 => cvals V1 C, fun _ => rfl⟩
  have HOw : Hid (∀ u, Kp (fun _ => False) wz u → Calls Tryd.prog 8 #[.agg (cvals V C)] u fun e w' => ∃ V', e = .returned (.agg (cvV V')) ∧ CAt w' V' C ∧ Kp (fun _ => False) u w') := Lib.hid (fun u hu => (HOw.out u hu).mono (by
    rintro e w' ⟨V', rfl, h1, -, h2⟩
    exact ⟨V', by rw [hcv], h1, h2⟩))
  simp only [hcv] at HWr HBn
  unfold cvals at HFw HNm HOw HZ ⊢
  clear h ht hF hwz hN hf hy hM hcv
  go_enter Tryd.func3, Tryd.ntmps3
  go_upto_region 1 with fail
  rw [← HZ.out]
  clear HZ
  go_upto_region 3 with (go_at_call 4; with_reducible refine Calls.mono HFw.out ?_; rintro e w1 ⟨rfl, hK1⟩)
  have hC1 := HC0.out.kp hK1 (fun h => h)
  have HK1 := Lib.hid hK1
  obtain ⟨z0, z1, z2, z3, z4, z5, z6, z7, z8⟩ := Blk.cells9 hC1
  have HNm1 := Lib.hid (HNm.out w1 hK1)
  clear d0 d1 d2 d3 d4 d5 d6 d7 d8 hC1 hK1 HFw
  go_upto_region 4 with (go_at_call 6; with_reducible refine Calls.mono HNm1.out ?_; rintro e w2 ⟨rfl, hK2⟩)
  have HK2 := Lib.hid (HK1.out.trans hK2 (fun _ _ h => h))
  have hC2 := HC0.out.kp HK2.out (fun h => h)
  have HOw2 := Lib.hid (HOw.out w2 HK2.out)
  clear z0 z1 z2 z3 z4 z5 z6 z7 z8 hK2 HNm1 HNm
  obtain ⟨z0, z1, z2, z3, z4, z5, z6, z7, z8⟩ := Blk.cells9 hC2
  clear hC2
  go_upto_region 5 with (first
    | (go_at_call 8; with_reducible refine Calls.mono HOw2.out ?_; rintro e w3 ⟨V1, rfl, hV1, hK3⟩; have HK3 := Lib.hid (HK2.out.trans hK3 (fun _ _ h => h)); have HWr3 := Lib.hid (HWr.out w3 V1 HK3.out hV1); clear hK3 hV1)
    | (go_at_call 7; with_reducible refine Calls.mono HWr3.out ?_; rintro e w4 ⟨rfl, hK4⟩; have HK4 := Lib.hid (HK3.out.trans hK4 (fun _ _ h => h)); clear hK4))
  clear z0 z1 z2 z3 z4 z5 z6 z7 z8 HOw2 HWr3
  have HOw4 := Lib.hid (HOw.out w4 HK4.out)
  obtain ⟨z0, z1, z2, z3, z4, z5, z6, z7, z8⟩ := Blk.cells9 (HC0.out.kp HK4.out (fun h => h))
  go_upto_region 8 with (first
    | (go_at_call 8; with_reducible refine Calls.mono HOw4.out ?_; rintro e w5 ⟨V2, rfl, hV2, hK5⟩; have HK5 := Lib.hid (HK4.out.trans hK5 (fun _ _ h => h)); have HBn5 := Lib.hid (HBn.out w5 V2 hV2); clear hK5 hV2)
    | (go_at_call 9; with_reducible refine Calls.mono HBn5.out ?_; rintro e w6 ⟨rfl, hK6⟩; have HK6 := Lib.hid (HK5.out.trans hK6 (fun _ _ h => h)); clear hK6))
  have HLv1 := Lib.hid (HLv.out w6 HK6.out)
  have HKx := Lib.hid (HK0.out.trans HK6.out (fun _ _ h => h))
  clear z0 z1 z2 z3 z4 z5 z6 z7 z8
  go_wp2_with (go_at_call 5; with_reducible refine Calls.mono HLv1.out ?_; rintro e w7 ⟨rfl, hK7⟩; have HK7 := Lib.hid (HKx.out.trans hK7 (fun _ _ h => h)); clear hK7)
  go_ret
  exact ⟨rfl, HK7.out⟩

def putS (V' V : CV) : CV := { V' with ay := V.ay, ny := V.ny, cy := V.cy, cm := V.cm }
theorem CAt.put {w : World} {V' V : CV} {C : Circ} (h' : CAt w V' C) (h : CAt w V C) : CAt w (putS V' V) C :=
  ⟨h'.i, h'.l, h'.o, h'.b, h'.c, h'.g, h.y, h'.fi, h'.fl, h'.fo, h'.fb, h'.fc, h'.fg, h.fy⟩

set_option maxRecDepth 100000 in
set_option maxHeartbeats 8000000 in
theorem writes_yes (V : CV) (C : Circ) (w : World) (h : CAt w V C) (hM : -9223372036854775808 ≤ C.max ∧ C.max ≤ 9223372036854775807) (hs : SymOK w V) (ht : Tab w) (hF : FewP V C 30) (hN : NormC C) :
    Calls Tryd.prog 3 #[.agg (cvals V C)] w fun e w' => e = .returned (.bool true) ∧ Kp (fun _ => False) w w' := by
  obtain ⟨wz, hwz⟩ : ∃ wz : World, wz = w.alloc (.cells (cvals V C) 27) := ⟨_, rfl⟩
  have HK0 := Lib.hid (show Kp (fun _ => False) w wz by rw [hwz]; exact (Kp.refl _ w).alloc _)
  have HC0 := Lib.hid (show Blk wz w.heap.size #[.int .i64 C.max, .slice V.ai C.ins.length V.ci, .slice V.al C.lats.length V.cl, .slice V.ao C.outs.length V.co, .slice V.ab C.bads.length V.cb, .slice V.ac C.cons.length V.cc, .slice V.ag C.gates.length V.cg, .slice V.ay V.ny V.cy, .string V.cm] 27 by rw [hwz]; exact Blk.new w (cvals V C) _)
  obtain ⟨d0, d1, d2, d3, d4, d5, d6, d7, d8⟩ := Blk.cells9 HC0.out
  have HZ := Lib.hid hwz
  have hf := hF.few (show 30 ≤ 1000000 by decide)
  have hy : V.ny ≤ 1000000 := Nat.le_trans hF.y (by decide)
  have htx := few_text2 hF hN
  have HA := Lib.hid h
  have HT := Lib.hid ht
  have HLv := Lib.hid (fun u (hu : Kp (fun _ => False) wz u) => law14_lives u (ht.kp (HK0.out.trans hu (fun _ _ h => h))))
  have HFw := Lib.hid (fewB_ok (w := wz) hF)
  have HNm := Lib.hid (fun u (hu : Kp (fun _ => False) wz u) => ref14_Normal_yes (w := u) (h.kp (HK0.out.trans hu (fun _ _ h => h))) hf hN)
  have HOw := Lib.hid (fun u (hu : Kp (fun _ => False) wz u) => law11_Own V C u (h.kp (HK0.out.trans hu (fun _ _ h => h))) hf hy)
  have HWr := Lib.hid (fun u V1 (hu : Kp (fun _ => False) wz u) (h1 : CAt u V1 C) => bin_Write_yes V1 C u h1 hf hM (ht.kp (HK0.out.trans hu (fun _ _ h => h))) hN)
  have HBn := Lib.hid (fun u V1 (h1 : CAt u V1 C) => bin_Normal_yes V1 C u h1 hf hM hN)
  have HHd := Lib.hid (fun u => ref13_HeadOf V C u)
  have HRd := Lib.hid (fun u => bin_Read_back C u hN hf htx)
  have HRw := Lib.hid (fun u (hu : Kp (fun _ => False) wz u) => ref14_Write V C u (h.kp (HK0.out.trans hu (fun _ _ h => h))) hf hN)
  have HSm := Lib.hid (fun u V1 (hu : Kp (fun _ => False) wz u) (h1 : CAt u V1 C) => ref11_Same V (putS V1 V) C u (h.kp (HK0.out.trans hu (fun _ _ h => h))) (h1.put (h.kp (HK0.out.trans hu (fun _ _ h => h)))) hf ⟨rfl, rfl, rfl, rfl⟩ (hs.kp (HK0.out.trans hu (fun _ _ h => h))))
  obtain ⟨cvV, hcv⟩ : ∃ f : CV → Array Value, ∀ V1, cvals V1 C = f V1 := ⟨fun V1 => cvals V1 C, fun _ => rfl⟩
  have HOw : Hid (∀ u, Kp (fun _ => False) wz u → Calls Tryd.prog 8 #[.agg (cvals V C)] u fun e w' => ∃ V', e = .returned (.agg (cvV V')) ∧ CAt w' V' C ∧ Kp (fun _ => False) u w') := Lib.hid (fun u hu => (HOw.out u hu).mono (by
    rintro e w' ⟨V', rfl, h1, -, h2⟩
    exact ⟨V', by rw [hcv], h1, h2⟩))
  simp only [hcv] at HWr HBn
  obtain ⟨hd, hhd⟩ : ∃ v, headV C = v := ⟨_, rfl⟩
  rw [hhd] at HHd HRd
  obtain ⟨T, hT⟩ : ∃ T, binB C = T := ⟨_, rfl⟩
  rw [hT] at HWr HRd HRw htx
  have q1 : ((T.length : Int) == ((⟨T.toArray⟩ : ByteArray).size : Int)) = true := by
    have : (⟨T.toArray⟩ : ByteArray).size = T.length := by show T.toArray.size = _; simp
    rw [this]; simp
  unfold cvals at HFw HNm HOw HZ HHd HRd HRw HSm ⊢
  unfold putS at HSm
  simp only at HSm
  obtain ⟨mx, hmx⟩ : ∃ x, C.max = x := ⟨_, rfl⟩
  obtain ⟨n1, hn1⟩ : ∃ n, C.ins.length = n := ⟨_, rfl⟩
  obtain ⟨n2, hn2⟩ : ∃ n, C.lats.length = n := ⟨_, rfl⟩
  obtain ⟨n3, hn3⟩ : ∃ n, C.outs.length = n := ⟨_, rfl⟩
  obtain ⟨n4, hn4⟩ : ∃ n, C.bads.length = n := ⟨_, rfl⟩
  obtain ⟨n5, hn5⟩ : ∃ n, C.cons.length = n := ⟨_, rfl⟩
  obtain ⟨n6, hn6⟩ : ∃ n, C.gates.length = n := ⟨_, rfl⟩
  rw [hmx, hn1, hn2, hn3, hn4, hn5, hn6] at HFw HC0 HZ
  rw [hmx, hn1, hn2, hn3, hn4, hn5, hn6]
  rw [hmx] at d0
  rw [hn1] at d1
  rw [hn2] at d2
  rw [hn3] at d3
  rw [hn4] at d4
  rw [hn5] at d5
  rw [hn6] at d6
  simp only [hmx, hn1, hn2, hn3, hn4, hn5, hn6] at HNm HOw HHd HRd HRw HSm
  clear h ht hF hwz hN hf hy hM hcv hs hhd hT htx hmx hn1 hn2 hn3 hn4 hn5 hn6
  go_enter Tryd.func3, Tryd.ntmps3
  go_upto_region 1 with fail
  rw [← HZ.out]
  clear HZ
  go_upto_region 3 with (go_at_call 4; with_reducible refine Calls.mono HFw.out ?_; rintro e w1 ⟨rfl, hK1⟩)
  have hC1 := HC0.out.kp hK1 (fun h => h)
  have HK1 := Lib.hid hK1
  obtain ⟨z0, z1, z2, z3, z4, z5, z6, z7, z8⟩ := Blk.cells9 hC1
  have HNm1 := Lib.hid (HNm.out w1 hK1)
  clear d0 d1 d2 d3 d4 d5 d6 d7 d8 hC1 hK1 HFw
  go_upto_region 4 with (go_at_call 6; with_reducible refine Calls.mono HNm1.out ?_; rintro e w2 ⟨rfl, hK2⟩)
  have HK2 := Lib.hid (HK1.out.trans hK2 (fun _ _ h => h))
  have hC2 := HC0.out.kp HK2.out (fun h => h)
  have HOw2 := Lib.hid (HOw.out w2 HK2.out)
  clear z0 z1 z2 z3 z4 z5 z6 z7 z8 hK2 HNm1 HNm
  obtain ⟨z0, z1, z2, z3, z4, z5, z6, z7, z8⟩ := Blk.cells9 hC2
  clear hC2
  go_upto_region 5 with (first
    | (go_at_call 8; with_reducible refine Calls.mono HOw2.out ?_; rintro e w3 ⟨V1, rfl, hV1, hK3⟩; have HK3 := Lib.hid (HK2.out.trans hK3 (fun _ _ h => h)); have HWr3 := Lib.hid (HWr.out w3 V1 HK3.out hV1); clear hK3 hV1)
    | (go_at_call 7; with_reducible refine Calls.mono HWr3.out ?_; rintro e w4 ⟨rfl, hK4⟩; have HK4 := Lib.hid (HK3.out.trans hK4 (fun _ _ h => h)); clear hK4))
  clear z0 z1 z2 z3 z4 z5 z6 z7 z8 HOw2 HWr3
  have HOw4 := Lib.hid (HOw.out w4 HK4.out)
  obtain ⟨z0, z1, z2, z3, z4, z5, z6, z7, z8⟩ := Blk.cells9 (HC0.out.kp HK4.out (fun h => h))
  go_upto_region 9 with (first
    | (go_at_call 8; with_reducible refine Calls.mono HOw4.out ?_; rintro e w5 ⟨V2, rfl, hV2, hK5⟩; have HK5 := Lib.hid (HK4.out.trans hK5 (fun _ _ h => h)); have HBn5 := Lib.hid (HBn.out w5 V2 hV2); clear hK5 hV2)
    | (go_at_call 9; with_reducible refine Calls.mono HBn5.out ?_; rintro e w6 ⟨rfl, hK6⟩; have HK6 := Lib.hid (HK5.out.trans hK6 (fun _ _ h => h)); clear hK6))
  clear z0 z1 z2 z3 z4 z5 z6 z7 z8 HOw4 HBn5 HOw HWr HBn
  obtain ⟨z0, z1, z2, z3, z4, z5, z6, z7, z8⟩ := Blk.cells9 (HC0.out.kp HK6.out (fun h => h))
  go_upto_region 10 with (first
    | (go_at_call 11; with_reducible refine Calls.mono (HHd.out _) ?_; rintro e w7 ⟨rfl, hK7⟩; have HK7 := Lib.hid (HK6.out.trans hK7 (fun _ _ h => h)); have HRd7 := Lib.hid (HRd.out w7); clear hK7)
    | (go_at_call 10; with_reducible refine Calls.mono HRd7.out ?_; rintro e w8 ⟨V', rfl, hC8, hy8, hK8⟩; have HK8 := Lib.hid (HK7.out.trans hK8 (fun _ _ h => h)); have HC8 := Lib.hid hC8; have HY8 := Lib.hid hy8; clear hK8 hC8 hy8))
  have hB9 := Blk.new w8 #[.int .i64 mx, .slice V'.ai n1 V'.ci, .slice V'.al n2 V'.cl, .slice V'.ao n3 V'.co, .slice V'.ab n4 V'.cb, .slice V'.ac n5 V'.cc, .slice V'.ag n6 V'.cg, .slice V'.ay V'.ny V'.cy, .string V'.cm] 27
  obtain ⟨w9, hw9⟩ : ∃ w9 : World, w9 = w8.alloc (.cells #[.int .i64 mx, .slice V'.ai n1 V'.ci, .slice V'.al n2 V'.cl, .slice V'.ao n3 V'.co, .slice V'.ab n4 V'.cb, .slice V'.ac n5 V'.cc, .slice V'.ag n6 V'.cg, .slice V'.ay V'.ny V'.cy, .string V'.cm] 27) := ⟨_, rfl⟩
  rw [← hw9] at hB9
  rw [← hw9]
  have hK9 : Kp (fun _ => False) w8 w9 := by rw [hw9]; exact (Kp.refl _ w8).alloc _
  have HB9 := Lib.hid hB9
  have hlt9 : w.heap.size < w8.heap.size := Nat.lt_of_lt_of_le HC0.out.lt HK8.out.size
  have hne9 : w8.heap.size ≠ w.heap.size := by omega
  obtain ⟨bx, hbx⟩ : ∃ b, w8.heap.size = b := ⟨_, rfl⟩
  rw [hbx] at HB9 hne9
  rw [hbx]
  have HK9 := Lib.hid (HK8.out.trans hK9 (fun _ _ h => h))
  have HC9 := Lib.hid (HC8.out.kp hK9)
  have HX9 := Lib.hid (show Kp (fun j => j = bx) w8 w9 from hK9.mono (fun _ _ h => h.elim))
  have hge : Hid (w8.heap.size ≤ bx) := Lib.hid (Nat.le_of_eq hbx)
  have HHC := Lib.hid (HC0.out.kp HK9.out (fun h => h))
  clear z0 z1 z2 z3 z4 z5 z6 z7 z8 hw9 hB9 hK9 hbx hlt9 HOw HHd HRd HRd7
  obtain ⟨z0, z1, z2, z3, z4, z5, z6, z7, z8⟩ := Blk.cells9 HHC.out
  obtain ⟨x0, x1, x2, x3, x4, x5, x6, x7, x8⟩ := Blk.cells9 HB9.out
  have f7 := HB9.out.free 7
  have f8 := HB9.out.free 8
  go_cut [8] from 50 to 56 (fun s8 wx => s8 = .int .i64 0 ∧ Blk wx bx #[.int .i64 mx, .slice V'.ai n1 V'.ci, .slice V'.al n2 V'.cl, .slice V'.ao n3 V'.co, .slice V'.ab n4 V'.cb, .slice V'.ac n5 V'.cc, .slice V'.ag n6 V'.cg, .slice V.ay V.ny V.cy, .string V.cm] 27 ∧ Kp (fun j => j = bx) w9 wx)
  case first =>
    go_region
    all_goals go_wp2_with fail
    all_goals go_meet
    · exact ⟨rfl, ((HB9.out.set_same 7 _).set_same 8 _).drew, (((Kp.refl (fun j => j = bx) w9).setCell (p := ⟨bx, 7, none⟩) (fun _ => rfl) _).setCell (p := ⟨bx, 8, none⟩) (fun _ => rfl) _).drew⟩
  case rest =>
    obtain ⟨rfl, hB, hKc⟩ := hcut
    have hKx : Kp (fun _ => False) w8 wc := (HX9.out.trans hKc (fun _ _ h => h)).mono (fun i hi e => by have := hge.out; omega)
    have HKx := Lib.hid (HK8.out.trans hKx (fun _ _ h => h))
    have HCx := Lib.hid (HC8.out.kp hKx)
    have HBx := Lib.hid hB
    clear z0 z1 z2 z3 z4 z5 z6 z7 z8 x0 x1 x2 x3 x4 x5 x6 x7 x8 f7 f8 hB hKc hKx
    obtain ⟨z0, z1, z2, z3, z4, z5, z6, z7, z8⟩ := Blk.cells9 (HC0.out.kp HKx.out (fun h => h))
    have HRwx := Lib.hid (HRw.out wc HKx.out)
    clear HRw
    go_wp2_with (first
      | (go_at_call 12; with_reducible refine Calls.mono HRwx.out ?_; rintro e w10 ⟨rfl, hK10⟩; have HKa := Lib.hid (HKx.out.trans hK10 (fun _ _ h => h)); have HHa := Lib.hid (HC0.out.kp HKa.out (fun h => h)); have HBa := Lib.hid (HBx.out.kp hK10 (fun h => h)); have HSma := Lib.hid (HSm.out w10 V' HKa.out (HCx.out.kp hK10)); obtain ⟨y0, y1, y2, y3, y4, y5, y6, y7, y8⟩ := Blk.cells9 HHa.out; obtain ⟨x0, x1, x2, x3, x4, x5, x6, x7, x8⟩ := Blk.cells9 HBa.out; clear hK10 HSm)
      | (go_at_call 13; with_reducible refine Calls.mono HSma.out ?_; rintro e w11 ⟨rfl, hK11⟩; have HKb := Lib.hid (HKa.out.trans hK11 (fun _ _ h => h)); have HLvb := Lib.hid (HLv.out w11 HKb.out); clear hK11)
      | (go_at_call 5; with_reducible refine Calls.mono HLvb.out ?_; rintro e w12 ⟨rfl, hK12⟩; have HKc := Lib.hid ((HK0.out.trans HKb.out (fun _ _ h => h)).trans hK12 (fun _ _ h => h)); clear hK12))
    go_ret
    exact ⟨rfl, HKc.out⟩

theorem binaryWrites_walk (w : World) (v0 : Value) (hv0 : CircArgS w v0) (ht : Tab w) :
    Calls Tryd.prog 3 #[v0] w fun e w' => e = .returned (.bool true) ∧ Below w.heap.size w w' := by
  have fin : ∀ {e : Ending} {w' : World}, (e = .returned (.bool true) ∧ Kp (fun _ => False) w w') → (e = .returned (.bool true) ∧ Below w.heap.size w w') := fun ⟨h1, h2⟩ => ⟨h1, h2.below (Nat.le_refl _) (fun _ _ h => h)⟩
  obtain ⟨V, C, rfl, hC, -, hM, hs⟩ := hv0
  by_cases hF : FewP V C 30
  · by_cases hN : NormC C
    · exact (writes_yes V C w hC hM hs ht hF hN).mono fun e w' h => fin h
    · exact (writes_no V C w hC hM ht hF hN).mono fun e w' h => fin h
  · exact (writes_few V C w ht hF).mono fun e w' h => fin h

end Go.Proofs.YtmjcpapcmbgkjaaDoor

/-
  The package-level variables that the rows list: a world that holds them, and the table of powers of ten out of a row's list.
-/
namespace Go.Proofs.YtmjcpapcmbgkjaaDoor
open Go.RowKit

def synS : ByteArray := { data := #[105, 110, 118, 97, 108, 105, 100, 32, 115, 121, 110, 116, 97, 120] }
def rangeS : ByteArray := { data := #[118, 97, 108, 117, 101, 32, 111, 117, 116, 32, 111, 102, 32, 114, 97, 110, 103, 101] }
noncomputable def low : Nat := (World.holding Tryd.prog default ⟨#[], #[], []⟩).heap.size

def putCells (g : Nat) (cs : Array Value) (w : World) : World :=
  { w with heap := w.heap.modify g fun
      | .cells _ t frozen => .cells cs t frozen
      | o => o }

def tab32 : Array Value := #[0, 1, 28, 2, 29, 14, 24, 3, 30, 22, 20, 15, 25, 17, 4, 8, 31, 27, 13, 23, 21, 19, 16, 7, 26, 12, 18, 6, 11, 5, 10, 9].map (Value.int .u8)
def tab64 : Array Value := #[0, 1, 56, 2, 57, 49, 28, 3, 61, 58, 42, 50, 38, 29, 17, 4, 62, 47, 59, 36, 45, 43, 51, 22, 53, 39, 33, 30, 24, 18, 12, 5, 63, 55, 48, 27, 60, 41, 37, 16, 46, 35, 44, 21, 52, 32, 23, 11, 54, 26, 40, 15, 34, 20, 31, 10, 25, 14, 19, 9, 13, 8, 7, 6].map (Value.int .u8)
def tabPow : Array Value := (Lib.pow10Tab.map (Value.int .u64)).toArray

noncomputable def laidWorld (os : Os) : World :=
  putCells 2 tab64 (putCells 1 tab32 (putCells 0 tabPow
    (putCells 5 #[.iface 154 (.pointer (some ⟨low + 1, 0, none⟩))] (putCells 4 #[.iface 154 (.pointer (some ⟨low, 0, none⟩))]
      (World.holding Tryd.prog os ⟨#[.cells #[.string synS] 156, .cells #[.string rangeS] 156], #[], []⟩)))))

theorem gPowType : (Tryd.prog.globals[0]?).map (·.type) = some 111 := by kernel_rfl
theorem cells64 : Tryd.prog.cellsOf 104 = 1 := by kernel_rfl
theorem cellsPow : Tryd.prog.cellsOf 111 = 20 := by kernel_rfl

theorem tab_of_laid {W : World} {x y : String × DataW Unit} {r : List (String × DataW Unit)}
    (h : laidMet Tryd.prog (x :: y :: ("internal/strconv.uint64pow10", Rows.laid_internal_strconv_uint64pow10) :: r) W) : Tab W :=
  Lib.tabIs_of_head (zs := Lib.pow10Tab) gPow gPowType Tryd.underlying111 Tryd.underlying104 cells64 cellsPow (laidMet.tail (laidMet.tail h))

end Go.Proofs.YtmjcpapcmbgkjaaDoor

/-
  A world that holds the three tables that the rows list.
-/
namespace Go.Proofs.YtmjcpapcmbgkjaaDoor
open Go.RowKit

noncomputable def laidWorld3 (os : Os) : World :=
  putCells 2 tab64 (putCells 1 tab32 (putCells 0 tabPow
      (World.holding Tryd.prog os ⟨#[], #[], []⟩)))

end Go.Proofs.YtmjcpapcmbgkjaaDoor
