/-
  circ.Clone: a circuit in memory of its own. (Printed by mkown.py.)
-/
import Derived.Test.YtghlklcolepfmaaGreatDoorM5
import Derived.Test.YtghlklcolepfmaaGreatDoorM4
import Derived.Test.YtghlklcolepfmaaGreatDoorM1
import Derived.Laws.BitsAllLaws
import Derived.Test.YtghlklcolepfmaaGreatDoorRows
import Derived.Shelf.Strings.Builder1
import Derived.Shelf.Strings.Builder2
import Derived.Shelf.Strings.OnBuilder
import Derived.Shelf.Small.Strs
import Derived.Shelf.Small.Wraps
import Derived.Shelf.Strconv.Itoa0
import Derived.Shelf.Strconv.Itoa1
import Derived.Shelf.LaysM
import Derived.Shelf.Strconv.Itoa2
import Derived.Shelf.Strconv.Itoa3
import Derived.Shelf.Strings.Search1
import Derived.Shelf.Strings.Search2
import Derived.Shelf.Strings.Search3
import Derived.Shelf.Strings.Count
import Derived.Shelf.Strings.Shaped
import Derived.Shelf.Strings.Prefix
import Derived.Shelf.Strings.Split
import Derived.Shelf.Unicode.DecodeSlow
import Derived.Ground.Names2Prog
import Derived.Shelf.Slices.Clone
import Derived.Test.YtghlklcolepfmaaGreatDoorProg
import Derived.Lib.Builder
import Derived.Lib.AppendStr
import Derived.WalkKit
import Derived.Deep.QuietTactic
import Derived.BigQuiet
import Derived.Lib.Atoi
import Derived.Lib.Strings
import Derived.Lib.SplitLaws
import Derived.Lib.IndexBytes
import Derived.Lib.IndexLaws
set_option linter.unusedVariables false
set_option linter.unusedSimpArgs false
namespace Go.Proofs.YtghlklcolepfmaaGreatDoor
open Go Go.RowKit

def CKeep (B : Nat) (w : World) (V : CV) (C : Circ) : Prop := ∀ (S : Nat → Prop) (w2 : World), (∀ j, S j → j < B) → Kp S w w2 → CAt w2 V C

def cln1V (b1 b3 B : Nat) (V : CV) (C : Circ) (rows : List (List Value)) : List (World → Value → Prop) :=
  [EqV (.pointer (some ⟨b1, 1, none⟩)), SlK (ir C.ins) C.ins.length, SlF B (ir C.ins) C.ins.length, EqV (.pointer (some ⟨b1, 2, none⟩)), SlK (C.lats.map tri) C.lats.length, SlF B (C.lats.map tri) C.lats.length, EqV (.pointer (some ⟨b1, 6, none⟩)), SlK (C.gates.map tri) C.gates.length, SlF B (C.gates.map tri) C.gates.length, EqV (.pointer (some ⟨b1, 7, none⟩)), SlK rows V.ny, SlF B rows V.ny, EqV (.pointer (some ⟨b3, 1, none⟩))]

theorem cln1V_st (b1 b3 B : Nat) (V : CV) (C : Circ) (rows : List (List Value)) : ∀ W ∈ cln1V b1 b3 B V C rows, Stable W := by
 intro W h
 unfold cln1V at h
 simp only [List.mem_cons, List.not_mem_nil, or_false] at h
 rcases h with rfl | rfl | rfl | rfl | rfl | rfl | rfl | rfl | rfl | rfl | rfl | rfl | rfl <;> first | exact LitV.st _ | exact EqV.st _ | exact SlK.st _ _ | exact SlF.st _ _ _

def cln2V (b1 b3 B : Nat) (V : CV) (C : Circ) (rows : List (List Value)) : List (World → Value → Prop) :=
  [EqV (.pointer (some ⟨b1, 3, none⟩)), SlK (ir C.outs) C.outs.length, SlF B (ir C.outs) C.outs.length, EqV (.pointer (some ⟨b1, 4, none⟩)), SlK (ir C.bads) C.bads.length, SlF B (ir C.bads) C.bads.length, EqV (.pointer (some ⟨b1, 5, none⟩)), SlK (ir C.cons) C.cons.length, SlF B (ir C.cons) C.cons.length, EqV (.pointer (some ⟨b3, 3, none⟩))]

theorem cln2V_st (b1 b3 B : Nat) (V : CV) (C : Circ) (rows : List (List Value)) : ∀ W ∈ cln2V b1 b3 B V C rows, Stable W := by
 intro W h
 unfold cln2V at h
 simp only [List.mem_cons, List.not_mem_nil, or_false] at h
 rcases h with rfl | rfl | rfl | rfl | rfl | rfl | rfl | rfl | rfl | rfl <;> first | exact LitV.st _ | exact EqV.st _ | exact SlK.st _ _ | exact SlF.st _ _ _

set_option maxRecDepth 100000 in
set_option maxHeartbeats 8000000 in
theorem circ_Clone (V : CV) (C : Circ) (w : World) (h : CAt w V C) (hf : CFew C 1000000) (hy : V.ny ≤ 1000000) :
  Calls Tryz.prog 74 #[.agg (cvals V C)] w fun e w' => ∃ V', e = .returned (.agg (cvals V' C)) ∧ CAt w' V' C ∧ V'.ny = V.ny ∧ Kp (fun _ => False) w w' ∧ CKeep (w.heap.size + 2) w' V' C := by
 have HA := Lib.hid h
 have HF := Lib.hid hf
 have HY := Lib.hid hy
 have HI := Lib.hid (show (Tryz.prog.info? 3).map (fun i => (i.zero, i.size, i.bytes)) = some (some (.int .i64 0), 1, 8) by kernel_rfl)
 have HIl := Lib.hid (show (Tryz.prog.info? 50).map (fun i => (i.zero, i.size, i.bytes)) = some (some (.agg #[.int .i64 0, .int .i64 0, .int .i64 0]), 3, 24) by kernel_rfl)
 have HIg := Lib.hid (show (Tryz.prog.info? 120).map (fun i => (i.zero, i.size, i.bytes)) = some (some (.agg #[.int .i64 0, .int .i64 0, .int .i64 0]), 3, 24) by kernel_rfl)
 have HIs := Lib.hid (show (Tryz.prog.info? 72).map (fun i => (i.zero, i.size, i.bytes)) = some (some (.agg #[.int .u8 0, .int .i64 0, .string ⟨#[]⟩]), 3, 32) by kernel_rfl)
 obtain ⟨rows, hrows, hrl⟩ := h.y
 have HRows := Lib.hid hrows
 have HRL := Lib.hid hrl
 have HC1 := Lib.hid (Blk.new w (cvals V C) 27)
 obtain ⟨wz, hwz⟩ : ∃ wz : World, wz = (w.alloc (.cells (cvals V C) 27)).alloc (.cells #[.int .i64 0, .slice none 0 0, .slice none 0 0, .slice none 0 0, .slice none 0 0, .slice none 0 0, .slice none 0 0, .slice none 0 0, .string ⟨#[]⟩] 27) := ⟨_, rfl⟩
 have HCb := Lib.hid (show Blk wz w.heap.size (cvals V C) 27 by rw [hwz]; exact HC1.out.alloc _)
 have HDcln1 := Lib.hid (show Blk wz w.heap.size #[.int .i64 C.max, .slice V.ai C.ins.length V.ci, .slice V.al C.lats.length V.cl, .slice V.ao C.outs.length V.co, .slice V.ab C.bads.length V.cb, .slice V.ac C.cons.length V.cc, .slice V.ag C.gates.length V.cg, .slice V.ay V.ny V.cy, .string V.cm] 27 from HCb.out)
 have HBb := Lib.hid (show Blk wz (w.heap.size + 1) #[.int .i64 0, .slice none 0 0, .slice none 0 0, .slice none 0 0, .slice none 0 0, .slice none 0 0, .slice none 0 0, .slice none 0 0, .string ⟨#[]⟩] 27 by rw [hwz]; exact two_blk _ _ _ _ _)
 have HKb := Lib.hid (show Kp (fun _ => False) w wz by rw [hwz]; exact ((Kp.refl _ w).alloc _).alloc _)
 have HLt := Lib.hid (show w.heap.size < wz.heap.size by rw [hwz]; simp; omega)
 have HLt2 := Lib.hid (show w.heap.size + 1 < wz.heap.size by rw [hwz]; simp)
 have HZ := Lib.hid hwz
 clear h hf hy hwz hrows hrl HC1
 go_enter Tryz.func74, Tryz.ntmps74
 go_upto_region 1 with fail
 rw [← HZ.out]
 clear HZ
 refine wp_region_loose (p := upTo 13) (V := atV (cln1V w.heap.size w.heap.size wz.heap.size V C rows)) (LP := #[true, true, true, true, true, true, true, true, true, true, true, true, true, false, false, false, false, false, false, false]) (K := 7) (by kernel_rfl) (by kernel_rfl) (atV_st (cln1V_st _ _ _ V C rows)) ?hstepcln1 (by kernel_rfl) ?hLPcln1 (by kernel_rfl) ?hendcln1
 case hLPcln1 => exact upTo_spec (by kernel_rfl)
 case hstepcln1 =>
  intro i o ho hp a u hk hoff hdep
  have e1 : a.tmps[1]?.getD undef = .pointer (some ⟨w.heap.size, 0, none⟩) := slot_at (hoff 1 (noDst_spec (by kernel_rfl)))
  clear hoff
  match i, ho with
  |0, ho =>
   obtain rfl := Option.some.inj ho
   refine lw_value (v := .pointer (some ⟨w.heap.size, 1, none⟩)) (u' := u) ?_ (Kp.refl _ _) rfl
   go_simp
  |1, ho =>
   obtain rfl := Option.some.inj ho
   have e6 : a.tmps[3]?.getD undef = .pointer (some ⟨w.heap.size, 1, none⟩) := slot_at (hdep ⟨0, .data⟩ (by simp) rfl _ 3 rfl rfl)
   have c1 := (HCb.out.kp hk (fun h => h)).cell (i := 1) (v := .slice V.ai C.ins.length V.ci) rfl
   refine lw_value (v := .slice V.ai C.ins.length V.ci) (u' := u) ?_ (Kp.refl _ _) (SlK.of_ints HA.out.fi (HA.out.kp (HKb.out.trans hk (fun _ _ h => h))).i)
   go_simp
  |2, ho =>
   obtain rfl := Option.some.inj ho
   obtain ⟨a2, c2, e8, ok2, hr2⟩ := SlK.ints (show SlK (ir C.ins) C.ins.length u (a.tmps.getD 4 undef) from hdep ⟨1, .data⟩ (by simp) rfl _ 4 rfl rfl)
   have e9 := slot_at e8
   refine lw_call (f := 95) (args := #[.slice a2 C.ins.length c2]) ?_ ?_
   ·go_simp
   ·exact (clone_ints a2 C.ins.length c2 _ u hr2 rfl ok2 (by have := HF.out.i; omega)).mono (by
     rintro e u' ⟨v, rfl, hO, hK⟩
     obtain ⟨a3, c3, e3, h1, h2, h3, h5, h4⟩ := ownForm hO
     rw [List.length_map] at e3 h1
     exact ⟨v, rfl, hK, a3, c3, e3, ⟨h1, h2, h3⟩, by rw [ir_flat]; exact h4, fun _ p hp => Nat.le_trans hk.size (h5 p hp)⟩)
  |3, ho =>
   obtain rfl := Option.some.inj ho
   refine lw_value (v := .pointer (some ⟨w.heap.size, 2, none⟩)) (u' := u) ?_ (Kp.refl _ _) rfl
   go_simp
  |4, ho =>
   obtain rfl := Option.some.inj ho
   have e6 : a.tmps[6]?.getD undef = .pointer (some ⟨w.heap.size, 2, none⟩) := slot_at (hdep ⟨3, .data⟩ (by simp) rfl _ 6 rfl rfl)
   have c1 := (HCb.out.kp hk (fun h => h)).cell (i := 2) (v := .slice V.al C.lats.length V.cl) rfl
   refine lw_value (v := .slice V.al C.lats.length V.cl) (u' := u) ?_ (Kp.refl _ _) ⟨_, _, rfl, HA.out.fl, (HA.out.kp (HKb.out.trans hk (fun _ _ h => h))).l⟩
   go_simp
  |5, ho =>
   obtain rfl := Option.some.inj ho
   obtain ⟨a2, c2, e8, ok2, hr2⟩ := (show SlK (C.lats.map tri) C.lats.length u (a.tmps.getD 7 undef) from hdep ⟨4, .data⟩ (by simp) rfl _ 7 rfl rfl)
   have e9 := slot_at e8
   refine lw_call (f := 96) (args := #[.slice a2 C.lats.length c2]) ?_ ?_
   ·go_simp
   ·exact (clone_lats a2 C.lats.length c2 (C.lats.map tri) u hr2 (List.length_map ..) (tri_len _) (tri_one _) ok2 (by have := HF.out.l; omega)).mono (by
     rintro e u' ⟨v, rfl, hO, hK⟩
     obtain ⟨a3, c3, e3, h1, h2, h3, h5, h4⟩ := hO.form
     rw [List.length_map] at e3 h1
     exact ⟨v, rfl, hK, a3, c3, e3, ⟨h1, h2, h3⟩, h4, fun _ p hp => by obtain ⟨g, rfl, hb, -⟩ := h5 p hp; exact Nat.le_trans hk.size hb⟩)
  |6, ho =>
   obtain rfl := Option.some.inj ho
   refine lw_value (v := .pointer (some ⟨w.heap.size, 6, none⟩)) (u' := u) ?_ (Kp.refl _ _) rfl
   go_simp
  |7, ho =>
   obtain rfl := Option.some.inj ho
   have e6 : a.tmps[9]?.getD undef = .pointer (some ⟨w.heap.size, 6, none⟩) := slot_at (hdep ⟨6, .data⟩ (by simp) rfl _ 9 rfl rfl)
   have c1 := (HCb.out.kp hk (fun h => h)).cell (i := 6) (v := .slice V.ag C.gates.length V.cg) rfl
   refine lw_value (v := .slice V.ag C.gates.length V.cg) (u' := u) ?_ (Kp.refl _ _) ⟨_, _, rfl, HA.out.fg, (HA.out.kp (HKb.out.trans hk (fun _ _ h => h))).g⟩
   go_simp
  |8, ho =>
   obtain rfl := Option.some.inj ho
   obtain ⟨a2, c2, e8, ok2, hr2⟩ := (show SlK (C.gates.map tri) C.gates.length u (a.tmps.getD 10 undef) from hdep ⟨7, .data⟩ (by simp) rfl _ 10 rfl rfl)
   have e9 := slot_at e8
   refine lw_call (f := 97) (args := #[.slice a2 C.gates.length c2]) ?_ ?_
   ·go_simp
   ·exact (clone_gates a2 C.gates.length c2 (C.gates.map tri) u hr2 (List.length_map ..) (tri_len _) (tri_one _) ok2 (by have := HF.out.g; omega)).mono (by
     rintro e u' ⟨v, rfl, hO, hK⟩
     obtain ⟨a3, c3, e3, h1, h2, h3, h5, h4⟩ := hO.form
     rw [List.length_map] at e3 h1
     exact ⟨v, rfl, hK, a3, c3, e3, ⟨h1, h2, h3⟩, h4, fun _ p hp => by obtain ⟨g, rfl, hb, -⟩ := h5 p hp; exact Nat.le_trans hk.size hb⟩)
  |9, ho =>
   obtain rfl := Option.some.inj ho
   refine lw_value (v := .pointer (some ⟨w.heap.size, 7, none⟩)) (u' := u) ?_ (Kp.refl _ _) rfl
   go_simp
  |10, ho =>
   obtain rfl := Option.some.inj ho
   have e6 : a.tmps[12]?.getD undef = .pointer (some ⟨w.heap.size, 7, none⟩) := slot_at (hdep ⟨9, .data⟩ (by simp) rfl _ 12 rfl rfl)
   have c1 := (HCb.out.kp hk (fun h => h)).cell (i := 7) (v := .slice V.ay V.ny V.cy) rfl
   refine lw_value (v := .slice V.ay V.ny V.cy) (u' := u) ?_ (Kp.refl _ _) ⟨_, _, rfl, HA.out.fy, HRows.out.kp (HKb.out.trans hk (fun _ _ h => h)) (fun _ _ h => h)⟩
   go_simp
  |11, ho =>
   obtain rfl := Option.some.inj ho
   obtain ⟨a2, c2, e8, ok2, hr2⟩ := (show SlK rows V.ny u (a.tmps.getD 13 undef) from hdep ⟨10, .data⟩ (by simp) rfl _ 13 rfl rfl)
   have e9 := slot_at e8
   refine lw_call (f := 98) (args := #[.slice a2 V.ny c2]) ?_ ?_
   ·go_simp
   ·exact (clone_syms a2 V.ny c2 rows u hr2 HRL.out.1 HRL.out.2.1 HRL.out.2.2 ok2 (by have := HY.out; omega)).mono (by
     rintro e u' ⟨v, rfl, hO, hK⟩
     obtain ⟨a3, c3, e3, h1, h2, h3, h5, h4⟩ := hO.form
     rw [HRL.out.1] at e3 h1
     exact ⟨v, rfl, hK, a3, c3, e3, ⟨h1, h2, h3⟩, h4, fun _ p hp => by obtain ⟨g, rfl, hb, -⟩ := h5 p hp; exact Nat.le_trans hk.size hb⟩)
  |12, ho =>
   obtain rfl := Option.some.inj ho
   refine lw_value (v := .pointer (some ⟨w.heap.size, 1, none⟩)) (u' := u) ?_ (Kp.refl _ _) rfl
   go_simp
  |n + 13, _ => exact absurd hp (by simp [upTo])
 case hendcln1 =>
  intro a u hI
  have hsz : a.tmps.size = 32 := hI.size
  have hdf : a.defers = [] := hI.defers
  have f0 : a.tmps.getD 0 undef = _ := hI.off 0 (noDst_spec (p := upTo 13) (by kernel_rfl))
  have f1 : a.tmps.getD 1 undef = _ := hI.off 1 (noDst_spec (p := upTo 13) (by kernel_rfl))
  have f2 : a.tmps.getD 2 undef = _ := hI.off 2 (noDst_spec (p := upTo 13) (by kernel_rfl))
  have f16 : a.tmps.getD 16 undef = _ := hI.off 16 (noDst_spec (p := upTo 13) (by kernel_rfl))
  have f17 : a.tmps.getD 17 undef = _ := hI.off 17 (noDst_spec (p := upTo 13) (by kernel_rfl))
  have f18 : a.tmps.getD 18 undef = _ := hI.off 18 (noDst_spec (p := upTo 13) (by kernel_rfl))
  have f19 : a.tmps.getD 19 undef = _ := hI.off 19 (noDst_spec (p := upTo 13) (by kernel_rfl))
  have f20 : a.tmps.getD 20 undef = _ := hI.off 20 (noDst_spec (p := upTo 13) (by kernel_rfl))
  have f21 : a.tmps.getD 21 undef = _ := hI.off 21 (noDst_spec (p := upTo 13) (by kernel_rfl))
  have f22 : a.tmps.getD 22 undef = _ := hI.off 22 (noDst_spec (p := upTo 13) (by kernel_rfl))
  have f23 : a.tmps.getD 23 undef = _ := hI.off 23 (noDst_spec (p := upTo 13) (by kernel_rfl))
  have f24 : a.tmps.getD 24 undef = _ := hI.off 24 (noDst_spec (p := upTo 13) (by kernel_rfl))
  have f25 : a.tmps.getD 25 undef = _ := hI.off 25 (noDst_spec (p := upTo 13) (by kernel_rfl))
  have f26 : a.tmps.getD 26 undef = _ := hI.off 26 (noDst_spec (p := upTo 13) (by kernel_rfl))
  have f27 : a.tmps.getD 27 undef = _ := hI.off 27 (noDst_spec (p := upTo 13) (by kernel_rfl))
  have f28 : a.tmps.getD 28 undef = _ := hI.off 28 (noDst_spec (p := upTo 13) (by kernel_rfl))
  have f29 : a.tmps.getD 29 undef = _ := hI.off 29 (noDst_spec (p := upTo 13) (by kernel_rfl))
  have f30 : a.tmps.getD 30 undef = _ := hI.off 30 (noDst_spec (p := upTo 13) (by kernel_rfl))
  have f31 : a.tmps.getD 31 undef = _ := hI.off 31 (noDst_spec (p := upTo 13) (by kernel_rfl))
  have g1 : SlF wz.heap.size (ir C.ins) C.ins.length u (a.tmps.getD 5 undef) := hI.val 2 _ 5 rfl rfl rfl
  obtain ⟨a1, p1, f5, -, -, -⟩ := id g1
  rw [f5] at g1
  have g2 : SlF wz.heap.size (C.lats.map tri) C.lats.length u (a.tmps.getD 8 undef) := hI.val 5 _ 8 rfl rfl rfl
  obtain ⟨a2, p2, f8, -, -, -⟩ := id g2
  rw [f8] at g2
  have g6 : SlF wz.heap.size (C.gates.map tri) C.gates.length u (a.tmps.getD 11 undef) := hI.val 8 _ 11 rfl rfl rfl
  obtain ⟨a6, p6, f11, -, -, -⟩ := id g6
  rw [f11] at g6
  have g7 : SlF wz.heap.size rows V.ny u (a.tmps.getD 14 undef) := hI.val 11 _ 14 rfl rfl rfl
  obtain ⟨a7, p7, f14, -, -, -⟩ := id g7
  rw [f14] at g7
  have f15 : a.tmps.getD 15 undef = .pointer (some ⟨w.heap.size, 1, none⟩) := hI.val 12 _ 15 rfl rfl rfl
  have ha : a = ⟨#[a.tmps.getD 0 undef, a.tmps.getD 1 undef, a.tmps.getD 2 undef, a.tmps.getD 3 undef, a.tmps.getD 4 undef, a.tmps.getD 5 undef, a.tmps.getD 6 undef, a.tmps.getD 7 undef, a.tmps.getD 8 undef, a.tmps.getD 9 undef, a.tmps.getD 10 undef, a.tmps.getD 11 undef, a.tmps.getD 12 undef, a.tmps.getD 13 undef, a.tmps.getD 14 undef, a.tmps.getD 15 undef, a.tmps.getD 16 undef, a.tmps.getD 17 undef, a.tmps.getD 18 undef, a.tmps.getD 19 undef, a.tmps.getD 20 undef, a.tmps.getD 21 undef, a.tmps.getD 22 undef, a.tmps.getD 23 undef, a.tmps.getD 24 undef, a.tmps.getD 25 undef, a.tmps.getD 26 undef, a.tmps.getD 27 undef, a.tmps.getD 28 undef, a.tmps.getD 29 undef, a.tmps.getD 30 undef, a.tmps.getD 31 undef], a.defers⟩ := act_list a 32 hsz
  rw [hdf, f0, f1, f2, f5, f8, f11, f14, f15, f16, f17, f18, f19, f20, f21, f22, f23, f24, f25, f26, f27, f28, f29, f30, f31] at ha
  obtain ⟨x3, hx3⟩ : ∃ x, a.tmps.getD 3 undef = x := ⟨_, rfl⟩
  obtain ⟨x4, hx4⟩ : ∃ x, a.tmps.getD 4 undef = x := ⟨_, rfl⟩
  obtain ⟨x6, hx6⟩ : ∃ x, a.tmps.getD 6 undef = x := ⟨_, rfl⟩
  obtain ⟨x7, hx7⟩ : ∃ x, a.tmps.getD 7 undef = x := ⟨_, rfl⟩
  obtain ⟨x9, hx9⟩ : ∃ x, a.tmps.getD 9 undef = x := ⟨_, rfl⟩
  obtain ⟨x10, hx10⟩ : ∃ x, a.tmps.getD 10 undef = x := ⟨_, rfl⟩
  obtain ⟨x12, hx12⟩ : ∃ x, a.tmps.getD 12 undef = x := ⟨_, rfl⟩
  obtain ⟨x13, hx13⟩ : ∃ x, a.tmps.getD 13 undef = x := ⟨_, rfl⟩
  rw [hx3, hx4, hx6, hx7, hx9, hx10, hx12, hx13] at ha
  have hku := hI.kp
  have hB := HDcln1.out.kp hku (fun h => h)
  clear hI hsz hdf f0 f1 f2 f5 f8 f11 f14 f15 f16 f17 f18 f19 f20 f21 f22 f23 f24 f25 f26 f27 f28 f29 f30 f31 hx3 hx4 hx6 hx7 hx9 hx10 hx12 hx13
  subst ha
  have cs := hB.cell (i := 1) (v := .slice V.ai C.ins.length V.ci) rfl
  have fs := hB.free 1
  have hB' : Blk (u.setCell ⟨w.heap.size, 1, none⟩ (.slice a1 C.ins.length p1)) w.heap.size #[.int .i64 C.max, .slice a1 C.ins.length p1, .slice V.al C.lats.length V.cl, .slice V.ao C.outs.length V.co, .slice V.ab C.bads.length V.cb, .slice V.ac C.cons.length V.cc, .slice V.ag C.gates.length V.cg, .slice V.ay V.ny V.cy, .string V.cm] 27 := hB.set_same 1 (.slice a1 C.ins.length p1)
  have hk' : Kp (fun j => j = w.heap.size) wz (u.setCell ⟨w.heap.size, 1, none⟩ (.slice a1 C.ins.length p1)) := (hku.mono (fun _ _ h => h.elim)).setCell (S := fun j => j = w.heap.size) (p := ⟨w.heap.size, 1, none⟩) (fun _ => rfl) _
  have hkk := Kp.set u ⟨w.heap.size, 1, none⟩ (.slice a1 C.ins.length p1)
  refine wpAny_ready (rs := [13]) (by kernel_rfl) (by simp) ?_
  refine AllReady.cons (o := _) rfl (fun K1 hK1 => ?_) AllReady.nil
  go_simp
  refine hK1 _ _ ?_
  clear hK1 K1 cs fs hB hku
  have g1' := SlF.kp g1 hkk (fun j hj => by have hj2 : j = w.heap.size := hj; have := HLt.out; omega)
  clear g1
  have g1 := g1'
  clear g1'
  have g2' := SlF.kp g2 hkk (fun j hj => by have hj2 : j = w.heap.size := hj; have := HLt.out; omega)
  clear g2
  have g2 := g2'
  clear g2'
  have g6' := SlF.kp g6 hkk (fun j hj => by have hj2 : j = w.heap.size := hj; have := HLt.out; omega)
  clear g6
  have g6 := g6'
  clear g6'
  have g7' := SlF.kp g7 hkk (fun j hj => by have hj2 : j = w.heap.size := hj; have := HLt.out; omega)
  clear g7
  have g7 := g7'
  clear g7'
  clear hkk
  generalize u.setCell ⟨w.heap.size, 1, none⟩ (.slice a1 C.ins.length p1) = u2 at hB' hk' g1 g2 g6 g7 ⊢
  obtain ⟨u, rfl⟩ : ∃ u, u = u2 := ⟨_, rfl⟩
  have hB := hB'
  have hku := hk'
  clear hB' hk'
  try simp only [Act.put, List.setIfInBounds_toArray, List.set_cons_zero, List.set_cons_succ]
  refine wpAny_ready (rs := [14]) (by kernel_rfl) (by simp) ?_
  refine AllReady.cons (o := _) rfl (fun K1 hK1 => ?_) AllReady.nil
  go_simp
  refine hK1 _ _ ?_
  clear hK1 K1
  try simp only [Act.put, List.setIfInBounds_toArray, List.set_cons_zero, List.set_cons_succ]
  have cs := hB.cell (i := 2) (v := .slice V.al C.lats.length V.cl) rfl
  have fs := hB.free 2
  have hB' : Blk (u.setCell ⟨w.heap.size, 2, none⟩ (.slice a2 C.lats.length p2)) w.heap.size #[.int .i64 C.max, .slice a1 C.ins.length p1, .slice a2 C.lats.length p2, .slice V.ao C.outs.length V.co, .slice V.ab C.bads.length V.cb, .slice V.ac C.cons.length V.cc, .slice V.ag C.gates.length V.cg, .slice V.ay V.ny V.cy, .string V.cm] 27 := hB.set_same 2 (.slice a2 C.lats.length p2)
  have hk' : Kp (fun j => j = w.heap.size) wz (u.setCell ⟨w.heap.size, 2, none⟩ (.slice a2 C.lats.length p2)) := hku.setCell (S := fun j => j = w.heap.size) (p := ⟨w.heap.size, 2, none⟩) (fun _ => rfl) _
  have hkk := Kp.set u ⟨w.heap.size, 2, none⟩ (.slice a2 C.lats.length p2)
  refine wpAny_ready (rs := [15]) (by kernel_rfl) (by simp) ?_
  refine AllReady.cons (o := _) rfl (fun K1 hK1 => ?_) AllReady.nil
  go_simp
  refine hK1 _ _ ?_
  clear hK1 K1 cs fs hB hku
  have g1' := SlF.kp g1 hkk (fun j hj => by have hj2 : j = w.heap.size := hj; have := HLt.out; omega)
  clear g1
  have g1 := g1'
  clear g1'
  have g2' := SlF.kp g2 hkk (fun j hj => by have hj2 : j = w.heap.size := hj; have := HLt.out; omega)
  clear g2
  have g2 := g2'
  clear g2'
  have g6' := SlF.kp g6 hkk (fun j hj => by have hj2 : j = w.heap.size := hj; have := HLt.out; omega)
  clear g6
  have g6 := g6'
  clear g6'
  have g7' := SlF.kp g7 hkk (fun j hj => by have hj2 : j = w.heap.size := hj; have := HLt.out; omega)
  clear g7
  have g7 := g7'
  clear g7'
  clear hkk
  generalize u.setCell ⟨w.heap.size, 2, none⟩ (.slice a2 C.lats.length p2) = u2 at hB' hk' g1 g2 g6 g7 ⊢
  obtain ⟨u, rfl⟩ : ∃ u, u = u2 := ⟨_, rfl⟩
  have hB := hB'
  have hku := hk'
  clear hB' hk'
  try simp only [Act.put, List.setIfInBounds_toArray, List.set_cons_zero, List.set_cons_succ]
  refine wpAny_ready (rs := [16]) (by kernel_rfl) (by simp) ?_
  refine AllReady.cons (o := _) rfl (fun K1 hK1 => ?_) AllReady.nil
  go_simp
  refine hK1 _ _ ?_
  clear hK1 K1
  try simp only [Act.put, List.setIfInBounds_toArray, List.set_cons_zero, List.set_cons_succ]
  have cs := hB.cell (i := 6) (v := .slice V.ag C.gates.length V.cg) rfl
  have fs := hB.free 6
  have hB' : Blk (u.setCell ⟨w.heap.size, 6, none⟩ (.slice a6 C.gates.length p6)) w.heap.size #[.int .i64 C.max, .slice a1 C.ins.length p1, .slice a2 C.lats.length p2, .slice V.ao C.outs.length V.co, .slice V.ab C.bads.length V.cb, .slice V.ac C.cons.length V.cc, .slice a6 C.gates.length p6, .slice V.ay V.ny V.cy, .string V.cm] 27 := hB.set_same 6 (.slice a6 C.gates.length p6)
  have hk' : Kp (fun j => j = w.heap.size) wz (u.setCell ⟨w.heap.size, 6, none⟩ (.slice a6 C.gates.length p6)) := hku.setCell (S := fun j => j = w.heap.size) (p := ⟨w.heap.size, 6, none⟩) (fun _ => rfl) _
  have hkk := Kp.set u ⟨w.heap.size, 6, none⟩ (.slice a6 C.gates.length p6)
  refine wpAny_ready (rs := [17]) (by kernel_rfl) (by simp) ?_
  refine AllReady.cons (o := _) rfl (fun K1 hK1 => ?_) AllReady.nil
  go_simp
  refine hK1 _ _ ?_
  clear hK1 K1 cs fs hB hku
  have g1' := SlF.kp g1 hkk (fun j hj => by have hj2 : j = w.heap.size := hj; have := HLt.out; omega)
  clear g1
  have g1 := g1'
  clear g1'
  have g2' := SlF.kp g2 hkk (fun j hj => by have hj2 : j = w.heap.size := hj; have := HLt.out; omega)
  clear g2
  have g2 := g2'
  clear g2'
  have g6' := SlF.kp g6 hkk (fun j hj => by have hj2 : j = w.heap.size := hj; have := HLt.out; omega)
  clear g6
  have g6 := g6'
  clear g6'
  have g7' := SlF.kp g7 hkk (fun j hj => by have hj2 : j = w.heap.size := hj; have := HLt.out; omega)
  clear g7
  have g7 := g7'
  clear g7'
  clear hkk
  generalize u.setCell ⟨w.heap.size, 6, none⟩ (.slice a6 C.gates.length p6) = u2 at hB' hk' g1 g2 g6 g7 ⊢
  obtain ⟨u, rfl⟩ : ∃ u, u = u2 := ⟨_, rfl⟩
  have hB := hB'
  have hku := hk'
  clear hB' hk'
  try simp only [Act.put, List.setIfInBounds_toArray, List.set_cons_zero, List.set_cons_succ]
  refine wpAny_ready (rs := [18]) (by kernel_rfl) (by simp) ?_
  refine AllReady.cons (o := _) rfl (fun K1 hK1 => ?_) AllReady.nil
  go_simp
  refine hK1 _ _ ?_
  clear hK1 K1
  try simp only [Act.put, List.setIfInBounds_toArray, List.set_cons_zero, List.set_cons_succ]
  have cs := hB.cell (i := 7) (v := .slice V.ay V.ny V.cy) rfl
  have fs := hB.free 7
  have hB' : Blk (u.setCell ⟨w.heap.size, 7, none⟩ (.slice a7 V.ny p7)) w.heap.size #[.int .i64 C.max, .slice a1 C.ins.length p1, .slice a2 C.lats.length p2, .slice V.ao C.outs.length V.co, .slice V.ab C.bads.length V.cb, .slice V.ac C.cons.length V.cc, .slice a6 C.gates.length p6, .slice a7 V.ny p7, .string V.cm] 27 := hB.set_same 7 (.slice a7 V.ny p7)
  have hk' : Kp (fun j => j = w.heap.size) wz (u.setCell ⟨w.heap.size, 7, none⟩ (.slice a7 V.ny p7)) := hku.setCell (S := fun j => j = w.heap.size) (p := ⟨w.heap.size, 7, none⟩) (fun _ => rfl) _
  have hkk := Kp.set u ⟨w.heap.size, 7, none⟩ (.slice a7 V.ny p7)
  refine wpAny_ready (rs := [19]) (by kernel_rfl) (by simp) ?_
  refine AllReady.cons (o := _) rfl (fun K1 hK1 => ?_) AllReady.nil
  go_simp
  refine hK1 _ _ ?_
  clear hK1 K1 cs fs hB hku
  have g1' := SlF.kp g1 hkk (fun j hj => by have hj2 : j = w.heap.size := hj; have := HLt.out; omega)
  clear g1
  have g1 := g1'
  clear g1'
  have g2' := SlF.kp g2 hkk (fun j hj => by have hj2 : j = w.heap.size := hj; have := HLt.out; omega)
  clear g2
  have g2 := g2'
  clear g2'
  have g6' := SlF.kp g6 hkk (fun j hj => by have hj2 : j = w.heap.size := hj; have := HLt.out; omega)
  clear g6
  have g6 := g6'
  clear g6'
  have g7' := SlF.kp g7 hkk (fun j hj => by have hj2 : j = w.heap.size := hj; have := HLt.out; omega)
  clear g7
  have g7 := g7'
  clear g7'
  clear hkk
  generalize u.setCell ⟨w.heap.size, 7, none⟩ (.slice a7 V.ny p7) = u2 at hB' hk' g1 g2 g6 g7 ⊢
  obtain ⟨u, rfl⟩ : ∃ u, u = u2 := ⟨_, rfl⟩
  have hB := hB'
  have hku := hk'
  clear hB' hk'
  try simp only [Act.put, List.setIfInBounds_toArray, List.set_cons_zero, List.set_cons_succ]
  refine wpAny_done (by kernel_rfl) ?_ _
  obtain ⟨w4, rfl⟩ : ∃ w4 : World, w4 = u := ⟨_, rfl⟩
  have HLe := Lib.hid hku.size
  have HKb4 := Lib.hid (HKb.out.trans hku (fun j hj e => by have e2 : j = w.heap.size := e; omega))
  have HBb4 := Lib.hid (HBb.out.kp hku (fun e => by have e2 : w.heap.size + 1 = w.heap.size := e; omega))
  have HDcln2 := Lib.hid hB
  have HLt4 := Lib.hid (show w.heap.size < w4.heap.size by have := HLt.out; have := HLe.out; omega)
  have HG := Lib.hid (And.intro g1 (And.intro g2 (And.intro g6 g7)))
  clear hku hB g1 g2 g6 g7 HKb HCb HBb HDcln1
  have HKb := HKb4
  have HCb := HDcln2
  have HBb := HBb4
  have HLt0 := HLt
  clear HKb4 HBb4 HLt
  have HLt := HLt4
  clear HLt4
  go_upto_region 2 with fail
  refine wp_region_loose (p := upTo 10) (V := atV (cln2V w.heap.size w.heap.size w4.heap.size V C rows)) (LP := #[true, true, true, true, true, true, true, true, true, true, false, false, false, false, false]) (K := 5) (by kernel_rfl) (by kernel_rfl) (atV_st (cln2V_st _ _ _ V C rows)) ?hstepcln2 (by kernel_rfl) ?hLPcln2 (by kernel_rfl) ?hendcln2
  case hLPcln2 => exact upTo_spec (by kernel_rfl)
  case hstepcln2 =>
   intro i o ho hp a u hk hoff hdep
   have e1 : a.tmps[1]?.getD undef = .pointer (some ⟨w.heap.size, 0, none⟩) := slot_at (hoff 1 (noDst_spec (by kernel_rfl)))
   clear hoff
   match i, ho with
   |0, ho =>
    obtain rfl := Option.some.inj ho
    refine lw_value (v := .pointer (some ⟨w.heap.size, 3, none⟩)) (u' := u) ?_ (Kp.refl _ _) rfl
    go_simp
   |1, ho =>
    obtain rfl := Option.some.inj ho
    have e6 : a.tmps[19]?.getD undef = .pointer (some ⟨w.heap.size, 3, none⟩) := slot_at (hdep ⟨0, .data⟩ (by simp) rfl _ 19 rfl rfl)
    have c1 := (HCb.out.kp hk (fun h => h)).cell (i := 3) (v := .slice V.ao C.outs.length V.co) rfl
    refine lw_value (v := .slice V.ao C.outs.length V.co) (u' := u) ?_ (Kp.refl _ _) (SlK.of_ints HA.out.fo (HA.out.kp (HKb.out.trans hk (fun _ _ h => h))).o)
    go_simp
   |2, ho =>
    obtain rfl := Option.some.inj ho
    obtain ⟨a2, c2, e8, ok2, hr2⟩ := SlK.ints (show SlK (ir C.outs) C.outs.length u (a.tmps.getD 20 undef) from hdep ⟨1, .data⟩ (by simp) rfl _ 20 rfl rfl)
    have e9 := slot_at e8
    refine lw_call (f := 95) (args := #[.slice a2 C.outs.length c2]) ?_ ?_
    ·go_simp
    ·exact (clone_ints a2 C.outs.length c2 _ u hr2 rfl ok2 (by have := HF.out.o; omega)).mono (by
      rintro e u' ⟨v, rfl, hO, hK⟩
      obtain ⟨a3, c3, e3, h1, h2, h3, h5, h4⟩ := ownForm hO
      rw [List.length_map] at e3 h1
      exact ⟨v, rfl, hK, a3, c3, e3, ⟨h1, h2, h3⟩, by rw [ir_flat]; exact h4, fun _ p hp => Nat.le_trans hk.size (h5 p hp)⟩)
   |3, ho =>
    obtain rfl := Option.some.inj ho
    refine lw_value (v := .pointer (some ⟨w.heap.size, 4, none⟩)) (u' := u) ?_ (Kp.refl _ _) rfl
    go_simp
   |4, ho =>
    obtain rfl := Option.some.inj ho
    have e6 : a.tmps[22]?.getD undef = .pointer (some ⟨w.heap.size, 4, none⟩) := slot_at (hdep ⟨3, .data⟩ (by simp) rfl _ 22 rfl rfl)
    have c1 := (HCb.out.kp hk (fun h => h)).cell (i := 4) (v := .slice V.ab C.bads.length V.cb) rfl
    refine lw_value (v := .slice V.ab C.bads.length V.cb) (u' := u) ?_ (Kp.refl _ _) (SlK.of_ints HA.out.fb (HA.out.kp (HKb.out.trans hk (fun _ _ h => h))).b)
    go_simp
   |5, ho =>
    obtain rfl := Option.some.inj ho
    obtain ⟨a2, c2, e8, ok2, hr2⟩ := SlK.ints (show SlK (ir C.bads) C.bads.length u (a.tmps.getD 23 undef) from hdep ⟨4, .data⟩ (by simp) rfl _ 23 rfl rfl)
    have e9 := slot_at e8
    refine lw_call (f := 95) (args := #[.slice a2 C.bads.length c2]) ?_ ?_
    ·go_simp
    ·exact (clone_ints a2 C.bads.length c2 _ u hr2 rfl ok2 (by have := HF.out.b; omega)).mono (by
      rintro e u' ⟨v, rfl, hO, hK⟩
      obtain ⟨a3, c3, e3, h1, h2, h3, h5, h4⟩ := ownForm hO
      rw [List.length_map] at e3 h1
      exact ⟨v, rfl, hK, a3, c3, e3, ⟨h1, h2, h3⟩, by rw [ir_flat]; exact h4, fun _ p hp => Nat.le_trans hk.size (h5 p hp)⟩)
   |6, ho =>
    obtain rfl := Option.some.inj ho
    refine lw_value (v := .pointer (some ⟨w.heap.size, 5, none⟩)) (u' := u) ?_ (Kp.refl _ _) rfl
    go_simp
   |7, ho =>
    obtain rfl := Option.some.inj ho
    have e6 : a.tmps[25]?.getD undef = .pointer (some ⟨w.heap.size, 5, none⟩) := slot_at (hdep ⟨6, .data⟩ (by simp) rfl _ 25 rfl rfl)
    have c1 := (HCb.out.kp hk (fun h => h)).cell (i := 5) (v := .slice V.ac C.cons.length V.cc) rfl
    refine lw_value (v := .slice V.ac C.cons.length V.cc) (u' := u) ?_ (Kp.refl _ _) (SlK.of_ints HA.out.fc (HA.out.kp (HKb.out.trans hk (fun _ _ h => h))).c)
    go_simp
   |8, ho =>
    obtain rfl := Option.some.inj ho
    obtain ⟨a2, c2, e8, ok2, hr2⟩ := SlK.ints (show SlK (ir C.cons) C.cons.length u (a.tmps.getD 26 undef) from hdep ⟨7, .data⟩ (by simp) rfl _ 26 rfl rfl)
    have e9 := slot_at e8
    refine lw_call (f := 95) (args := #[.slice a2 C.cons.length c2]) ?_ ?_
    ·go_simp
    ·exact (clone_ints a2 C.cons.length c2 _ u hr2 rfl ok2 (by have := HF.out.c; omega)).mono (by
      rintro e u' ⟨v, rfl, hO, hK⟩
      obtain ⟨a3, c3, e3, h1, h2, h3, h5, h4⟩ := ownForm hO
      rw [List.length_map] at e3 h1
      exact ⟨v, rfl, hK, a3, c3, e3, ⟨h1, h2, h3⟩, by rw [ir_flat]; exact h4, fun _ p hp => Nat.le_trans hk.size (h5 p hp)⟩)
   |9, ho =>
    obtain rfl := Option.some.inj ho
    refine lw_value (v := .pointer (some ⟨w.heap.size, 3, none⟩)) (u' := u) ?_ (Kp.refl _ _) rfl
    go_simp
   |n + 10, _ => exact absurd hp (by simp [upTo])
  case hendcln2 =>
   intro a u hI
   have hsz : a.tmps.size = 32 := hI.size
   have hdf : a.defers = [] := hI.defers
   have f0 : a.tmps.getD 0 undef = _ := hI.off 0 (noDst_spec (p := upTo 10) (by kernel_rfl))
   have f1 : a.tmps.getD 1 undef = _ := hI.off 1 (noDst_spec (p := upTo 10) (by kernel_rfl))
   have f2 : a.tmps.getD 2 undef = _ := hI.off 2 (noDst_spec (p := upTo 10) (by kernel_rfl))
   have f3 : a.tmps.getD 3 undef = _ := hI.off 3 (noDst_spec (p := upTo 10) (by kernel_rfl))
   have f4 : a.tmps.getD 4 undef = _ := hI.off 4 (noDst_spec (p := upTo 10) (by kernel_rfl))
   have f5 : a.tmps.getD 5 undef = _ := hI.off 5 (noDst_spec (p := upTo 10) (by kernel_rfl))
   have f6 : a.tmps.getD 6 undef = _ := hI.off 6 (noDst_spec (p := upTo 10) (by kernel_rfl))
   have f7 : a.tmps.getD 7 undef = _ := hI.off 7 (noDst_spec (p := upTo 10) (by kernel_rfl))
   have f8 : a.tmps.getD 8 undef = _ := hI.off 8 (noDst_spec (p := upTo 10) (by kernel_rfl))
   have f9 : a.tmps.getD 9 undef = _ := hI.off 9 (noDst_spec (p := upTo 10) (by kernel_rfl))
   have f10 : a.tmps.getD 10 undef = _ := hI.off 10 (noDst_spec (p := upTo 10) (by kernel_rfl))
   have f11 : a.tmps.getD 11 undef = _ := hI.off 11 (noDst_spec (p := upTo 10) (by kernel_rfl))
   have f12 : a.tmps.getD 12 undef = _ := hI.off 12 (noDst_spec (p := upTo 10) (by kernel_rfl))
   have f13 : a.tmps.getD 13 undef = _ := hI.off 13 (noDst_spec (p := upTo 10) (by kernel_rfl))
   have f14 : a.tmps.getD 14 undef = _ := hI.off 14 (noDst_spec (p := upTo 10) (by kernel_rfl))
   have f15 : a.tmps.getD 15 undef = _ := hI.off 15 (noDst_spec (p := upTo 10) (by kernel_rfl))
   have f16 : a.tmps.getD 16 undef = _ := hI.off 16 (noDst_spec (p := upTo 10) (by kernel_rfl))
   have f17 : a.tmps.getD 17 undef = _ := hI.off 17 (noDst_spec (p := upTo 10) (by kernel_rfl))
   have f18 : a.tmps.getD 18 undef = _ := hI.off 18 (noDst_spec (p := upTo 10) (by kernel_rfl))
   have f29 : a.tmps.getD 29 undef = _ := hI.off 29 (noDst_spec (p := upTo 10) (by kernel_rfl))
   have f30 : a.tmps.getD 30 undef = _ := hI.off 30 (noDst_spec (p := upTo 10) (by kernel_rfl))
   have f31 : a.tmps.getD 31 undef = _ := hI.off 31 (noDst_spec (p := upTo 10) (by kernel_rfl))
   have g3 : SlF w4.heap.size (ir C.outs) C.outs.length u (a.tmps.getD 21 undef) := hI.val 2 _ 21 rfl rfl rfl
   obtain ⟨a3, p3, f21, -, -, -⟩ := id g3
   rw [f21] at g3
   have g4 : SlF w4.heap.size (ir C.bads) C.bads.length u (a.tmps.getD 24 undef) := hI.val 5 _ 24 rfl rfl rfl
   obtain ⟨a4, p4, f24, -, -, -⟩ := id g4
   rw [f24] at g4
   have g5 : SlF w4.heap.size (ir C.cons) C.cons.length u (a.tmps.getD 27 undef) := hI.val 8 _ 27 rfl rfl rfl
   obtain ⟨a5, p5, f27, -, -, -⟩ := id g5
   rw [f27] at g5
   have f28 : a.tmps.getD 28 undef = .pointer (some ⟨w.heap.size, 3, none⟩) := hI.val 9 _ 28 rfl rfl rfl
   have ha : a = ⟨#[a.tmps.getD 0 undef, a.tmps.getD 1 undef, a.tmps.getD 2 undef, a.tmps.getD 3 undef, a.tmps.getD 4 undef, a.tmps.getD 5 undef, a.tmps.getD 6 undef, a.tmps.getD 7 undef, a.tmps.getD 8 undef, a.tmps.getD 9 undef, a.tmps.getD 10 undef, a.tmps.getD 11 undef, a.tmps.getD 12 undef, a.tmps.getD 13 undef, a.tmps.getD 14 undef, a.tmps.getD 15 undef, a.tmps.getD 16 undef, a.tmps.getD 17 undef, a.tmps.getD 18 undef, a.tmps.getD 19 undef, a.tmps.getD 20 undef, a.tmps.getD 21 undef, a.tmps.getD 22 undef, a.tmps.getD 23 undef, a.tmps.getD 24 undef, a.tmps.getD 25 undef, a.tmps.getD 26 undef, a.tmps.getD 27 undef, a.tmps.getD 28 undef, a.tmps.getD 29 undef, a.tmps.getD 30 undef, a.tmps.getD 31 undef], a.defers⟩ := act_list a 32 hsz
   rw [hdf, f0, f1, f2, f3, f4, f5, f6, f7, f8, f9, f10, f11, f12, f13, f14, f15, f16, f17, f18, f21, f24, f27, f28, f29, f30, f31] at ha
   obtain ⟨x19, hx19⟩ : ∃ x, a.tmps.getD 19 undef = x := ⟨_, rfl⟩
   obtain ⟨x20, hx20⟩ : ∃ x, a.tmps.getD 20 undef = x := ⟨_, rfl⟩
   obtain ⟨x22, hx22⟩ : ∃ x, a.tmps.getD 22 undef = x := ⟨_, rfl⟩
   obtain ⟨x23, hx23⟩ : ∃ x, a.tmps.getD 23 undef = x := ⟨_, rfl⟩
   obtain ⟨x25, hx25⟩ : ∃ x, a.tmps.getD 25 undef = x := ⟨_, rfl⟩
   obtain ⟨x26, hx26⟩ : ∃ x, a.tmps.getD 26 undef = x := ⟨_, rfl⟩
   rw [hx19, hx20, hx22, hx23, hx25, hx26] at ha
   have hku := hI.kp
   have hB := HDcln2.out.kp hku (fun h => h)
   clear hI hsz hdf f0 f1 f2 f3 f4 f5 f6 f7 f8 f9 f10 f11 f12 f13 f14 f15 f16 f17 f18 f21 f24 f27 f28 f29 f30 f31 hx19 hx20 hx22 hx23 hx25 hx26
   subst ha
   have cs := hB.cell (i := 3) (v := .slice V.ao C.outs.length V.co) rfl
   have fs := hB.free 3
   have hB' : Blk (u.setCell ⟨w.heap.size, 3, none⟩ (.slice a3 C.outs.length p3)) w.heap.size #[.int .i64 C.max, .slice a1 C.ins.length p1, .slice a2 C.lats.length p2, .slice a3 C.outs.length p3, .slice V.ab C.bads.length V.cb, .slice V.ac C.cons.length V.cc, .slice a6 C.gates.length p6, .slice a7 V.ny p7, .string V.cm] 27 := hB.set_same 3 (.slice a3 C.outs.length p3)
   have hk' : Kp (fun j => j = w.heap.size) w4 (u.setCell ⟨w.heap.size, 3, none⟩ (.slice a3 C.outs.length p3)) := (hku.mono (fun _ _ h => h.elim)).setCell (S := fun j => j = w.heap.size) (p := ⟨w.heap.size, 3, none⟩) (fun _ => rfl) _
   have hkk := Kp.set u ⟨w.heap.size, 3, none⟩ (.slice a3 C.outs.length p3)
   refine wpAny_ready (rs := [10]) (by kernel_rfl) (by simp) ?_
   refine AllReady.cons (o := _) rfl (fun K1 hK1 => ?_) AllReady.nil
   go_simp
   refine hK1 _ _ ?_
   clear hK1 K1 cs fs hB hku
   have g3' := SlF.kp g3 hkk (fun j hj => by have hj2 : j = w.heap.size := hj; have := HLt.out; omega)
   clear g3
   have g3 := g3'
   clear g3'
   have g4' := SlF.kp g4 hkk (fun j hj => by have hj2 : j = w.heap.size := hj; have := HLt.out; omega)
   clear g4
   have g4 := g4'
   clear g4'
   have g5' := SlF.kp g5 hkk (fun j hj => by have hj2 : j = w.heap.size := hj; have := HLt.out; omega)
   clear g5
   have g5 := g5'
   clear g5'
   clear hkk
   generalize u.setCell ⟨w.heap.size, 3, none⟩ (.slice a3 C.outs.length p3) = u2 at hB' hk' g3 g4 g5 ⊢
   obtain ⟨u, rfl⟩ : ∃ u, u = u2 := ⟨_, rfl⟩
   have hB := hB'
   have hku := hk'
   clear hB' hk'
   try simp only [Act.put, List.setIfInBounds_toArray, List.set_cons_zero, List.set_cons_succ]
   refine wpAny_ready (rs := [11]) (by kernel_rfl) (by simp) ?_
   refine AllReady.cons (o := _) rfl (fun K1 hK1 => ?_) AllReady.nil
   go_simp
   refine hK1 _ _ ?_
   clear hK1 K1
   try simp only [Act.put, List.setIfInBounds_toArray, List.set_cons_zero, List.set_cons_succ]
   have cs := hB.cell (i := 4) (v := .slice V.ab C.bads.length V.cb) rfl
   have fs := hB.free 4
   have hB' : Blk (u.setCell ⟨w.heap.size, 4, none⟩ (.slice a4 C.bads.length p4)) w.heap.size #[.int .i64 C.max, .slice a1 C.ins.length p1, .slice a2 C.lats.length p2, .slice a3 C.outs.length p3, .slice a4 C.bads.length p4, .slice V.ac C.cons.length V.cc, .slice a6 C.gates.length p6, .slice a7 V.ny p7, .string V.cm] 27 := hB.set_same 4 (.slice a4 C.bads.length p4)
   have hk' : Kp (fun j => j = w.heap.size) w4 (u.setCell ⟨w.heap.size, 4, none⟩ (.slice a4 C.bads.length p4)) := hku.setCell (S := fun j => j = w.heap.size) (p := ⟨w.heap.size, 4, none⟩) (fun _ => rfl) _
   have hkk := Kp.set u ⟨w.heap.size, 4, none⟩ (.slice a4 C.bads.length p4)
   refine wpAny_ready (rs := [12]) (by kernel_rfl) (by simp) ?_
   refine AllReady.cons (o := _) rfl (fun K1 hK1 => ?_) AllReady.nil
   go_simp
   refine hK1 _ _ ?_
   clear hK1 K1 cs fs hB hku
   have g3' := SlF.kp g3 hkk (fun j hj => by have hj2 : j = w.heap.size := hj; have := HLt.out; omega)
   clear g3
   have g3 := g3'
   clear g3'
   have g4' := SlF.kp g4 hkk (fun j hj => by have hj2 : j = w.heap.size := hj; have := HLt.out; omega)
   clear g4
   have g4 := g4'
   clear g4'
   have g5' := SlF.kp g5 hkk (fun j hj => by have hj2 : j = w.heap.size := hj; have := HLt.out; omega)
   clear g5
   have g5 := g5'
   clear g5'
   clear hkk
   generalize u.setCell ⟨w.heap.size, 4, none⟩ (.slice a4 C.bads.length p4) = u2 at hB' hk' g3 g4 g5 ⊢
   obtain ⟨u, rfl⟩ : ∃ u, u = u2 := ⟨_, rfl⟩
   have hB := hB'
   have hku := hk'
   clear hB' hk'
   try simp only [Act.put, List.setIfInBounds_toArray, List.set_cons_zero, List.set_cons_succ]
   refine wpAny_ready (rs := [13]) (by kernel_rfl) (by simp) ?_
   refine AllReady.cons (o := _) rfl (fun K1 hK1 => ?_) AllReady.nil
   go_simp
   refine hK1 _ _ ?_
   clear hK1 K1
   try simp only [Act.put, List.setIfInBounds_toArray, List.set_cons_zero, List.set_cons_succ]
   have cs := hB.cell (i := 5) (v := .slice V.ac C.cons.length V.cc) rfl
   have fs := hB.free 5
   have hB' : Blk (u.setCell ⟨w.heap.size, 5, none⟩ (.slice a5 C.cons.length p5)) w.heap.size #[.int .i64 C.max, .slice a1 C.ins.length p1, .slice a2 C.lats.length p2, .slice a3 C.outs.length p3, .slice a4 C.bads.length p4, .slice a5 C.cons.length p5, .slice a6 C.gates.length p6, .slice a7 V.ny p7, .string V.cm] 27 := hB.set_same 5 (.slice a5 C.cons.length p5)
   have hk' : Kp (fun j => j = w.heap.size) w4 (u.setCell ⟨w.heap.size, 5, none⟩ (.slice a5 C.cons.length p5)) := hku.setCell (S := fun j => j = w.heap.size) (p := ⟨w.heap.size, 5, none⟩) (fun _ => rfl) _
   have hkk := Kp.set u ⟨w.heap.size, 5, none⟩ (.slice a5 C.cons.length p5)
   refine wpAny_ready (rs := [14]) (by kernel_rfl) (by simp) ?_
   refine AllReady.cons (o := _) rfl (fun K1 hK1 => ?_) AllReady.nil
   go_simp
   refine hK1 _ _ ?_
   clear hK1 K1 cs fs hB hku
   have g3' := SlF.kp g3 hkk (fun j hj => by have hj2 : j = w.heap.size := hj; have := HLt.out; omega)
   clear g3
   have g3 := g3'
   clear g3'
   have g4' := SlF.kp g4 hkk (fun j hj => by have hj2 : j = w.heap.size := hj; have := HLt.out; omega)
   clear g4
   have g4 := g4'
   clear g4'
   have g5' := SlF.kp g5 hkk (fun j hj => by have hj2 : j = w.heap.size := hj; have := HLt.out; omega)
   clear g5
   have g5 := g5'
   clear g5'
   clear hkk
   generalize u.setCell ⟨w.heap.size, 5, none⟩ (.slice a5 C.cons.length p5) = u2 at hB' hk' g3 g4 g5 ⊢
   obtain ⟨u, rfl⟩ : ∃ u, u = u2 := ⟨_, rfl⟩
   have hB := hB'
   have hku := hk'
   clear hB' hk'
   try simp only [Act.put, List.setIfInBounds_toArray, List.set_cons_zero, List.set_cons_succ]
   refine wpAny_done (by kernel_rfl) ?_ _
   have hG := HG.out
   obtain ⟨g1, g2, g6, g7⟩ := hG
   have q : ∀ j, (fun j => j = w.heap.size) j → j < wz.heap.size := fun j hj => by have hj2 : j = w.heap.size := hj; have := HLt0.out; omega
   have g1' := SlF.kp g1 hku q
   have g2' := SlF.kp g2 hku q
   have g6' := SlF.kp g6 hku q
   have g7' := SlF.kp g7 hku q
   clear g1 g2 g6 g7 q
   have hB2 := HBb.out.kp hku (fun e => by have e2 : w.heap.size + 1 = w.heap.size := e; omega)
   have HKf := Lib.hid (HKb.out.trans hku (fun j hj e => by have e2 : j = w.heap.size := e; omega))
   have hle : wz.heap.size ≤ w4.heap.size := HLe.out
   have g3 := g3.low hle
   have g4 := g4.low hle
   have g5 := g5.low hle
   have HGf := Lib.hid (And.intro g1' (And.intro g2' (And.intro g3 (And.intro g4 (And.intro g5 (And.intro g6' g7'))))))
   have HB3 := Lib.hid hB
   have HB2 := Lib.hid hB2
   clear hB hB2 hku g1' g2' g3 g4 g5 g6' g7' HG
   obtain ⟨d0, d1, d2, d3, d4, d5, d6, d7, d8⟩ := HB3.out.cells9
   obtain ⟨z0, z1, z2, z3, z4, z5, z6, z7, z8⟩ := HB2.out.cells9
   have fr := HB2.out.free
   have fr0 := fr 0
   have fr1 := fr 1
   have fr2 := fr 2
   have fr3 := fr 3
   have fr4 := fr 4
   have fr5 := fr 5
   have fr6 := fr 6
   have fr7 := fr 7
   have fr8 := fr 8
   clear fr
   have HBe := Lib.hid (HB2.out.set9 (.int .i64 C.max) (.slice a1 C.ins.length p1) (.slice a2 C.lats.length p2) (.slice a3 C.outs.length p3) (.slice a4 C.bads.length p4) (.slice a5 C.cons.length p5) (.slice a6 C.gates.length p6) (.slice a7 V.ny p7) (.string V.cm))
   have HKe := Lib.hid (Kp.set9 u (w.heap.size + 1) (.int .i64 C.max) (.slice a1 C.ins.length p1) (.slice a2 C.lats.length p2) (.slice a3 C.outs.length p3) (.slice a4 C.bads.length p4) (.slice a5 C.cons.length p5) (.slice a6 C.gates.length p6) (.slice a7 V.ny p7) (.string V.cm))
   unfold Go.Proofs.YtghlklcolepfmaaGreatDoor.set9 at HBe HKe
   have HKw := Lib.hid (HKf.out.trans HKe.out (fun j hj e => by have e2 : j = (w.heap.size + 1) := e; omega))
   have q : ∀ j, (fun j => j = (w.heap.size + 1)) j → j < wz.heap.size := fun j hj => by have hj2 : j = w.heap.size + 1 := hj; have := HLt2.out; omega
   have HCat := Lib.hid (HGf.out)
   obtain ⟨g1, g2, g3, g4, g5, g6, g7⟩ := HCat.out
   have HG2 := Lib.hid (And.intro (SlF.kp g1 HKe.out q) (And.intro (SlF.kp g2 HKe.out q) (And.intro (SlF.kp g3 HKe.out q) (And.intro (SlF.kp g4 HKe.out q) (And.intro (SlF.kp g5 HKe.out q) (And.intro (SlF.kp g6 HKe.out q) (SlF.kp g7 HKe.out q)))))))
   clear q g1 g2 g3 g4 g5 g6 g7 HCat
   go_wp2_with fail
   obtain ⟨s0, s1, s2, s3, s4, s5, s6, s7, s8⟩ := HBe.out.cells9
   obtain ⟨g1, g2, g3, g4, g5, g6, g7⟩ := HG2.out
   have HRes := Lib.hid (show CAt _ ⟨a1, p1, a2, p2, a3, p3, a4, p4, a5, p5, a6, p6, a7, V.ny, p7, V.cm⟩ C from ⟨(by have h := (SlF.row g1).2; rw [ir_flat] at h; exact h), (SlF.row g2).2, (by have h := (SlF.row g3).2; rw [ir_flat] at h; exact h), (by have h := (SlF.row g4).2; rw [ir_flat] at h; exact h), (by have h := (SlF.row g5).2; rw [ir_flat] at h; exact h), (SlF.row g6).2, ⟨rows, (SlF.row g7).2, HRL.out⟩, (SlF.row g1).1, (SlF.row g2).1, (SlF.row g3).1, (SlF.row g4).1, (SlF.row g5).1, (SlF.row g6).1, (SlF.row g7).1⟩)
   clear g1 g2 g3 g4 g5 g6 g7
   have HKeep : CKeep (w.heap.size + 2) _ ⟨a1, p1, a2, p2, a3, p3, a4, p4, a5, p5, a6, p6, a7, V.ny, p7, V.cm⟩ C := fun S w2 hS k => by
    obtain ⟨g1, g2, g3, g4, g5, g6, g7⟩ := HG2.out
    have q : ∀ j, S j → j < wz.heap.size := fun j hj => by have := hS j hj; have := HLt2.out; omega
    have g1 := SlF.kp g1 k q
    have g2 := SlF.kp g2 k q
    have g3 := SlF.kp g3 k q
    have g4 := SlF.kp g4 k q
    have g5 := SlF.kp g5 k q
    have g6 := SlF.kp g6 k q
    have g7 := SlF.kp g7 k q
    exact ⟨(by have h := (SlF.row g1).2; rw [ir_flat] at h; exact h), (SlF.row g2).2, (by have h := (SlF.row g3).2; rw [ir_flat] at h; exact h), (by have h := (SlF.row g4).2; rw [ir_flat] at h; exact h), (by have h := (SlF.row g5).2; rw [ir_flat] at h; exact h), (SlF.row g6).2, ⟨rows, (SlF.row g7).2, HRL.out⟩, (SlF.row g1).1, (SlF.row g2).1, (SlF.row g3).1, (SlF.row g4).1, (SlF.row g5).1, (SlF.row g6).1, (SlF.row g7).1⟩
   exact bodyPost_ret (v := .agg #[.int .i64 C.max, .slice a1 C.ins.length p1, .slice a2 C.lats.length p2, .slice a3 C.outs.length p3, .slice a4 C.bads.length p4, .slice a5 C.cons.length p5, .slice a6 C.gates.length p6, .slice a7 V.ny p7, .string V.cm]) (by simp [results, Tryz.results74, go_sem, s0, s1, s2, s3, s4, s5, s6, s7, s8]) rfl ⟨⟨a1, p1, a2, p2, a3, p3, a4, p4, a5, p5, a6, p6, a7, V.ny, p7, V.cm⟩, rfl, HRes.out, rfl, HKw.out, HKeep⟩

end Go.Proofs.YtghlklcolepfmaaGreatDoor

/-
  step.New of a circuit with which something is wrong.
-/
namespace Go.Proofs.YtghlklcolepfmaaGreatDoor
open Go.RowKit

end Go.Proofs.YtghlklcolepfmaaGreatDoor

/-
  step.New of a good circuit.
-/
namespace Go.Proofs.YtghlklcolepfmaaGreatDoor
open Go.RowKit

def NetK (C : Circ) (w : World) (e : Ending) (w' : World) : Prop := ∃ a4 c4 a5 c5, e = .returned (.tuple #[.slice a4 (netOf C).1.length c4, .slice a5 (netOf C).2.length c5]) ∧
  (∀ (S : Nat → Prop) (w2 : World), (∀ j, S j → j < w.heap.size) → Kp S w' w2 → RowAt w2 a4 ((netOf C).1.map pr2).flatten ∧ RowAt w2 a5 (iv (netOf C).2)) ∧ Kp (fun _ => False) w w'
theorem NetK.of {C : Circ} {w : World} {e : Ending} {w' : World} (h : ∃ v4 v5, e = .returned (.tuple #[v4, v5]) ∧ OwnK w' w.heap.size 124 2 v4 ((netOf C).1.map pr2) ∧ Own w' w.heap.size 3 v5 (iv (netOf C).2) ∧ Kp (fun _ => False) w w') : NetK C w e w' := by
 obtain ⟨v4, v5, rfl, h4, h5, hK⟩ := h
 obtain ⟨a4, c4, e4, -, -, -, -, -⟩ := h4.form
 obtain ⟨a5, c5, e5, -, -, -, -⟩ := h5.form
 rw [List.length_map] at e4
 rw [iv_length] at e5
 subst e4
 subst e5
 refine ⟨a4, c4, a5, c5, rfl, fun S w2 hS k => ?_, hK⟩
 have g4 := h4.kp k (fun j hj hs => by have := (h4.own.lt j hj).1; have := hS j hs; omega)
 have g5 := Own.kp h5 k (fun j hj hs => by have := (h5.lt j hj).1; have := hS j hs; omega)
 obtain ⟨a4', c4', e4', -, -, -, -, hr4⟩ := g4.form
 obtain ⟨a5', c5', e5', -, -, -, hr5⟩ := g5.form
 simp only [Value.slice.injEq] at e4' e5'
 rw [← e4'.1] at hr4
 rw [← e5'.1] at hr5
 exact ⟨hr4, hr5⟩

def MKeep (B : Nat) (w : World) (t : TypeId) (V : CV) (C : Circ) (p : Nat) (a4 : Option Addr) (c4 : Nat) (a5 : Option Addr) (c5 : Nat) : Prop := ∀ (S : Nat → Prop) (w2 : World), (∀ j, S j → j < B) → Kp S w w2 → MAt w2 t V C p a4 c4 a5 c5

set_option maxRecDepth 100000 in
set_option maxHeartbeats 8000000 in
theorem step_NewK (V : CV) (C : Circ) (w : World) (h : CAt w V C) (hf : CFew C 1000000) (hy : V.ny ≤ 1000000) (hg : GoodC C) :
  Calls Tryz.prog 49 #[.agg (cvals V C)] w fun e w' => ∃ V' p a4 c4 a5 c5, e = .returned (.tuple #[.pointer (some ⟨p, 0, none⟩), .int .i64 0]) ∧ MKeep w.heap.size w' 112 V' C p a4 c4 a5 c5 ∧ Kp (fun _ => False) w w' := by
 obtain ⟨wz, hwz⟩ : ∃ wz : World, wz = w.alloc (.cells (cvals V C) 27) := ⟨_, rfl⟩
 have HK0 := Lib.hid (show Kp (fun _ => False) w wz by rw [hwz]; exact (Kp.refl _ w).alloc _)
 have HC0 := Lib.hid (show Blk wz w.heap.size #[.int .i64 C.max, .slice V.ai C.ins.length V.ci, .slice V.al C.lats.length V.cl, .slice V.ao C.outs.length V.co, .slice V.ab C.bads.length V.cb, .slice V.ac C.cons.length V.cc, .slice V.ag C.gates.length V.cg, .slice V.ay V.ny V.cy, .string V.cm] 27 by rw [hwz]; exact Blk.new w (cvals V C) _)
 have HSz := Lib.hid (show wz.heap.size = w.heap.size + 1 by rw [hwz]; simp)
 have HN := Lib.hid (circ_Chk V C wz (h.kp HK0.out) hf)
 have HCl := Lib.hid (fun u (hu : Kp (fun _ => False) wz u) => circ_Clone V C u ((h.kp HK0.out).kp hu) hf hy)
 obtain ⟨d0, d1, d2, d3, d4, d5, d6, d7, d8⟩ := Blk.cells9 HC0.out
 have HZ := Lib.hid hwz
 have HF := Lib.hid hf
 have HG := Lib.hid hg
 rw [hg.code] at HN
 unfold cvals at HN HCl
 clear h hwz hf hg hy
 go_enter Tryz.func49, Tryz.ntmps49
 go_upto_region 1 with fail
 rw [← HZ.out]
 clear HZ
 go_upto_region 4 with (go_at_call 73; with_reducible refine Calls.mono HN.out ?_; rintro e w1 ⟨rfl, hK1⟩)
 have HC1 := Lib.hid (HC0.out.kp hK1 (fun h => h))
 have HCl1 := Lib.hid (HCl.out w1 hK1)
 have HK1 := Lib.hid (HK0.out.trans hK1 (fun _ _ h => h))
 have HSz1 := Lib.hid (show w.heap.size + 1 ≤ w1.heap.size by have := hK1.size; have := HSz.out; omega)
 clear d0 d1 d2 d3 d4 d5 d6 d7 d8 hK1 HCl HC0
 obtain ⟨d0, d1, d2, d3, d4, d5, d6, d7, d8⟩ := Blk.cells9 HC1.out
 go_upto_region 5 with (go_at_call 74; with_reducible refine Calls.mono HCl1.out ?_; rintro e w2 ⟨V', rfl, -, hny, hK2, hkeep⟩; obtain ⟨z0, z1, z2, z3, z4, z5, z6, z7, z8⟩ := Blk.cells9 (HC1.out.kp hK2 (fun h => h)); have fr := (HC1.out.kp hK2 (fun h => h)).free; have fr0 := fr 0; have fr1 := fr 1; have fr2 := fr 2; have fr3 := fr 3; have fr4 := fr 4; have fr5 := fr 5; have fr6 := fr 6; have fr7 := fr 7; have fr8 := fr 8; have HK2 := Lib.hid hK2; have HKeep := Lib.hid hkeep; clear fr d0 d1 d2 d3 d4 d5 d6 d7 d8 hK2 hkeep hny)
 obtain ⟨w3, hw3⟩ : ∃ w3 : World, w3 = set9 w2 w.heap.size (.int .i64 C.max) (.slice V'.ai C.ins.length V'.ci) (.slice V'.al C.lats.length V'.cl) (.slice V'.ao C.outs.length V'.co) (.slice V'.ab C.bads.length V'.cb) (.slice V'.ac C.cons.length V'.cc) (.slice V'.ag C.gates.length V'.cg) (.slice V'.ay V'.ny V'.cy) (.string V'.cm) := ⟨_, rfl⟩
 have hB3 : Blk w3 w.heap.size #[.int .i64 C.max, .slice V'.ai C.ins.length V'.ci, .slice V'.al C.lats.length V'.cl, .slice V'.ao C.outs.length V'.co, .slice V'.ab C.bads.length V'.cb, .slice V'.ac C.cons.length V'.cc, .slice V'.ag C.gates.length V'.cg, .slice V'.ay V'.ny V'.cy, .string V'.cm] 27 := by
  rw [hw3]; exact (HC1.out.kp HK2.out (fun h => h)).set9 _ _ _ _ _ _ _ _ _
 have hk3 : Kp (fun j => j = w.heap.size) w2 w3 := by rw [hw3]; exact Kp.set9 _ _ _ _ _ _ _ _ _ _ _
 have HA3 := Lib.hid (HKeep.out _ w3 (fun j hj => by have hj2 : j = w.heap.size := hj; have := HSz1.out; omega) hk3)
 have HK3 := Lib.hid ((HK1.out.trans HK2.out (fun _ _ h => h)).trans hk3 (fun j hj e => by have e2 : j = w.heap.size := e; omega))
 have HB3 := Lib.hid hB3
 unfold Go.Proofs.YtghlklcolepfmaaGreatDoor.set9 at hw3
 rw [← hw3]
 have HN3 := Lib.hid ((circ_Net V' C w3 HA3.out HF.out HG.out).mono (fun e w' h => NetK.of h))
 have Hk3 := Lib.hid hk3
 clear hw3 hk3 hB3 z0 z1 z2 z3 z4 z5 z6 z7 z8 fr0 fr1 fr2 fr3 fr4 fr5 fr6 fr7 fr8 HK1 HC1
 obtain ⟨d0, d1, d2, d3, d4, d5, d6, d7, d8⟩ := Blk.cells9 HB3.out
 unfold cvals at HN3
 go_wp2_with fail
 refine Calls.mono HN3.out ?_
 rintro e w4 ⟨a4, c4, a5, c5, rfl, hr45, hK4⟩
 obtain ⟨f0, f1, f2, f3, f4, f5, f6, f7, f8⟩ := Blk.cells9 (HB3.out.kp hK4 (fun h => h))
 go_wp2_with fail
 have HK4 := Lib.hid (HK3.out.trans hK4 (fun _ _ h => h))
 have H45 := Lib.hid hr45
 have hK4' := Lib.hid hK4
 go_ret2
 have hka := (Kp.refl (fun _ => False) w4).alloc (.cells (cvals V' C ++ #[.slice a4 (netOf C).1.length c4, .slice a5 (netOf C).2.length c5]) 112)
 refine ⟨V', _, a4, c4, a5, c5, rfl, fun S w5 hS k5 => ?_, HK4.out.trans hka (fun _ _ h => h)⟩
 have hz4 := HK4.out.size
 have hz3 := HK3.out.size
 have k25 : Kp (fun j => j = w.heap.size ∨ S j) w2 w5 := ((Hk3.out.trans (hK4'.out.trans hka (fun _ _ h => h)) (fun _ _ h => h.elim)).mono (fun j _ h => Or.inl h)).trans (k5.mono (fun j _ h => Or.inr h)) (fun _ _ h => h)
 have hC := HKeep.out _ w5 (fun j hj => by have := HSz1.out; rcases hj with hj | hj <;> (try have := hS j hj) <;> omega) k25
 have hN := H45.out S w5 (fun j hj => by have := hS j hj; omega) ((hka.mono (fun _ _ h => h.elim)).trans k5 (fun _ _ h => h))
 exact ⟨(Blk.new w4 _ _).kp k5 (fun h => by have := hS _ h; omega), hC, hN.1, hN.2⟩

end Go.Proofs.YtghlklcolepfmaaGreatDoor

/-
  trace.brought.
-/
namespace Go.Proofs.YtghlklcolepfmaaGreatDoor
open Go.RowKit

set_option maxRecDepth 100000 in
theorem trace_brought (a : Option Addr) (n c : Nat) (l : List Bool) (m : Nat) (w : World) (hr : RowAt w a (bv l)) (hn : l.length = n) (hm : n ≤ 100000000) (hmm : m ≤ 10000000) :
  Calls Tryz.prog 39 #[.slice a n c, .int .i64 m] w fun e w' => ∃ v, e = .returned v ∧ Own w' w.heap.size 4 v (bv (brought l m)) ∧ Kp (fun _ => False) w w' := by
 obtain ⟨i0, hi0, hz0, hz1, hz2⟩ := info_parts (show (Tryz.prog.info? 4).map (fun i => (i.zero, i.size, i.bytes)) = some (some (.bool false), 1, 1) by kernel_rfl)
 have hsz := Lib.hid (show (Tryz.prog.info? 4).map (·.size) = some 1 by kernel_rfl)
 have hmk : ∀ u : World, (Instr.makeSlice 28 (.int .i64 (m : Int)) (.int .i64 (m : Int))).run Tryz.prog u =
   .ok (.slice (some ⟨u.heap.size, 0, none⟩) m m) (u.alloc (.cells (madeCells #[.bool false] m) 4)) := fun u => by
  have h := run_make (P := Tryz.prog) u 28 4 i0 (.bool false) Tryz.underlying28 hi0 hz0 .i64 .i64 (m : Int) (m : Int) (by omega) (Int.le_refl _) (by rw [hz2]; omega) (by omega)
  simpa [hz1, Value.cells] using h
 clear hi0 hz0 hz1 hz2 i0
 obtain ⟨wz, hwz⟩ : ∃ wz : World, wz = w.alloc (.cells (madeCells #[.bool false] m) 4) := ⟨_, rfl⟩
 have HK0 := Lib.hid (show Kp (fun _ => False) w wz by rw [hwz]; exact (Kp.refl _ w).alloc _)
 have HB := Lib.hid (show Blk wz w.heap.size (bv (List.replicate m false)).toArray 4 by rw [hwz, bv_rep, ← made_row]; exact Blk.new _ _ _)
 have HBw := Lib.hid (show Below w.heap.size w wz by rw [hwz]; exact ⟨rfl, rfl, rfl, by simp, fun j hj => Below.heap_alloc w _ j hj⟩)
 obtain ⟨cs, hcs⟩ : ∃ cs, cs = bv (l.take (Nat.min l.length m)) := ⟨_, rfl⟩
 have hmin : Nat.min l.length m ≤ l.length ∧ Nat.min l.length m ≤ m := by
  simp only [Nat.min_def]; split <;> omega
 have hcl : cs.length = Nat.min n m := by rw [hcs, bv_length, ← hn, List.length_take]; omega
 have HCs := Lib.hid hcs
 have HCl := Lib.hid hcl
 have HR := Lib.hid (show RowAt wz a cs from by
  rw [hcs]
  unfold bv
  rw [List.map_take]
  exact (hr.kp HK0.out (fun _ _ h => h)).take _)
 have HOne := Lib.hid (show ∀ v ∈ cs, v.oneCell' = true from by rw [hcs]; exact bv_one _)
 have HLe := Lib.hid (show cs.length ≤ m by rw [hcl, ← hn]; exact hmin.2)
 have HZ := Lib.hid hwz
 clear hr hwz hcs hcl hmin
 go_enter Tryz.func39, Tryz.ntmps39
 go_upto_region 2 with fail
 rw [← HZ.out]
 clear HZ hmk
 go_wp2_with (refine wpList_copy_splice rfl (.tmp 8) (.tmp 9) 28 28 rfl 4 Tryz.underlying28 hsz.out (some ⟨w.heap.size, 0, none⟩) a m m n c rfl rfl w.heap.size 0 (bv (List.replicate m false)) 4 HB.out cs HCl.out ?p1 ?p2 HOne.out w.heap.size w HBw.out (Nat.le_refl _) ?_)
 case p1 =>
  intro h0
  try refine ⟨rfl, ?_⟩
  obtain ⟨b, off, ea, -⟩ := HR.out 0 cs[0] (List.getElem?_eq_getElem h0)
  refine ⟨⟨b, off, none⟩, ea, fun j v hj => ?_⟩
  obtain ⟨b', off', ea', e⟩ := HR.out j v hj
  rw [ea] at ea'
  simp only [Option.some.injEq, Addr.mk.injEq, and_true] at ea'
  obtain ⟨rfl, rfl⟩ := ea'
  rw [add_plain']
  exact e
 case p2 => rw [bv_length]; simp; exact HLe.out
 intro w2 hB2 hBe
 have HE := Lib.hid (show Own w2 w.heap.size 4 (.slice (some ⟨w.heap.size, 0, none⟩) m m) (bv (brought l m)) ∧ Kp (fun _ => False) w w2 from by
  refine ⟨?_, Kp.of_below hBe _⟩
  have h1 : Blk w2 w.heap.size (splice (bv (List.replicate m false)) 0 cs).toArray 4 := hB2.out
  rw [HCs.out, splice_bools] at h1
  have hl : (bv (brought l m)).length = m := by rw [bv_length, brought_len]
  have := Own.lit (base := w.heap.size) h1 (Nat.le_refl _) (by rw [hl]; unfold maxLen; omega)
  rw [hl] at this
  exact this)
 clear hB2 hBe
 go_wp2_with fail
 go_ret
 exact ⟨_, rfl, HE.out⟩

end Go.Proofs.YtghlklcolepfmaaGreatDoor

/-
  trace.of.
-/
namespace Go.Proofs.YtghlklcolepfmaaGreatDoor
open Go.RowKit

def tvals (V : CV) (C : Circ) (p : Nat) (b4 : Option Addr) (d4 : Nat) (b5 : Option Addr) (d5 : Nat) : Array Value := #[.int .i64 C.max, .slice V.ai C.ins.length V.ci, .slice V.al C.lats.length V.cl, .slice V.ao C.outs.length V.co, .slice V.ab C.bads.length V.cb, .slice V.ac C.cons.length V.cc, .slice V.ag C.gates.length V.cg, .slice V.ay V.ny V.cy, .string V.cm, .pointer (some ⟨p, 0, none⟩), .slice b4 (netOf C).1.length d4, .slice b5 (netOf C).2.length d5]

structure TAt (w : World) (C : Circ) (p : Nat) (b4 b5 : Option Addr) : Prop where
  mach : ∃ Vm a4 c4 a5 c5, MAt w 112 Vm C p a4 c4 a5 c5
  net : RowAt w b4 ((netOf C).1.map pr2).flatten
  ats : RowAt w b5 (iv (netOf C).2)
theorem TAt.kp {w w' : World} {C : Circ} {p : Nat} {b4 b5 : Option Addr} (h : TAt w C p b4 b5) (k : Kp (fun _ => False) w w') : TAt w' C p b4 b5 := by
 obtain ⟨⟨Vm, a4, c4, a5, c5, h1⟩, h2, h3⟩ := h
 exact ⟨⟨Vm, a4, c4, a5, c5, h1.kp k⟩, h2.kp k (fun _ _ h => h), h3.kp k (fun _ _ h => h)⟩

theorem blk12 {w : World} {b : Nat} {x0 x1 x2 x3 x4 x5 x6 x7 x8 x9 xa xb : Value} {t : TypeId} (h : Blk w b #[x0, x1, x2, x3, x4, x5, x6, x7, x8, x9, xa, xb] t) :
  w.cell? ⟨b, 0, none⟩ = some x0 ∧ w.cell? ⟨b, 1, none⟩ = some x1 ∧ w.cell? ⟨b, 2, none⟩ = some x2 ∧ w.cell? ⟨b, 3, none⟩ = some x3 ∧ w.cell? ⟨b, 4, none⟩ = some x4 ∧ w.cell? ⟨b, 5, none⟩ = some x5 ∧ w.cell? ⟨b, 6, none⟩ = some x6 ∧ w.cell? ⟨b, 7, none⟩ = some x7 ∧ w.cell? ⟨b, 8, none⟩ = some x8 ∧ w.cell? ⟨b, 9, none⟩ = some x9 ∧ w.cell? ⟨b, 10, none⟩ = some xa ∧ w.cell? ⟨b, 11, none⟩ = some xb :=
 ⟨h.cell rfl, h.cell rfl, h.cell rfl, h.cell rfl, h.cell rfl, h.cell rfl, h.cell rfl, h.cell rfl, h.cell rfl, h.cell rfl, h.cell rfl, h.cell rfl⟩

theorem set12 {w : World} {b : Nat} {x0 x1 x2 x3 x4 x5 x6 x7 x8 x9 xa xb : Value} {t : TypeId} (h : Blk w b #[x0, x1, x2, x3, x4, x5, x6, x7, x8, x9, xa, xb] t) (y0 y1 y2 y3 y4 y5 y6 y7 y8 y9 y10 y11 : Value) :
  Blk ((((((((((((w.setCell ⟨b, 0, none⟩ y0).setCell ⟨b, 1, none⟩ y1).setCell ⟨b, 2, none⟩ y2).setCell ⟨b, 3, none⟩ y3).setCell ⟨b, 4, none⟩ y4).setCell ⟨b, 5, none⟩ y5).setCell ⟨b, 6, none⟩ y6).setCell ⟨b, 7, none⟩ y7).setCell ⟨b, 8, none⟩ y8).setCell ⟨b, 9, none⟩ y9).setCell ⟨b, 10, none⟩ y10).setCell ⟨b, 11, none⟩ y11) b #[y0, y1, y2, y3, y4, y5, y6, y7, y8, y9, y10, y11] t ∧ Kp (fun j => j = b) w ((((((((((((w.setCell ⟨b, 0, none⟩ y0).setCell ⟨b, 1, none⟩ y1).setCell ⟨b, 2, none⟩ y2).setCell ⟨b, 3, none⟩ y3).setCell ⟨b, 4, none⟩ y4).setCell ⟨b, 5, none⟩ y5).setCell ⟨b, 6, none⟩ y6).setCell ⟨b, 7, none⟩ y7).setCell ⟨b, 8, none⟩ y8).setCell ⟨b, 9, none⟩ y9).setCell ⟨b, 10, none⟩ y10).setCell ⟨b, 11, none⟩ y11) := by
 have k := Kp.refl (fun j => j = b) w
 replace h : Blk (w.setCell ⟨b, 0, none⟩ y0) b #[y0, x1, x2, x3, x4, x5, x6, x7, x8, x9, xa, xb] t := h.set_same 0 y0
 replace k := k.setCell (p := ⟨b, 0, none⟩) (fun _ => rfl) y0
 obtain ⟨w0, hw0⟩ : ∃ w0, w0 = w.setCell ⟨b, 0, none⟩ y0 := ⟨_, rfl⟩
 rw [← hw0] at h k
 replace h : Blk (w0.setCell ⟨b, 1, none⟩ y1) b #[y0, y1, x2, x3, x4, x5, x6, x7, x8, x9, xa, xb] t := h.set_same 1 y1
 replace k := k.setCell (p := ⟨b, 1, none⟩) (fun _ => rfl) y1
 obtain ⟨w1, hw1⟩ : ∃ w1, w1 = w0.setCell ⟨b, 1, none⟩ y1 := ⟨_, rfl⟩
 rw [← hw1] at h k
 replace h : Blk (w1.setCell ⟨b, 2, none⟩ y2) b #[y0, y1, y2, x3, x4, x5, x6, x7, x8, x9, xa, xb] t := h.set_same 2 y2
 replace k := k.setCell (p := ⟨b, 2, none⟩) (fun _ => rfl) y2
 obtain ⟨w2, hw2⟩ : ∃ w2, w2 = w1.setCell ⟨b, 2, none⟩ y2 := ⟨_, rfl⟩
 rw [← hw2] at h k
 replace h : Blk (w2.setCell ⟨b, 3, none⟩ y3) b #[y0, y1, y2, y3, x4, x5, x6, x7, x8, x9, xa, xb] t := h.set_same 3 y3
 replace k := k.setCell (p := ⟨b, 3, none⟩) (fun _ => rfl) y3
 obtain ⟨w3, hw3⟩ : ∃ w3, w3 = w2.setCell ⟨b, 3, none⟩ y3 := ⟨_, rfl⟩
 rw [← hw3] at h k
 replace h : Blk (w3.setCell ⟨b, 4, none⟩ y4) b #[y0, y1, y2, y3, y4, x5, x6, x7, x8, x9, xa, xb] t := h.set_same 4 y4
 replace k := k.setCell (p := ⟨b, 4, none⟩) (fun _ => rfl) y4
 obtain ⟨w4, hw4⟩ : ∃ w4, w4 = w3.setCell ⟨b, 4, none⟩ y4 := ⟨_, rfl⟩
 rw [← hw4] at h k
 replace h : Blk (w4.setCell ⟨b, 5, none⟩ y5) b #[y0, y1, y2, y3, y4, y5, x6, x7, x8, x9, xa, xb] t := h.set_same 5 y5
 replace k := k.setCell (p := ⟨b, 5, none⟩) (fun _ => rfl) y5
 obtain ⟨w5, hw5⟩ : ∃ w5, w5 = w4.setCell ⟨b, 5, none⟩ y5 := ⟨_, rfl⟩
 rw [← hw5] at h k
 replace h : Blk (w5.setCell ⟨b, 6, none⟩ y6) b #[y0, y1, y2, y3, y4, y5, y6, x7, x8, x9, xa, xb] t := h.set_same 6 y6
 replace k := k.setCell (p := ⟨b, 6, none⟩) (fun _ => rfl) y6
 obtain ⟨w6, hw6⟩ : ∃ w6, w6 = w5.setCell ⟨b, 6, none⟩ y6 := ⟨_, rfl⟩
 rw [← hw6] at h k
 replace h : Blk (w6.setCell ⟨b, 7, none⟩ y7) b #[y0, y1, y2, y3, y4, y5, y6, y7, x8, x9, xa, xb] t := h.set_same 7 y7
 replace k := k.setCell (p := ⟨b, 7, none⟩) (fun _ => rfl) y7
 obtain ⟨w7, hw7⟩ : ∃ w7, w7 = w6.setCell ⟨b, 7, none⟩ y7 := ⟨_, rfl⟩
 rw [← hw7] at h k
 replace h : Blk (w7.setCell ⟨b, 8, none⟩ y8) b #[y0, y1, y2, y3, y4, y5, y6, y7, y8, x9, xa, xb] t := h.set_same 8 y8
 replace k := k.setCell (p := ⟨b, 8, none⟩) (fun _ => rfl) y8
 obtain ⟨w8, hw8⟩ : ∃ w8, w8 = w7.setCell ⟨b, 8, none⟩ y8 := ⟨_, rfl⟩
 rw [← hw8] at h k
 replace h : Blk (w8.setCell ⟨b, 9, none⟩ y9) b #[y0, y1, y2, y3, y4, y5, y6, y7, y8, y9, xa, xb] t := h.set_same 9 y9
 replace k := k.setCell (p := ⟨b, 9, none⟩) (fun _ => rfl) y9
 obtain ⟨w9, hw9⟩ : ∃ w9, w9 = w8.setCell ⟨b, 9, none⟩ y9 := ⟨_, rfl⟩
 rw [← hw9] at h k
 replace h : Blk (w9.setCell ⟨b, 10, none⟩ y10) b #[y0, y1, y2, y3, y4, y5, y6, y7, y8, y9, y10, xb] t := h.set_same 10 y10
 replace k := k.setCell (p := ⟨b, 10, none⟩) (fun _ => rfl) y10
 obtain ⟨w10, hw10⟩ : ∃ w10, w10 = w9.setCell ⟨b, 10, none⟩ y10 := ⟨_, rfl⟩
 rw [← hw10] at h k
 replace h : Blk (w10.setCell ⟨b, 11, none⟩ y11) b #[y0, y1, y2, y3, y4, y5, y6, y7, y8, y9, y10, y11] t := h.set_same 11 y11
 replace k := k.setCell (p := ⟨b, 11, none⟩) (fun _ => rfl) y11
 obtain ⟨w11, hw11⟩ : ∃ w11, w11 = w10.setCell ⟨b, 11, none⟩ y11 := ⟨_, rfl⟩
 rw [← hw11] at h k
 rw [hw11, hw10, hw9, hw8, hw7, hw6, hw5, hw4, hw3, hw2, hw1, hw0] at h k
 exact ⟨h, k⟩

set_option maxRecDepth 100000 in
set_option maxHeartbeats 8000000 in
theorem trace_of (V : CV) (C : Circ) (w : World) (h : CAt w V C) (hf : CFew C 1000000) (hy : V.ny ≤ 1000000) (hg : GoodC C) :
  Calls Tryz.prog 19 #[.agg (cvals V C)] w fun e w' => ∃ p b4 d4 b5 d5, e = .returned (.agg (tvals V C p b4 d4 b5 d5)) ∧ TAt w' C p b4 b5 ∧ Kp (fun _ => False) w w' := by
 obtain ⟨wz, hwz⟩ : ∃ wz : World, wz = (w.alloc (.cells (cvals V C) 27)).alloc (.cells #[.int .i64 0, .slice none 0 0, .slice none 0 0, .slice none 0 0, .slice none 0 0, .slice none 0 0, .slice none 0 0, .slice none 0 0, .string ⟨#[]⟩, .pointer none, .slice none 0 0, .slice none 0 0] 54) := ⟨_, rfl⟩
 have HK0 := Lib.hid (show Kp (fun _ => False) w wz by rw [hwz]; exact ((Kp.refl _ w).alloc _).alloc _)
 have HC0 := Lib.hid (show Blk wz w.heap.size #[.int .i64 C.max, .slice V.ai C.ins.length V.ci, .slice V.al C.lats.length V.cl, .slice V.ao C.outs.length V.co, .slice V.ab C.bads.length V.cb, .slice V.ac C.cons.length V.cc, .slice V.ag C.gates.length V.cg, .slice V.ay V.ny V.cy, .string V.cm] 27 by rw [hwz]; exact (Blk.new w (cvals V C) _).alloc _)
 have HT0 := Lib.hid (show Blk wz (w.heap.size + 1) #[.int .i64 0, .slice none 0 0, .slice none 0 0, .slice none 0 0, .slice none 0 0, .slice none 0 0, .slice none 0 0, .slice none 0 0, .string ⟨#[]⟩, .pointer none, .slice none 0 0, .slice none 0 0] 54 by rw [hwz]; exact two_blk _ _ _ _ _)
 obtain ⟨d0, d1, d2, d3, d4, d5, d6, d7, d8⟩ := Blk.cells9 HC0.out
 have HZ := Lib.hid hwz
 have HNw := Lib.hid (step_NewK V C wz (h.kp HK0.out) hf hy hg)
 have HNt := Lib.hid (fun u (hu : Kp (fun _ => False) wz u) => (circ_Net V C u (h.kp (HK0.out.trans hu (fun _ _ h => h))) hf hg).mono (fun e w' h => NetK.of h))
 unfold cvals at HNw HNt HZ ⊢
 clear h hf hy hg hwz
 go_enter Tryz.func19, Tryz.ntmps19
 go_upto_region 1 with fail
 rw [← HZ.out]
 clear HZ
 go_upto_region 2 with (go_at_call 49; with_reducible refine Calls.mono HNw.out ?_; rintro e w1 ⟨Vm, p, a4, c4, a5, c5, rfl, hM, hK1⟩; have HM1 := Lib.hid hM; have HK1 := Lib.hid hK1; clear hM hK1)
 clear d0 d1 d2 d3 d4 d5 d6 d7 d8 HNw
 have HC1 := Lib.hid (HC0.out.kp HK1.out (fun h => h))
 obtain ⟨d0, d1, d2, d3, d4, d5, d6, d7, d8⟩ := Blk.cells9 HC1.out
 have HNt1 := Lib.hid (HNt.out w1 HK1.out)
 go_upto_region 3 with (go_at_call 50; (with_reducible refine Calls.mono HNt1.out ?_); rintro e w2 ⟨b4, e4, b5, e5, rfl, hr45, hK2⟩; have H45 := Lib.hid hr45; have HK2 := Lib.hid hK2; clear hr45 hK2)
 clear d0 d1 d2 d3 d4 d5 d6 d7 d8 HNt1 HNt
 have HK12 := Lib.hid (HK1.out.trans HK2.out (fun _ _ h => h))
 have HC2 := Lib.hid (HC1.out.kp HK2.out (fun h => h))
 have HT2 := Lib.hid (HT0.out.kp HK12.out (fun h => h))
 obtain ⟨d0, d1, d2, d3, d4, d5, d6, d7, d8⟩ := Blk.cells9 HC2.out
 obtain ⟨t0, t1, t2, t3, t4, t5, t6, t7, t8, t9, ta, tb⟩ := blk12 HT2.out
 have hfr := HT2.out.free
 go_wp2_with fail
 have hS := set12 HT2.out (.int .i64 C.max) (.slice V.ai C.ins.length V.ci) (.slice V.al C.lats.length V.cl) (.slice V.ao C.outs.length V.co) (.slice V.ab C.bads.length V.cb) (.slice V.ac C.cons.length V.cc) (.slice V.ag C.gates.length V.cg) (.slice V.ay V.ny V.cy) (.string V.cm) (.pointer (some ⟨p, 0, none⟩)) (.slice b4 (netOf C).1.length e4) (.slice b5 (netOf C).2.length e5)
 obtain ⟨wf, hwf⟩ : ∃ wf : World, wf = ((((((((((((w2.setCell ⟨w.heap.size + 1, 0, none⟩ (.int .i64 C.max)).setCell ⟨w.heap.size + 1, 1, none⟩ (.slice V.ai C.ins.length V.ci)).setCell ⟨w.heap.size + 1, 2, none⟩ (.slice V.al C.lats.length V.cl)).setCell ⟨w.heap.size + 1, 3, none⟩ (.slice V.ao C.outs.length V.co)).setCell ⟨w.heap.size + 1, 4, none⟩ (.slice V.ab C.bads.length V.cb)).setCell ⟨w.heap.size + 1, 5, none⟩ (.slice V.ac C.cons.length V.cc)).setCell ⟨w.heap.size + 1, 6, none⟩ (.slice V.ag C.gates.length V.cg)).setCell ⟨w.heap.size + 1, 7, none⟩ (.slice V.ay V.ny V.cy)).setCell ⟨w.heap.size + 1, 8, none⟩ (.string V.cm)).setCell ⟨w.heap.size + 1, 9, none⟩ (.pointer (some ⟨p, 0, none⟩))).setCell ⟨w.heap.size + 1, 10, none⟩ (.slice b4 (netOf C).1.length e4)).setCell ⟨w.heap.size + 1, 11, none⟩ (.slice b5 (netOf C).2.length e5)) := ⟨_, rfl⟩
 rw [← hwf] at hS ⊢
 obtain ⟨s0, s1, s2, s3, s4, s5, s6, s7, s8, s9, sa, sb⟩ := blk12 hS.1
 have HSf := Lib.hid hS
 have HSz := Lib.hid (show w.heap.size + 1 < wz.heap.size from HT0.out.lt)
 clear hwf hS d0 d1 d2 d3 d4 d5 d6 d7 d8 t0 t1 t2 t3 t4 t5 t6 t7 t8 t9 ta tb hfr
 refine bodyPost_ret (v := .agg (tvals V C p b4 e4 b5 e5)) (by unfold tvals; simp [results, Tryz.results19, go_sem, s0, s1, s2, s3, s4, s5, s6, s7, s8, s9, sa, sb]) rfl ⟨p, b4, e4, b5, e5, rfl, ?_, ?_⟩
 ·have hz := HSz.out
  have hz1 := HK1.out.size
  have k1f : Kp (fun j => j = w.heap.size + 1) w1 wf := (HK2.out.mono (fun _ _ h => h.elim)).trans HSf.out.2 (fun _ _ h => h)
  have hN := H45.out (fun j => j = w.heap.size + 1) wf (fun j hj => by omega) HSf.out.2
  exact ⟨⟨Vm, a4, c4, a5, c5, HM1.out _ wf (fun j hj => by have hj2 : j = w.heap.size + 1 := hj; omega) k1f⟩, hN.1, hN.2⟩
 ·exact (HK0.out.trans HK12.out (fun _ _ h => h)).trans HSf.out.2 (fun j hj e => by have e2 : j = w.heap.size + 1 := e; omega)

end Go.Proofs.YtghlklcolepfmaaGreatDoor

/-
  Layer 1 in plain words: bytes of a string, the number at a place.
-/
namespace Go.Proofs.YtghlklcolepfmaaGreatDoor
open Go.RowKit

def bt (s : ByteArray) (i : Nat) : Nat := if h : i < s.size then (s[i]'h).toNat else 0

theorem bt_eq {s : ByteArray} {i : Nat} (h : i < s.size) : (s[i]'h).toNat = bt s i := by simp [bt, h]
theorem bt_lt (s : ByteArray) (i : Nat) : bt s i < 256 := by
 unfold bt
 split
 ·exact UInt8.toNat_lt _
 ·decide

end Go.Proofs.YtghlklcolepfmaaGreatDoor

/-
  octet.Get and its reference: what they compute.
-/
namespace Go.Proofs.YtghlklcolepfmaaGreatDoor
open Go.RowKit

theorem octet_out (s : ByteArray) (x : Int) (w : World) :
  Calls Tryz.prog 65 #[.string s, .int .i64 x] w fun e w' => e = .returned (.bool (decide (x < 0) || decide ((s.size : Int) < x))) ∧ w = w' := by
 by_cases h : x < 0
 ·go_enter Tryz.func65, Tryz.ntmps65
  go_wp2
  go_ret
  exact ⟨by simp [h], rfl⟩
 ·go_enter Tryz.func65, Tryz.ntmps65
  go_wp2
  go_ret
  exact ⟨by simp; omega, rfl⟩

end Go.Proofs.YtghlklcolepfmaaGreatDoor

/-
  The library's contracts at this dump, as the kit's own tool lays them.
-/
namespace Go.Proofs
open Go.Shelf
def Tryz.lays169_ren : Go.Shelf.Ren := ⟨fun | 169 => 23 | n => n, fun | 70 => 56 | 9 => 9 | 0 => 0 | 72 => 59 | 37 => 57 | 127 => 99 | 3 => 3 | 5 => 5 | n => n, fun | n => n⟩
theorem Tryz.lays169 : Go.Proofs.Lays.n169 Tryz.prog Tryz.lays169_ren := {
 mixed := by kernel_rfl
 f169 := Tryz.func23.trans (congrArg some (by kernel_rfl))
 t0 := Tryz.underlying0
 a0 := Tryz.isAgg0
 z0 := Tryz.sizeOf0
 v0 := Tryz.zeroValue0
 t3 := Tryz.underlying3
 a3 := Tryz.isAgg3
 z3 := Tryz.sizeOf3
 v3 := Tryz.zeroValue3
 t9 := Tryz.underlying9
 a9 := Tryz.isAgg9
 z9 := Tryz.sizeOf9
 v9 := Tryz.zeroValue9
 t37 := Tryz.underlying57
 a37 := Tryz.isAgg57
 z37 := Tryz.sizeOf57
 v37 := Tryz.zeroValue57
 t70 := Tryz.underlying56
 a70 := Tryz.isAgg56
 z70 := Tryz.sizeOf56
 v70 := Tryz.zeroValue56
 t72 := Tryz.underlying59
 a72 := Tryz.isAgg59
 z72 := Tryz.sizeOf59
 v72 := Tryz.zeroValue59
 t127 := Tryz.underlying99
 a127 := Tryz.isAgg99
 z127 := Tryz.sizeOf99
 v127 := Tryz.zeroValue99 }
theorem Tryz.Builder_Extra_169 : Builder.Extra Tryz.prog Tryz.lays169_ren := {
 sizeBuilder := by kernel_rfl
 liesBuilder := by kernel_rfl
 t5 := Tryz.underlying5
 a5 := Tryz.isAgg5
 z5 := Tryz.sizeOf5
 v5 := Tryz.zeroValue5
 infoByte := by kernel_rfl
 cellsByte := by kernel_rfl
 sizeByte := by kernel_rfl
 neB5 := by decide }
open Go.RowKit in
theorem Tryz.Builder_String_any (B b : Nat) (l : List UInt8) (w : World) (h : Lib.IsBuilder 59 5 B b (Lib.byteCells l) w) (hBw : B ≤ w.heap.size) :
  Calls Tryz.prog 23 #[.pointer (some ⟨b, 0, none⟩)] w fun e w' => e = .returned (.string ⟨l.toArray⟩) ∧ Below B w w' := Any.Builder_String_any Tryz.lays169 Tryz.Builder_Extra_169 B b l w h hBw
end Go.Proofs

/-
  strings.Builder: copyCheck, WriteByte, WriteString at this dump, over the kit's own predicate (Lib.IsBuilder).
-/
namespace Go.Proofs.YtghlklcolepfmaaGreatDoor
open Go.RowKit

theorem bldSize : (Tryz.prog.info? 59).map (·.size) = some 2 := by kernel_rfl
theorem bldLies : liesAt Tryz.prog Tryz.prog.depth 59 (2 / Tryz.prog.cellsOf 59) 0 59 1 = true := by kernel_rfl

set_option maxHeartbeats 1000000 in
set_option maxRecDepth 100000 in
theorem bld_used (b : Nat) (w : World) (h0 : w.cell? ⟨b, 0, none⟩ = some (.pointer (some ⟨b, 0, none⟩))) :
  Calls Tryz.prog 52 #[.pointer (some ⟨b, 0, none⟩)] w fun e w' => e = .returned (.tuple #[]) ∧ w' = w := by
 obtain ⟨j, hj, _⟩ := Option.map_eq_some_iff.1 bldSize
 go_enter Tryz.func52, Tryz.ntmps52
 go_wp2
 rw [Lib.run_neq_ptr_same w _ Tryz.underlying56 hj]
 go_wp2
 go_end0
 exact ⟨rfl, rfl⟩

set_option maxHeartbeats 1000000 in
set_option maxRecDepth 100000 in
theorem bld_fresh (b : Nat) (w : World) (h0 : w.cell? ⟨b, 0, none⟩ = some (.pointer none)) (hsh : w.shape? b = some (59, 2)) (hfz : w.frozen? ⟨b, 0, none⟩ = false) :
  Calls Tryz.prog 52 #[.pointer (some ⟨b, 0, none⟩)] w fun e w' => e = .returned (.tuple #[]) ∧ w' = w.setCell ⟨b, 0, none⟩ (.pointer (some ⟨b, 0, none⟩)) := by
 obtain ⟨j, hj, hjs⟩ := Option.map_eq_some_iff.1 bldSize
 go_enter Tryz.func52, Tryz.ntmps52
 go_wp2
 rw [Lib.run_to_unsafe w ⟨b, 0, none⟩ Tryz.underlying56 Tryz.underlying127 hj (by rw [hjs]; decide) hsh (Nat.zero_lt_succ 1)]
 simp only [Result.andThen]
 rw [Oper.upon_value]
 go_wp2
 rw [run_callFunc_extern Tryz.func78 (by kernel_rfl) (by kernel_rfl) (by kernel_rfl) (e := Extern.AbiNoEscape.same) (by kernel_rfl)]
 rw [Lib.run_noEscape]
 simp only [Result.andThen]
 rw [Oper.upon_value]
 go_wp2
 rw [Lib.run_from_unsafe w ⟨b, 0, none⟩ Tryz.underlying127 Tryz.underlying56 hj hsh bldLies]
 simp only [Result.andThen]
 rw [Oper.upon_value]
 go_wp2
 go_end0
 exact ⟨rfl, rfl⟩

theorem bld_check (B b : Nat) (bs : List Value) (w : World) (h : Lib.IsBuilder 59 5 B b bs w) :
  Calls Tryz.prog 52 #[.pointer (some ⟨b, 0, none⟩)] w fun e w' => e = .returned (.tuple #[]) ∧ Lib.BuilderAt 59 5 B b (.pointer (some ⟨b, 0, none⟩)) bs w' ∧ Below B w w' := by
 rcases h with h | h
 ·refine (bld_fresh b w h.cell0 h.shape h.frozen0).mono ?_
  rintro e w' ⟨rfl, rfl⟩
  exact ⟨rfl, h.used _, (Below.refl B w).setCell (p := ⟨b, 0, none⟩) h.1 _⟩
 ·refine (bld_used b w h.cell0).mono ?_
  rintro e w' ⟨rfl, rfl⟩
  exact ⟨rfl, h, Below.refl B _⟩

theorem bldByte : (Tryz.prog.info? 5).map (fun i => (i.zero, i.size, i.bytes)) = some (some (.int .u8 0), 1, 1) := by kernel_rfl

set_option maxHeartbeats 1000000 in
set_option maxRecDepth 100000 in
theorem bld_byte (B b : Nat) (bs : List Value) (c : Int) (w : World) (h : Lib.IsBuilder 59 5 B b bs w) (hlen : bs.length + 1 ≤ 140737488355328) (hBw : B ≤ w.heap.size) :
  Calls Tryz.prog 82 #[.pointer (some ⟨b, 0, none⟩), .int .u8 c] w fun e w' => e = .returned .nilIface ∧ Lib.BuilderAt 59 5 B b (.pointer (some ⟨b, 0, none⟩)) (bs ++ [.int .u8 c]) w' ∧ Below B w w' := by
 obtain ⟨i0, hi, hz0, hz1, hz2⟩ := info_parts bldByte
 go_enter Tryz.func82, Tryz.ntmps82
 go_wp2_with (go_at_call 52; refine (bld_check B b bs _ h).mono ?_)
 rintro e w1 ⟨rfl, h1, hb1⟩
 obtain ⟨hB, v, hbk, hown, hne⟩ := h1
 have c0 : w1.cell? ⟨b, 0, none⟩ = some (.pointer (some ⟨b, 0, none⟩)) := by rw [Lib.cell_of_heap hbk]; rfl
 have c1 : w1.cell? ⟨b, 1, none⟩ = some v := by rw [Lib.cell_of_heap hbk]; rfl
 go_wp2_with (at_builtin; refine wpList_append_own _ rfl _ _ 57 rfl B 5 i0 (.int .u8 0) 1 1 Tryz.underlying57 hi hz0 hz1 hz2 rfl (by decide) _ _ _ rfl (hown.alloc _) ⟨w1.heap.size, 0, none⟩ 1 1 [.int .u8 c] rfl rfl ?c1 ?c2 ?c3 ?c4 ?c5 ?_)
 case c1 =>
  intro j u hj
  match j, hj with
  |0, hj => simp at hj; subst hj; simp [Addr.add]
 case c2 => intro u hu; simp at hu; subst hu; rfl
 case c3 => unfold maxLen; omega
 case c4 => omega
 case c5 => have := hb1.size; simp; omega
 intro v' w2 hown' hgrow _
 have hlt : b < w1.heap.size := (Array.getElem?_eq_some_iff.1 hbk).1
 have hb2 : w2.heap[b]? = some (.cells #[.pointer (some ⟨b, 0, none⟩), v] 59 (0, 0)) := by
  rw [hgrow.block b (by simp; omega) (fun e => hne e.symm), Lib.alloc_old w1 _ b hlt]
  exact hbk
 have d0 : w2.cell? ⟨b, 0, none⟩ = some (.pointer (some ⟨b, 0, none⟩)) := by rw [Lib.cell_of_heap hb2]; rfl
 have d1 : w2.cell? ⟨b, 1, none⟩ = some v := by rw [Lib.cell_of_heap hb2]; rfl
 have f1 : w2.frozen? ⟨b, 1, none⟩ = false := Lib.frozen_of_heap hb2 1
 obtain ⟨g, cap, rfl⟩ : ∃ g cap, v' = .slice (some ⟨g, 0, none⟩) (bs.length + 1) cap := by
  rcases hown'.2 with ⟨_, h0⟩ | ⟨g, cap, cur, hv, _⟩
  ·omega
  ·exact ⟨g, cap, hv⟩
 go_wp2
 go_ret
 refine ⟨rfl, ?_, ?_⟩
 ·exact Lib.BuilderAt.put (T := 59) (e := 5) hB hb2 (bs' := bs ++ [.int .u8 c]) (by simpa using hown') (by decide)
 ·exact ((hb1.alloc (by have := hb1.size; omega) _).grown hgrow (by have := hb1.size; simp; omega) (fun k hk => (hown.lt k hk).1)).setCell (p := ⟨b, 1, none⟩) hB _

end Go.Proofs.YtghlklcolepfmaaGreatDoor

/-
  octet.Bits and the reference's: truths of signs.
-/
namespace Go.Proofs.YtghlklcolepfmaaGreatDoor
open Go.RowKit

def goodAt (s : ByteArray) (i : Nat) : Prop := bt s i = 48 ∨ bt s i = 49
instance (s : ByteArray) (i : Nat) : Decidable (goodAt s i) := by unfold goodAt; infer_instance
def bitAt (s : ByteArray) (i : Nat) : Bool := bt s i == 49
def bitsL (s : ByteArray) (k : Nat) : List Bool := (List.range k).map (bitAt s)
def allGood (s : ByteArray) : Prop := ∀ i, i < s.size → goodAt s i
instance (s : ByteArray) : Decidable (allGood s) := by unfold allGood; infer_instance
def bitsR (s : ByteArray) : List Bool := if allGood s then bitsL s s.size else []
def bitsC (s : ByteArray) : Nat := if allGood s then 0 else 2
def bools (l : List Bool) : Array Value := (l.map Value.bool).toArray

theorem bitsL_succ (s : ByteArray) (k : Nat) : bitsL s (k + 1) = bitsL s k ++ [bitAt s k] := by simp [bitsL, List.range_succ]
theorem bitsL_length (s : ByteArray) (k : Nat) : (bitsL s k).length = k := by simp [bitsL]
theorem bools_get (l : List Bool) (i : Nat) : (bools l)[i]? = (l[i]?).map Value.bool := by simp [bools]
theorem bools_set (l : List Bool) (i : Nat) (x : Bool) : (bools l).setIfInBounds i (.bool x) = bools (l.set i x) := by simp [bools, List.map_set]

theorem made_bools (n : Nat) : madeCells #[.bool false] n = bools (List.replicate n false) := by
 apply Array.ext
 ·simp [madeCells, bools]
 ·intro i h1 h2
  simp [madeCells, bools, Nat.mod_one]

theorem own_bools {w : World} {b base : Nat} {l : List Bool} (h : Blk w b (bools l) 4) (hb : base ≤ b) (hl : l.length ≤ maxLen) :
  Own w base 4 (.slice (some ⟨b, 0, none⟩) l.length l.length) (l.map Value.bool) := by
 refine ⟨by simp, .inr ⟨b, l.length, bools l, by simp, hb, h, by simp, hl, by simp [bools], by simp [bools]; exact List.take_of_length_le (by simp)⟩⟩

theorem notGood {s : ByteArray} {i : Nat} (h : i < s.size) (hb : ¬ goodAt s i) : bitsR s = [] ∧ bitsC s = 2 := by
 have : ¬ allGood s := fun hg => hb (hg i h)
 simp [bitsR, bitsC, this]

theorem isGood {s : ByteArray} (h : allGood s) : bitsR s = bitsL s s.size ∧ bitsC s = 0 := by simp [bitsR, bitsC, h]

theorem bits_step {s : ByteArray} {w wr : World} {k : Nat} {l : List Bool} {x : Bool} (hlt : k < s.size) (hl : l.length = s.size) (ht : l.take k = bitsL s k) (hg : ∀ j, j < k → goodAt s j) (hB : Blk wr w.heap.size (bools l) 4) (hK : Kp (fun _ => False) w wr) (hx : bitAt s k = x) (hk : goodAt s k) :
  ∃ (k1 : Nat) (l : List Bool), k1 ≤ s.size ∧ Value.int .i64 ((k : Int) + 1) = .int .i64 k1 ∧ l.length = s.size ∧ l.take k1 = bitsL s k1 ∧ (∀ j, j < k1 → goodAt s j) ∧ Blk (wr.setCell ⟨w.heap.size, k, none⟩ (.bool x)) w.heap.size (bools l) 4 ∧ Kp (fun _ => False) w (wr.setCell ⟨w.heap.size, k, none⟩ (.bool x)) := by
 refine ⟨k + 1, l.set k x, by omega, by simp, by simp [hl], ?_, fun j hj => ?_, ?_, hK.setCell (by simp) _⟩
 ·rw [bitsL_succ, ← ht, hx, List.take_add_one, List.take_set_of_le (Nat.le_refl _), List.getElem?_set_self (by omega)]; rfl
 ·by_cases e : j = k
  ·subst e; exact hk
  ·exact hg j (by omega)
 ·rw [← bools_set]; exact hB.set_same k _

set_option maxHeartbeats 1000000 in
theorem octet_Bits (s : ByteArray) (w : World) (hs : s.size ≤ 100000) :
  Calls Tryz.prog 69 #[.string s] w fun e w' => ∃ v, e = .returned (.tuple #[v, .int .i64 (bitsC s)]) ∧ Own w' w.heap.size 4 v ((bitsR s).map Value.bool) ∧ Kp (fun _ => False) w w' := by
 obtain ⟨i0, hi, hz0, hz1, hz2⟩ := info_parts (show (Tryz.prog.info? 4).map (fun i => (i.zero, i.size, i.bytes)) = some (some (.bool false), 1, 1) by kernel_rfl)
 have hmk : ∀ u : World, (Instr.makeSlice 28 (.int .i64 (s.size : Int)) (.int .i64 (s.size : Int))).run Tryz.prog u =
   .ok (.slice (some ⟨u.heap.size, 0, none⟩) s.size s.size) (u.alloc (.cells (madeCells #[.bool false] s.size) 4)) := fun u => by
  have h := run_make (P := Tryz.prog) u 28 4 i0 (.bool false) Tryz.underlying28 hi hz0 .i64 .i64 (s.size : Int) (s.size : Int) (by omega) (Int.le_refl _) (by rw [hz2]; omega) (by omega)
  simpa [hz1, Value.cells] using h
 clear hi hz0 hz1 hz2 i0
 have hmade := made_bools s.size
 go_enter Tryz.func69, Tryz.ntmps69
 go_wp2_with fail
 go_loopw [11] (fun i wr => ∃ (k : Nat) (l : List Bool), k ≤ s.size ∧ i = .int .i64 k ∧ l.length = s.size ∧ l.take k = bitsL s k ∧ (∀ j, j < k → goodAt s j) ∧ Blk wr w.heap.size (bools l) 4 ∧ Kp (fun _ => False) w wr) (fun i _ => s.size - (intOf i).toNat)
 case atStart => exact ⟨0, List.replicate s.size false, Nat.zero_le _, rfl, by simp, by simp [bitsL], fun j hj => by omega, by rw [← hmade]; exact Blk.new _ _ _, (Kp.refl _ _).alloc _⟩
 case round =>
  obtain ⟨k, l, hk, rfl, hl, htk, hgd, hB, hK⟩ := hrel
  have HL := Lib.hid hl; clear hl
  have HT := Lib.hid htk; clear htk
  have HG := Lib.hid hgd; clear hgd
  clear hmade
  by_cases hlt : k < s.size
  ·have hd : decide ((k : Int) < (s.size : Int)) = true := by simp; omega
   obtain ⟨x0, hx0⟩ : ∃ x0, l[k]? = some x0 := ⟨_, List.getElem?_eq_getElem (by rw [HL.out]; exact hlt)⟩
   have hc := hB.cell (i := k) (v := .bool x0) (by rw [bools_get, hx0]; rfl)
   have HX := Lib.hid hx0; clear hx0
   have hf := hB.free k
   have hb2 := bt_lt s k
   obtain ⟨b, hb0⟩ : ∃ b, b = bt s k := ⟨_, rfl⟩
   have hb := bt_eq hlt
   rw [← hb0] at hb2 hb
   have HB := Lib.hid hb0; clear hb0
   by_cases h1 : b = 49
   ·subst h1
    go_wp2_with fail
    refine ⟨bits_step hlt HL.out HT.out HG.out hB hK (by simp [bitAt, ← HB.out]) (by unfold goodAt; exact .inr HB.out.symm), ?_⟩
    simp [intOf]; omega
   ·by_cases h0 : b = 48
    ·subst h0
     go_wp2_with fail
     refine ⟨bits_step hlt HL.out HT.out HG.out hB hK (by simp [bitAt, ← HB.out]) (by unfold goodAt; exact .inl HB.out.symm), ?_⟩
     simp [intOf]; omega
    ·have h1i : ¬ (b : Int) = 49 := by omega
     have h0i : ¬ (b : Int) = 48 := by omega
     have HN := Lib.hid (notGood hlt (by unfold goodAt; rw [← HB.out]; omega))
     go_wp2_with fail
     case roundEnd => rename_i hx; exfalso; simp at hx; omega
     go_ret2
     rw [HN.out.1, HN.out.2]
     exact ⟨_, rfl, Own.nil _ _ _, hK.setCell (by simp) _⟩
  ·have hd : decide ((k : Int) < (s.size : Int)) = false := by simp; omega
   have ek : k = s.size := by omega
   have HI := Lib.hid (isGood (s := s) (fun i hi => HG.out i (by omega)))
   go_wp2_with fail
   go_ret2
   have e : l = bitsL s s.size := by rw [← ek, ← HT.out, List.take_of_length_le (by rw [HL.out]; omega)]
   rw [HI.out.1, HI.out.2, ← e]
   refine ⟨_, rfl, ?_, hK⟩
   have := own_bools hB (Nat.le_refl _) (by rw [HL.out]; unfold maxLen; omega)
   rw [HL.out] at this
   exact this

end Go.Proofs.YtghlklcolepfmaaGreatDoor

/-
  The reference's Bits.
-/
namespace Go.Proofs.YtghlklcolepfmaaGreatDoor
open Go.RowKit

end Go.Proofs.YtghlklcolepfmaaGreatDoor

/-
  octet.Text, the reference's Text and Same: signs of truths.
-/
namespace Go.Proofs.YtghlklcolepfmaaGreatDoor
open Go.RowKit

def sign (b : Bool) : UInt8 := if b then 49 else 48
def signs (l : List Bool) : List UInt8 := l.map sign

def tb (l : List Bool) (k : Nat) : Bool := l[k]?.getD false
theorem tb_at {l : List Bool} {k : Nat} (h : k < l.length) : (l.map Value.bool)[k]? = some (.bool (tb l k)) := by
 simp [tb, List.getElem?_eq_getElem h]
theorem take_tb {l : List Bool} {k : Nat} (h : k < l.length) : l.take (k + 1) = l.take k ++ [tb l k] := by
 rw [List.take_add_one]; simp [tb, List.getElem?_eq_getElem h]

theorem signs_append (a b : List Bool) : signs (a ++ b) = signs a ++ signs b := by simp [signs]
theorem signs_succ {l : List Bool} {k : Nat} (h : k < l.length) : signs (l.take (k + 1)) = signs (l.take k) ++ [sign (tb l k)] := by
 rw [take_tb h, signs_append]; rfl
theorem signs_length (l : List Bool) : (signs l).length = l.length := by simp [signs]
theorem cells_one {l : List UInt8} {c : UInt8} {n : Int} (h : (c.toNat : Int) = n) : Lib.byteCells (l ++ [c]) = Lib.byteCells l ++ [.int .u8 n] := by
 rw [Lib.byteCells_append]; simp [Lib.byteCells, h]

set_option maxRecDepth 100000 in
set_option maxHeartbeats 1000000 in
theorem octet_Text (a : Option Addr) (l : List Bool) (cap : Nat) (w : World) (hr : RowAt w a (l.map Value.bool)) (hl : l.length ≤ 100000) :
  Calls Tryz.prog 57 #[.slice a l.length cap] w fun e w' => e = .returned (.string ⟨(signs l).toArray⟩) ∧ Kp (fun _ => False) w w' := by
 go_enter Tryz.func57, Tryz.ntmps57
 go_wp2_with fail
 go_loopw [8] (fun i wr => ∃ k : Nat, k ≤ l.length ∧ i = .int .i64 k ∧ Lib.IsBuilder 59 5 w.heap.size w.heap.size (Lib.byteCells (signs (l.take k))) wr ∧ Kp (fun _ => False) w wr) (fun i _ => l.length - (intOf i).toNat)
 case atStart => exact ⟨0, Nat.zero_le _, rfl, Lib.fresh_isBuilder _ _ _, (Kp.refl _ _).alloc _⟩
 case round =>
  obtain ⟨k, hk, rfl, hB, hK⟩ := hrel
  have hsz := hK.size
  have HLN := Lib.hid (show (Lib.byteCells (signs (l.take k))).length ≤ 100000 by rw [Lib.byteCells_length, signs_length, List.length_take]; omega)
  by_cases hlt : k < l.length
  ·have hd : decide ((k : Int) < (l.length : Int)) = true := by simp; omega
   have HS := Lib.hid (signs_succ hlt)
   obtain ⟨b, off, rfl, hc⟩ := (hr.kp hK (fun _ _ h => h)) k _ (tb_at hlt)
   obtain ⟨x, hx⟩ : ∃ x, tb l k = x := ⟨_, rfl⟩
   rw [hx] at hc HS
   cases x
   ·go_wp2_with fail
    refine (bld_byte _ _ _ 48 _ hB (by have := HLN.out; omega) hsz).mono ?_
    rintro e w1 ⟨rfl, hB1, hb1⟩
    have hB2 : Lib.IsBuilder 59 5 w.heap.size w.heap.size (Lib.byteCells (signs (l.take (k + 1)))) w1 := by rw [HS.out, cells_one (n := 48) rfl]; exact .inr hB1
    have hK1 : Kp (fun _ => False) w w1 := (Kp.below hK (Nat.le_refl _) (fun _ _ h => h)).trans hb1 |> fun h => Kp.of_below h _
    clear hB1 hb1 hB hK hc
    go_wp2_with fail
    refine ⟨⟨k + 1, by omega, by simp, hB2, hK1⟩, ?_⟩
    simp [intOf]; omega
   ·go_wp2_with fail
    refine (bld_byte _ _ _ 49 _ hB (by have := HLN.out; omega) hsz).mono ?_
    rintro e w1 ⟨rfl, hB1, hb1⟩
    have hB2 : Lib.IsBuilder 59 5 w.heap.size w.heap.size (Lib.byteCells (signs (l.take (k + 1)))) w1 := by rw [HS.out, cells_one (n := 49) rfl]; exact .inr hB1
    have hK1 : Kp (fun _ => False) w w1 := (Kp.below hK (Nat.le_refl _) (fun _ _ h => h)).trans hb1 |> fun h => Kp.of_below h _
    clear hB1 hb1 hB hK hc
    go_wp2_with fail
    refine ⟨⟨k + 1, by omega, by simp, hB2, hK1⟩, ?_⟩
    simp [intOf]; omega
  ·have hd : decide ((k : Int) < (l.length : Int)) = false := by simp; omega
   have HE := Lib.hid (show l.take k = l from List.take_of_length_le (by omega))
   go_wp2_with fail
   refine (Tryz.Builder_String_any _ _ _ _ hB hsz).mono ?_
   rintro e w1 ⟨rfl, hb1⟩
   rw [HE.out]
   go_wp2_with fail
   go_ret
   exact ⟨rfl, (Kp.below hK (Nat.le_refl _) (fun _ _ h => h)).trans hb1 |> fun h => Kp.of_below h _⟩

end Go.Proofs.YtghlklcolepfmaaGreatDoor

/-
  The reference's Text and Same.
-/
namespace Go.Proofs.YtghlklcolepfmaaGreatDoor
open Go.RowKit

theorem bools_ext {l l' : List Bool} (hl : l.length = l'.length) (h : ∀ j, j < l.length → tb l j = tb l' j) : l = l' := by
 apply List.ext_getElem?
 intro j
 by_cases hj : j < l.length
 ·have := h j hj
  unfold tb at this
  rw [List.getElem?_eq_getElem hj, List.getElem?_eq_getElem (by omega)] at this ⊢
  simpa using this
 ·rw [List.getElem?_eq_none (by omega), List.getElem?_eq_none (by omega)]

theorem push_byte (l : List UInt8) (c : UInt8) : (⟨l.toArray⟩ : ByteArray) ++ ⟨#[c]⟩ = ⟨(l ++ [c]).toArray⟩ := by
 apply ByteArray.ext; simp

set_option maxRecDepth 100000 in
set_option maxHeartbeats 1000000 in
theorem ref_Text (a : Option Addr) (l : List Bool) (cap : Nat) (w : World) (hr : RowAt w a (l.map Value.bool)) (hl : l.length ≤ 100000) :
  Calls Tryz.prog 61 #[.slice a l.length cap] w fun e w' => e = .returned (.string ⟨(signs l).toArray⟩) ∧ w = w' := by
 go_enter Tryz.func61, Tryz.ntmps61
 go_wp2_with fail
 go_loop [3, 4] (fun s i => ∃ (k : Nat) (S : ByteArray), k ≤ l.length ∧ i = .int .i64 k ∧ s = .string S ∧ S = ⟨(signs (l.take k)).toArray⟩) (fun _ i => l.length - (intOf i).toNat)
 case atStart => exact ⟨0, _, Nat.zero_le _, rfl, rfl, rfl⟩
 case round =>
  obtain ⟨k, S, hk, rfl, rfl, hS⟩ := hrel
  have hSz : S.size ≤ 100000 := by rw [hS]; show (signs (l.take k)).toArray.size ≤ _; simp [signs_length]; omega
  have HS := Lib.hid hS; clear hS
  by_cases hlt : k < l.length
  ·have hd : decide ((k : Int) < (l.length : Int)) = true := by simp; omega
   have HN := Lib.hid (signs_succ hlt)
   obtain ⟨b, off, rfl, hc⟩ := hr k _ (tb_at hlt)
   have hcat : ¬ 9223372036854775807 < S.size + 1 := by omega
   obtain ⟨x, hx⟩ : ∃ x, tb l k = x := ⟨_, rfl⟩
   rw [hx] at hc HN
   cases x
   ·go_wp2_with fail
    refine ⟨⟨k + 1, _, by omega, by simp, rfl, ?_⟩, ?_⟩
    ·rw [HN.out, HS.out]; exact push_byte _ _
    ·simp [intOf]; omega
   ·go_wp2_with fail
    refine ⟨⟨k + 1, _, by omega, by simp, rfl, ?_⟩, ?_⟩
    ·rw [HN.out, HS.out]; exact push_byte _ _
    ·simp [intOf]; omega
  ·have hd : decide ((k : Int) < (l.length : Int)) = false := by simp; omega
   have HE := Lib.hid (show l.take k = l from List.take_of_length_le (by omega))
   go_wp2_with fail
   go_ret
   rw [HS.out, HE.out]
   exact ⟨rfl, rfl⟩

set_option maxHeartbeats 400000 in
theorem ref_Same (a a' : Option Addr) (n n' cap cap' : Nat) (l l' : List Bool) (w : World) (ha : RowAt w a (l.map Value.bool)) (ha' : RowAt w a' (l'.map Value.bool)) (hl : l.length = n) (hl' : l'.length = n') (hn : n ≤ 9223372036854775807) :
  Calls Tryz.prog 44 #[.slice a n cap, .slice a' n' cap'] w fun e w' => e = .returned (.bool (l == l')) ∧ ∃ n, w' = w.drewN n := by
 have HL := Lib.hid hl; clear hl
 have HL' := Lib.hid hl'; clear hl'
 by_cases hne : n = n'
 ·subst hne
  have b1 : ((n : Int) != (n : Int)) = false := by simp
  go_enter Tryz.func44, Tryz.ntmps44
  go_wp2
  go_loopw [5] (fun i wr => ∃ k m : Nat, k ≤ n ∧ i = .int .i64 k ∧ (∀ j, j < k → tb l j = tb l' j) ∧ wr = w.drewN m) (fun i _ => n - (intOf i).toNat)
  case atStart => exact ⟨0, 0, Nat.zero_le _, rfl, fun j hj => by omega, rfl⟩
  case round =>
   obtain ⟨k, m, hk, rfl, he, rfl⟩ := hrel
   have HE := Lib.hid he
   clear he
   by_cases hlt : k < n
   ·obtain ⟨b, off, rfl, hc⟩ := ha k _ (tb_at (by rw [HL.out]; exact hlt))
    obtain ⟨b', off', rfl, hc'⟩ := ha' k _ (tb_at (by rw [HL'.out]; exact hlt))
    have i1 : (0 : Int) ≤ (k : Int) := by omega
    have i2 : (k : Int) < (n : Int) := by omega
    by_cases hq : tb l k = tb l' k
    ·have q1 : (!(tb l k == tb l' k)) = false := by simp [hq]
     have HQ := Lib.hid hq
     clear hq
     go_wp2
     go_quiet (fail)
     go_wp2
     go_roundw
     case rel =>
      refine ⟨k + 1, _, by omega, by go_num, fun j hj => ?_, rfl⟩
      by_cases e : j = k
      ·subst e; exact HQ.out
      ·exact HE.out j (by omega)
     case measure => simp [intOf]; omega
    ·have q1 : (!(tb l k == tb l' k)) = true := by simp [hq]
     have HQ := Lib.hid hq
     clear hq
     go_wp2
     go_quiet (fail)
     go_wp2
     go_ret
     have e : (l == l') = false := by
      rw [beq_eq_false_iff_ne]
      intro e
      exact HQ.out (by rw [e])
     rw [e]
     exact ⟨rfl, _, World.drewN_drewN ..⟩
   ·go_wp2
    go_ret
    have e : (l == l') = true := by
     rw [beq_iff_eq]
     exact bools_ext (by rw [HL.out, HL'.out]) (fun j hj => HE.out j (by rw [HL.out] at hj; omega))
    rw [e]
    exact ⟨rfl, _, rfl⟩
 ·have b1 : ((n : Int) != (n' : Int)) = true := by simp; omega
  have e : Hid ((l == l') = false) := by
   show _ = _
   rw [beq_eq_false_iff_ne]
   intro e
   exact hne (by rw [← HL.out, ← HL'.out, e])
  clear hne
  go_enter Tryz.func44, Tryz.ntmps44
  go_wp2
  go_ret
  rw [e.out]
  exact ⟨rfl, 0, rfl⟩

end Go.Proofs.YtghlklcolepfmaaGreatDoor

/-
  latchetref47.signs.
-/
namespace Go.Proofs.YtghlklcolepfmaaGreatDoor
open Go.RowKit

def litK (C : Circ) (st ip : List Bool) (L : List Int) (k : Nat) : List Bool := (L.take k).map (litM C st ip)
theorem litK_succ {C : Circ} {st ip : List Bool} {L : List Int} {k : Nat} (h : k < L.length) : litK C st ip L (k + 1) = litK C st ip L k ++ [litM C st ip (gi L k)] := by
 unfold litK
 rw [List.take_succ_eq_append_getElem h, List.map_append]
 unfold gi
 rw [List.getElem?_eq_getElem h]; rfl
theorem litK_len {C : Circ} {st ip : List Bool} {L : List Int} {k : Nat} (h : k ≤ L.length) : (litK C st ip L k).length = k := by unfold litK; simp; omega
theorem litK_full (C : Circ) (st ip : List Bool) (L : List Int) : litK C st ip L L.length = L.map (litM C st ip) := by unfold litK; rw [List.take_length]

set_option maxRecDepth 100000 in
set_option maxHeartbeats 2000000 in
theorem ref47_signs (V : CV) (C : Circ) (p : Nat) (a4 a5 : Option Addr) (c4 c5 : Nat) (sa : Option Addr) (sn sc : Nat) (ia : Option Addr) (in_ ic : Nat) (la : Option Addr) (ln lc : Nat) (L : List Int) (st ip : List Bool) (w : World) (hM : MAt w 101 V C p a4 c4 a5 c5) (hf : CFew C 1000000) (hg : GoodC C) (hs : BS w sa sn st) (hi : BS w ia in_ ip) (hl : IntsAt w la L) (hln : L.length = ln) (hl1 : ln ≤ 100000) (hu : ∀ l ∈ L, l ∈ C.used) :
  Calls Tryz.prog 62 #[.pointer (some ⟨p, 0, none⟩), .slice sa sn sc, .slice ia in_ ic, .slice la ln lc] w fun e w' => e = .returned (.string ⟨(signs (L.map (litM C st ip))).toArray⟩) ∧ Kp (fun _ => False) w w' := by
 have HIb := Lib.hid (show (Tryz.prog.info? 4).map (fun i => (i.zero, i.size, i.bytes)) = some (some (.bool false), 1, 1) by kernel_rfl)
 have HL := Lib.hid (ref17_lit V C p a4 a5 c4 c5 sa sn sc ia in_ ic st ip w hM hf hg hs hi)
 have HLs := Lib.hid hl
 have HLn := Lib.hid hln
 have HU := Lib.hid hu
 obtain ⟨D, hD⟩ : ∃ D, L.map (litM C st ip) = D := ⟨_, rfl⟩
 have HD := Lib.hid hD
 rw [hD]
 obtain ⟨wz, hwz⟩ : ∃ wz : World, wz = w.alloc (.cells #[] 4) := ⟨_, rfl⟩
 have HK0 := Lib.hid (show Kp (fun _ => False) w wz by rw [hwz]; exact (Kp.refl _ w).alloc _)
 have HO0 : Hid (Own wz w.heap.size 4 (.slice (some ⟨w.heap.size, 0, none⟩) 0 0) (bv (litK C st ip L 0))) := Lib.hid (by rw [hwz]; exact Own.lit (cs := []) (Blk.new w _ _) (Nat.le_refl _) (by decide))
 have HZ := Lib.hid hwz
 clear hM hf hg hs hi hwz hl hln hu hD
 go_enter Tryz.func62, Tryz.ntmps62
 go_upto_region 2 with fail
 rw [← HZ.out]
 clear HZ
 go_wp2_with fail
 go_loopw [9, 10] (fun v7 v8 wr => ∃ k : Nat, v8 = .int .i64 k ∧ k ≤ ln ∧ Own wr w.heap.size 4 v7 (bv (litK C st ip L k)) ∧ Kp (fun _ => False) w wr) (fun _ v8 _ => ln - (intOf v8).toNat)
 case atStart => exact ⟨0, rfl, by omega, HO0.out, HK0.out⟩
 case round =>
  obtain ⟨k, rfl, hk, hO, hK⟩ := hrel
  clear HO0 HK0
  obtain ⟨wp, rfl⟩ : ∃ wp : World, wp = wr := ⟨_, rfl⟩
  have HO := Lib.hid hO
  have HK := Lib.hid hK
  clear hO hK
  by_cases hlt : k < ln
  ·have hkl : k < L.length := by rw [HLn.out]; exact hlt
   obtain ⟨b, off, ea, e1⟩ := IntsAt.get (RowAt.kp HLs.out HK.out (fun _ _ h => h)) hkl
   have hc := HL.out _ HK.out _ (HU.out _ (gi_mem hkl))
   have hS := litK_succ (C := C) (st := st) (ip := ip) hkl
   have hln := litK_len (C := C) (st := st) (ip := ip) (L := L) (k := k) (by omega)
   obtain ⟨x, hx⟩ : ∃ x, gi L k = x := ⟨_, rfl⟩
   rw [hx] at e1 hc hS
   obtain ⟨y, hy⟩ : ∃ y, litM C st ip x = y := ⟨_, rfl⟩
   rw [hy] at hc hS
   subst ea
   have HC := Lib.hid hc
   have HS := Lib.hid hS
   have HLn2 := Lib.hid hln
   clear hx hy hc hS hln hkl
   go_wp2_with (first
    |(go_at_call 84; with_reducible refine Calls.mono HC.out ?_; rintro e w1 ⟨rfl, hK1⟩; have HK1 := Lib.hid (HK.out.trans hK1 (fun _ _ h => h)); have HOw := Lib.hid ((HO.out.kp hK1 (fun _ _ h => h)).alloc (.cells #[.bool y] 4)); have HNew := Lib.hid (Blk.new w1 #[.bool y] 4); clear hK1)
    |(at_builtin; refine wpList_append1_at rfl _ _ 28 4 rfl Tryz.underlying28 HIb.out rfl HOw.out rfl ⟨w1.heap.size, 0, none⟩ (.bool y) rfl (HNew.out.cell rfl) rfl ?d1 ?d2 ?d3 ?_))
   case d1 => rw [bv_length, HLn2.out]; omega
   case d2 => rw [bv_length, HLn2.out]; unfold maxLen; omega
   case d3 => have := HK1.out.size; simp; omega
   intro v' w2 hO3 hg2 hat2
   have HR2 := Lib.hid (show Own w2 w.heap.size 4 v' (bv (litK C st ip L (k + 1))) ∧ Kp (fun _ => False) w w2 from ⟨by rw [HS.out, bv_append]; exact hO3, (HK1.out.alloc _).grown hg2 (fun j hj hl => by have := (HO.out.lt j hj).1; omega)⟩)
   clear hO3 hg2 hat2 HNew HOw
   go_wp2_with fail
   go_roundw
   case rel => exact ⟨k + 1, by go_num, by omega, HR2.out⟩
   case measure => simp [intOf]; omega
  ·obtain rfl : k = ln := by omega
   have hO := HO.out
   rw [← HLn.out, litK_full, HD.out] at hO
   have hDl : D.length = k := by rw [← HD.out, List.length_map]; exact HLn.out
   obtain ⟨oa, oc, ev, -, -, -, hr⟩ := hO.form
   rw [bv_length, hDl] at ev
   have HT := Lib.hid (fun u (hu : Kp (fun _ => False) wp u) => ref_Text oa D oc u (hr.kp hu (fun _ _ h => h)) (by omega))
   rw [hDl] at HT
   subst ev
   clear hO hr hDl
   go_wp2_with (go_at_call 61; with_reducible refine Calls.mono (HT.out _ (Kp.refl _ _)) ?_; rintro e w1 ⟨rfl, rfl⟩)
   go_ret
   exact ⟨rfl, HK.out⟩

end Go.Proofs.YtghlklcolepfmaaGreatDoor

/-
  slices.Clone of bools; the closure of trace's line. (Printed by mktrall.py.)
-/
namespace Go.Proofs.YtghlklcolepfmaaGreatDoor
open Go.RowKit

set_option maxHeartbeats 2000000 in
theorem clone_bools (a : Option Addr) (n c : Nat) (L : List Bool) (w : World) (hr : RowAt w a (bv L)) (hn : L.length = n) (ho : SlOK a n c) (hm : n ≤ 1000000) :
  Calls Tryz.prog 54 #[.slice a n c] w fun e w' => ∃ v', e = .returned v' ∧ Own w' w.heap.size 4 v' (bv L) ∧ Kp (fun _ => False) w w' := by
 cases a with
 |none =>
  have hL : L = [] := by
   have h1 := ho.le
   have h2 := ho.nil rfl
   exact List.eq_nil_of_length_eq_zero (by omega)
  subst hL
  have q22 := fun (w : World) (a : Option Addr) (n c n' c' : Nat) => Lib.run_eql_slice_nil (P := Tryz.prog) w 28 4 a n c n' c' Tryz.underlying28
  clear hr ho hn hm
  go_enter Tryz.func54, Tryz.ntmps54
  go_wp2
  go_ret
  exact ⟨_, rfl, Own.nil _ _ _, Kp.refl _ _⟩
 |some ad =>
  have HR := Lib.hid hr
  have HN := Lib.hid hn
  have hI : (Tryz.prog.info? 4).map (fun i => (i.zero, i.size, i.bytes)) = some (some (.bool false), 1, 1) := by kernel_rfl
  have HI := Lib.hid hI
  have q22 := fun (w : World) (a : Option Addr) (n c n' c' : Nat) => Lib.run_eql_slice_nil (P := Tryz.prog) w 28 4 a n c n' c' Tryz.underlying28
  have HO := Lib.hid (show Own (w.alloc (.cells #[] 4)) w.heap.size 4 (.slice (some ⟨w.heap.size, 0, none⟩) 0 0) [] from Own.lit (cs := []) (Blk.new w #[] 4) (Nat.le_refl _) (Nat.zero_le _))
  have HM := Lib.hid hm
  clear hr hn ho hI hm
  go_enter Tryz.func54, Tryz.ntmps54
  go_wp2_with (at_builtin; refine wpList_appendAll rfl _ _ 28 4 rfl Tryz.underlying28 HI.out rfl HO.out rfl (some ad) n c (bv L) rfl (by rw [bv_length]; exact HN.out) (HR.out.kp ((Kp.refl (fun _ => False) w).alloc _) (fun _ _ h => h)) (fun h => by cases h) (fun u hu => by obtain ⟨x, _, rfl⟩ := List.mem_map.1 hu; rfl) (by have := HM.out; simp; omega) (by have := HM.out; unfold maxLen; simp; omega) (by simp) ?_)
  intro v' w1 hown hgrow
  go_wp2
  go_ret
  exact ⟨v', rfl, by simpa using hown, ((Kp.refl (fun _ => False) w).alloc _).grown hgrow (fun j hj hlt => by simp [Value.ownBlock] at hj; omega)⟩


set_option maxRecDepth 100000 in
set_option maxHeartbeats 8000000 in
theorem trace_all (bv0 bt : Nat) (V : CV) (C : Circ) (p : Nat) (b4 : Option Addr) (d4 : Nat) (b5 : Option Addr) (d5 : Nat) (va : Option Addr) (vc : Nat) (st ip : List Bool) (la : Option Addr) (ln lc : Nat) (L : List Int) (w : World)
  (hf : CFew C 1000000) (hg : GoodC C) (hb : w.cell? ⟨bv0, 0, none⟩ = some (.slice va ((netOf C).1.length + 1) vc)) (ht : w.cell? ⟨bt, 11, none⟩ = some (.slice b5 (netOf C).2.length d5)) (hv : RowAt w va (bv (valsM C st ip))) (ha : RowAt w b5 (iv (netOf C).2)) (hl : IntsAt w la L) (hln : L.length = ln) (hl1 : ln ≤ 100000) (hu : ∀ l ∈ L, l ∈ C.used) :
  Calls Tryz.prog 55 #[.slice la ln lc, .pointer (some ⟨bv0, 0, none⟩), .pointer (some ⟨bt, 0, none⟩)] w fun e w' => e = .returned (.string ⟨(signs (L.map (litM C st ip))).toArray⟩) ∧ Kp (fun _ => False) w w' := by
 obtain ⟨i0, hi0, hz0, hz1, hz2⟩ := info_parts (show (Tryz.prog.info? 4).map (fun i => (i.zero, i.size, i.bytes)) = some (some (.bool false), 1, 1) by kernel_rfl)
 have hmk : ∀ u : World, (Instr.makeSlice 28 (.int .i64 (ln : Int)) (.int .i64 (ln : Int))).run Tryz.prog u =
   .ok (.slice (some ⟨u.heap.size, 0, none⟩) ln ln) (u.alloc (.cells (madeCells #[.bool false] ln) 4)) := fun u => by
  have h := run_make (P := Tryz.prog) u 28 4 i0 (.bool false) Tryz.underlying28 hi0 hz0 .i64 .i64 (ln : Int) (ln : Int) (by omega) (Int.le_refl _) (by rw [hz2]; omega) (by omega)
  simpa [hz1, Value.cells] using h
 clear hi0 hz0 hz1 hz2 i0
 obtain ⟨D, hD⟩ : ∃ D, L.map (litM C st ip) = D := ⟨_, rfl⟩
 rw [hD]
 have HD := Lib.hid hD
 have HDn := Lib.hid (show D.length = ln by rw [← hD, List.length_map]; exact hln)
 have HDx := Lib.hid (fun k (hk : k < L.length) => show vb D k = litM C st ip (gi L k) by
  rw [← hD]
  unfold vb gi
  rw [List.getElem?_map, List.getElem?_eq_getElem hk]; rfl)
 have HVb0 := Lib.hid hb
 have HTb0 := Lib.hid ht
 have HV := Lib.hid hv
 have HA := Lib.hid ha
 have HLs := Lib.hid hl
 have HLn := Lib.hid hln
 have HU := Lib.hid hu
 have HF := Lib.hid hf
 have HG := Lib.hid hg
 have hnf := net_few hf hg
 have HNf := Lib.hid hnf
 obtain ⟨wz, hwz⟩ : ∃ wz : World, wz = w.alloc (.cells (madeCells #[.bool false] ln) 4) := ⟨_, rfl⟩
 have HK0 := Lib.hid (show Kp (fun _ => False) w wz by rw [hwz]; exact (Kp.refl _ w).alloc _)
 have HO0 : Hid (Own wz w.heap.size 4 (.slice (some ⟨w.heap.size, 0, none⟩) ln ln) (bv (laid D ln 0))) := Lib.hid (by rw [hwz, laid_zero]; exact made_bools0 (by unfold maxLen; omega) (Nat.le_refl _))
 have HZ := Lib.hid hwz
 clear hf hg hb ht hv ha hl hln hu hwz hD hnf
 go_enter Tryz.func55, Tryz.ntmps55
 go_upto_region 2 with fail
 rw [← HZ.out]
 clear HZ hmk
 go_wp2_with fail
 go_loopw [13] (fun v13 wr => ∃ k : Nat, v13 = .int .i64 k ∧ k ≤ ln ∧ Own wr w.heap.size 4 (.slice (some ⟨w.heap.size, 0, none⟩) ln ln) (bv (laid D ln k)) ∧ Kp (fun _ => False) w wr) (fun v13 _ => ln - (intOf v13).toNat)
 case atStart => exact ⟨0, rfl, by omega, HO0.out, HK0.out⟩
 case round =>
  obtain ⟨k, rfl, hk, hO, hK⟩ := hrel
  clear HO0 HK0
  obtain ⟨wp, rfl⟩ : ∃ wp : World, wp = wr := ⟨_, rfl⟩
  have HO := Lib.hid hO
  have HK := Lib.hid hK
  clear hO hK
  by_cases hlt : k < ln
  ·have hkl : k < L.length := by rw [HLn.out]; exact hlt
   have hus := HU.out _ (gi_mem hkl)
   obtain ⟨l0, lq, ly0, ly1, ly2, lo0, lo1⟩ := lit_place HG.out hus
   have hx := HDx.out k hkl
   obtain ⟨lb, lo, ela, hlc⟩ := IntsAt.get HLs.out hkl
   obtain ⟨l, hll⟩ : ∃ l, gi L k = l := ⟨_, rfl⟩
   rw [hll] at hx l0 lq ly0 ly1 ly2 lo0 lo1 hlc
   obtain ⟨q, hqq⟩ : ∃ q : Nat, (l / 2).toNat = q := ⟨_, rfl⟩
   have hd : l / 2 = (q : Int) := by omega
   have hz : ofN (netOf C).2 l = gi (netOf C).2 q + l % 2 := by unfold ofN; rw [hqq]; rw [hqq] at ly0 ly1; split <;> omega
   rw [hqq] at lq ly0 ly1 ly2
   obtain ⟨b, off, rfl, hyc⟩ := HA.out q _ (iv_at (by omega))
   obtain ⟨y, hy⟩ : ∃ y, gi (netOf C).2 q = y := ⟨_, rfl⟩
   rw [hy] at hyc hz ly0 ly1 ly2
   have hn1 := HNf.out.1
   have hn2 := HNf.out.2
   have HXor : Hid (bits .xor .i64 y (l % 2) = ofN (netOf C).2 l) := Lib.hid (by rw [i64_xor1 y l ly0 ly1 (by omega), hz])
   have HAnd := Lib.hid (show bits .and .i64 l 1 = l % 2 from i64_and1 l l0 (by omega))
   have HLd := Lib.hid (show l.tdiv 2 = (q : Int) by rw [Int.tdiv_eq_ediv_of_nonneg l0]; exact hd)
   obtain ⟨x, hxx⟩ : ∃ x, vb D k = x := ⟨_, rfl⟩
   have hLi := fun u (hu : Kp (fun _ => False) wp u) => sim_Lit va ((netOf C).1.length + 1) vc (valsM C st ip) (ofN (netOf C).2 l) u (HV.out.kp (HK.out.trans hu (fun _ _ h => h)) (fun _ _ h => h)) (valsOf_len _ _) (by omega) (valsK_head _ (Nat.le_refl _)) lo0 (by omega)
   rw [show litN (valsM C st ip) (ofN (netOf C).2 l) = x from by rw [← hxx, hx]; rfl] at hLi
   obtain ⟨z, hzz⟩ : ∃ z, ofN (netOf C).2 l = z := ⟨_, rfl⟩
   rw [hzz] at HXor hLi
   have HLi := Lib.hid hLi
   have HVb := Lib.hid (HK.out.cellK HVb0.out)
   have HTb := Lib.hid (HK.out.cellK HTb0.out)
   have HYc := Lib.hid (HK.out.cellK hyc)
   have hlc2 := HK.out.cellK hlc
   subst ela
   have q0 : (0 : Int) ≤ (q : Int) := by omega
   have q1 : (q : Int) < ((netOf C).2.length : Int) := by omega
   have k0 : (0 : Int) ≤ (k : Int) := by omega
   have k1 : (k : Int) < (ln : Int) := by omega
   have HN := Lib.hid (fun u (hu : Kp (fun _ => False) wp u) => show Own (u.setCell ⟨w.heap.size, k, none⟩ (.bool x)) w.heap.size 4 (.slice (some ⟨w.heap.size, 0, none⟩) ln ln) (bv (laid D ln (k + 1))) ∧ Kp (fun _ => False) w (u.setCell ⟨w.heap.size, k, none⟩ (.bool x)) from by
    have h1 := (HO.out.kp hu (fun _ _ h => h)).set k (.bool x)
    rw [bv_set, ← hxx, laid_step HDn.out hlt, hxx] at h1
    exact ⟨h1, (HK.out.trans hu (fun _ _ h => h)).setCell (p := ⟨w.heap.size, k, none⟩) (fun hl => by have h3 : w.heap.size < w.heap.size := hl; omega) _⟩)
   have HCk := Lib.hid (fun u (hu : Kp (fun _ => False) wp u) => show u.cell? ⟨w.heap.size, k, none⟩ = some (.bool (vb (laid D ln k) k)) ∧ u.frozen? ⟨w.heap.size, k, none⟩ = false from
    ⟨(HO.out.kp hu (fun _ _ h => h)).cell (j := k) (bv_at (by rw [laid_len HDn.out hk]; exact hlt)), (HO.out.kp hu (fun _ _ h => h)).free k⟩)
   clear hkl hus l0 ly0 ly1 ly2 lo0 lo1 hx hlc hll hqq hd hz hyc hy hxx hLi hzz hn1
   go_upto_region 5 with fail
   clear hlc2
   refine wp_region_loose (p := upTo 14) (V := atV [EqV ((.slice (some ⟨w.heap.size, 0, none⟩) ln ln)), EqV ((.int .i64 (k : Int))), EqV (.slice va ((netOf C).1.length + 1) vc), EqV (.pointer (some ⟨bt, 11, none⟩)), EqV (.slice (some ⟨b, off, none⟩) (netOf C).2.length d5), EqV ((.int .i64 l)), EqV (.int .i64 (q : Int)), EqV (.pointer (some ⟨b, off + q, none⟩)), EqV (.int .i64 y), EqV ((.int .i64 l)), EqV (.int .i64 (l % 2)), EqV (.int .i64 z), EqV (.bool x), EqV (.pointer (some ⟨w.heap.size, k, none⟩))]) (LP := #[true, true, true, true, true, true, true, true, true, true, true, true, true, true, false]) (K := 1) (by kernel_rfl) (by kernel_rfl) (atV_st ?hstLL) ?hstepLL (by kernel_rfl) ?hLPLL (by kernel_rfl) ?hendLL
   case hstLL =>
    intro W h
    simp only [List.mem_cons, List.not_mem_nil, or_false] at h
    rcases h with rfl | rfl | rfl | rfl | rfl | rfl | rfl | rfl | rfl | rfl | rfl | rfl | rfl | rfl <;> first | exact EqV.st _ | exact EqV.st _
   case hLPLL => exact upTo_spec (by kernel_rfl)
   case hstepLL =>
    intro i o ho hp a u hk hoff hdep
    have e1 : a.tmps[1]?.getD undef = (.pointer (some ⟨bv0, 0, none⟩)) := slot_at (hoff 1 (noDst_spec (by kernel_rfl)))
    have e2 : a.tmps[2]?.getD undef = (.pointer (some ⟨bt, 0, none⟩)) := slot_at (hoff 2 (noDst_spec (by kernel_rfl)))
    have e5 : a.tmps[5]?.getD undef = (.slice (some ⟨w.heap.size, 0, none⟩) ln ln) := slot_at (hoff 5 (noDst_spec (by kernel_rfl)))
    have e6 : a.tmps[6]?.getD undef = (.int .i64 (k : Int)) := slot_at (hoff 6 (noDst_spec (by kernel_rfl)))
    have e7 : a.tmps[7]?.getD undef = (.int .i64 l) := slot_at (hoff 7 (noDst_spec (by kernel_rfl)))
    clear hoff
    match i, ho with
    |0, ho =>
     obtain rfl := Option.some.inj ho
     refine lw_value (v := (.slice (some ⟨w.heap.size, 0, none⟩) ln ln)) (u' := u) ?_ (Kp.refl _ _) rfl
     go_simp
    |1, ho =>
     obtain rfl := Option.some.inj ho
     refine lw_value (v := (.int .i64 (k : Int))) (u' := u) ?_ (Kp.refl _ _) rfl
     go_simp
    |2, ho =>
     obtain rfl := Option.some.inj ho
     have c1 := hk.cellK HVb.out
     refine lw_value (v := .slice va ((netOf C).1.length + 1) vc) (u' := u) ?_ (Kp.refl _ _) rfl
     go_simp
    |3, ho =>
     obtain rfl := Option.some.inj ho
     refine lw_value (v := .pointer (some ⟨bt, 11, none⟩)) (u' := u) ?_ (Kp.refl _ _) rfl
     go_simp
    |4, ho =>
     obtain rfl := Option.some.inj ho
     have e21 : a.tmps[21]?.getD undef = .pointer (some ⟨bt, 11, none⟩) := slot_at (hdep ⟨3, .data⟩ (by simp) rfl _ 21 rfl rfl)
     have c1 := hk.cellK HTb.out
     refine lw_value (v := .slice (some ⟨b, off, none⟩) (netOf C).2.length d5) (u' := u) ?_ (Kp.refl _ _) rfl
     go_simp
    |5, ho =>
     obtain rfl := Option.some.inj ho
     refine lw_value (v := (.int .i64 l)) (u' := u) ?_ (Kp.refl _ _) rfl
     go_simp
    |6, ho =>
     obtain rfl := Option.some.inj ho
     have e23 : a.tmps[23]?.getD undef = (.int .i64 l) := slot_at (hdep ⟨5, .data⟩ (by simp) rfl _ 23 rfl rfl)
     have h2 := HLd.out
     have h3 : IntKind.i64.wrap (q : Int) = (q : Int) := by rw [IntKind.wrap_i64]; omega
     refine lw_value (v := .int .i64 (q : Int)) (u' := u) ?_ (Kp.refl _ _) rfl
     go_simp
    |7, ho =>
     obtain rfl := Option.some.inj ho
     have e22 : a.tmps[22]?.getD undef = .slice (some ⟨b, off, none⟩) (netOf C).2.length d5 := slot_at (hdep ⟨4, .data⟩ (by simp) rfl _ 22 rfl rfl)
     have e24 : a.tmps[24]?.getD undef = .int .i64 (q : Int) := slot_at (hdep ⟨6, .data⟩ (by simp) rfl _ 24 rfl rfl)
     refine lw_value (v := .pointer (some ⟨b, off + q, none⟩)) (u' := u) ?_ (Kp.refl _ _) rfl
     go_simp
    |8, ho =>
     obtain rfl := Option.some.inj ho
     have e25 : a.tmps[25]?.getD undef = .pointer (some ⟨b, off + q, none⟩) := slot_at (hdep ⟨7, .data⟩ (by simp) rfl _ 25 rfl rfl)
     have c1 := hk.cellK HYc.out
     refine lw_value (v := .int .i64 y) (u' := u) ?_ (Kp.refl _ _) rfl
     go_simp
    |9, ho =>
     obtain rfl := Option.some.inj ho
     refine lw_value (v := (.int .i64 l)) (u' := u) ?_ (Kp.refl _ _) rfl
     go_simp
    |10, ho =>
     obtain rfl := Option.some.inj ho
     have e27 : a.tmps[27]?.getD undef = (.int .i64 l) := slot_at (hdep ⟨9, .data⟩ (by simp) rfl _ 27 rfl rfl)
     have h2 := HAnd.out
     refine lw_value (v := .int .i64 (l % 2)) (u' := u) ?_ (Kp.refl _ _) rfl
     go_simp
    |11, ho =>
     obtain rfl := Option.some.inj ho
     have e26 : a.tmps[26]?.getD undef = .int .i64 y := slot_at (hdep ⟨8, .data⟩ (by simp) rfl _ 26 rfl rfl)
     have e28 : a.tmps[28]?.getD undef = .int .i64 (l % 2) := slot_at (hdep ⟨10, .data⟩ (by simp) rfl _ 28 rfl rfl)
     have h2 := HXor.out
     refine lw_value (v := .int .i64 z) (u' := u) ?_ (Kp.refl _ _) rfl
     go_simp
    |12, ho =>
     obtain rfl := Option.some.inj ho
     have e20 : a.tmps[20]?.getD undef = .slice va ((netOf C).1.length + 1) vc := slot_at (hdep ⟨2, .data⟩ (by simp) rfl _ 20 rfl rfl)
     have e29 : a.tmps[29]?.getD undef = .int .i64 z := slot_at (hdep ⟨11, .data⟩ (by simp) rfl _ 29 rfl rfl)
     refine lw_call (f := 56) (args := #[.slice va ((netOf C).1.length + 1) vc, .int .i64 z]) ?_ ?_
     ·go_simp
     ·exact (HLi.out u hk).mono (by
       rintro e u' ⟨rfl, rfl⟩
       exact ⟨_, rfl, Kp.refl _ _, rfl⟩)
    |13, ho =>
     obtain rfl := Option.some.inj ho
     have e18 : a.tmps[18]?.getD undef = (.slice (some ⟨w.heap.size, 0, none⟩) ln ln) := slot_at (hdep ⟨0, .data⟩ (by simp) rfl _ 18 rfl rfl)
     have e19 : a.tmps[19]?.getD undef = (.int .i64 (k : Int)) := slot_at (hdep ⟨1, .data⟩ (by simp) rfl _ 19 rfl rfl)
     refine lw_value (v := .pointer (some ⟨w.heap.size, k, none⟩)) (u' := u) ?_ (Kp.refl _ _) rfl
     go_simp
    |n + 14, _ => exact absurd hp (by simp [upTo])
   case hendLL =>
    intro a u hI
    have hsz : a.tmps.size = 35 := hI.size
    have hdf : a.defers = [] := hI.defers
    have f0 : a.tmps.getD 0 undef = _ := hI.off 0 (noDst_spec (p := upTo 14) (by kernel_rfl))
    have f1 : a.tmps.getD 1 undef = _ := hI.off 1 (noDst_spec (p := upTo 14) (by kernel_rfl))
    have f2 : a.tmps.getD 2 undef = _ := hI.off 2 (noDst_spec (p := upTo 14) (by kernel_rfl))
    have f3 : a.tmps.getD 3 undef = _ := hI.off 3 (noDst_spec (p := upTo 14) (by kernel_rfl))
    have f4 : a.tmps.getD 4 undef = _ := hI.off 4 (noDst_spec (p := upTo 14) (by kernel_rfl))
    have f5 : a.tmps.getD 5 undef = _ := hI.off 5 (noDst_spec (p := upTo 14) (by kernel_rfl))
    have f6 : a.tmps.getD 6 undef = _ := hI.off 6 (noDst_spec (p := upTo 14) (by kernel_rfl))
    have f7 : a.tmps.getD 7 undef = _ := hI.off 7 (noDst_spec (p := upTo 14) (by kernel_rfl))
    have f8 : a.tmps.getD 8 undef = _ := hI.off 8 (noDst_spec (p := upTo 14) (by kernel_rfl))
    have f9 : a.tmps.getD 9 undef = _ := hI.off 9 (noDst_spec (p := upTo 14) (by kernel_rfl))
    have f10 : a.tmps.getD 10 undef = _ := hI.off 10 (noDst_spec (p := upTo 14) (by kernel_rfl))
    have f11 : a.tmps.getD 11 undef = _ := hI.off 11 (noDst_spec (p := upTo 14) (by kernel_rfl))
    have f12 : a.tmps.getD 12 undef = _ := hI.off 12 (noDst_spec (p := upTo 14) (by kernel_rfl))
    have f13 : a.tmps.getD 13 undef = _ := hI.off 13 (noDst_spec (p := upTo 14) (by kernel_rfl))
    have f14 : a.tmps.getD 14 undef = _ := hI.off 14 (noDst_spec (p := upTo 14) (by kernel_rfl))
    have f15 : a.tmps.getD 15 undef = _ := hI.off 15 (noDst_spec (p := upTo 14) (by kernel_rfl))
    have f16 : a.tmps.getD 16 undef = _ := hI.off 16 (noDst_spec (p := upTo 14) (by kernel_rfl))
    have f17 : a.tmps.getD 17 undef = _ := hI.off 17 (noDst_spec (p := upTo 14) (by kernel_rfl))
    have f32 : a.tmps.getD 32 undef = _ := hI.off 32 (noDst_spec (p := upTo 14) (by kernel_rfl))
    have f33 : a.tmps.getD 33 undef = _ := hI.off 33 (noDst_spec (p := upTo 14) (by kernel_rfl))
    have f34 : a.tmps.getD 34 undef = _ := hI.off 34 (noDst_spec (p := upTo 14) (by kernel_rfl))
    have f18 : a.tmps.getD 18 undef = (.slice (some ⟨w.heap.size, 0, none⟩) ln ln) := hI.val 0 _ 18 rfl rfl rfl
    have f19 : a.tmps.getD 19 undef = (.int .i64 (k : Int)) := hI.val 1 _ 19 rfl rfl rfl
    have f20 : a.tmps.getD 20 undef = .slice va ((netOf C).1.length + 1) vc := hI.val 2 _ 20 rfl rfl rfl
    have f21 : a.tmps.getD 21 undef = .pointer (some ⟨bt, 11, none⟩) := hI.val 3 _ 21 rfl rfl rfl
    have f22 : a.tmps.getD 22 undef = .slice (some ⟨b, off, none⟩) (netOf C).2.length d5 := hI.val 4 _ 22 rfl rfl rfl
    have f23 : a.tmps.getD 23 undef = (.int .i64 l) := hI.val 5 _ 23 rfl rfl rfl
    have f24 : a.tmps.getD 24 undef = .int .i64 (q : Int) := hI.val 6 _ 24 rfl rfl rfl
    have f25 : a.tmps.getD 25 undef = .pointer (some ⟨b, off + q, none⟩) := hI.val 7 _ 25 rfl rfl rfl
    have f26 : a.tmps.getD 26 undef = .int .i64 y := hI.val 8 _ 26 rfl rfl rfl
    have f27 : a.tmps.getD 27 undef = (.int .i64 l) := hI.val 9 _ 27 rfl rfl rfl
    have f28 : a.tmps.getD 28 undef = .int .i64 (l % 2) := hI.val 10 _ 28 rfl rfl rfl
    have f29 : a.tmps.getD 29 undef = .int .i64 z := hI.val 11 _ 29 rfl rfl rfl
    have f30 : a.tmps.getD 30 undef = .bool x := hI.val 12 _ 30 rfl rfl rfl
    have f31 : a.tmps.getD 31 undef = .pointer (some ⟨w.heap.size, k, none⟩) := hI.val 13 _ 31 rfl rfl rfl
    have ha : a = ⟨#[a.tmps.getD 0 undef, a.tmps.getD 1 undef, a.tmps.getD 2 undef, a.tmps.getD 3 undef, a.tmps.getD 4 undef, a.tmps.getD 5 undef, a.tmps.getD 6 undef, a.tmps.getD 7 undef, a.tmps.getD 8 undef, a.tmps.getD 9 undef, a.tmps.getD 10 undef, a.tmps.getD 11 undef, a.tmps.getD 12 undef, a.tmps.getD 13 undef, a.tmps.getD 14 undef, a.tmps.getD 15 undef, a.tmps.getD 16 undef, a.tmps.getD 17 undef, a.tmps.getD 18 undef, a.tmps.getD 19 undef, a.tmps.getD 20 undef, a.tmps.getD 21 undef, a.tmps.getD 22 undef, a.tmps.getD 23 undef, a.tmps.getD 24 undef, a.tmps.getD 25 undef, a.tmps.getD 26 undef, a.tmps.getD 27 undef, a.tmps.getD 28 undef, a.tmps.getD 29 undef, a.tmps.getD 30 undef, a.tmps.getD 31 undef, a.tmps.getD 32 undef, a.tmps.getD 33 undef, a.tmps.getD 34 undef], a.defers⟩ := act_list a 35 hsz
    rw [hdf, f0, f1, f2, f3, f4, f5, f6, f7, f8, f9, f10, f11, f12, f13, f14, f15, f16, f17, f18, f19, f20, f21, f22, f23, f24, f25, f26, f27, f28, f29, f30, f31, f32, f33, f34] at ha
    have hku := hI.kp
    clear hI hsz hdf f0 f1 f2 f3 f4 f5 f6 f7 f8 f9 f10 f11 f12 f13 f14 f15 f16 f17 f18 f19 f20 f21 f22 f23 f24 f25 f26 f27 f28 f29 f30 f31 f32 f33 f34 
    subst ha
    refine wpAny_tail 14 rfl (by kernel_rfl) ?_
    simp only [List.drop_succ_cons, List.drop_zero]
    obtain ⟨c1, c2⟩ := HCk.out u hku
    have HE := Lib.hid (HN.out u hku)
    clear hku
    go_wp2_with fail
    go_roundw
    case rel => exact ⟨_, _, _, ⟨k + 1, rfl, by omega, HE.out⟩, rfl, rfl, by go_num⟩
    case measure => simp [intOf]; omega
  ·obtain rfl : k = ln := by omega
   have hO := HO.out
   rw [laid_full HDn.out] at hO
   obtain ⟨oa, oc, ev, -, -, -, hr⟩ := hO.form
   rw [bv_length, HDn.out] at ev
   simp only [Value.slice.injEq, true_and] at ev
   obtain ⟨rfl, rfl⟩ := ev
   have HT := Lib.hid (octet_Text (some ⟨w.heap.size, 0, none⟩) D k wp hr (by rw [HDn.out]; omega))
   rw [HDn.out] at HT
   clear hO hr
   go_wp2_with (go_at_call 57; with_reducible refine Calls.mono HT.out ?_; rintro e w1 ⟨rfl, hK1⟩; have HK1 := Lib.hid (HK.out.trans hK1 (fun _ _ h => h)); clear hK1)
   go_ret
   exact ⟨rfl, HK1.out⟩

end Go.Proofs.YtghlklcolepfmaaGreatDoor

/-
  Layer 1 in plain words: the number whose digits stand at a place.
-/
namespace Go.Proofs.YtghlklcolepfmaaGreatDoor
open Go.RowKit

def isDig (s : ByteArray) (i : Nat) : Prop := 48 ≤ bt s i ∧ bt s i ≤ 57

def runL (s : ByteArray) : Nat → Nat → Nat
  | 0, _ => 0
  | f + 1, i => if 48 ≤ bt s i ∧ bt s i ≤ 57 then runL s f (i + 1) + 1 else 0

def endOf (s : ByteArray) (i : Nat) : Nat := i + runL s (s.size - i) i

theorem runL_le (s : ByteArray) (f : Nat) : ∀ i, runL s f i ≤ f := by
 induction f with
 |zero => intro i; simp [runL]
 |succ f ih => intro i; simp only [runL]; split; (have := ih (i + 1); omega); omega

theorem runL_dig (s : ByteArray) (f : Nat) : ∀ i j, j < runL s f i → isDig s (i + j) := by
 induction f with
 |zero => intro i j h; simp [runL] at h
 |succ f ih =>
  intro i j h
  simp only [runL] at h
  split at h
  ·rename_i hd
   cases j with
   |zero => exact hd
   |succ j => have := ih (i + 1) j (by omega); rw [show i + (j + 1) = i + 1 + j from by omega]; exact this
  ·omega

theorem runL_stop (s : ByteArray) (f : Nat) : ∀ i, runL s f i < f → ¬ isDig s (i + runL s f i) := by
 induction f with
 |zero => intro i h; omega
 |succ f ih =>
  intro i h
  simp only [runL] at h ⊢
  split
  ·rename_i hd
   rw [if_pos hd] at h
   have := ih (i + 1) (by omega)
   rw [show i + (runL s f (i + 1) + 1) = i + 1 + runL s f (i + 1) from by omega]
   exact this
  ·rename_i hd; rw [Nat.add_zero]; exact hd

theorem endOf_is {s : ByteArray} {i j : Nat} (hij : i ≤ j) (hj : j ≤ s.size) (h : ∀ k, i ≤ k → k < j → isDig s k) (hs : j = s.size ∨ ¬ isDig s j) : endOf s i = j := by
 have h1 := runL_le s (s.size - i) i
 unfold endOf
 rcases Nat.lt_trichotomy (i + runL s (s.size - i) i) j with h2 | h2 | h2
 ·exact absurd (h _ (by omega) h2) (runL_stop s (s.size - i) i (by omega))
 ·exact h2
 ·have := runL_dig s (s.size - i) i (j - i) (by omega)
  rw [show i + (j - i) = j from by omega] at this
  rcases hs with e | e
  ·omega
  ·exact absurd this e

def numb (s : ByteArray) (i : Nat) : Nat → Nat
  | 0 => 0
  | k + 1 => 10 * numb s i k + (bt s (i + k) - 48)

def natN (s : ByteArray) (i : Nat) : Nat × Nat × Nat :=
  if i = s.size then (0, 0, 3)
  else if endOf s i = i ∨ bt s i = 48 ∧ i + 1 < endOf s i then (0, 0, 2)
  else if 9 < endOf s i - i then (0, 0, 5)
  else (numb s i (endOf s i - i), endOf s i, 0)

theorem byte_at {s : ByteArray} {i : Nat} (h : i < s.size) : ∃ b : UInt8, s.data.toList[i]? = some b ∧ b.toNat = bt s i := by
 refine ⟨s[i]'h, ?_, bt_eq h⟩
 have h2 : i < s.data.size := h
 rw [Array.getElem?_toList, Array.getElem?_eq_getElem h2]
 rfl

theorem word_dec {s : ByteArray} {i : Nat} (k : Nat) (hk : i + k ≤ s.size) (h : ∀ j, j < k → isDig s (i + j)) : Lib.decFrom 0 ((s.data.toList.drop i).take k) = some (numb s i k) := by
 induction k with
 |zero => simp [Lib.decFrom, numb]
 |succ k ih =>
  have h1 := ih (by omega) (fun j hj => h j (by omega))
  obtain ⟨b, hb, hb2⟩ := byte_at (s := s) (i := i + k) (by omega)
  have hd := h k (by omega)
  unfold isDig at hd
  have hv : Lib.digitVal b = some (bt s (i + k) - 48) := by
   unfold Lib.digitVal
   rw [if_pos ⟨by omega, by omega⟩, hb2]
  have := Lib.decFrom_take (s.data.toList.drop i) k 0 (numb s i k) b _ h1 (by rw [List.getElem?_drop]; exact hb) hv
  rw [this]
  simp only [numb]
  congr 1
  omega

end Go.Proofs.YtghlklcolepfmaaGreatDoor

/-
  Lines and words in plain words.
-/
namespace Go.Proofs.YtghlklcolepfmaaGreatDoor
open Go.RowKit

def feedAt (s : ByteArray) (at_ : Nat) : Option Nat := (List.range s.size).find? (fun i => decide (at_ ≤ i) && (bt s i == 10))

theorem feed_some {s : ByteArray} {at_ i : Nat} (hi : i < s.size) (h : at_ ≤ i) (hb : bt s i = 10) (hn : ∀ j, at_ ≤ j → j < i → bt s j ≠ 10) : feedAt s at_ = some i := by
 unfold feedAt
 rw [List.find?_range_eq_some]
 refine ⟨by simp [h, hb], by simpa using hi, fun j hj => ?_⟩
 simp
 by_cases h' : j < at_
 ·exact .inl h'
 ·exact .inr (hn j (by omega) hj)

theorem feed_none {s : ByteArray} {at_ : Nat} (hn : ∀ j, at_ ≤ j → j < s.size → bt s j ≠ 10) : feedAt s at_ = none := by
 unfold feedAt
 rw [List.find?_range_eq_none]
 intro j hj
 simp
 by_cases h' : j < at_
 ·exact .inl h'
 ·exact .inr (hn j (by omega) hj)

theorem feed_cases (s : ByteArray) (at_ : Nat) : (∃ i, feedAt s at_ = some i ∧ at_ ≤ i ∧ i < s.size ∧ bt s i = 10 ∧ ∀ j, at_ ≤ j → j < i → bt s j ≠ 10) ∨ feedAt s at_ = none ∧ ∀ j, at_ ≤ j → j < s.size → bt s j ≠ 10 := by
 cases h : feedAt s at_ with
 |some i =>
  left
  unfold feedAt at h
  rw [List.find?_range_eq_some] at h
  obtain ⟨h1, h2, h3⟩ := h
  simp at h1 h2 h3
  exact ⟨i, rfl, h1.1, h2, h1.2, fun j h4 h5 => (h3 j h5).resolve_left (by omega)⟩
 |none =>
  right
  unfold feedAt at h
  rw [List.find?_range_eq_none] at h
  simp at h
  exact ⟨rfl, fun j h1 h2 => (h j h2).resolve_left (by omega)⟩

def lineT (s : ByteArray) (x : Int) : ByteArray × Nat × Nat :=
  if x < 0 ∨ (s.size : Int) < x then (⟨#[]⟩, 0, 1)
  else match feedAt s x.toNat with
    | some i => (s.extract x.toNat i, i + 1, 0)
    | none => (⟨#[]⟩, 0, 3)

theorem bt_feed {s : ByteArray} {i : Nat} : s.data.toList[i]? = some 10 ↔ i < s.size ∧ bt s i = 10 := by
 constructor
 ·intro h
  have hi : i < s.data.toList.length := (List.getElem?_eq_some_iff.1 h).1
  have hi' : i < s.size := by simpa using hi
  refine ⟨hi', ?_⟩
  rw [← bt_eq hi']
  have h2 := (List.getElem?_eq_some_iff.1 h).2
  have : s[i] = 10 := h2
  rw [this]; rfl
 ·rintro ⟨hi, hb⟩
  rw [List.getElem?_eq_getElem (by simpa using hi)]
  rw [← bt_eq hi] at hb
  have : s[i] = 10 := UInt8.toNat_inj.1 hb
  exact congrArg some this

theorem feed_index (s : ByteArray) (at_ : Nat) : Lib.indexByte (s.extract at_ s.size).data.toList 10 = match feedAt s at_ with | some i => ((i - at_ : Nat) : Int) | none => -1 := by
 have he : (s.extract at_ s.size).data.toList = s.data.toList.drop at_ := by
  rw [Lib.extract_to_end]
 rw [he]
 have hge := Lib.indexByte_ge (s.data.toList.drop at_) 10
 rcases (show Lib.indexByte (s.data.toList.drop at_) 10 = -1 ∨ ∃ o : Nat, Lib.indexByte (s.data.toList.drop at_) 10 = o by
  by_cases e : Lib.indexByte (s.data.toList.drop at_) 10 = -1
  ·exact .inl e
  ·exact .inr ⟨(Lib.indexByte (s.data.toList.drop at_) 10).toNat, by omega⟩) with e | ⟨o, e⟩
 ·have hn := Lib.indexByte_none e
  rw [e, feed_none]
  intro j h1 h2 hb
  refine hn (j - at_) ?_
  rw [List.getElem?_drop, show at_ + (j - at_) = j by omega]
  exact bt_feed.2 ⟨h2, hb⟩
 ·obtain ⟨h1, h2⟩ := Lib.indexByte_some e
  rw [List.getElem?_drop] at h1
  obtain ⟨h3, h4⟩ := bt_feed.1 h1
  rw [e, feed_some h3 (Nat.le_add_right _ _) h4]
  ·simp
  ·intro j h5 h6 hb
   refine h2 (j - at_) (by omega) ?_
   rw [List.getElem?_drop, show at_ + (j - at_) = j by omega]
   exact bt_feed.2 ⟨by omega, hb⟩

def wordsF : List UInt8 → List (List UInt8)
  | [] => [[]]
  | b :: l => if b = 32 then [] :: wordsF l else match wordsF l with
    | [] => [[b]]
    | x :: r => (b :: x) :: r

theorem words_app : ∀ {a : List UInt8} (r : List UInt8), (∀ b ∈ a, b ≠ 32) → wordsF (a ++ 32 :: r) = a :: wordsF r
 |[], r, _ => by simp [wordsF]
 |b :: a, r, h => by
  have hb : b ≠ 32 := h b (by simp)
  rw [List.cons_append, wordsF, if_neg hb, words_app r (fun x hx => h x (by simp [hx]))]

theorem words_none : ∀ {a : List UInt8}, (∀ b ∈ a, b ≠ 32) → wordsF a = [a]
 |[], _ => rfl
 |b :: a, h => by
  rw [wordsF, if_neg (h b (by simp)), words_none (fun x hx => h x (by simp [hx]))]

def jn : List (List UInt8) → List UInt8
  | [] => []
  | [a] => a
  | a :: b :: r => a ++ 32 :: jn (b :: r)

theorem jn_snoc : ∀ {xs : List (List UInt8)} {a : List UInt8}, xs ≠ [] → jn (xs ++ [a]) = jn xs ++ 32 :: a
 |[], _, h => absurd rfl h
 |[x], a, _ => by simp [jn]
 |x :: y :: r, a, _ => by
  have := jn_snoc (xs := y :: r) (a := a) (by simp)
  simp only [List.cons_append] at this ⊢
  rw [jn, this, jn]; simp

theorem split_words : ∀ (n : Nat) (l : List UInt8), l.length ≤ n → Lib.splitK [32] 0 (Lib.count l [32]) l = wordsF l
 |n, l, hl => by
  have hge := Lib.indexByte_ge l 32
  by_cases e : Lib.indexByte l 32 = -1
  ·have hi : Lib.index l [32] = -1 := by rw [Lib.index_one]; exact e
   have hc : Lib.count l [32] = 0 := Lib.count_miss hi
   rw [hc, words_none]
   ·rfl
   ·intro b hb hb2
    obtain ⟨k, hk⟩ := List.mem_iff_getElem?.1 hb
    exact Lib.indexByte_none e k (by rw [hk, hb2])
  ·obtain ⟨o, ho⟩ : ∃ o : Nat, Lib.indexByte l 32 = o := ⟨(Lib.indexByte l 32).toNat, by omega⟩
   obtain ⟨h1, h2⟩ := Lib.indexByte_some ho
   have hi : Lib.index l [32] = o := by rw [Lib.index_one]; exact ho
   have hlt : o < l.length := (List.getElem?_eq_some_iff.1 h1).1
   have hsp : l = l.take o ++ 32 :: l.drop (o + 1) := by
    have h3 := (List.getElem?_eq_some_iff.1 h1).2
    conv => lhs; rw [← List.take_append_drop o l, List.drop_eq_getElem_cons hlt, h3]
   have hw : wordsF l = l.take o :: wordsF (l.drop (o + 1)) := by
    conv => lhs; rw [hsp]
    apply words_app
    intro b hb hb2
    obtain ⟨k, hk⟩ := List.mem_iff_getElem?.1 hb
    rw [List.getElem?_take] at hk
    split at hk
    ·exact h2 k (by assumption) (by rw [hk, hb2])
    ·cases hk
   match n with
   |0 => omega
   |n + 1 =>
    have hcnt : Lib.count l [32] = Lib.count (l.drop (o + 1)) [32] + 1 := by
     have := Lib.count_hit (s := l) (sub := [32]) (i := o) (by simp) hi
     simp at this
     omega
    rw [hcnt, Lib.splitK, if_neg (by rw [hi]; simp), hi, hw]
    simp only [Int.toNat_natCast, Nat.add_zero, List.length_singleton]
    rw [split_words n (l.drop (o + 1)) (by simp; omega)]

end Go.Proofs.YtghlklcolepfmaaGreatDoor

/-
  The library's contracts at this dump, as the kit's own tool lays them.
-/
namespace Go.Proofs
open Go.Shelf
def Tryz.lays156_ren : Go.Shelf.Ren := ⟨fun | 156 => 36 | 165 => 64 | 166 => 21 | 169 => 23 | 240 => 52 | 241 => 86 | 276 => 78 | 277 => 106 | n => n, fun | 31 => 38 | 9 => 9 | 3 => 3 | 4 => 4 | 0 => 0 | 20 => 20 | 72 => 59 | 76 => 63 | 70 => 56 | 37 => 57 | 75 => 62 | 127 => 99 | 164 => 127 | 5 => 5 | 80 => 66 | n => n, fun | n => n⟩
theorem Tryz.lays156 : Go.Proofs.Lays.n156 Tryz.prog Tryz.lays156_ren := {
 mixed := by kernel_rfl
 f156 := Tryz.func36.trans (congrArg some (by kernel_rfl))
 f165 := Tryz.func64.trans (congrArg some (by kernel_rfl))
 f166 := Tryz.func21.trans (congrArg some (by kernel_rfl))
 f169 := Tryz.func23.trans (congrArg some (by kernel_rfl))
 f240 := Tryz.func52.trans (congrArg some (by kernel_rfl))
 f241 := Tryz.func86.trans (congrArg some (by kernel_rfl))
 f276 := Tryz.func78.trans (congrArg some (by kernel_rfl))
 f277 := Tryz.func106.trans (congrArg some (by kernel_rfl))
 t0 := Tryz.underlying0
 a0 := Tryz.isAgg0
 z0 := Tryz.sizeOf0
 v0 := Tryz.zeroValue0
 t3 := Tryz.underlying3
 a3 := Tryz.isAgg3
 z3 := Tryz.sizeOf3
 v3 := Tryz.zeroValue3
 t4 := Tryz.underlying4
 a4 := Tryz.isAgg4
 z4 := Tryz.sizeOf4
 v4 := Tryz.zeroValue4
 t9 := Tryz.underlying9
 a9 := Tryz.isAgg9
 z9 := Tryz.sizeOf9
 v9 := Tryz.zeroValue9
 t20 := Tryz.underlying20
 a20 := Tryz.isAgg20
 z20 := Tryz.sizeOf20
 v20 := Tryz.zeroValue20
 t31 := Tryz.underlying38
 a31 := Tryz.isAgg38
 z31 := Tryz.sizeOf38
 v31 := Tryz.zeroValue38
 t37 := Tryz.underlying57
 a37 := Tryz.isAgg57
 z37 := Tryz.sizeOf57
 v37 := Tryz.zeroValue57
 t70 := Tryz.underlying56
 a70 := Tryz.isAgg56
 z70 := Tryz.sizeOf56
 v70 := Tryz.zeroValue56
 t72 := Tryz.underlying59
 a72 := Tryz.isAgg59
 z72 := Tryz.sizeOf59
 v72 := Tryz.zeroValue59
 t75 := Tryz.underlying62
 a75 := Tryz.isAgg62
 z75 := Tryz.sizeOf62
 v75 := Tryz.zeroValue62
 t76 := Tryz.underlying63
 a76 := Tryz.isAgg63
 z76 := Tryz.sizeOf63
 v76 := Tryz.zeroValue63
 t127 := Tryz.underlying99
 a127 := Tryz.isAgg99
 z127 := Tryz.sizeOf99
 v127 := Tryz.zeroValue99
 t164 := Tryz.underlying127
 a164 := Tryz.isAgg127
 z164 := Tryz.sizeOf127
 v164 := Tryz.zeroValue127 }
theorem Tryz.Builder_Extra_156 : Builder.Extra Tryz.prog Tryz.lays156_ren := {
 sizeBuilder := by kernel_rfl
 liesBuilder := by kernel_rfl
 t5 := Tryz.underlying5
 a5 := Tryz.isAgg5
 z5 := Tryz.sizeOf5
 v5 := Tryz.zeroValue5
 infoByte := by kernel_rfl
 cellsByte := by kernel_rfl
 sizeByte := by kernel_rfl
 neB5 := by decide }
open Go.RowKit in
theorem Tryz.strings_Join_none (a : Option Addr) (c : Nat) (sep : ByteArray) (w : World) :
  Calls Tryz.prog 36 #[.slice a 0 c, .string sep] w fun e w' => e = .returned (.string ⟨#[]⟩) ∧ w' = w := Any.strings_Join_none Tryz.lays156 Tryz.Builder_Extra_156 a c sep w
open Go.RowKit in
theorem Tryz.strings_Join (bk o c : Nat) (xs : List ByteArray) (sep : ByteArray) (w : World) (hcells : ∀ (j : Nat) x, xs[j]? = some x → w.cell? ⟨bk, o + j, none⟩ = some (.string x)) (hbk : bk < w.heap.size) (hN : xs.length ≤ 140737488355328) (hcap : xs.length ≤ c) (hlen : (Lib.join (xs.map (·.data.toList)) sep.data.toList).length ≤ 140737488355328) :
  Calls Tryz.prog 36 #[.slice (some ⟨bk, o, none⟩) xs.length c, .string sep] w fun e w' => e = .returned (.string ⟨(Lib.join (xs.map (·.data.toList)) sep.data.toList).toArray⟩) ∧ Below w.heap.size w w' := Any.strings_Join Tryz.lays156 Tryz.Builder_Extra_156 bk o c xs sep w hcells hbk hN hcap hlen
def Tryz.lays137_ren : Go.Shelf.Ren := ⟨fun | 137 => 66 | 217 => 87 | 266 => 107 | n => n, fun | 9 => 9 | 5 => 5 | 3 => 3 | n => n, fun | n => n⟩
theorem Tryz.lays137 : Go.Proofs.Lays.n137 Tryz.prog Tryz.lays137_ren := {
 mixed := by kernel_rfl
 f137 := Tryz.func66.trans (congrArg some (by kernel_rfl))
 f217 := Tryz.func87.trans (congrArg some (by kernel_rfl))
 f266 := Tryz.func107.trans (congrArg some (by kernel_rfl))
 t3 := Tryz.underlying3
 a3 := Tryz.isAgg3
 z3 := Tryz.sizeOf3
 v3 := Tryz.zeroValue3
 t5 := Tryz.underlying5
 a5 := Tryz.isAgg5
 z5 := Tryz.sizeOf5
 v5 := Tryz.zeroValue5
 t9 := Tryz.underlying9
 a9 := Tryz.isAgg9
 z9 := Tryz.sizeOf9
 v9 := Tryz.zeroValue9 }
open Go.RowKit in
theorem Tryz.strings_IndexByte (s : ByteArray) (c : Int) (w : World) :
  Calls Tryz.prog 66 #[.string s, .int .u8 c] w fun e w' => e = .returned (.int .i64 (Lib.indexByte s.data.toList c.toNat.toUInt8)) ∧ w' = w := Any.strings_IndexByte Tryz.lays137 s c w
def Tryz.lays103_ren : Go.Shelf.Ren := ⟨fun | 103 => 68 | 210 => 89 | 206 => 111 | n => n, fun | 9 => 9 | 4 => 4 | 24 => 107 | 3 => 3 | n => n, fun | n => n⟩
theorem Tryz.lays103 : Go.Proofs.Lays.n103 Tryz.prog Tryz.lays103_ren := {
 mixed := by kernel_rfl
 f103 := Tryz.func68.trans (congrArg some (by kernel_rfl))
 f206 := Tryz.func111.trans (congrArg some (by kernel_rfl))
 f210 := Tryz.func89.trans (congrArg some (by kernel_rfl))
 t3 := Tryz.underlying3
 a3 := Tryz.isAgg3
 z3 := Tryz.sizeOf3
 v3 := Tryz.zeroValue3
 t4 := Tryz.underlying4
 a4 := Tryz.isAgg4
 z4 := Tryz.sizeOf4
 v4 := Tryz.zeroValue4
 t9 := Tryz.underlying9
 a9 := Tryz.isAgg9
 z9 := Tryz.sizeOf9
 v9 := Tryz.zeroValue9
 t24 := Tryz.underlying107
 a24 := Tryz.isAgg107
 z24 := Tryz.sizeOf107
 v24 := Tryz.zeroValue107 }
open Go.RowKit in
theorem Tryz.strings_CutPrefix (s p : ByteArray) (w : World) :
  Calls Tryz.prog 68 #[.string s, .string p] w fun e w' => e = .returned (.tuple #[.string ⟨(Lib.trimPrefix s.data.toList p.data.toList).toArray⟩, .bool (Lib.hasPrefix s.data.toList p.data.toList)]) ∧ w' = w := Any.strings_CutPrefix Tryz.lays103 s p w
def Tryz.laysM171_ren : Go.Shelf.Ren := ⟨fun | 171 => 63 | 243 => 85 | 246 => 105 | 283 => 117 | 284 => 118 | 285 => 119 | 286 => 120 | 129 => 127 | 317 => 126 | 318 => 128 | 319 => 129 | 320 => 130 | 337 => 136 | 338 => 137 | n => n, fun | 3 => 3 | 9 => 9 | 2 => 2 | 4 => 4 | 171 => 162 | 0 => 0 | 53 => 151 | 37 => 57 | 5 => 5 | 173 => 165 | 212 => 172 | 51 => 173 | 20 => 20 | 213 => 174 | 46 => 175 | 232 => 186 | 233 => 187 | n => n, fun | 17 => 1 | 18 => 4 | 19 => 5 | n => n⟩
theorem Tryz.laysM171 : Go.Proofs.LaysM.n171 Tryz.prog Tryz.laysM171_ren := {
 mixed := by kernel_rfl
 f129 := Tryz.func127.trans (congrArg some (by kernel_rfl))
 f171 := Tryz.func63.trans (congrArg some (by kernel_rfl))
 f243 := Tryz.func85.trans (congrArg some (by kernel_rfl))
 f246 := Tryz.func105.trans (congrArg some (by kernel_rfl))
 f283 := Tryz.func117.trans (congrArg some (by kernel_rfl))
 f284 := Tryz.func118.trans (congrArg some (by kernel_rfl))
 f285 := Tryz.func119.trans (congrArg some (by kernel_rfl))
 f286 := Tryz.func120.trans (congrArg some (by kernel_rfl))
 f317 := Tryz.func126.trans (congrArg some (by kernel_rfl))
 f318 := Tryz.func128.trans (congrArg some (by kernel_rfl))
 f319 := Tryz.func129.trans (congrArg some (by kernel_rfl))
 f320 := Tryz.func130.trans (congrArg some (by kernel_rfl))
 f337 := Tryz.func136.trans (congrArg some (by kernel_rfl))
 f338 := Tryz.func137.trans (congrArg some (by kernel_rfl))
 t0 := Tryz.underlying0
 a0 := Tryz.isAgg0
 z0 := Tryz.sizeOf0
 v0 := Tryz.zeroValue0
 t2 := Tryz.underlying2
 a2 := Tryz.isAgg2
 z2 := Tryz.sizeOf2
 v2 := Tryz.zeroValue2
 t3 := Tryz.underlying3
 a3 := Tryz.isAgg3
 z3 := Tryz.sizeOf3
 v3 := Tryz.zeroValue3
 t4 := Tryz.underlying4
 a4 := Tryz.isAgg4
 z4 := Tryz.sizeOf4
 v4 := Tryz.zeroValue4
 t5 := Tryz.underlying5
 a5 := Tryz.isAgg5
 z5 := Tryz.sizeOf5
 v5 := Tryz.zeroValue5
 t9 := Tryz.underlying9
 a9 := Tryz.isAgg9
 z9 := Tryz.sizeOf9
 v9 := Tryz.zeroValue9
 t20 := Tryz.underlying20
 a20 := Tryz.isAgg20
 z20 := Tryz.sizeOf20
 v20 := Tryz.zeroValue20
 t37 := Tryz.underlying57
 a37 := Tryz.isAgg57
 z37 := Tryz.sizeOf57
 v37 := Tryz.zeroValue57
 t46 := Tryz.underlying175
 a46 := Tryz.isAgg175
 z46 := Tryz.sizeOf175
 v46 := Tryz.zeroValue175
 t51 := Tryz.underlying173
 a51 := Tryz.isAgg173
 z51 := Tryz.sizeOf173
 v51 := Tryz.zeroValue173
 t53 := Tryz.underlying151
 a53 := Tryz.isAgg151
 z53 := Tryz.sizeOf151
 v53 := Tryz.zeroValue151
 t171 := Tryz.underlying162
 a171 := Tryz.isAgg162
 z171 := Tryz.sizeOf162
 v171 := Tryz.zeroValue162
 t173 := Tryz.underlying165
 a173 := Tryz.isAgg165
 z173 := Tryz.sizeOf165
 v173 := Tryz.zeroValue165
 t212 := Tryz.underlying172
 a212 := Tryz.isAgg172
 z212 := Tryz.sizeOf172
 v212 := Tryz.zeroValue172
 t213 := Tryz.underlying174
 a213 := Tryz.isAgg174
 z213 := Tryz.sizeOf174
 t232 := Tryz.underlying186
 a232 := Tryz.isAgg186
 z232 := Tryz.sizeOf186
 v232 := Tryz.zeroValue186
 t233 := Tryz.underlying187
 a233 := Tryz.isAgg187
 z233 := Tryz.sizeOf187
 v233 := Tryz.zeroValue187
 g17 := by kernel_rfl
 g18 := by kernel_rfl
 g19 := by kernel_rfl
 i0 := by kernel_rfl
 i2 := by kernel_rfl
 i3 := by kernel_rfl
 i4 := by kernel_rfl
 i5 := by kernel_rfl
 i9 := by kernel_rfl
 i20 := by kernel_rfl
 i37 := by kernel_rfl
 i46 := by kernel_rfl
 i51 := by kernel_rfl
 i53 := by kernel_rfl
 i171 := by kernel_rfl
 i173 := by kernel_rfl
 i212 := by kernel_rfl
 i232 := by kernel_rfl
 i233 := by kernel_rfl
 m17 := by kernel_rfl
 m18 := by kernel_rfl
 m19 := by kernel_rfl }
open Go.RowKit Go.Sort Go.Lib in
theorem Tryz.strconv_Itoa (n : Int) (h0 : -9223372036854775808 ≤ n) (h1 : n ≤ 9223372036854775807) (w : World) (htab : Lib.TabIs Tryz.prog w "internal/strconv.uint64pow10" .u64 Lib.pow10Tab) :
  Calls Tryz.prog 63 #[.int .i64 n] w fun e w' => e = .returned (.string ⟨(Lib.itoa n).toArray⟩) ∧ ∃ k os, w' = grow (w.drewN k) os := Any.strconv_Itoa Tryz.laysM171 n h0 h1 w htab
def Tryz.lays146_ren : Go.Shelf.Ren := ⟨fun | 146 => 67 | 221 => 88 | 268 => 108 | 138 => 109 | 143 => 110 | 195 => 121 | 197 => 122 | 218 => 123 | 219 => 124 | 260 => 131 | 217 => 87 | 225 => 132 | 224 => 133 | 267 => 134 | 266 => 107 | 314 => 138 | n => n, fun | 9 => 9 | 31 => 38 | 3 => 3 | 4 => 4 | 0 => 0 | 105 => 168 | 21 => 21 | 5 => 5 | 46 => 175 | 119 => 180 | 139 => 183 | 138 => 182 | 146 => 184 | 51 => 173 | n => n, fun | 1 => 0 | 3 => 2 | 4 => 3 | n => n⟩
theorem Tryz.lays146 : Go.Proofs.Lays.n146 Tryz.prog Tryz.lays146_ren := {
 mixed := by kernel_rfl
 f138 := Tryz.func109.trans (congrArg some (by kernel_rfl))
 f143 := Tryz.func110.trans (congrArg some (by kernel_rfl))
 f146 := Tryz.func67.trans (congrArg some (by kernel_rfl))
 f195 := Tryz.func121.trans (congrArg some (by kernel_rfl))
 f197 := Tryz.func122.trans (congrArg some (by kernel_rfl))
 f217 := Tryz.func87.trans (congrArg some (by kernel_rfl))
 f218 := Tryz.func123.trans (congrArg some (by kernel_rfl))
 f219 := Tryz.func124.trans (congrArg some (by kernel_rfl))
 f221 := Tryz.func88.trans (congrArg some (by kernel_rfl))
 f224 := Tryz.func133.trans (congrArg some (by kernel_rfl))
 f225 := Tryz.func132.trans (congrArg some (by kernel_rfl))
 f260 := Tryz.func131.trans (congrArg some (by kernel_rfl))
 f266 := Tryz.func107.trans (congrArg some (by kernel_rfl))
 f267 := Tryz.func134.trans (congrArg some (by kernel_rfl))
 f268 := Tryz.func108.trans (congrArg some (by kernel_rfl))
 f314 := Tryz.func138.trans (congrArg some (by kernel_rfl))
 t0 := Tryz.underlying0
 a0 := Tryz.isAgg0
 z0 := Tryz.sizeOf0
 v0 := Tryz.zeroValue0
 t3 := Tryz.underlying3
 a3 := Tryz.isAgg3
 z3 := Tryz.sizeOf3
 v3 := Tryz.zeroValue3
 t4 := Tryz.underlying4
 a4 := Tryz.isAgg4
 z4 := Tryz.sizeOf4
 v4 := Tryz.zeroValue4
 t5 := Tryz.underlying5
 a5 := Tryz.isAgg5
 z5 := Tryz.sizeOf5
 v5 := Tryz.zeroValue5
 t9 := Tryz.underlying9
 a9 := Tryz.isAgg9
 z9 := Tryz.sizeOf9
 v9 := Tryz.zeroValue9
 t21 := Tryz.underlying21
 a21 := Tryz.isAgg21
 z21 := Tryz.sizeOf21
 v21 := Tryz.zeroValue21
 t31 := Tryz.underlying38
 a31 := Tryz.isAgg38
 z31 := Tryz.sizeOf38
 v31 := Tryz.zeroValue38
 t46 := Tryz.underlying175
 a46 := Tryz.isAgg175
 z46 := Tryz.sizeOf175
 v46 := Tryz.zeroValue175
 t51 := Tryz.underlying173
 a51 := Tryz.isAgg173
 z51 := Tryz.sizeOf173
 v51 := Tryz.zeroValue173
 t105 := Tryz.underlying168
 a105 := Tryz.isAgg168
 z105 := Tryz.sizeOf168
 v105 := Tryz.zeroValue168
 t119 := Tryz.underlying180
 a119 := Tryz.isAgg180
 z119 := Tryz.sizeOf180
 t138 := Tryz.underlying182
 a138 := Tryz.isAgg182
 z138 := Tryz.sizeOf182
 v138 := Tryz.zeroValue182
 t139 := Tryz.underlying183
 a139 := Tryz.isAgg183
 z139 := Tryz.sizeOf183
 v139 := Tryz.zeroValue183
 t146 := Tryz.underlying184
 a146 := Tryz.isAgg184
 z146 := Tryz.sizeOf184
 v146 := Tryz.zeroValue184
 g1 := by kernel_rfl
 g3 := by kernel_rfl
 g4 := by kernel_rfl }
open Go.RowKit Go.Lib in
theorem Tryz.strings_Split (s sep : ByteArray) (m : Int) (w : World) (hs : s.size < 4294967281) (hm : w.cell? ⟨0, 0, none⟩ = some (.int .i64 m)) (h1 : 1 ≤ sep.size) :
  Calls Tryz.prog 67 #[.string s, .string sep] w fun e w' =>
   e = .returned (.slice (some ⟨w.heap.size, 0, none⟩) (Lib.countB s sep + 1) (Lib.countB s sep + 1)) ∧ w' = w.alloc (.cells ((Lib.splitB sep 0 (Lib.countB s sep) s).map Value.string).toArray 9) := Any.strings_Split Tryz.lays146 (by kernel_rfl) s sep m w hs hm h1
end Go.Proofs

/-
  octet.Line and the reference's Line.
-/
namespace Go.Proofs.YtghlklcolepfmaaGreatDoor
open Go.RowKit

def lineV (t : ByteArray × Nat × Nat) : Value := .tuple #[.string t.1, .int .i64 t.2.1, .int .i64 t.2.2]

theorem lineT_out {s : ByteArray} {x : Int} (h : x < 0 ∨ (s.size : Int) < x) : lineT s x = (⟨#[]⟩, 0, 1) := by unfold lineT; rw [if_pos h]
theorem lineT_in {s : ByteArray} {at_ : Nat} (h : at_ ≤ s.size) : lineT s at_ = match feedAt s at_ with | some i => (s.extract at_ i, i + 1, 0) | none => (⟨#[]⟩, 0, 3) := by
 unfold lineT; rw [if_neg (by omega), Int.toNat_natCast] <;> rfl

set_option maxRecDepth 100000 in
set_option maxHeartbeats 1000000 in
theorem octet_Line_in (s : ByteArray) (at_ : Nat) (w : World) (hs : s.size ≤ 9223372036854775000) (ha : at_ ≤ s.size) :
  Calls Tryz.prog 37 #[.string s, .int .i64 at_] w fun e w' => e = .returned (lineV (lineT s at_)) ∧ w = w' := by
 have o1 : (decide ((at_ : Int) < 0) || decide ((s.size : Int) < (at_ : Int))) = false := by simp; omega
 have HI := Lib.hid (feed_index s at_)
 have HT := Lib.hid (lineT_in ha)
 rcases feed_cases s at_ with ⟨i, hf, h1, h2, h3, h4⟩ | ⟨hf, h4⟩
 ·rw [hf] at HI HT
  clear hf h3 h4
  obtain ⟨n, rfl⟩ : ∃ n, i = at_ + n := ⟨i - at_, by omega⟩
  simp only [show at_ + n - at_ = n by omega] at HI
  go_enter Tryz.func37, Tryz.ntmps37
  go_wp2_with fail
  refine (octet_out _ _ _).mono ?_
  rintro e w' ⟨rfl, rfl⟩
  rw [o1]
  go_wp2_with fail
  refine (Tryz.strings_IndexByte _ _ _).mono ?_
  rintro e w' ⟨rfl, hw⟩
  have hw' := hw.symm; clear hw; subst hw'
  rw [show ((10 : Int).toNat.toUInt8) = 10 from rfl, HI.out]
  simp only
  go_wp2_with fail
  go_ret3
  rw [HT.out]
  exact ⟨rfl, rfl⟩
 ·rw [hf] at HI HT
  clear hf h4
  go_enter Tryz.func37, Tryz.ntmps37
  go_wp2_with fail
  refine (octet_out _ _ _).mono ?_
  rintro e w' ⟨rfl, rfl⟩
  rw [o1]
  go_wp2_with fail
  refine (Tryz.strings_IndexByte _ _ _).mono ?_
  rintro e w' ⟨rfl, hw⟩
  have hw' := hw.symm; clear hw; subst hw'
  rw [show ((10 : Int).toNat.toUInt8) = 10 from rfl, HI.out]
  simp only
  go_wp2_with fail
  go_ret3
  rw [HT.out]
  exact ⟨rfl, rfl⟩

theorem octet_Line (s : ByteArray) (x : Int) (w : World) (hs : s.size ≤ 9223372036854775000) :
  Calls Tryz.prog 37 #[.string s, .int .i64 x] w fun e w' => e = .returned (lineV (lineT s x)) ∧ w = w' := by
 by_cases h : x < 0 ∨ (s.size : Int) < x
 ·have HT := Lib.hid (lineT_out h)
  have o1 : (decide (x < 0) || decide ((s.size : Int) < x)) = true := by simpa using h
  clear h
  go_enter Tryz.func37, Tryz.ntmps37
  go_wp2_with fail
  refine (octet_out _ _ _).mono ?_
  rintro e w' ⟨rfl, rfl⟩
  rw [o1]
  go_wp2_with fail
  go_ret3
  rw [HT.out]
  exact ⟨rfl, rfl⟩
 ·obtain ⟨at_, rfl⟩ : ∃ at_ : Nat, x = at_ := ⟨x.toNat, by omega⟩
  exact octet_Line_in s at_ w hs (by omega)

end Go.Proofs.YtghlklcolepfmaaGreatDoor

/-
  octet.Words, the reference's Words and Strings.
-/
namespace Go.Proofs.YtghlklcolepfmaaGreatDoor
open Go.RowKit

theorem bt_is {s : ByteArray} {i : Nat} {c : UInt8} : s.data.toList[i]? = some c ↔ i < s.size ∧ bt s i = c.toNat := by
 constructor
 ·intro h
  have hi : i < s.data.toList.length := (List.getElem?_eq_some_iff.1 h).1
  have hi' : i < s.size := by simpa using hi
  refine ⟨hi', ?_⟩
  rw [← bt_eq hi']
  have h2 := (List.getElem?_eq_some_iff.1 h).2
  have : s[i] = c := h2
  rw [this]
 ·rintro ⟨hi, hb⟩
  rw [List.getElem?_eq_getElem (by simpa using hi)]
  rw [← bt_eq hi] at hb
  have : s[i] = c := UInt8.toNat_inj.1 hb
  exact congrArg some this

def mkW (l : List UInt8) : List ByteArray := (wordsF l).map (fun x => (⟨x.toArray⟩ : ByteArray))
def wordsB (s : ByteArray) : List ByteArray := mkW s.data.toList
theorem mk_data (b : ByteArray) : (⟨b.data.toList.toArray⟩ : ByteArray) = b := by apply ByteArray.ext; simp

def strs (L : List ByteArray) : List Value := L.map Value.string

theorem splitB_words (s : ByteArray) : Lib.splitB ⟨#[32]⟩ 0 (Lib.countB s ⟨#[32]⟩) s = wordsB s := by
 have h := Lib.splitB_data ⟨#[32]⟩ 0 (Lib.countB s ⟨#[32]⟩) s
 have h2 := split_words _ s.data.toList (Nat.le_refl _)
 have h3 : (Lib.splitB ⟨#[32]⟩ 0 (Lib.countB s ⟨#[32]⟩) s).map (·.data.toList) = wordsF s.data.toList := h.trans h2
 unfold wordsB mkW
 rw [← h3, List.map_map]
 conv => lhs; rw [← List.map_id (Lib.splitB ⟨#[32]⟩ 0 (Lib.countB s ⟨#[32]⟩) s)]
 apply List.map_congr_left
 intro b _
 exact (mk_data b).symm

theorem count_words (s : ByteArray) : Lib.countB s ⟨#[32]⟩ + 1 = (wordsB s).length := by
 rw [← splitB_words]
 exact (Lib.splitB_all ⟨#[32]⟩ (by decide) 0 _ s rfl).symm

theorem count_le (s : ByteArray) : Lib.countB s ⟨#[32]⟩ ≤ s.size := Lib.countB_le ⟨#[32]⟩ (by decide) s.size s (Nat.le_refl _)

theorem own_strs {w : World} {b base : Nat} {L : List ByteArray} (h : Blk w b (strs L).toArray 9) (hb : base ≤ b) (hl : L.length ≤ maxLen) :
  Own w base 9 (.slice (some ⟨b, 0, none⟩) L.length L.length) (strs L) := by
 refine ⟨by simp [strs], .inr ⟨b, L.length, (strs L).toArray, by simp [strs], hb, h, by simp [strs], hl, by simp [strs], by simp [strs]; exact List.take_of_length_le (by simp)⟩⟩

theorem octet_Words (s : ByteArray) (m : Int) (w : World) (hs : s.size ≤ 100000) (hm : w.cell? ⟨0, 0, none⟩ = some (.int .i64 m)) :
  Calls Tryz.prog 38 #[.string s] w fun e w' => ∃ v, e = .returned v ∧ Own w' w.heap.size 9 v (strs (wordsB s)) ∧ Kp (fun _ => False) w w' := by
 have HM := Lib.hid hm; clear hm
 go_enter Tryz.func38, Tryz.ntmps38
 go_wp2_with fail
 refine (Tryz.strings_Split s ⟨#[32]⟩ m _ (by omega) HM.out (by decide)).mono ?_
 rintro e w' ⟨rfl, hw⟩
 go_wp2_with fail
 go_ret
 subst hw
 rw [count_words, splitB_words]
 refine ⟨_, rfl, own_strs (Blk.new _ _ _) (Nat.le_refl _) ?_, (Kp.refl _ _).alloc _⟩
 rw [← count_words]
 have := count_le s
 unfold maxLen; omega

theorem strInfo : (Tryz.prog.info? 9).map (fun i => (i.zero, i.size, i.bytes)) = some (some (.string .empty), 1, 16) := by kernel_rfl

theorem strs_snoc (L : List ByteArray) (b : ByteArray) : strs (L ++ [b]) = strs L ++ [.string b] := by simp [strs]
theorem strs_length (L : List ByteArray) : (strs L).length = L.length := by simp [strs]

end Go.Proofs.YtghlklcolepfmaaGreatDoor

/-
  Literals, and a derivation's lines, as text: what is read. No program in sight.
-/
namespace Go.Proofs.YtghlklcolepfmaaGreatDoor
open Go.RowKit

end Go.Proofs.YtghlklcolepfmaaGreatDoor

/-
  Symbols and a comment behind a circuit: what is read. No program in sight.
-/
namespace Go.Proofs.YtghlklcolepfmaaGreatDoor
open Go.RowKit

structure Hd where
  bin : Bool
  m : Int
  i : Int
  l : Int
  o : Int
  a : Int
  b : Int
  c : Int

def cnt (h : Hd) (k : Nat) : Int := if k = 105 then h.i else if k = 108 then h.l else if k = 111 then h.o else if k = 98 then h.b else if k = 99 then h.c else 0

def isKind (k : Nat) : Prop := k = 105 ∨ k = 108 ∨ k = 111 ∨ k = 98 ∨ k = 99
instance (k : Nat) : Decidable (isKind k) := by unfold isKind; infer_instance

section
variable {h : Hd} {s : ByteArray} {p n en er nx f : Nat} {nm : ByteArray}
end

end Go.Proofs.YtghlklcolepfmaaGreatDoor
