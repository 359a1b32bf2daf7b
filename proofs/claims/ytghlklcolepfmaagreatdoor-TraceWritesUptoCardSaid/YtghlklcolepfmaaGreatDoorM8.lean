/-
  trace.Write. (Printed by mktrwr.py.)
-/
import Derived.Test.YtghlklcolepfmaaGreatDoorM7
import Derived.Test.YtghlklcolepfmaaGreatDoorM4
import Derived.Test.YtghlklcolepfmaaGreatDoorM6
import Derived.Test.YtghlklcolepfmaaGreatDoorRows
import Derived.Test.YtghlklcolepfmaaGreatDoorM1
import Derived.Deep.QuietTactic
import Derived.BigQuiet
import Derived.Test.YtghlklcolepfmaaGreatDoorM3
import Derived.Laws.StructEq
import Derived.Laws.Runes
import Derived.ProofKit
import Derived.Deep.Grids
import Derived.RegionTactic
import Derived.ChangeAlike
import Derived.Defers
import Derived.Tactics2
import Derived.Lib.Join
import Derived.Deep.RegionHeld3
set_option linter.unusedVariables false
set_option linter.unusedSimpArgs false
namespace Go.Proofs.YtghlklcolepfmaaGreatDoor
open Go.RowKit

set_option maxRecDepth 100000 in
set_option maxHeartbeats 8000000 in
theorem trace_Write (V : CV) (C : Circ) (sa : Option Addr) (sn sc : Nat) (ga : Option Addr) (gn gc : Nat) (st : List Bool) (rows : List (List Bool)) (w : World) (h : CAt w V C) (hf : CFew C 1000) (hy : V.ny ≤ 1000000) (hg : GoodC C) (hs : BS w sa sn st) (hi : GS w ga gn gc rows) (hgn : gn ≤ 1000) (ht : Tab w) :
  Calls Tryz.prog 7 #[.agg (cvals V C), .agg #[.slice sa sn sc, .slice ga gn gc]] w fun e w' => e = .returned (.string ⟨(trcB C st rows gn).toArray⟩) ∧ Kp (fun _ => False) w w' := by
 obtain ⟨wz, hwz⟩ : ∃ wz : World, wz = (w.alloc (.cells (cvals V C) 27)).alloc (.cells #[.slice sa sn sc, .slice ga gn gc] 31) := ⟨_, rfl⟩
 have HK0 := Lib.hid (show Kp (fun _ => False) w wz by rw [hwz]; exact ((Kp.refl _ w).alloc _).alloc _)
 have HC0 := Lib.hid (show Blk wz w.heap.size #[.int .i64 C.max, .slice V.ai C.ins.length V.ci, .slice V.al C.lats.length V.cl, .slice V.ao C.outs.length V.co, .slice V.ab C.bads.length V.cb, .slice V.ac C.cons.length V.cc, .slice V.ag C.gates.length V.cg, .slice V.ay V.ny V.cy, .string V.cm] 27 by rw [hwz]; exact (Blk.new w (cvals V C) _).alloc _)
 have HR0 := Lib.hid (show Blk wz (w.heap.size + 1) #[.slice sa sn sc, .slice ga gn gc] 31 by rw [hwz]; exact two_blk _ _ _ _ _)
 obtain ⟨d0, d1, d2, d3, d4, d5, d6, d7, d8⟩ := Blk.cells9 HC0.out
 have HZ := Lib.hid hwz
 have HF := Lib.hid hf
 have HG := Lib.hid hg
 have HA0 := Lib.hid (h.kp HK0.out)
 have HSt := Lib.hid (hs.kp HK0.out)
 have HIn := Lib.hid (GS.kp hi HK0.out)
 have HTt := Lib.hid (ht.kp HK0.out)
 have HOf := Lib.hid (trace_of V C wz (h.kp HK0.out) (hf.big (by decide)) hy hg)
 unfold cvals at HOf HZ ⊢
 obtain ⟨D, hD⟩ : ∃ D : ByteArray, (⟨(trcB C st rows gn).toArray⟩ : ByteArray) = D := ⟨_, rfl⟩
 rw [hD]
 have HD := Lib.hid hD
 have HLen := Lib.hid (fun k (hk : k ≤ gn) => trcB_len (st := st) (rows := rows) hf k (by omega))
 clear h hf hg hs hi hwz hD ht hy
 go_enter Tryz.func7, Tryz.ntmps7
 go_upto_region 1 with fail
 rw [← HZ.out]
 clear HZ
 go_upto_region 2 with (go_at_call 19; with_reducible refine Calls.mono HOf.out ?_; rintro e w1 ⟨p, b4, m4, b5, m5, rfl, hT, hK1⟩; have HT1 := Lib.hid hT; have HK1 := Lib.hid hK1; clear hT hK1; unfold tvals)
 clear d0 d1 d2 d3 d4 d5 d6 d7 d8 HOf
 obtain ⟨w2, hw2⟩ : ∃ w2 : World, w2 = w1.alloc (.cells (tvals V C p b4 m4 b5 m5) 54) := ⟨_, rfl⟩
 have HB2 := Lib.hid (show Blk w2 w1.heap.size (tvals V C p b4 m4 b5 m5) 54 by rw [hw2]; exact Blk.new _ _ _)
 have HK2 := Lib.hid (show Kp (fun _ => False) w1 w2 by rw [hw2]; exact (Kp.refl _ _).alloc _)
 unfold tvals at HB2
 unfold tvals at hw2
 rw [← hw2]
 clear hw2
 obtain ⟨bt, hbt⟩ : ∃ b, w1.heap.size = b := ⟨_, rfl⟩
 rw [hbt] at HB2 ⊢
 have HBt := Lib.hid hbt
 clear hbt
 go_upto_region 3 with fail
 obtain ⟨w3, hw3⟩ : ∃ w3 : World, w3 = w2.alloc (.cells #[.pointer none, .slice none 0 0] 59) := ⟨_, rfl⟩
 have HBb := Lib.hid (show Blk w3 w2.heap.size #[.pointer none, .slice none 0 0] 59 by rw [hw3]; exact Blk.new _ _ _)
 have HK3 := Lib.hid (show Kp (fun _ => False) w2 w3 by rw [hw3]; exact (Kp.refl _ _).alloc _)
 have HS3 := Lib.hid (show w3.heap.size = w2.heap.size + 1 by rw [hw3]; simp)
 rw [← hw3]
 clear hw3
 obtain ⟨bb, hbb⟩ : ∃ b, w2.heap.size = b := ⟨_, rfl⟩
 rw [hbb] at HBb HS3 ⊢
 have HBbs := Lib.hid hbb
 clear hbb
 have HK13 := Lib.hid (HK2.out.trans HK3.out (fun _ _ h => h))
 have HK03 := Lib.hid (HK1.out.trans HK13.out (fun _ _ h => h))
 have HT3 := Lib.hid (HT1.out.kp HK13.out)
 have HB3 := Lib.hid (HB2.out.kp HK3.out (fun h => h))
 have HR3 := Lib.hid (HR0.out.kp HK03.out (fun h => h))
 obtain ⟨Vm, am4, cm4, am5, cm5, hM⟩ := HT3.out.mach
 have HSs := Lib.hid (step_States Vm C p am4 am5 cm4 cm5 sa sn sc ga gn gc st rows w3 hM (HF.out.big (by decide)) HG.out (HSt.out.kp HK03.out) (GS.kp HIn.out HK03.out))
 have t9 : w3.cell? ⟨bt, 9, none⟩ = some (.pointer (some ⟨p, 0, none⟩)) := HB3.out.cell rfl
 have r0 := HR3.out.cell (i := 0) (v := .slice sa sn sc) rfl
 have r1 := HR3.out.cell (i := 1) (v := .slice ga gn gc) rfl
 clear hM
 go_wp2_with (go_at_call 20; with_reducible refine Calls.mono HSs.out ?_; rintro e w4 ⟨v7, rfl, ⟨v6, hSL⟩, hK4⟩; obtain ⟨xa, c7, ev⟩ := hSL.form; subst ev; have HSL := Lib.hid hSL; have HK4 := Lib.hid hK4; clear hSL hK4)
 clear t9 r0 r1 HSs
 have HK34 := Lib.hid (HK13.out.trans HK4.out (fun _ _ h => h))
 have HK04 := Lib.hid (HK1.out.trans HK34.out (fun _ _ h => h))
 have HG0 := Lib.hid (BldG.start (b := bb) (B2 := w4.heap.size) HBb.out HK4.out (by have := HS3.out; have := HK4.out.size; omega))
 go_loopw [16] (fun v16 wr => ∃ k : Nat, v16 = .int .i64 k ∧ k ≤ gn ∧ BldG wr w4.heap.size bb (Lib.byteCells (trcB C st rows k)) ∧ Kp (fun j => j = bb ∨ w4.heap.size ≤ j) w4 wr) (fun v16 _ => gn - (intOf v16).toNat)
 case atStart => exact ⟨0, rfl, Nat.zero_le _, HG0.out, Kp.refl _ _⟩
 case round =>
  obtain ⟨k, rfl, hk, hG, hK⟩ := hrel
  obtain ⟨wp, rfl⟩ : ∃ wp : World, wp = wr := ⟨_, rfl⟩
  have HGp := Lib.hid hG
  have HK := Lib.hid hK
  have hzp := hK.size
  have HK1p := Lib.hid (show Kp (fun _ => False) w1 wp from HK34.out.trans hK (fun j hj e => by
   have := HBbs.out; have := HK2.out.size; have := HK34.out.size; rcases e with e | e <;> omega))
  have HKzp := Lib.hid (HK1.out.trans HK1p.out (fun _ _ h => h))
  clear hG hK
  have HK2p := Lib.hid (show Kp (fun _ => False) w2 wp from (HK3.out.trans HK4.out (fun _ _ h => h)).trans HK.out (fun j hj e => by
   have := HBbs.out; have := HK3.out.size; have := HK4.out.size; rcases e with e | e <;> omega))
  by_cases hlt : k < gn
  ·have hSLp := SL.kpG HSL.out HK.out (fun j hj => by have := HBbs.out; have := HS3.out; rcases hj with e | e <;> omega)
   obtain ⟨bg, og, xb, xm, xd, exa, x1, hxs, hxn⟩ := SL.at hSLp (Nat.le_trans HF.out.l (by decide)) hlt
   have hinp := GS.kp HIn.out HKzp.out
   obtain ⟨bi, oi, yb, ym, yd, eya, hyc, hys⟩ := GS.at hinp hlt
   have hrp := HR0.out.kp HKzp.out (fun h => h)
   have htb := HB2.out.kp HK2p.out (fun h => h)
   subst exa eya
   have HXs := Lib.hid hxs
   have HYs := Lib.hid hys
   have HXn := Lib.hid hxn
   have HTb := Lib.hid htb
   have HGc := Lib.hid (hrp.cell (i := 1) (v := .slice (some ⟨bi, oi, none⟩) gn gc) rfl)
   have HYc := Lib.hid hyc
   have HLn0 := Lib.hid (fun u (hu : Kp (fun _ => False) wp u) => trace_line V C p b4 m4 b5 m5 k xb xm xd yb ym yd (stateM C st rows k) (rows[k]?.getD []) u (HT1.out.kp (HK1p.out.trans hu (fun _ _ h => h))) (HA0.out.kp (HKzp.out.trans hu (fun _ _ h => h))) HF.out HG.out (HXs.out.kp hu) (stateM_len _ _ _ _) HXn.out (HYs.out.kp hu) (by omega) (HTt.out.kp (HKzp.out.trans hu (fun _ _ h => h))))
   have hlt1 := HLen.out k hk
   have hln := trcL_len (k := k) (st := stateM C st rows k) (ip := rows[k]?.getD []) HF.out (by omega) (by rw [stateM_len]; exact HF.out.l)
   have hsc := trcB_succ C st rows k
   obtain ⟨ll, hll⟩ : ∃ l, trcL C k (stateM C st rows k) (rows[k]?.getD []) ++ [10] = l := ⟨_, rfl⟩
   have hln2 : ll.length ≤ 6001 := by rw [← hll, List.length_append]; simpa using hln
   have hLn := HLn0.out
   unfold tvals at hLn
   rw [hll] at hLn hsc
   obtain ⟨LN, hLN⟩ : ∃ s : ByteArray, (⟨ll.toArray⟩ : ByteArray) = s := ⟨_, rfl⟩
   rw [hLN] at hLn
   have HLn := Lib.hid hLn
   have HSc := Lib.hid (show Lib.byteCells (trcB C st rows (k + 1)) = Lib.byteCells (trcB C st rows k) ++ Lib.strCells LN by rw [hsc, Lib.byteCells_append, ← hLN]; rfl)
   have zL : LN.size ≤ 6001 := by rw [← hLN, ba_list]; exact hln2
   have zT : (Lib.byteCells (trcB C st rows k)).length ≤ 6001000 := by rw [Lib.byteCells_length]; have : 6001 * k ≤ 6001 * 1000 := Nat.mul_le_mul_left _ (by omega); omega
   have q0 : (0 : Int) ≤ (k : Int) := by omega
   have q1 : (k : Int) < (gn : Int) := by omega
   clear hSLp hxs hxn hinp hyc hys hrp htb hlt1 hln hsc hll hln2 hLn hLN HLn0
   go_upto_region 6 with fail
   clear x1
   refine wp_region_loose (p := upTo 9) (V := atV [EqV (.agg #[.int .i64 C.max, .slice V.ai C.ins.length V.ci, .slice V.al C.lats.length V.cl, .slice V.ao C.outs.length V.co, .slice V.ab C.bads.length V.cb, .slice V.ac C.cons.length V.cc, .slice V.ag C.gates.length V.cg, .slice V.ay V.ny V.cy, .string V.cm, .pointer (some ⟨p, 0, none⟩), .slice b4 (netOf C).1.length m4, .slice b5 (netOf C).2.length m5]), EqV ((.int .i64 (k : Int))), EqV ((.slice xb xm xd)), EqV (.pointer (some ⟨w.heap.size + 1, 1, none⟩)), EqV (.slice (some ⟨bi, oi, none⟩) gn gc), EqV ((.int .i64 (k : Int))), EqV (.pointer (some ⟨bi, oi + k, none⟩)), EqV (.slice yb ym yd), EqV (.string LN)]) (LP := #[true, true, true, true, true, true, true, true, true, false]) (K := 1) (by kernel_rfl) (by kernel_rfl) (atV_st ?hstLL) ?hstepLL (by kernel_rfl) ?hLPLL (by kernel_rfl) ?hendLL
   case hstLL =>
    intro W h
    simp only [List.mem_cons, List.not_mem_nil, or_false] at h
    rcases h with rfl | rfl | rfl | rfl | rfl | rfl | rfl | rfl | rfl <;> first | exact EqV.st _ | exact EqV.st _
   case hLPLL => exact upTo_spec (by kernel_rfl)
   case hstepLL =>
    intro i o ho hp a u hk hoff hdep
    have e3 : a.tmps[3]?.getD undef = (.pointer (some ⟨w.heap.size + 1, 0, none⟩)) := slot_at (hoff 3 (noDst_spec (by kernel_rfl)))
    have e5 : a.tmps[5]?.getD undef = (.pointer (some ⟨bt, 0, none⟩)) := slot_at (hoff 5 (noDst_spec (by kernel_rfl)))
    have e7 : a.tmps[7]?.getD undef = (.int .i64 (k : Int)) := slot_at (hoff 7 (noDst_spec (by kernel_rfl)))
    have e8 : a.tmps[8]?.getD undef = (.slice xb xm xd) := slot_at (hoff 8 (noDst_spec (by kernel_rfl)))
    clear hoff
    match i, ho with
    |0, ho =>
     obtain rfl := Option.some.inj ho
     obtain ⟨t0, t1, t2, t3, t4, t5, t6, t7, t8, t9, ta, tb⟩ := blk12 (HTb.out.kp hk (fun h => h))
     refine lw_value (v := .agg #[.int .i64 C.max, .slice V.ai C.ins.length V.ci, .slice V.al C.lats.length V.cl, .slice V.ao C.outs.length V.co, .slice V.ab C.bads.length V.cb, .slice V.ac C.cons.length V.cc, .slice V.ag C.gates.length V.cg, .slice V.ay V.ny V.cy, .string V.cm, .pointer (some ⟨p, 0, none⟩), .slice b4 (netOf C).1.length m4, .slice b5 (netOf C).2.length m5]) (u' := u) ?_ (Kp.refl _ _) rfl
     go_simp
    |1, ho =>
     obtain rfl := Option.some.inj ho
     refine lw_value (v := (.int .i64 (k : Int))) (u' := u) ?_ (Kp.refl _ _) rfl
     go_simp
    |2, ho =>
     obtain rfl := Option.some.inj ho
     refine lw_value (v := (.slice xb xm xd)) (u' := u) ?_ (Kp.refl _ _) rfl
     go_simp
    |3, ho =>
     obtain rfl := Option.some.inj ho
     refine lw_value (v := .pointer (some ⟨w.heap.size + 1, 1, none⟩)) (u' := u) ?_ (Kp.refl _ _) rfl
     go_simp
    |4, ho =>
     obtain rfl := Option.some.inj ho
     have e24 : a.tmps[24]?.getD undef = .pointer (some ⟨w.heap.size + 1, 1, none⟩) := slot_at (hdep ⟨3, .data⟩ (by simp) rfl _ 24 rfl rfl)
     have c1 := hk.cellK HGc.out
     refine lw_value (v := .slice (some ⟨bi, oi, none⟩) gn gc) (u' := u) ?_ (Kp.refl _ _) rfl
     go_simp
    |5, ho =>
     obtain rfl := Option.some.inj ho
     refine lw_value (v := (.int .i64 (k : Int))) (u' := u) ?_ (Kp.refl _ _) rfl
     go_simp
    |6, ho =>
     obtain rfl := Option.some.inj ho
     have e25 : a.tmps[25]?.getD undef = .slice (some ⟨bi, oi, none⟩) gn gc := slot_at (hdep ⟨4, .data⟩ (by simp) rfl _ 25 rfl rfl)
     have e26 : a.tmps[26]?.getD undef = (.int .i64 (k : Int)) := slot_at (hdep ⟨5, .data⟩ (by simp) rfl _ 26 rfl rfl)
     refine lw_value (v := .pointer (some ⟨bi, oi + k, none⟩)) (u' := u) ?_ (Kp.refl _ _) rfl
     go_simp
    |7, ho =>
     obtain rfl := Option.some.inj ho
     have e27 : a.tmps[27]?.getD undef = .pointer (some ⟨bi, oi + k, none⟩) := slot_at (hdep ⟨6, .data⟩ (by simp) rfl _ 27 rfl rfl)
     have c1 := hk.cellK HYc.out
     refine lw_value (v := .slice yb ym yd) (u' := u) ?_ (Kp.refl _ _) rfl
     go_simp
    |8, ho =>
     obtain rfl := Option.some.inj ho
     have e21 : a.tmps[21]?.getD undef = .agg #[.int .i64 C.max, .slice V.ai C.ins.length V.ci, .slice V.al C.lats.length V.cl, .slice V.ao C.outs.length V.co, .slice V.ab C.bads.length V.cb, .slice V.ac C.cons.length V.cc, .slice V.ag C.gates.length V.cg, .slice V.ay V.ny V.cy, .string V.cm, .pointer (some ⟨p, 0, none⟩), .slice b4 (netOf C).1.length m4, .slice b5 (netOf C).2.length m5] := slot_at (hdep ⟨0, .data⟩ (by simp) rfl _ 21 rfl rfl)
     have e22 : a.tmps[22]?.getD undef = (.int .i64 (k : Int)) := slot_at (hdep ⟨1, .data⟩ (by simp) rfl _ 22 rfl rfl)
     have e23 : a.tmps[23]?.getD undef = (.slice xb xm xd) := slot_at (hdep ⟨2, .data⟩ (by simp) rfl _ 23 rfl rfl)
     have e28 : a.tmps[28]?.getD undef = .slice yb ym yd := slot_at (hdep ⟨7, .data⟩ (by simp) rfl _ 28 rfl rfl)
     refine lw_call (f := 22) (args := #[.agg #[.int .i64 C.max, .slice V.ai C.ins.length V.ci, .slice V.al C.lats.length V.cl, .slice V.ao C.outs.length V.co, .slice V.ab C.bads.length V.cb, .slice V.ac C.cons.length V.cc, .slice V.ag C.gates.length V.cg, .slice V.ay V.ny V.cy, .string V.cm, .pointer (some ⟨p, 0, none⟩), .slice b4 (netOf C).1.length m4, .slice b5 (netOf C).2.length m5], .int .i64 (k : Int), .slice xb xm xd, .slice yb ym yd]) ?_ ?_
     ·go_simp
     ·exact (HLn.out u hk).mono (by
       rintro e u' ⟨rfl, hK⟩
       exact ⟨_, rfl, hK, rfl⟩)
    |n + 9, _ => exact absurd hp (by simp [upTo])
   case hendLL =>
    intro a u hI
    have hsz : a.tmps.size = 33 := hI.size
    have hdf : a.defers = [] := hI.defers
    have f0 : a.tmps.getD 0 undef = _ := hI.off 0 (noDst_spec (p := upTo 9) (by kernel_rfl))
    have f1 : a.tmps.getD 1 undef = _ := hI.off 1 (noDst_spec (p := upTo 9) (by kernel_rfl))
    have f2 : a.tmps.getD 2 undef = _ := hI.off 2 (noDst_spec (p := upTo 9) (by kernel_rfl))
    have f3 : a.tmps.getD 3 undef = _ := hI.off 3 (noDst_spec (p := upTo 9) (by kernel_rfl))
    have f4 : a.tmps.getD 4 undef = _ := hI.off 4 (noDst_spec (p := upTo 9) (by kernel_rfl))
    have f5 : a.tmps.getD 5 undef = _ := hI.off 5 (noDst_spec (p := upTo 9) (by kernel_rfl))
    have f6 : a.tmps.getD 6 undef = _ := hI.off 6 (noDst_spec (p := upTo 9) (by kernel_rfl))
    have f7 : a.tmps.getD 7 undef = _ := hI.off 7 (noDst_spec (p := upTo 9) (by kernel_rfl))
    have f8 : a.tmps.getD 8 undef = _ := hI.off 8 (noDst_spec (p := upTo 9) (by kernel_rfl))
    have f9 : a.tmps.getD 9 undef = _ := hI.off 9 (noDst_spec (p := upTo 9) (by kernel_rfl))
    have f10 : a.tmps.getD 10 undef = _ := hI.off 10 (noDst_spec (p := upTo 9) (by kernel_rfl))
    have f11 : a.tmps.getD 11 undef = _ := hI.off 11 (noDst_spec (p := upTo 9) (by kernel_rfl))
    have f12 : a.tmps.getD 12 undef = _ := hI.off 12 (noDst_spec (p := upTo 9) (by kernel_rfl))
    have f13 : a.tmps.getD 13 undef = _ := hI.off 13 (noDst_spec (p := upTo 9) (by kernel_rfl))
    have f14 : a.tmps.getD 14 undef = _ := hI.off 14 (noDst_spec (p := upTo 9) (by kernel_rfl))
    have f15 : a.tmps.getD 15 undef = _ := hI.off 15 (noDst_spec (p := upTo 9) (by kernel_rfl))
    have f16 : a.tmps.getD 16 undef = _ := hI.off 16 (noDst_spec (p := upTo 9) (by kernel_rfl))
    have f17 : a.tmps.getD 17 undef = _ := hI.off 17 (noDst_spec (p := upTo 9) (by kernel_rfl))
    have f18 : a.tmps.getD 18 undef = _ := hI.off 18 (noDst_spec (p := upTo 9) (by kernel_rfl))
    have f19 : a.tmps.getD 19 undef = _ := hI.off 19 (noDst_spec (p := upTo 9) (by kernel_rfl))
    have f20 : a.tmps.getD 20 undef = _ := hI.off 20 (noDst_spec (p := upTo 9) (by kernel_rfl))
    have f30 : a.tmps.getD 30 undef = _ := hI.off 30 (noDst_spec (p := upTo 9) (by kernel_rfl))
    have f31 : a.tmps.getD 31 undef = _ := hI.off 31 (noDst_spec (p := upTo 9) (by kernel_rfl))
    have f32 : a.tmps.getD 32 undef = _ := hI.off 32 (noDst_spec (p := upTo 9) (by kernel_rfl))
    have f21 : a.tmps.getD 21 undef = .agg #[.int .i64 C.max, .slice V.ai C.ins.length V.ci, .slice V.al C.lats.length V.cl, .slice V.ao C.outs.length V.co, .slice V.ab C.bads.length V.cb, .slice V.ac C.cons.length V.cc, .slice V.ag C.gates.length V.cg, .slice V.ay V.ny V.cy, .string V.cm, .pointer (some ⟨p, 0, none⟩), .slice b4 (netOf C).1.length m4, .slice b5 (netOf C).2.length m5] := hI.val 0 _ 21 rfl rfl rfl
    have f22 : a.tmps.getD 22 undef = (.int .i64 (k : Int)) := hI.val 1 _ 22 rfl rfl rfl
    have f23 : a.tmps.getD 23 undef = (.slice xb xm xd) := hI.val 2 _ 23 rfl rfl rfl
    have f24 : a.tmps.getD 24 undef = .pointer (some ⟨w.heap.size + 1, 1, none⟩) := hI.val 3 _ 24 rfl rfl rfl
    have f25 : a.tmps.getD 25 undef = .slice (some ⟨bi, oi, none⟩) gn gc := hI.val 4 _ 25 rfl rfl rfl
    have f26 : a.tmps.getD 26 undef = (.int .i64 (k : Int)) := hI.val 5 _ 26 rfl rfl rfl
    have f27 : a.tmps.getD 27 undef = .pointer (some ⟨bi, oi + k, none⟩) := hI.val 6 _ 27 rfl rfl rfl
    have f28 : a.tmps.getD 28 undef = .slice yb ym yd := hI.val 7 _ 28 rfl rfl rfl
    have f29 : a.tmps.getD 29 undef = .string LN := hI.val 8 _ 29 rfl rfl rfl
    have ha : a = ⟨#[a.tmps.getD 0 undef, a.tmps.getD 1 undef, a.tmps.getD 2 undef, a.tmps.getD 3 undef, a.tmps.getD 4 undef, a.tmps.getD 5 undef, a.tmps.getD 6 undef, a.tmps.getD 7 undef, a.tmps.getD 8 undef, a.tmps.getD 9 undef, a.tmps.getD 10 undef, a.tmps.getD 11 undef, a.tmps.getD 12 undef, a.tmps.getD 13 undef, a.tmps.getD 14 undef, a.tmps.getD 15 undef, a.tmps.getD 16 undef, a.tmps.getD 17 undef, a.tmps.getD 18 undef, a.tmps.getD 19 undef, a.tmps.getD 20 undef, a.tmps.getD 21 undef, a.tmps.getD 22 undef, a.tmps.getD 23 undef, a.tmps.getD 24 undef, a.tmps.getD 25 undef, a.tmps.getD 26 undef, a.tmps.getD 27 undef, a.tmps.getD 28 undef, a.tmps.getD 29 undef, a.tmps.getD 30 undef, a.tmps.getD 31 undef, a.tmps.getD 32 undef], a.defers⟩ := act_list a 33 hsz
    rw [hdf, f0, f1, f2, f3, f4, f5, f6, f7, f8, f9, f10, f11, f12, f13, f14, f15, f16, f17, f18, f19, f20, f21, f22, f23, f24, f25, f26, f27, f28, f29, f30, f31, f32] at ha
    have hku := hI.kp
    clear hI hsz hdf f0 f1 f2 f3 f4 f5 f6 f7 f8 f9 f10 f11 f12 f13 f14 f15 f16 f17 f18 f19 f20 f21 f22 f23 f24 f25 f26 f27 f28 f29 f30 f31 f32 
    subst ha
    refine wpAny_tail 9 rfl (by kernel_rfl) ?_
    simp only [List.drop_succ_cons, List.drop_zero]
    have HGu := Lib.hid (HGp.out.kp hku)
    have HKu := Lib.hid hku
    have HWs := Lib.hid (bld_stringG w4.heap.size bb (Lib.byteCells (trcB C st rows k)) LN u HGu.out (by omega) (by have := HKu.out.size; omega))
    clear hku zT zL
    go_wp2_with (go_at_call 21; with_reducible refine Calls.mono HWs.out ?_; rintro e w9 ⟨rfl, hG9, hK9⟩; have HR9 := Lib.hid (show BldG w9 w4.heap.size bb (Lib.byteCells (trcB C st rows (k + 1))) ∧ Kp (fun j => j = bb ∨ w4.heap.size ≤ j) w4 w9 from ⟨by rw [HSc.out]; exact hG9, (HK.out.trans HKu.out (fun _ _ h => h.elim)).trans hK9 (fun _ _ h => h)⟩); clear hG9 hK9)
    go_roundw
    case rel => exact ⟨k + 1, by go_num, by omega, HR9.out⟩
    case measure => simp [intOf]; omega
  ·obtain rfl : k = gn := by omega
   have HWe := Lib.hid (Tryz.Builder_String_any bb bb (trcB C st rows k) wp HGp.out.is (by have := HGp.out.lt; omega))
   have HBB := Lib.hid (show Kp (fun j => bb ≤ j) w4 wp from HK.out.mono (fun j _ e => by have := HGp.out.lt; rcases e with e | e <;> omega))
   go_wp2_with (go_at_call 23; with_reducible refine Calls.mono HWe.out ?_; rintro e w9 ⟨rfl, hw9⟩; have HK9 := Lib.hid (show Kp (fun _ => False) w w9 from HK0.out.trans ((HK1.out.trans HK2.out (fun _ _ h => h)).trans (HK2p.out.trans (show Kp (fun j => bb ≤ j) wp w9 from ⟨hw9.os, hw9.tape, hw9.output, hw9.size, fun j hj hS => hw9.block j (by omega)⟩) (fun j hj e => by have := HBbs.out; have e2 : bb ≤ j := e; omega)) (fun _ _ h => h)) (fun _ _ h => h)); clear hw9)
   go_ret
   exact ⟨congrArg (fun x => Ending.returned (Value.string x)) HD.out, HK9.out⟩

end Go.Proofs.YtghlklcolepfmaaGreatDoor

/-
  tail.Count, thing, symbol; latchetref12.Count.
-/
namespace Go.Proofs.YtghlklcolepfmaaGreatDoor
open Go.RowKit

def hdV (h : Hd) : Value := .agg #[.bool h.bin, .int .i64 h.m, .int .i64 h.i, .int .i64 h.l, .int .i64 h.o, .int .i64 h.a, .int .i64 h.b, .int .i64 h.c]
theorem cnt_none {h : Hd} {k : Nat} (hk : ¬ isKind k) : cnt h k = 0 := by
 unfold isKind at hk
 unfold cnt
 rw [if_neg (by omega), if_neg (by omega), if_neg (by omega), if_neg (by omega), if_neg (by omega)]

set_option maxHeartbeats 1000000 in
theorem tail_Count (h : Hd) (k : Nat) (w : World) :
  Calls Tryz.prog 31 #[hdV h, .int .u8 k] w fun e w' => e = .returned (.int .i64 (cnt h k)) ∧ Kp (fun _ => False) w w' := by
 obtain ⟨bin, m, i, l, o, a, b, c⟩ := h
 unfold hdV
 by_cases hk : isKind k
 ·rcases hk with rfl | rfl | rfl | rfl | rfl
  all_goals
   go_enter Tryz.func31, Tryz.ntmps31
   go_wp2
   go_ret
   exact ⟨by simp [cnt], (Kp.refl _ w).alloc _⟩
 ·have HC := Lib.hid (cnt_none (h := ⟨bin, m, i, l, o, a, b, c⟩) hk)
  unfold isKind at hk
  have b1 : ((k : Int) == 105) = false := by simp; omega
  have b2 : ((k : Int) == 108) = false := by simp; omega
  have b3 : ((k : Int) == 111) = false := by simp; omega
  have b4 : ((k : Int) == 98) = false := by simp; omega
  have b5 : ((k : Int) == 99) = false := by simp; omega
  clear hk
  go_enter Tryz.func31, Tryz.ntmps31
  go_wp2
  go_ret
  rw [HC.out]
  exact ⟨rfl, (Kp.refl _ w).alloc _⟩

set_option maxHeartbeats 2000000 in
theorem ref12_Count (h : Hd) (k : Nat) (w : World) :
  Calls Tryz.prog 33 #[hdV h, .int .u8 k] w fun e w' => e = .returned (.int .i64 (cnt h k)) ∧ Kp (fun _ => False) w w' := by
 obtain ⟨bin, m, i, l, o, a, b, c⟩ := h
 unfold hdV
 by_cases hk : isKind k
 ·rcases hk with rfl | rfl | rfl | rfl | rfl
  all_goals
   go_enter Tryz.func33, Tryz.ntmps33
   go_wp2
   refine wp_loop_rounds 6 ?_
   rw [rounds_succ]
   go_wp2
   repeat (rw [rounds_succ]; go_wp2)
   go_ret
   exact ⟨by simp [cnt], ((Kp.refl _ w).alloc _).alloc _⟩
 ·have HC := Lib.hid (cnt_none (h := ⟨bin, m, i, l, o, a, b, c⟩) hk)
  unfold isKind at hk
  have b1 : ((k : Int) == 105) = false := by simp; omega
  have b2 : ((k : Int) == 108) = false := by simp; omega
  have b3 : ((k : Int) == 111) = false := by simp; omega
  have b4 : ((k : Int) == 98) = false := by simp; omega
  have b5 : ((k : Int) == 99) = false := by simp; omega
  clear hk
  have e0 : ((⟨#[105, 108, 111, 98, 99]⟩ : ByteArray)[0]'(by decide)).toNat = 105 := rfl
  have e1 : ((⟨#[105, 108, 111, 98, 99]⟩ : ByteArray)[1]'(by decide)).toNat = 108 := rfl
  have e2 : ((⟨#[105, 108, 111, 98, 99]⟩ : ByteArray)[2]'(by decide)).toNat = 111 := rfl
  have e3 : ((⟨#[105, 108, 111, 98, 99]⟩ : ByteArray)[3]'(by decide)).toNat = 98 := rfl
  have e4 : ((⟨#[105, 108, 111, 98, 99]⟩ : ByteArray)[4]'(by decide)).toNat = 99 := rfl
  go_enter Tryz.func33, Tryz.ntmps33
  go_wp2
  refine wp_loop_rounds 6 ?_
  rw [rounds_succ]
  go_wp2
  repeat (rw [rounds_succ]; go_wp2)
  go_ret
  rw [HC.out]
  exact ⟨rfl, ((Kp.refl _ w).alloc _).alloc _⟩

end Go.Proofs.YtghlklcolepfmaaGreatDoor

/-
  latchetref02.Ints: whether two lists of ints are one.
-/
namespace Go.Proofs.YtghlklcolepfmaaGreatDoor
open Go.RowKit

end Go.Proofs.YtghlklcolepfmaaGreatDoor

/-
  latchetref11.Same: of two circuits that hold the same. (Printed by mksame.py.)
-/
namespace Go.Proofs.YtghlklcolepfmaaGreatDoor
open Go.RowKit

def SymOK (w : World) (V : CV) : Prop := ∃ rows : List (List Value), RowAt w V.ay rows.flatten ∧ rows.length = V.ny ∧ ∀ (k : Nat) (r : List Value), rows[k]? = some r → ∃ (a b : Int) (s : ByteArray), r = [.int .u8 a, .int .i64 b, .string s]
theorem SymOK.kp {w w' : World} {V : CV} (h : SymOK w V) (k : Kp (fun _ => False) w w') : SymOK w' V := by
 obtain ⟨rows, h1, h2⟩ := h
 exact ⟨rows, h1.kp k (fun _ _ h => h), h2⟩
theorem SymOK.at {w : World} {V : CV} (h : SymOK w V) {k : Nat} (hk : k < V.ny) : ∃ (p off : Nat) (a b : Int) (s : ByteArray), V.ay = some ⟨p, off, none⟩ ∧ w.cell? ⟨p, off + k * 3, none⟩ = some (.int .u8 a) ∧ w.cell? ⟨p, off + k * 3 + 1, none⟩ = some (.int .i64 b) ∧ w.cell? ⟨p, off + k * 3 + 2, none⟩ = some (.string s) := by
 obtain ⟨rows, h1, h2, h3⟩ := h
 have hr : rows[k]? = some rows[k] := List.getElem?_eq_getElem (by omega)
 obtain ⟨a, b, s, e⟩ := h3 k _ hr
 rw [e] at hr
 have h4 : ∀ r ∈ rows, r.length = 3 := fun r hr => by
  obtain ⟨i, hi⟩ := List.mem_iff_getElem?.1 hr
  obtain ⟨_, _, _, rfl⟩ := h3 i r hi
  rfl
 obtain ⟨b0, off0, e0, c0⟩ := h1.cellAt h4 (j := k) (i := 0) hr rfl
 obtain ⟨b1, off1, e1, c1⟩ := h1.cellAt h4 (j := k) (i := 1) hr rfl
 obtain ⟨b2, off2, e2, c2⟩ := h1.cellAt h4 (j := k) (i := 2) hr rfl
 obtain ⟨rfl, rfl⟩ : b0 = b1 ∧ off0 = off1 := by rw [e0] at e1; simpa using e1
 obtain ⟨rfl, rfl⟩ : b0 = b2 ∧ off0 = off2 := by rw [e0] at e2; simpa using e2
 exact ⟨b0, off0, a, b, s, e0, c0, c1, c2⟩

end Go.Proofs.YtghlklcolepfmaaGreatDoor

/-
  Symbols in memory; names of things; a circuit's head, both ways.
-/
namespace Go.Proofs.YtghlklcolepfmaaGreatDoor
open Go.RowKit

def symC (x : Int × Int × ByteArray) : List Value := [.int .u8 x.1, .int .i64 x.2.1, .string x.2.2]
theorem symC_len (L : List (Int × Int × ByteArray)) : ∀ r ∈ L.map symC, r.length = 3 := by
 intro r hr
 obtain ⟨x, _, rfl⟩ := List.mem_map.1 hr
 rfl
theorem symC_one (L : List (Int × Int × ByteArray)) : ∀ r ∈ L.map symC, ∀ u ∈ r, u.oneCell' = true := by
 intro r hr u hu
 obtain ⟨x, _, rfl⟩ := List.mem_map.1 hr
 unfold symC at hu
 simp at hu
 rcases hu with rfl | rfl | rfl <;> rfl

structure SyAt (w : World) (V : CV) (Y : List (Int × Int × ByteArray)) : Prop where
  row : RowAt w V.ay (Y.map symC).flatten
  len : Y.length = V.ny
theorem SyAt.kp {w w' : World} {V : CV} {Y : List (Int × Int × ByteArray)} (h : SyAt w V Y) (k : Kp (fun _ => False) w w') : SyAt w' V Y := ⟨h.row.kp k (fun _ _ h => h), h.len⟩

theorem SymOK.all {w : World} {V : CV} (h : SymOK w V) : ∃ Y, SyAt w V Y := by
 obtain ⟨rows, h1, h2, h3⟩ := h
 have : ∀ n, n ≤ rows.length → ∃ Y : List (Int × Int × ByteArray), Y.map symC = rows.take n := by
  intro n
  induction n with
  |zero => intro _; exact ⟨[], by simp⟩
  |succ n ih =>
   intro hn
   obtain ⟨Y, hY⟩ := ih (by omega)
   obtain ⟨a, b, s, e⟩ := h3 n rows[n] (List.getElem?_eq_getElem (by omega))
   refine ⟨Y ++ [(a, b, s)], ?_⟩
   rw [List.map_append, hY, List.take_succ_eq_append_getElem (by omega), e]
   rfl
 obtain ⟨Y, hY⟩ := this rows.length (Nat.le_refl _)
 rw [List.take_length] at hY
 exact ⟨Y, by rw [hY]; exact h1, by rw [← h2, ← hY, List.length_map]⟩

def sK (Y : List (Int × Int × ByteArray)) (k : Nat) : Int × Int × ByteArray := Y[k]?.getD (0, 0, ⟨#[]⟩)

theorem SyAt.at {w : World} {V : CV} {Y : List (Int × Int × ByteArray)} (h : SyAt w V Y) {k : Nat} (hk : k < Y.length) :
  ∃ b off, V.ay = some ⟨b, off, none⟩ ∧ w.cell? ⟨b, off + k * 3, none⟩ = some (.int .u8 (sK Y k).1) ∧ w.cell? ⟨b, off + k * 3 + 1, none⟩ = some (.int .i64 (sK Y k).2.1) ∧ w.cell? ⟨b, off + k * 3 + 2, none⟩ = some (.string (sK Y k).2.2) := by
 have hr : (Y.map symC)[k]? = some (symC (sK Y k)) := by
  unfold sK
  rw [List.getElem?_map, List.getElem?_eq_getElem hk]; rfl
 obtain ⟨b, off, e0, h0⟩ := h.row.cellAt (symC_len Y) (j := k) (i := 0) hr rfl
 obtain ⟨b1, off1, e1, h1⟩ := h.row.cellAt (symC_len Y) (j := k) (i := 1) hr rfl
 obtain ⟨b2, off2, e2, h2⟩ := h.row.cellAt (symC_len Y) (j := k) (i := 2) hr rfl
 obtain ⟨rfl, rfl⟩ : b = b1 ∧ off = off1 := by rw [e0] at e1; simpa using e1
 obtain ⟨rfl, rfl⟩ : b = b2 ∧ off = off2 := by rw [e0] at e2; simpa using e2
 exact ⟨b, off, e0, h0, h1, h2⟩

def hitS (Y : List (Int × Int × ByteArray)) (kind : Nat) (i : Nat) (k : Nat) : Prop := (sK Y k).1 = (kind : Int) ∧ (sK Y k).2.1 = (i : Int)
instance (Y : List (Int × Int × ByteArray)) (kind i k : Nat) : Decidable (hitS Y kind i k) := by unfold hitS; infer_instance
def symName (Y : List (Int × Int × ByteArray)) (kind : Nat) (i : Nat) : ByteArray :=
  match (List.range Y.length).find? (fun k => decide (hitS Y kind i k)) with
  | some k => (sK Y k).2.2
  | none => ⟨(UInt8.ofNat kind :: Lib.itoa (i : Int)).toArray⟩

theorem symName_hit {Y : List (Int × Int × ByteArray)} {kind i k : Nat} (hk : k < Y.length) (hn : ∀ j, j < k → ¬ hitS Y kind i j) (h : hitS Y kind i k) : symName Y kind i = (sK Y k).2.2 := by
 have : (List.range Y.length).find? (fun k => decide (hitS Y kind i k)) = some k := by
  rw [List.find?_range_eq_some]
  exact ⟨by simpa using h, by simpa using hk, fun j hj => by simpa using hn j hj⟩
 unfold symName
 rw [this]
theorem symName_miss {Y : List (Int × Int × ByteArray)} {kind i : Nat} (hn : ∀ j, j < Y.length → ¬ hitS Y kind i j) : symName Y kind i = ⟨(UInt8.ofNat kind :: Lib.itoa (i : Int)).toArray⟩ := by
 have : (List.range Y.length).find? (fun k => decide (hitS Y kind i k)) = none := by
  rw [List.find?_range_eq_none]
  exact fun j hj => by simpa using hn j hj
 unfold symName
 rw [this]

def hdOf (C : Circ) (b : Bool) : Hd := ⟨b, C.max, (C.ins.length : Nat), (C.lats.length : Nat), (C.outs.length : Nat), (C.gates.length : Nat), (C.bads.length : Nat), (C.cons.length : Nat)⟩

theorem blk8' {w : World} {b : Nat} {x0 x1 x2 x3 x4 x5 x6 x7 : Value} {t : TypeId} (h : Blk w b #[x0, x1, x2, x3, x4, x5, x6, x7] t) :
  w.cell? ⟨b, 0, none⟩ = some x0 ∧ w.cell? ⟨b, 1, none⟩ = some x1 ∧ w.cell? ⟨b, 2, none⟩ = some x2 ∧ w.cell? ⟨b, 3, none⟩ = some x3 ∧ w.cell? ⟨b, 4, none⟩ = some x4 ∧ w.cell? ⟨b, 5, none⟩ = some x5 ∧ w.cell? ⟨b, 6, none⟩ = some x6 ∧ w.cell? ⟨b, 7, none⟩ = some x7 :=
 ⟨h.cell rfl, h.cell rfl, h.cell rfl, h.cell rfl, h.cell rfl, h.cell rfl, h.cell rfl, h.cell rfl⟩
theorem head_new' (w : World) (c d : Array Value) (t u : TypeId) : Blk ((w.alloc (.cells c t)).alloc (.cells d u)) (w.heap.size + 1) d u := by
 have := Blk.new (w.alloc (.cells c t)) d u
 rwa [World.size_alloc] at this

set_option maxRecDepth 100000 in
set_option maxHeartbeats 2000000 in
theorem ref13_HeadOfA (V : CV) (C : Circ) (bb : Bool) (w : World) :
  Calls Tryz.prog 34 #[.agg (cvals V C), .bool bb] w fun e w' => e = .returned (hdV (hdOf C bb)) ∧ Kp (fun _ => False) w w' := by
 have HK : Hid (∀ (c d : Array Value) (t u : TypeId), Kp (fun _ => False) w ((w.alloc (.cells c t)).alloc (.cells d u))) := Lib.hid (fun c d t u => ((Kp.refl _ w).alloc _).alloc _)
 unfold cvals hdOf hdV
 obtain ⟨n1, hn1⟩ : ∃ n, C.ins.length = n := ⟨_, rfl⟩
 obtain ⟨n2, hn2⟩ : ∃ n, C.lats.length = n := ⟨_, rfl⟩
 obtain ⟨n3, hn3⟩ : ∃ n, C.outs.length = n := ⟨_, rfl⟩
 obtain ⟨n4, hn4⟩ : ∃ n, C.bads.length = n := ⟨_, rfl⟩
 obtain ⟨n5, hn5⟩ : ∃ n, C.cons.length = n := ⟨_, rfl⟩
 obtain ⟨n6, hn6⟩ : ∃ n, C.gates.length = n := ⟨_, rfl⟩
 obtain ⟨mx, hmx⟩ : ∃ n, C.max = n := ⟨_, rfl⟩
 rw [hn1, hn2, hn3, hn4, hn5, hn6, hmx]
 clear hn1 hn2 hn3 hn4 hn5 hn6 hmx
 go_enter Tryz.func34, Tryz.ntmps34
 go_wp2_with fail
 have hB := head_new' w #[.int .i64 mx, .slice V.ai n1 V.ci, .slice V.al n2 V.cl, .slice V.ao n3 V.co, .slice V.ab n4 V.cb, .slice V.ac n5 V.cc, .slice V.ag n6 V.cg, .slice V.ay V.ny V.cy, .string V.cm] #[.bool bb, .int .i64 mx, .int .i64 (n1 : Nat), .int .i64 (n2 : Nat), .int .i64 (n3 : Nat), .int .i64 (n6 : Nat), .int .i64 (n4 : Nat), .int .i64 (n5 : Nat)] 27 77
 obtain ⟨z0, z1, z2, z3, z4, z5, z6, z7⟩ := blk8' hB
 exact bodyPost_ret (v := .agg #[.bool bb, .int .i64 mx, .int .i64 (n1 : Nat), .int .i64 (n2 : Nat), .int .i64 (n3 : Nat), .int .i64 (n6 : Nat), .int .i64 (n4 : Nat), .int .i64 (n5 : Nat)]) (by simp [results, Tryz.results34, go_sem, z0, z1, z2, z3, z4, z5, z6, z7]) rfl ⟨rfl, HK.out _ _ _ _⟩

set_option maxRecDepth 100000 in
set_option maxHeartbeats 2000000 in
theorem ascii_HeadOfA (V : CV) (C : Circ) (bb : Bool) (w : World) :
  Calls Tryz.prog 32 #[.agg (cvals V C), .bool bb] w fun e w' => e = .returned (hdV (hdOf C bb)) ∧ Kp (fun _ => False) w w' := by
 have HK : Hid (∀ (c d : Array Value) (t u : TypeId), Kp (fun _ => False) w ((w.alloc (.cells c t)).alloc (.cells d u))) := Lib.hid (fun c d t u => ((Kp.refl _ w).alloc _).alloc _)
 unfold cvals hdOf hdV
 obtain ⟨n1, hn1⟩ : ∃ n, C.ins.length = n := ⟨_, rfl⟩
 obtain ⟨n2, hn2⟩ : ∃ n, C.lats.length = n := ⟨_, rfl⟩
 obtain ⟨n3, hn3⟩ : ∃ n, C.outs.length = n := ⟨_, rfl⟩
 obtain ⟨n4, hn4⟩ : ∃ n, C.bads.length = n := ⟨_, rfl⟩
 obtain ⟨n5, hn5⟩ : ∃ n, C.cons.length = n := ⟨_, rfl⟩
 obtain ⟨n6, hn6⟩ : ∃ n, C.gates.length = n := ⟨_, rfl⟩
 obtain ⟨mx, hmx⟩ : ∃ n, C.max = n := ⟨_, rfl⟩
 rw [hn1, hn2, hn3, hn4, hn5, hn6, hmx]
 clear hn1 hn2 hn3 hn4 hn5 hn6 hmx
 go_enter Tryz.func32, Tryz.ntmps32
 go_wp2_with fail
 have hB := head_new' w #[.int .i64 mx, .slice V.ai n1 V.ci, .slice V.al n2 V.cl, .slice V.ao n3 V.co, .slice V.ab n4 V.cb, .slice V.ac n5 V.cc, .slice V.ag n6 V.cg, .slice V.ay V.ny V.cy, .string V.cm] #[.bool bb, .int .i64 mx, .int .i64 (n1 : Nat), .int .i64 (n2 : Nat), .int .i64 (n3 : Nat), .int .i64 (n6 : Nat), .int .i64 (n4 : Nat), .int .i64 (n5 : Nat)] 27 77
 obtain ⟨z0, z1, z2, z3, z4, z5, z6, z7⟩ := blk8' hB
 exact bodyPost_ret (v := .agg #[.bool bb, .int .i64 mx, .int .i64 (n1 : Nat), .int .i64 (n2 : Nat), .int .i64 (n3 : Nat), .int .i64 (n6 : Nat), .int .i64 (n4 : Nat), .int .i64 (n5 : Nat)]) (by simp [results, Tryz.results32, go_sem, z0, z1, z2, z3, z4, z5, z6, z7]) rfl ⟨rfl, HK.out _ _ _ _⟩

end Go.Proofs.YtghlklcolepfmaaGreatDoor

/-
  latchetref47.Names.
-/
namespace Go.Proofs.YtghlklcolepfmaaGreatDoor
open Go.RowKit

def namesK (Y : List (Int × Int × ByteArray)) (kind k : Nat) : List ByteArray := (List.range k).map (symName Y kind)
theorem namesK_succ (Y : List (Int × Int × ByteArray)) (kind k : Nat) : namesK Y kind (k + 1) = namesK Y kind k ++ [symName Y kind k] := by
 unfold namesK; rw [List.range_succ, List.map_append]; rfl
theorem namesK_len (Y : List (Int × Int × ByteArray)) (kind k : Nat) : (namesK Y kind k).length = k := by unfold namesK; simp
def cntN (C : Circ) (kind : Nat) : Nat := (cnt (hdOf C false) kind).toNat
theorem cntN_eq (C : Circ) (kind : Nat) : cnt (hdOf C false) kind = (cntN C kind : Int) := by
 unfold cntN cnt hdOf
 simp only
 split
 ·simp
 ·split
  ·simp
  ·split
   ·simp
   ·split
    ·simp
    ·split <;> simp
theorem cntN_le {C : Circ} {m : Nat} (hf : CFew C m) (kind : Nat) : cntN C kind ≤ m := by
 have := hf.i
 have := hf.l
 have := hf.o
 have := hf.b
 have := hf.c
 unfold cntN cnt hdOf
 simp only
 split
 ·simpa
 ·split
  ·simpa
  ·split
   ·simpa
   ·split
    ·simpa
    ·split <;> simp
     omega
theorem cntN_kind {C : Circ} {kind : Nat} (h : 0 < cntN C kind) : isKind kind := by
 refine Classical.byContradiction fun hn => ?_
 have := cnt_none (h := hdOf C false) hn
 unfold cntN at h
 rw [this] at h
 exact absurd h (by decide)

set_option maxRecDepth 100000 in
set_option maxHeartbeats 4000000 in
theorem ref47_Names (V : CV) (C : Circ) (Y : List (Int × Int × ByteArray)) (kind : Nat) (w : World) (hY : SyAt w V Y) (hf : CFew C 1000000) (hk : kind < 256) (hy : V.ny ≤ 1000000) :
  Calls Tryz.prog 12 #[.agg (cvals V C), .int .u8 kind] w fun e w' => ∃ v, e = .returned v ∧ Own w' w.heap.size 9 v (strs (namesK Y kind (cntN C kind))) ∧ Kp (fun _ => False) w w' := by
 have HIs := Lib.hid strInfo
 obtain ⟨wz, hwz⟩ : ∃ wz : World, wz = w.alloc (.cells (cvals V C) 27) := ⟨_, rfl⟩
 have HK0 := Lib.hid (show Kp (fun _ => False) w wz by rw [hwz]; exact (Kp.refl _ w).alloc _)
 have HC0 := Lib.hid (show Blk wz w.heap.size #[.int .i64 C.max, .slice V.ai C.ins.length V.ci, .slice V.al C.lats.length V.cl, .slice V.ao C.outs.length V.co, .slice V.ab C.bads.length V.cb, .slice V.ac C.cons.length V.cc, .slice V.ag C.gates.length V.cg, .slice V.ay V.ny V.cy, .string V.cm] 27 by rw [hwz]; exact Blk.new w (cvals V C) _)
 have HB := Lib.hid (fun u (hu : Kp (fun _ => False) wz u) => Blk.cells9 (HC0.out.kp hu (fun h => h)))
 have HZ := Lib.hid hwz
 have HHd := Lib.hid (fun u => ref13_HeadOfA V C false u)
 obtain ⟨H, hH⟩ : ∃ H, hdOf C false = H := ⟨_, rfl⟩
 obtain ⟨n, hn⟩ : ∃ n, cntN C kind = n := ⟨_, rfl⟩
 have HCt := Lib.hid (fun u => ref12_Count (hdOf C false) kind u)
 have hn1 := cntN_le hf kind
 rw [cntN_eq, hn, hH] at HCt
 rw [hn] at hn1 ⊢
 rw [hH] at HHd
 have HDc := Lib.hid (fun (i : Nat) (hi : i < n) u => ref_Dec (i : Int) u (by omega) (by omega))
 have HLe := Lib.hid (fun (i : Nat) (hi : i < n) => itoaLen (n := (i : Int)) (by omega) (by omega))
 have HYY := Lib.hid (hY.kp HK0.out)
 have HLn := Lib.hid hY.len
 obtain ⟨ny, hny⟩ : ∃ k, V.ny = k := ⟨_, rfl⟩
 rw [hny] at HLn hy
 have hone := fun u => one_string_v (V := (kind : Int)) (E := kind) hk rfl u
 have HOk := Lib.hid (fun (u w1 : World) (hK : Kp (fun _ => False) (u.alloc (.cells #[.int .u8 (kind : Int)] 5)).drew w1) => one_kept (V := (kind : Int)) hk rfl hK)
 have HOne := Lib.hid hone
 unfold cvals at HHd HZ ⊢
 rw [hny] at HHd HZ HB ⊢
 clear hY hf hH hn hwz HC0 hny hone
 go_enter Tryz.func12, Tryz.ntmps12
 go_upto_region 1 with fail
 rw [← HZ.out]
 clear HZ
 go_wp2_with fail
 go_loopw [5, 6] (fun v5 v6 wr => ∃ i : Nat, v6 = .int .i64 i ∧ i ≤ n ∧ Own wr wz.heap.size 9 v5 (strs (namesK Y kind i)) ∧ Kp (fun _ => False) wz wr) (fun _ v6 _ => n - (intOf v6).toNat)
 case atStart => exact ⟨0, rfl, Nat.zero_le _, Own.lit (cs := []) (Blk.new wz #[] _) (Nat.le_refl _) (by decide), (Kp.refl _ wz).alloc _⟩
 case round =>
  obtain ⟨i, rfl, hi, hO, hK⟩ := hrel
  obtain ⟨wp, rfl⟩ : ∃ wp : World, wp = wr := ⟨_, rfl⟩
  have HO := Lib.hid hO
  have HK := Lib.hid hK
  obtain ⟨d0, d1, d2, d3, d4, d5, d6, d7, d8⟩ := HB.out _ hK
  clear hO hK
  by_cases hlt : i < n
  ·go_upto_region 5 with (first
    |(go_at_call 34; with_reducible refine Calls.mono (HHd.out _) ?_; rintro e w1 ⟨rfl, hK1⟩; have HK1 := Lib.hid hK1; clear hK1)
    |(go_at_call 33; with_reducible refine Calls.mono (HCt.out _) ?_; rintro e w2 ⟨rfl, hK2⟩; have HK2 := Lib.hid (HK1.out.trans hK2 (fun _ _ h => h)); clear hK2))
   clear d0 d1 d2 d3 d4 d5 d6 d7 d8
   have HDi := Lib.hid (HDc.out i hlt)
   have hcv := HOne.out w2
   have hcd := HOk.out w2 _ (Kp.refl _ (w2.alloc (.cells #[.int .u8 (kind : Int)] 5)).drew)
   have hle := HLe.out i hlt
   have hlen : ¬ 9223372036854775807 < 1 + (Lib.itoa (i : Int)).length := by omega
   have HS : Hid ((⟨#[UInt8.ofNat kind]⟩ : ByteArray) ++ ⟨(Lib.itoa (i : Int)).toArray⟩ = ⟨(UInt8.ofNat kind :: Lib.itoa (i : Int)).toArray⟩) := Lib.hid (cat_bytes [UInt8.ofNat kind] _)
   go_cut [7, 8] from 19 to 25 (fun s7 s8 wx => s7 = .string ⟨(UInt8.ofNat kind :: Lib.itoa (i : Int)).toArray⟩ ∧ s8 = .bool false ∧ Kp (fun _ => False) w2 wx)
   case first =>
    go_region_with (go_at_call 35; refine (HDi.out _).mono ?_; rintro e w3 ⟨rfl, hK3⟩; have hcx := HOne.out w3; try have hcw := HOk.out _ _ hK3)
    all_goals (go_wp2_with fail)
    all_goals go_meet
    ·exact ⟨congrArg Value.string HS.out, rfl, (((Kp.refl _ w2).alloc _).drew).trans hK3 (fun _ _ h => h)⟩
    ·exact ⟨congrArg Value.string HS.out, rfl, (((Kp.refl _ w2).alloc _).drew).trans hK3 (fun _ _ h => h)⟩
    ·exact ⟨congrArg Value.string HS.out, rfl, (((Kp.refl _ w2).drew).trans hK3 (fun _ _ h => h)).alloc _⟩
   case rest =>
    obtain ⟨rfl, rfl, hKc⟩ := hcut
    have HKo := Lib.hid (HK2.out.trans hKc (fun _ _ h => h))
    have HKc := Lib.hid (HK.out.trans HKo.out (fun _ _ h => h))
    obtain ⟨-, -, -, -, -, -, -, d7, -⟩ := HB.out _ HKc.out
    have HOc := Lib.hid (HO.out.kp HKo.out (fun _ _ h => h))
    have HYc := Lib.hid (HYY.out.kp HKc.out)
    obtain ⟨nm, hnm⟩ : ∃ s : ByteArray, (⟨(UInt8.ofNat kind :: Lib.itoa (i : Int)).toArray⟩ : ByteArray) = s := ⟨_, rfl⟩
    have HMs := Lib.hid (fun hn => (symName_miss (Y := Y) (kind := kind) (i := i) hn).trans hnm)
    rw [hnm]
    clear hKc hcv hcd hle hlen HS hnm HDi
    go_upto_block 2 with fail
    go_cut [7] from 25 to 60 (fun s7 wx => s7 = .string (symName Y kind i) ∧ wc = wx)
    case first =>
     go_wp2_with fail
     go_loop [7, 8, 9] (fun v7 v8 v9 => ∃ k : Nat, v9 = .int .i64 k ∧ k ≤ ny ∧ ((v8 = .bool false ∧ v7 = .string nm ∧ ∀ j, j < k → ¬ hitS Y kind i j) ∨ (v8 = .bool true ∧ v7 = .string (symName Y kind i)))) (fun _ _ v9 => ny - (intOf v9).toNat)
     case atStart => exact ⟨0, rfl, Nat.zero_le _, .inl ⟨rfl, rfl, fun j hj => by omega⟩⟩
     case round =>
      obtain ⟨k, rfl, hk2, hh⟩ := hrel
      rcases hh with ⟨rfl, rfl, hno⟩ | ⟨rfl, rfl⟩
      ·have HNo := Lib.hid hno
       clear hno
       by_cases hkl : k < ny
       ·obtain ⟨b, off, ea, e0, e1, e2⟩ := HYc.out.at (k := k) (by rw [HLn.out]; exact hkl)
        obtain ⟨x0, hx0⟩ : ∃ x, (sK Y k).1 = x := ⟨_, rfl⟩
        obtain ⟨x1, hx1⟩ : ∃ x, (sK Y k).2.1 = x := ⟨_, rfl⟩
        obtain ⟨x2, hx2⟩ : ∃ x, (sK Y k).2.2 = x := ⟨_, rfl⟩
        have HHt := Lib.hid (show hitS Y kind i k ↔ x0 = (kind : Int) ∧ x1 = (i : Int) by unfold hitS; rw [hx0, hx1])
        have HX2 := Lib.hid hx2
        rw [hx0] at e0
        rw [hx1] at e1
        rw [hx2] at e2
        rw [ea] at d7
        clear hx0 hx1 hx2 ea
        by_cases hA : x0 = (kind : Int)
        ·by_cases hBt : x1 = (i : Int)
         ·have HN := Lib.hid ((symName_hit (Y := Y) (kind := kind) (i := i) (k := k) (by rw [HLn.out]; exact hkl) HNo.out (HHt.out.2 ⟨hA, hBt⟩)).trans HX2.out)
          have q1 : ((x0 : Int) == (kind : Int)) = true := by simp [hA]
          have q2 : ((x1 : Int) == (i : Int)) = true := by simp [hBt]
          clear hA hBt HNo HHt
          go_wp2_with fail
          go_round
          case rel => exact ⟨k + 1, by go_num, by omega, .inr ⟨rfl, by rw [HN.out]⟩⟩
          case measure => simp [intOf]; omega
         ·have HN := Lib.hid (show ∀ j, j < k + 1 → ¬ hitS Y kind i j from fun j hj => by
           by_cases e : j = k
           ·subst e; exact fun h => hBt (HHt.out.1 h).2
           ·exact HNo.out j (by omega))
          have q1 : ((x0 : Int) == (kind : Int)) = true := by simp [hA]
          have q2 : ((x1 : Int) == (i : Int)) = false := by simp [hBt]
          clear hA hBt HNo HHt
          go_wp2_with fail
          go_round
          case rel => exact ⟨k + 1, by go_num, by omega, .inl ⟨rfl, rfl, HN.out⟩⟩
          case measure => simp [intOf]; omega
        ·have HN := Lib.hid (show ∀ j, j < k + 1 → ¬ hitS Y kind i j from fun j hj => by
          by_cases e : j = k
          ·subst e; exact fun h => hA (HHt.out.1 h).1
          ·exact HNo.out j (by omega))
         have q1 : ((x0 : Int) == (kind : Int)) = false := by simp [hA]
         clear hA HNo HHt
         go_wp2_with fail
         go_round
         case rel => exact ⟨k + 1, by go_num, by omega, .inl ⟨rfl, rfl, HN.out⟩⟩
         case measure => simp [intOf]; omega
       ·have HN := Lib.hid (HMs.out (fun j hj => HNo.out j (by rw [HLn.out] at hj; omega)))
        go_wp2_with fail
        go_meet
        exact ⟨congrArg Value.string HN.out.symm, rfl⟩
      ·by_cases hkl : k < ny
       ·go_wp2_with fail
        go_meet
        exact ⟨rfl, rfl⟩
       ·go_wp2_with fail
        go_meet
        exact ⟨rfl, rfl⟩
    case rest =>
     obtain ⟨rfl, rfl⟩ := hcut
     have HSn := Lib.hid (show strs (namesK Y kind (i + 1)) = strs (namesK Y kind i) ++ [.string (symName Y kind i)] by rw [namesK_succ, strs_snoc])
     obtain ⟨s, hs⟩ : ∃ s, symName Y kind i = s := ⟨_, rfl⟩
     rw [hs] at HSn ⊢
     have HLi := Lib.hid (show (strs (namesK Y kind i)).length = i by rw [strs_length, namesK_len])
     have HOw := Lib.hid (HOc.out.alloc (.cells #[.string s] 9))
     have HNew := Lib.hid (Blk.new wc #[.string s] 9)
     clear hs HMs d7
     go_wp2_with (at_builtin; refine wpList_append1_at rfl _ _ 38 9 rfl Tryz.underlying38 HIs.out rfl HOw.out rfl ⟨wc.heap.size, 0, none⟩ (.string s) rfl (HNew.out.cell rfl) rfl ?d1 ?d2 ?d3 ?_)
     case d1 => rw [HLi.out]; omega
     case d2 => rw [HLi.out]; unfold maxLen; omega
     case d3 => have := HKc.out.size; simp; omega
     intro v' w5 hO5 hg5 hat5
     have HR5 := Lib.hid (show Own w5 wz.heap.size 9 v' (strs (namesK Y kind (i + 1))) ∧ Kp (fun _ => False) wz w5 from ⟨by rw [HSn.out]; exact hO5, (HKc.out.alloc _).grown hg5 (fun j hj hl => by have := (HO.out.lt j hj).1; omega)⟩)
     clear hO5 hg5 hat5 HNew HOw
     go_wp2_with fail
     go_roundw
     case rel => exact ⟨i + 1, by go_num, by omega, HR5.out⟩
     case measure => simp [intOf]; omega
  ·obtain rfl : i = n := by omega
   go_wp2_with (first
    |(go_at_call 34; with_reducible refine Calls.mono (HHd.out _) ?_; rintro e w1 ⟨rfl, hK1⟩; have HK1 := Lib.hid (HK.out.trans hK1 (fun _ _ h => h)); have HO1 := Lib.hid (HO.out.kp hK1 (fun _ _ h => h)); clear hK1)
    |(go_at_call 33; with_reducible refine Calls.mono (HCt.out _) ?_; rintro e w2 ⟨rfl, hK2⟩; have HK2 := Lib.hid (HK0.out.trans (HK1.out.trans hK2 (fun _ _ h => h)) (fun _ _ h => h)); have HO2 := Lib.hid (HO1.out.kp hK2 (fun _ _ h => h)); clear hK2))
   go_ret
   exact ⟨_, rfl, HO2.out.mono HK0.out.size, HK2.out⟩

end Go.Proofs.YtghlklcolepfmaaGreatDoor

/-
  trace.Names. (Printed by mktrnames.py.)
-/
namespace Go.Proofs.YtghlklcolepfmaaGreatDoor
open Go.RowKit

set_option maxHeartbeats 1000000 in
theorem names_test (x0 x1 : Int) (x2 : ByteArray) (kind i : Nat) (bk bi : Nat) (w : World) (r : Bool) (hk : w.cell? ⟨bk, 0, none⟩ = some (.int .u8 (kind : Int))) (hi : w.cell? ⟨bi, 0, none⟩ = some (.int .i64 (i : Int))) (hr : r = true ↔ x0 = (kind : Int) ∧ x1 = (i : Int)) :
  Calls Tryz.prog 29 #[.agg #[.int .u8 x0, .int .i64 x1, .string x2], .pointer (some ⟨bk, 0, none⟩), .pointer (some ⟨bi, 0, none⟩)] w fun e w' => e = .returned (.bool r) ∧ Kp (fun _ => False) w w' := by
 obtain ⟨wz, hwz⟩ : ∃ wz : World, wz = w.alloc (.cells #[.int .u8 x0, .int .i64 x1, .string x2] 72) := ⟨_, rfl⟩
 have HK0 := Lib.hid (show Kp (fun _ => False) w wz by rw [hwz]; exact (Kp.refl _ w).alloc _)
 have hB : Blk wz w.heap.size #[.int .u8 x0, .int .i64 x1, .string x2] 72 := by rw [hwz]; exact Blk.new _ _ _
 have c0 := hB.cell (i := 0) (v := .int .u8 x0) rfl
 have c1 := hB.cell (i := 1) (v := .int .i64 x1) rfl
 have ck := HK0.out.cellK hk
 have ci := HK0.out.cellK hi
 have HZ := Lib.hid hwz
 have HR := Lib.hid hr
 clear hwz hB hk hi hr
 by_cases h0 : x0 = (kind : Int)
 ·by_cases h1 : x1 = (i : Int)
  ·obtain rfl : r = true := HR.out.2 ⟨h0, h1⟩
   have q0 : ((x0 : Int) == (kind : Int)) = true := by simp [h0]
   have q1 : ((x1 : Int) == (i : Int)) = true := by simp [h1]
   clear h0 h1
   go_enter Tryz.func29, Tryz.ntmps29
   go_upto_region 1 with fail
   rw [← HZ.out]
   go_wp2_with fail
   go_ret
   exact ⟨rfl, HK0.out⟩
  ·obtain rfl : r = false := by cases r with | false => rfl | true => exact absurd (HR.out.1 rfl).2 h1
   have q0 : ((x0 : Int) == (kind : Int)) = true := by simp [h0]
   have q1 : ((x1 : Int) == (i : Int)) = false := by simp [h1]
   clear h0 h1
   go_enter Tryz.func29, Tryz.ntmps29
   go_upto_region 1 with fail
   rw [← HZ.out]
   go_wp2_with fail
   go_ret
   exact ⟨rfl, HK0.out⟩
 ·obtain rfl : r = false := by cases r with | false => rfl | true => exact absurd (HR.out.1 rfl).1 h0
  have q0 : ((x0 : Int) == (kind : Int)) = false := by simp [h0]
  clear h0
  go_enter Tryz.func29, Tryz.ntmps29
  go_upto_region 1 with fail
  rw [← HZ.out]
  go_wp2_with fail
  go_ret
  exact ⟨rfl, HK0.out⟩

def IdxP (Y : List (Int × Int × ByteArray)) (kind i : Nat) (r : Int) : Prop :=
  (∃ k : Nat, r = (k : Int) ∧ k < Y.length ∧ hitS Y kind i k ∧ ∀ j, j < k → ¬ hitS Y kind i j) ∨ (r = -1 ∧ ∀ j, j < Y.length → ¬ hitS Y kind i j)

set_option maxRecDepth 100000 in
set_option maxHeartbeats 2000000 in
theorem names_idx (V : CV) (Y : List (Int × Int × ByteArray)) (kind i : Nat) (bk bi : Nat) (w : World) (hY : SyAt w V Y) (hy : V.ny ≤ 1000000) (hk : w.cell? ⟨bk, 0, none⟩ = some (.int .u8 (kind : Int))) (hi : w.cell? ⟨bi, 0, none⟩ = some (.int .i64 (i : Int))) :
  Calls Tryz.prog 28 #[.slice V.ay V.ny V.cy, .func (.func 29) #[] #[.pointer (some ⟨bk, 0, none⟩), .pointer (some ⟨bi, 0, none⟩)]] w fun e w' => ∃ r : Int, e = .returned (.int .i64 r) ∧ IdxP Y kind i r ∧ Kp (fun _ => False) w w' := by
 have HY := Lib.hid hY
 have HLn := Lib.hid hY.len
 obtain ⟨ny, hny⟩ : ∃ k, V.ny = k := ⟨_, rfl⟩
 rw [hny] at HLn hy ⊢
 have HTs := Lib.hid (fun u (hu : Kp (fun _ => False) w u) x0 x1 x2 r hr => names_test x0 x1 x2 kind i bk bi u r (hu.cellK hk) (hu.cellK hi) hr)
 clear hY hny hk hi
 go_enter Tryz.func28, Tryz.ntmps28
 go_wp2_with fail
 go_loopw [8] (fun v8 wr => ∃ k : Nat, v8 = .int .i64 k ∧ k ≤ ny ∧ (∀ j, j < k → ¬ hitS Y kind i j) ∧ Kp (fun _ => False) w wr) (fun v8 _ => ny - (intOf v8).toNat)
 case atStart => exact ⟨0, rfl, Nat.zero_le _, (fun j hj => by omega), Kp.refl _ _⟩
 case round =>
  obtain ⟨k, rfl, hk, hno, hK⟩ := hrel
  obtain ⟨wp, rfl⟩ : ∃ wp : World, wp = wr := ⟨_, rfl⟩
  have HNo := Lib.hid hno
  have HK := Lib.hid hK
  clear hno hK
  by_cases hlt : k < ny
  ·obtain ⟨b, off, ea, e0, e1, e2⟩ := (HY.out.kp HK.out).at (k := k) (by rw [HLn.out]; exact hlt)
   obtain ⟨x0, hx0⟩ : ∃ x, (sK Y k).1 = x := ⟨_, rfl⟩
   obtain ⟨x1, hx1⟩ : ∃ x, (sK Y k).2.1 = x := ⟨_, rfl⟩
   obtain ⟨x2, hx2⟩ : ∃ x, (sK Y k).2.2 = x := ⟨_, rfl⟩
   have HHt := Lib.hid (show hitS Y kind i k ↔ x0 = (kind : Int) ∧ x1 = (i : Int) by unfold hitS; rw [hx0, hx1])
   rw [hx0] at e0
   rw [hx1] at e1
   rw [hx2] at e2
   rw [ea]
   clear hx0 hx1 hx2 ea
   by_cases hh : hitS Y kind i k
   ·have HTt := Lib.hid (HTs.out wp HK.out x0 x1 x2 true ⟨fun _ => HHt.out.1 hh, fun _ => rfl⟩)
    have HH := Lib.hid (show IdxP Y kind i (k : Int) from .inl ⟨k, rfl, by rw [HLn.out]; exact hlt, hh, HNo.out⟩)
    clear hh HHt
    go_wp2_with (go_at_call 29; with_reducible refine Calls.mono HTt.out ?_; rintro e w1 ⟨rfl, hK1⟩; have HK1 := Lib.hid (HK.out.trans hK1 (fun _ _ h => h)); clear hK1)
    go_ret
    exact ⟨_, rfl, HH.out, HK1.out⟩
   ·have HTt := Lib.hid (HTs.out wp HK.out x0 x1 x2 false ⟨fun h => (by cases h), fun h => absurd (HHt.out.2 h) hh⟩)
    have HN := Lib.hid (show ∀ j, j < k + 1 → ¬ hitS Y kind i j from fun j hj => by
     by_cases e : j = k
     ·subst e; exact hh
     ·exact HNo.out j (by omega))
    clear hh HHt
    go_wp2_with (go_at_call 29; with_reducible refine Calls.mono HTt.out ?_; rintro e w1 ⟨rfl, hK1⟩; have HK1 := Lib.hid (HK.out.trans hK1 (fun _ _ h => h)); clear hK1)
    go_roundw
    case rel => exact ⟨k + 1, by go_num, by omega, HN.out, HK1.out⟩
    case measure => simp [intOf]; omega
  ·have HH := Lib.hid (show IdxP Y kind i (-1) from .inr ⟨rfl, fun j hj => HNo.out j (by rw [HLn.out] at hj; omega)⟩)
   go_wp2_with fail
   go_ret
   exact ⟨_, rfl, HH.out, HK.out⟩

theorem kind_utf8 {kind : Nat} (h : isKind kind) : Utf8.encode (kind : Int) = ⟨#[UInt8.ofNat kind]⟩ := by
 rcases h with rfl | rfl | rfl | rfl | rfl <;> rfl

set_option maxRecDepth 100000 in
set_option maxHeartbeats 4000000 in
theorem names_one (V : CV) (Y : List (Int × Int × ByteArray)) (kind ix : Nat) (bc bk : Nat) (w : World) (hY : SyAt w V Y) (hy : V.ny ≤ 1000000) (hkd : isKind kind) (hi1 : ix ≤ 1000000) (hc : w.cell? ⟨bc, 7, none⟩ = some (.slice V.ay V.ny V.cy)) (hk : w.cell? ⟨bk, 0, none⟩ = some (.int .u8 (kind : Int))) (ht : Tab w) :
  Calls Tryz.prog 27 #[.int .i64 ix, .pointer (some ⟨bc, 0, none⟩), .pointer (some ⟨bk, 0, none⟩)] w fun e w' => e = .returned (.string (symName Y kind ix)) ∧ Kp (fun _ => False) w w' := by
 obtain ⟨wz, hwz⟩ : ∃ wz : World, wz = w.alloc (.cells #[.int .i64 (ix : Int)] 3) := ⟨_, rfl⟩
 have HK0 := Lib.hid (show Kp (fun _ => False) w wz by rw [hwz]; exact (Kp.refl _ w).alloc _)
 obtain ⟨bi, hbi⟩ : ∃ b, w.heap.size = b := ⟨_, rfl⟩
 have HII := Lib.hid (show wz.cell? ⟨bi, 0, none⟩ = some (.int .i64 (ix : Int)) by rw [hwz, ← hbi]; exact World.cell?_alloc_at _ _ _ _ rfl)
 have c7 := HK0.out.cellK hc
 have HC := Lib.hid c7
 have HKk := Lib.hid (HK0.out.cellK hk)
 have HYz := Lib.hid (hY.kp HK0.out)
 have HLn := Lib.hid hY.len
 have HT := Lib.hid (ht.kp HK0.out)
 have HIx := Lib.hid (names_idx V Y kind ix bk bi wz HYz.out hy HKk.out HII.out)
 have HEn := Lib.hid (kind_utf8 hkd)
 obtain ⟨KS, hKS⟩ : ∃ s : ByteArray, (⟨#[UInt8.ofNat kind]⟩ : ByteArray) = s := ⟨_, rfl⟩
 rw [hKS] at HEn
 have HKS := Lib.hid hKS
 have hks : KS.size ≤ 1 := by rw [← hKS]; exact Nat.le_refl _
 have HZ := Lib.hid hwz
 have hle := itoaLen (n := (ix : Int)) (by omega) (by omega)
 obtain ⟨nm, hnm⟩ : ∃ s, symName Y kind ix = s := ⟨_, rfl⟩
 rw [hnm]
 have HNm := Lib.hid hnm
 clear hY hc hk ht hwz hkd hKS hnm
 go_enter Tryz.func27, Tryz.ntmps27
 go_upto_region 1 with fail
 rw [← HZ.out]
 clear HZ
 go_upto_region 2 with (go_at_call 28; with_reducible refine Calls.mono HIx.out ?_; rintro e w1 ⟨r, rfl, hr, hK1⟩; have HR := Lib.hid hr; have HK1 := Lib.hid hK1; clear hr hK1)
 clear c7
 have c7 := HK1.out.cellK HC.out
 rcases HR.out with ⟨k, rfl, hk, hh, hno⟩ | ⟨rfl, hno⟩
 ·obtain ⟨b, off, ea, e0, e1, e2⟩ := (HYz.out.kp HK1.out).at hk
  have HS := Lib.hid ((symName_hit hk hno hh).symm.trans HNm.out)
  rw [HS.out] at e2
  rw [ea] at c7
  have q0 : (0 : Int) ≤ (k : Int) := by omega
  have q1 : (k : Int) < (V.ny : Int) := by have := HLn.out; omega
  have HKf := Lib.hid (HK0.out.trans HK1.out (fun _ _ h => h))
  clear hk hh hno ea e0 e1 HR
  go_wp2_with fail
  go_ret
  exact ⟨rfl, HKf.out⟩
 ·have HS := Lib.hid ((symName_miss hno).symm.trans HNm.out)
  obtain ⟨DS, hDS⟩ : ∃ s : ByteArray, (⟨(Lib.itoa (ix : Int)).toArray⟩ : ByteArray) = s := ⟨_, rfl⟩
  have hds : DS.size ≤ 21 := by rw [← hDS, ba_list]; exact hle
  have HDc := Lib.hid (fun u (hu : Kp (fun _ => False) w1 u) => show Calls Tryz.prog 30 #[.int .i64 (ix : Int)] u fun e w' => e = .returned (.string DS) ∧ Kp (fun _ => False) u w' from by
   have h := octet_Dec (ix : Int) u (by omega) (by omega) (HT.out.kp (HK1.out.trans hu (fun _ _ h => h)))
   rw [hDS] at h
   exact h)
  obtain ⟨NM, hNM⟩ : ∃ s : ByteArray, KS ++ DS = s := ⟨_, rfl⟩
  have HA1 := Lib.hid (fun (u : World) => show (Op.stringOp .add KS DS).run Tryz.prog u = .ok (.string NM) u by
   rw [← hNM]
   exact run_string_add_sum _ _ _ (by omega))
  have HN2 := Lib.hid (show NM = nm by rw [← hNM, ← HKS.out, ← hDS, ← HS.out]; exact cat_bytes [UInt8.ofNat kind] _)
  have HKd := Lib.hid (HK1.out.cellK HKk.out)
  have HIi := Lib.hid (HK1.out.cellK HII.out)
  clear hno hDS hds hNM c7 HR hle hks
  go_upto_region 4 with fail
  refine wp_region_loose (p := upTo 5) (V := atV [EqV (.int .u8 (kind : Int)), EqV (.string KS), EqV (.int .i64 (ix : Int)), EqV (.string DS), EqV (.string NM)]) (LP := #[true, true, true, true, true, false]) (K := 1) (by kernel_rfl) (by kernel_rfl) (atV_st ?hstL4) ?hstepL4 (by kernel_rfl) ?hLPL4 (by kernel_rfl) ?hendL4
  case hstL4 =>
   intro W h
   simp only [List.mem_cons, List.not_mem_nil, or_false] at h
   rcases h with rfl | rfl | rfl | rfl | rfl <;> first | exact EqV.st _ | exact EqV.st _
  case hLPL4 => exact upTo_spec (by kernel_rfl)
  case hstepL4 =>
   intro i o ho hp a u hk hoff hdep
   have e2 : a.tmps[2]?.getD undef = (.pointer (some ⟨bk, 0, none⟩)) := slot_at (hoff 2 (noDst_spec (by kernel_rfl)))
   have e3 : a.tmps[3]?.getD undef = (.pointer (some ⟨bi, 0, none⟩)) := slot_at (hoff 3 (noDst_spec (by kernel_rfl)))
   clear hoff
   match i, ho with
   |0, ho =>
    obtain rfl := Option.some.inj ho
    have c1 := hk.cellK HKd.out
    refine lw_value (v := .int .u8 (kind : Int)) (u' := u) ?_ (Kp.refl _ _) rfl
    go_simp
   |1, ho =>
    obtain rfl := Option.some.inj ho
    have e18 : a.tmps[18]?.getD undef = .int .u8 (kind : Int) := slot_at (hdep ⟨0, .data⟩ (by simp) rfl _ 18 rfl rfl)
    have h1 := HEn.out
    refine lw_value (v := .string KS) (u' := u) ?_ (Kp.refl _ _) rfl
    go_simp
   |2, ho =>
    obtain rfl := Option.some.inj ho
    have c1 := hk.cellK HIi.out
    refine lw_value (v := .int .i64 (ix : Int)) (u' := u) ?_ (Kp.refl _ _) rfl
    go_simp
   |3, ho =>
    obtain rfl := Option.some.inj ho
    have e20 : a.tmps[20]?.getD undef = .int .i64 (ix : Int) := slot_at (hdep ⟨2, .data⟩ (by simp) rfl _ 20 rfl rfl)
    refine lw_call (f := 30) (args := #[.int .i64 (ix : Int)]) ?_ ?_
    ·go_simp
    ·exact (HDc.out u hk).mono (by
      rintro e u' ⟨rfl, hK⟩
      exact ⟨_, rfl, hK, rfl⟩)
   |4, ho =>
    obtain rfl := Option.some.inj ho
    have e19 : a.tmps[19]?.getD undef = .string KS := slot_at (hdep ⟨1, .data⟩ (by simp) rfl _ 19 rfl rfl)
    have e21 : a.tmps[21]?.getD undef = .string DS := slot_at (hdep ⟨3, .data⟩ (by simp) rfl _ 21 rfl rfl)
    have h1 := HA1.out u
    refine lw_value (v := .string NM) (u' := u) ?_ (Kp.refl _ _) rfl
    go_simp
   |n + 5, _ => exact absurd hp (by simp [upTo])
  case hendL4 =>
   intro a u hI
   have hsz : a.tmps.size = 23 := hI.size
   have hdf : a.defers = [] := hI.defers
   have f0 : a.tmps.getD 0 undef = _ := hI.off 0 (noDst_spec (p := upTo 5) (by kernel_rfl))
   have f1 : a.tmps.getD 1 undef = _ := hI.off 1 (noDst_spec (p := upTo 5) (by kernel_rfl))
   have f2 : a.tmps.getD 2 undef = _ := hI.off 2 (noDst_spec (p := upTo 5) (by kernel_rfl))
   have f3 : a.tmps.getD 3 undef = _ := hI.off 3 (noDst_spec (p := upTo 5) (by kernel_rfl))
   have f4 : a.tmps.getD 4 undef = _ := hI.off 4 (noDst_spec (p := upTo 5) (by kernel_rfl))
   have f5 : a.tmps.getD 5 undef = _ := hI.off 5 (noDst_spec (p := upTo 5) (by kernel_rfl))
   have f6 : a.tmps.getD 6 undef = _ := hI.off 6 (noDst_spec (p := upTo 5) (by kernel_rfl))
   have f7 : a.tmps.getD 7 undef = _ := hI.off 7 (noDst_spec (p := upTo 5) (by kernel_rfl))
   have f8 : a.tmps.getD 8 undef = _ := hI.off 8 (noDst_spec (p := upTo 5) (by kernel_rfl))
   have f9 : a.tmps.getD 9 undef = _ := hI.off 9 (noDst_spec (p := upTo 5) (by kernel_rfl))
   have f10 : a.tmps.getD 10 undef = _ := hI.off 10 (noDst_spec (p := upTo 5) (by kernel_rfl))
   have f11 : a.tmps.getD 11 undef = _ := hI.off 11 (noDst_spec (p := upTo 5) (by kernel_rfl))
   have f12 : a.tmps.getD 12 undef = _ := hI.off 12 (noDst_spec (p := upTo 5) (by kernel_rfl))
   have f13 : a.tmps.getD 13 undef = _ := hI.off 13 (noDst_spec (p := upTo 5) (by kernel_rfl))
   have f14 : a.tmps.getD 14 undef = _ := hI.off 14 (noDst_spec (p := upTo 5) (by kernel_rfl))
   have f15 : a.tmps.getD 15 undef = _ := hI.off 15 (noDst_spec (p := upTo 5) (by kernel_rfl))
   have f16 : a.tmps.getD 16 undef = _ := hI.off 16 (noDst_spec (p := upTo 5) (by kernel_rfl))
   have f17 : a.tmps.getD 17 undef = _ := hI.off 17 (noDst_spec (p := upTo 5) (by kernel_rfl))
   have f18 : a.tmps.getD 18 undef = .int .u8 (kind : Int) := hI.val 0 _ 18 rfl rfl rfl
   have f19 : a.tmps.getD 19 undef = .string KS := hI.val 1 _ 19 rfl rfl rfl
   have f20 : a.tmps.getD 20 undef = .int .i64 (ix : Int) := hI.val 2 _ 20 rfl rfl rfl
   have f21 : a.tmps.getD 21 undef = .string DS := hI.val 3 _ 21 rfl rfl rfl
   have f22 : a.tmps.getD 22 undef = .string NM := hI.val 4 _ 22 rfl rfl rfl
   have ha : a = ⟨#[a.tmps.getD 0 undef, a.tmps.getD 1 undef, a.tmps.getD 2 undef, a.tmps.getD 3 undef, a.tmps.getD 4 undef, a.tmps.getD 5 undef, a.tmps.getD 6 undef, a.tmps.getD 7 undef, a.tmps.getD 8 undef, a.tmps.getD 9 undef, a.tmps.getD 10 undef, a.tmps.getD 11 undef, a.tmps.getD 12 undef, a.tmps.getD 13 undef, a.tmps.getD 14 undef, a.tmps.getD 15 undef, a.tmps.getD 16 undef, a.tmps.getD 17 undef, a.tmps.getD 18 undef, a.tmps.getD 19 undef, a.tmps.getD 20 undef, a.tmps.getD 21 undef, a.tmps.getD 22 undef], a.defers⟩ := act_list a 23 hsz
   rw [hdf, f0, f1, f2, f3, f4, f5, f6, f7, f8, f9, f10, f11, f12, f13, f14, f15, f16, f17, f18, f19, f20, f21, f22] at ha
   have hku := hI.kp
   clear hI hsz hdf f0 f1 f2 f3 f4 f5 f6 f7 f8 f9 f10 f11 f12 f13 f14 f15 f16 f17 f18 f19 f20 f21 f22 
   subst ha
   refine wpAny_tail 5 rfl (by kernel_rfl) ?_
   simp only [List.drop_succ_cons, List.drop_zero]
   have HE := Lib.hid (HK0.out.trans (HK1.out.trans hku (fun _ _ h => h)) (fun _ _ h => h))
   clear hku
   go_wp2_with fail
   go_ret
   exact ⟨congrArg (fun x => Ending.returned (Value.string x)) HN2.out, HE.out⟩

set_option maxRecDepth 100000 in
set_option maxHeartbeats 4000000 in
theorem trace_Names (V : CV) (C : Circ) (Y : List (Int × Int × ByteArray)) (kind : Nat) (w : World) (hY : SyAt w V Y) (hf : CFew C 1000000) (hk : kind < 256) (hy : V.ny ≤ 1000000) (ht : Tab w) :
  Calls Tryz.prog 11 #[.agg (cvals V C), .int .u8 kind] w fun e w' => ∃ v, e = .returned v ∧ Own w' w.heap.size 9 v (strs (namesK Y kind (cntN C kind))) ∧ Kp (fun _ => False) w w' := by
 have HIs := Lib.hid strInfo
 obtain ⟨wz, hwz⟩ : ∃ wz : World, wz = (w.alloc (.cells (cvals V C) 27)).alloc (.cells #[.int .u8 (kind : Int)] 5) := ⟨_, rfl⟩
 have HK0 := Lib.hid (show Kp (fun _ => False) w wz by rw [hwz]; exact ((Kp.refl _ w).alloc _).alloc _)
 have HC0 := Lib.hid (show Blk wz w.heap.size #[.int .i64 C.max, .slice V.ai C.ins.length V.ci, .slice V.al C.lats.length V.cl, .slice V.ao C.outs.length V.co, .slice V.ab C.bads.length V.cb, .slice V.ac C.cons.length V.cc, .slice V.ag C.gates.length V.cg, .slice V.ay V.ny V.cy, .string V.cm] 27 by rw [hwz]; exact (Blk.new w (cvals V C) _).alloc _)
 have HKd := Lib.hid (show Blk wz (w.heap.size + 1) #[.int .u8 (kind : Int)] 5 by rw [hwz]; exact two_blk _ _ _ _ _)
 obtain ⟨d0, d1, d2, d3, d4, d5, d6, d7, d8⟩ := Blk.cells9 HC0.out
 have k0 := HKd.out.cell (i := 0) (v := .int .u8 (kind : Int)) rfl
 have HZ := Lib.hid hwz
 have HHd := Lib.hid (fun u => ascii_HeadOfA V C false u)
 obtain ⟨H, hH⟩ : ∃ H, hdOf C false = H := ⟨_, rfl⟩
 have HKn := Lib.hid (fun (h : 0 < cntN C kind) => cntN_kind h)
 obtain ⟨n, hn⟩ : ∃ n, cntN C kind = n := ⟨_, rfl⟩
 have HCt := Lib.hid (fun u => tail_Count (hdOf C false) kind u)
 have hn1 := cntN_le hf kind
 rw [cntN_eq, hn, hH] at HCt
 rw [hn] at hn1 HKn ⊢
 rw [hH] at HHd
 have HYY := Lib.hid (hY.kp HK0.out)
 have HT := Lib.hid (ht.kp HK0.out)
 have HOn := Lib.hid (fun u (hu : Kp (fun _ => False) wz u) (i : Nat) (hi : i < n) => names_one V Y kind i w.heap.size (w.heap.size + 1) u (HYY.out.kp hu) hy (HKn.out (by omega)) (by omega) ((HC0.out.kp hu (fun h => h)).cell (i := 7) rfl) ((HKd.out.kp hu (fun h => h)).cell rfl) (HT.out.kp hu))
 unfold cvals at HHd HZ ⊢
 clear hY hf hH hn hwz ht hy
 go_enter Tryz.func11, Tryz.ntmps11
 go_upto_region 1 with fail
 rw [← HZ.out]
 clear HZ
 go_upto_region 3 with fail
 go_cut [12, 13] from 9 to 14 (fun s12 s13 wx => s12 = .int .i64 n ∧ s13 = .int .i64 0 ∧ Kp (fun _ => False) wz wx)
 case first =>
  go_region_with (first
   |(go_at_call 32; ((with_reducible refine Calls.mono (HHd.out _) ?_); rintro e w1 ⟨rfl, hK1⟩; have k1 := hK1.cellK k0))
   |(go_at_call 31; ((with_reducible refine Calls.mono (HCt.out _) ?_); rintro e w2 ⟨rfl, hK2⟩)))
  all_goals go_wp2_with fail
  all_goals go_meet
  all_goals exact ⟨rfl, rfl, ((Kp.refl (fun _ => False) wz).drew.trans hK1 (fun _ _ h => h)).trans hK2 (fun _ _ h => h)⟩
 case rest =>
  obtain ⟨rfl, rfl, hKc⟩ := hcut
  have HKc := Lib.hid hKc
  clear hKc d0 d1 d2 d3 d4 d5 d6 d7 d8 k0
  go_wp2_with fail
  go_loopw [6, 13] (fun v6 v13 wr => ∃ i : Nat, v13 = .int .i64 i ∧ i ≤ n ∧ Own wr wz.heap.size 9 v6 (strs (namesK Y kind i)) ∧ Kp (fun _ => False) wz wr) (fun _ v13 _ => n - (intOf v13).toNat)
  case atStart => exact ⟨0, rfl, Nat.zero_le _, Own.nil _ _ _, HKc.out⟩
  case round =>
   obtain ⟨i, rfl, hi, hO, hK⟩ := hrel
   obtain ⟨wp, rfl⟩ : ∃ wp : World, wp = wr := ⟨_, rfl⟩
   have HO := Lib.hid hO
   have HK := Lib.hid hK
   clear hO hK
   by_cases hlt : i < n
   ·have HOi := Lib.hid (HOn.out wp HK.out i hlt)
    have HSn := Lib.hid (show strs (namesK Y kind (i + 1)) = strs (namesK Y kind i) ++ [.string (symName Y kind i)] by rw [namesK_succ, strs_snoc])
    obtain ⟨s, hs⟩ : ∃ s, symName Y kind i = s := ⟨_, rfl⟩
    rw [hs] at HSn HOi
    have HLi := Lib.hid (show (strs (namesK Y kind i)).length = i by rw [strs_length, namesK_len])
    clear hs
    go_wp2_with (first
     |(go_at_call 27; with_reducible refine Calls.mono HOi.out ?_; rintro e w1 ⟨rfl, hK1⟩; have HK1 := Lib.hid (HK.out.trans hK1 (fun _ _ h => h)); have HOw := Lib.hid ((HO.out.kp hK1 (fun _ _ h => h)).alloc (.cells #[.string s] 9)); have HNew := Lib.hid (Blk.new w1 #[.string s] 9); clear hK1)
     |(at_builtin; refine wpList_append1_at rfl _ _ 38 9 rfl Tryz.underlying38 HIs.out rfl HOw.out rfl ⟨w1.heap.size, 0, none⟩ (.string s) rfl (HNew.out.cell rfl) rfl ?d1 ?d2 ?d3 ?_))
    case d1 => rw [HLi.out]; omega
    case d2 => rw [HLi.out]; unfold maxLen; omega
    case d3 => have := HK1.out.size; simp; omega
    intro v' w5 hO5 hg5 hat5
    have HR5 := Lib.hid (show Own w5 wz.heap.size 9 v' (strs (namesK Y kind (i + 1))) ∧ Kp (fun _ => False) wz w5 from ⟨by rw [HSn.out]; exact hO5, (HK1.out.alloc _).grown hg5 (fun j hj hl => by have := (HO.out.lt j hj).1; omega)⟩)
    clear hO5 hg5 hat5 HNew HOw
    go_wp2_with fail
    go_roundw
    case rel => exact ⟨i + 1, by go_num, by omega, HR5.out⟩
    case measure => simp [intOf]; omega
   ·obtain rfl : i = n := by omega
    have HE := Lib.hid (HK0.out.trans HK.out (fun _ _ h => h))
    have HOe := Lib.hid (HO.out.mono HK0.out.size)
    go_wp2_with fail
    go_ret
    exact ⟨_, rfl, HOe.out, HE.out⟩

end Go.Proofs.YtghlklcolepfmaaGreatDoor

/-
  Which latches change, plainly.
-/
namespace Go.Proofs.YtghlklcolepfmaaGreatDoor
open Go.RowKit

def nK (N : List ByteArray) (k : Nat) : ByteArray := N[k]?.getD ⟨#[]⟩
theorem nK_at {N : List ByteArray} {k : Nat} (h : k < N.length) : (strs N)[k]? = some (.string (nK N k)) := by
 unfold strs nK
 rw [List.getElem?_map, List.getElem?_eq_getElem h]; rfl

def chWord (N : List ByteArray) (b : Bool) (i : Nat) : List UInt8 := (if b then 43 else 45) :: (nK N i).data.toList
def chW (N : List ByteArray) (a b : List Bool) (i : Nat) : List (List UInt8) := (List.range i).filterMap (fun j => if vb b j = vb a j then none else some (chWord N (vb b j) j))

theorem chW_same {N : List ByteArray} {a b : List Bool} {i : Nat} (h : vb b i = vb a i) : chW N a b (i + 1) = chW N a b i := by
 unfold chW
 rw [List.range_succ, List.filterMap_append]
 simp [h]
theorem chW_new {N : List ByteArray} {a b : List Bool} {i : Nat} (h : ¬ vb b i = vb a i) : chW N a b (i + 1) = chW N a b i ++ [chWord N (vb b i) i] := by
 unfold chW
 rw [List.range_succ, List.filterMap_append]
 simp [h]
theorem chW_ne {N : List ByteArray} {a b : List Bool} {i : Nat} : ∀ w ∈ chW N a b i, w ≠ [] := by
 intro w hw
 unfold chW at hw
 obtain ⟨j, _, hj⟩ := List.mem_filterMap.1 hw
 split at hj
 ·cases hj
 ·rw [← Option.some.inj hj]; unfold chWord; simp
theorem jn_one_more {L : List (List UInt8)} (x : List UInt8) (h : L ≠ []) : jn (L ++ [x]) = jn L ++ 32 :: x := jn_snoc h
theorem jn_nil_iff {L : List (List UInt8)} (h : ∀ w ∈ L, w ≠ []) : jn L = [] ↔ L = [] := by
 constructor
 ·intro hj
  match L, h, hj with
  |[], _, _ => rfl
  |[a], h, hj => exact absurd (by simpa [jn] using hj) (h a (by simp))
  |a :: b :: r, _, hj => simp [jn] at hj
 ·rintro rfl; rfl
theorem jnw_len : ∀ {L : List (List UInt8)} {m : Nat}, (∀ w ∈ L, w.length ≤ m) → (jn L).length ≤ L.length * (m + 1)
 |[], _, _ => by simp [jn]
 |[a], m, h => by
  have := h a (by simp)
  simp [jn]; omega
 |a :: b :: r, m, h => by
  have h1 := h a (by simp)
  have h2 := jnw_len (L := b :: r) (m := m) (fun w hw => h w (by simp only [List.mem_cons] at hw ⊢; exact .inr hw))
  rw [jn, List.length_append, List.length_cons]
  have : (a :: b :: r).length * (m + 1) = (b :: r).length * (m + 1) + (m + 1) := by
   simp only [List.length_cons]; rw [Nat.add_mul]; omega
  omega
theorem chW_len {N : List ByteArray} {a b : List Bool} (i : Nat) : (chW N a b i).length ≤ i := by
 unfold chW
 exact Nat.le_trans (List.length_filterMap_le _ _) (by simp)
theorem chW_word {N : List ByteArray} {a b : List Bool} {i m : Nat} (hN : ∀ x ∈ N, x.size ≤ m) : ∀ w ∈ chW N a b i, w.length ≤ m + 1 := by
 intro w hw
 unfold chW at hw
 obtain ⟨j, _, hj⟩ := List.mem_filterMap.1 hw
 split at hj
 ·cases hj
 ·rw [← Option.some.inj hj]
  unfold chWord nK
  have : (N[j]?.getD ⟨#[]⟩).size ≤ m := by
   cases h : N[j]? with
   |none => exact Nat.zero_le _
   |some x => exact hN x (List.mem_of_getElem? h)
  have e : (N[j]?.getD ⟨#[]⟩).data.toList.length = (N[j]?.getD ⟨#[]⟩).size := by rw [Array.length_toList]; rfl
  rw [List.length_cons, e]
  omega
theorem nK_size {N : List ByteArray} {m : Nat} (hN : ∀ x ∈ N, x.size ≤ m) (j : Nat) : (nK N j).size ≤ m := by
 unfold nK
 cases h : N[j]? with
 |none => exact Nat.zero_le _
 |some x => exact hN x (List.mem_of_getElem? h)

def chT (C : Circ) (N : List ByteArray) (st : List Bool) (rows : List (List Bool)) (k : Nat) : ByteArray := ⟨(jn (chW N (stateM C st rows k) (stateM C st rows (k + 1)) C.lats.length)).toArray⟩
def chK (C : Circ) (N : List ByteArray) (st : List Bool) (rows : List (List Bool)) (k : Nat) : List ByteArray := (List.range k).map (chT C N st rows)
theorem chK_succ (C : Circ) (N : List ByteArray) (st : List Bool) (rows : List (List Bool)) (k : Nat) : chK C N st rows (k + 1) = chK C N st rows k ++ [chT C N st rows k] := by
 unfold chK; rw [List.range_succ, List.map_append]; rfl
theorem chK_len (C : Circ) (N : List ByteArray) (st : List Bool) (rows : List (List Bool)) (k : Nat) : (chK C N st rows k).length = k := by unfold chK; simp

theorem ba_cat (a b : List UInt8) (s : ByteArray) (h : a ++ s.data.toList = b) : (⟨a.toArray⟩ : ByteArray) ++ s = ⟨b.toArray⟩ := by
 rw [← h]
 apply ByteArray.ext
 simp
def sgC (b : Bool) : UInt8 := if b then 43 else 45
theorem ch_first {N : List ByteArray} {a b : List Bool} {i : Nat} {x : Bool} (h0 : chW N a b i = []) (hx : vb b i = x) (h : ¬ vb b i = vb a i) : ((⟨#[]⟩ : ByteArray) ++ ⟨#[sgC x]⟩) ++ nK N i = ⟨(jn (chW N a b (i + 1))).toArray⟩ := by
 rw [chW_new h, h0, List.nil_append]
 have e : ((⟨#[]⟩ : ByteArray) ++ ⟨#[sgC x]⟩) = ⟨([sgC x] : List UInt8).toArray⟩ := ba_cat [] _ _ rfl
 rw [e]
 refine ba_cat _ _ _ ?_
 unfold chWord sgC
 rw [hx]
 rfl
theorem ch_more {N : List ByteArray} {a b : List Bool} {i : Nat} {x : Bool} {s : ByteArray} (hs : s = ⟨(jn (chW N a b i)).toArray⟩) (h0 : ¬ chW N a b i = []) (hx : vb b i = x) (h : ¬ vb b i = vb a i) : ((s ++ ⟨#[32]⟩) ++ ⟨#[sgC x]⟩) ++ nK N i = ⟨(jn (chW N a b (i + 1))).toArray⟩ := by
 rw [chW_new h, jn_one_more _ h0, hs]
 rw [ba_cat (jn (chW N a b i)) (jn (chW N a b i) ++ [32]) ⟨#[32]⟩ rfl, ba_cat (jn (chW N a b i) ++ [32]) (jn (chW N a b i) ++ [32] ++ [sgC x]) ⟨#[sgC x]⟩ rfl]
 refine ba_cat _ _ _ ?_
 unfold chWord sgC
 rw [hx]
 simp
theorem ch_empty {N : List ByteArray} {a b : List Bool} {i : Nat} {s : ByteArray} (hs : s = ⟨(jn (chW N a b i)).toArray⟩) (h0 : chW N a b i = []) : s = ⟨#[]⟩ := by rw [hs, h0]; rfl
theorem ch_full {N : List ByteArray} {a b : List Bool} {i : Nat} {s : ByteArray} (hs : s = ⟨(jn (chW N a b i)).toArray⟩) (h0 : ¬ chW N a b i = []) : s.size ≠ 0 := by
 intro h
 rw [hs] at h
 have h1 : (jn (chW N a b i)).length = 0 := by
  have e : (⟨(jn (chW N a b i)).toArray⟩ : ByteArray).size = (jn (chW N a b i)).length := by show (jn (chW N a b i)).toArray.size = _; simp
  rw [← e]; exact h
 exact h0 ((jn_nil_iff (fun w hw => chW_ne w hw)).1 (List.eq_nil_of_length_eq_zero h1))

def NamV (N : List ByteArray) (n : Nat) (u : World) (v : Value) : Prop := ∃ a c, v = .slice a n c ∧ RowAt u a (strs N)
theorem NamV.st (N : List ByteArray) (n : Nat) : ∀ u u' v, Kp (fun _ => False) u u' → NamV N n u v → NamV N n u' v := fun _ _ _ k ⟨a, c, h1, h2⟩ => ⟨a, c, h1, h2.kp k (fun _ _ h => h)⟩
def MacV (t : TypeId) (V : CV) (C : Circ) (u : World) (v : Value) : Prop := ∃ p a4 c4 a5 c5, v = .pointer (some ⟨p, 0, none⟩) ∧ MAt u t V C p a4 c4 a5 c5
theorem MacV.st (t : TypeId) (V : CV) (C : Circ) : ∀ u u' v, Kp (fun _ => False) u u' → MacV t V C u v → MacV t V C u' v := fun _ _ _ k ⟨p, a4, c4, a5, c5, h1, h2⟩ => ⟨p, a4, c4, a5, c5, h1, h2.kp k⟩
def GriV (L : List (List Bool)) (n : Nat) (u : World) (v : Value) : Prop := ∃ a c, v = .slice a n c ∧ GS u a n c L
theorem GriV.st (L : List (List Bool)) (n : Nat) : ∀ u u' v, Kp (fun _ => False) u u' → GriV L n u v → GriV L n u' v := fun _ _ _ k ⟨a, c, h1, h2⟩ => ⟨a, c, h1, GS.kp h2 k⟩

theorem cnt_lats (C : Circ) : cntN C 108 = C.lats.length := by unfold cntN cnt hdOf; simp

end Go.Proofs.YtghlklcolepfmaaGreatDoor

/-
  trace.Changes. (Printed by mktrch.py.)
-/
namespace Go.Proofs.YtghlklcolepfmaaGreatDoor
open Go.RowKit

def TabV (V : CV) (C : Circ) (u : World) (v : Value) : Prop := ∃ p b4 m4 b5 m5, v = .agg (tvals V C p b4 m4 b5 m5) ∧ TAt u C p b4 b5
theorem TabV.st (V : CV) (C : Circ) : ∀ u u' v, Kp (fun _ => False) u u' → TabV V C u v → TabV V C u' v := fun _ _ _ k ⟨p, b4, m4, b5, m5, h1, h2⟩ => ⟨p, b4, m4, b5, m5, h1, h2.kp k⟩
def MacP (C : Circ) (u : World) (v : Value) : Prop := ∃ p, v = .pointer (some ⟨p, 0, none⟩) ∧ ∃ Vm a4 c4 a5 c5, MAt u 112 Vm C p a4 c4 a5 c5
theorem MacP.st (C : Circ) : ∀ u u' v, Kp (fun _ => False) u u' → MacP C u v → MacP C u' v := fun _ _ _ k ⟨p, h1, Vm, a4, c4, a5, c5, h2⟩ => ⟨p, h1, Vm, a4, c4, a5, c5, h2.kp k⟩

def chWB (N : List ByteArray) (a b : List Bool) (i : Nat) : List ByteArray := (chW N a b i).map (fun l => ⟨l.toArray⟩)
theorem chWB_same {N : List ByteArray} {a b : List Bool} {i : Nat} (h : vb b i = vb a i) : chWB N a b (i + 1) = chWB N a b i := by unfold chWB; rw [chW_same h]
theorem chWB_new {N : List ByteArray} {a b : List Bool} {i : Nat} {x : Bool} (hx : vb b i = x) (h : ¬ vb b i = vb a i) : chWB N a b (i + 1) = chWB N a b i ++ [⟨#[sgC x]⟩ ++ nK N i] := by
 unfold chWB
 rw [chW_new h, List.map_append]
 congr 1
 rw [List.map_singleton]
 congr 1
 refine (ba_cat [sgC x] _ (nK N i) ?_).symm
 unfold chWord sgC
 rw [hx]; rfl
theorem chWB_len (N : List ByteArray) (a b : List Bool) (i : Nat) : (chWB N a b i).length ≤ i := by unfold chWB; rw [List.length_map]; exact chW_len i
theorem chWB_lists (N : List ByteArray) (a b : List Bool) (i : Nat) : (chWB N a b i).map (·.data.toList) = chW N a b i := by
 unfold chWB
 rw [List.map_map]
 conv => rhs; rw [← List.map_id (chW N a b i)]
 apply List.map_congr_left
 intro l _
 simp

theorem join_own {w : World} {B : Nat} {v : Value} {xs : List ByteArray} (hO : Own w B 9 v (strs xs)) (hn : xs.length ≤ 100000) (hl : (jn (xs.map (·.data.toList))).length ≤ 140737488355328) :
  Calls Tryz.prog 36 #[v, .string ⟨#[32]⟩] w fun e w' => e = .returned (.string ⟨(jn (xs.map (·.data.toList))).toArray⟩) ∧ Kp (fun _ => False) w w' := by
 by_cases h0 : xs = []
 ·subst h0
  obtain ⟨a, c, ev, -⟩ := hO.form
  subst ev
  refine (Tryz.strings_Join_none a c ⟨#[32]⟩ w).mono ?_
  rintro e w' ⟨rfl, rfl⟩
  exact ⟨rfl, Kp.refl _ _⟩
 ·have hp : 0 < xs.length := by cases xs with | nil => exact absurd rfl h0 | cons _ _ => simp
  obtain ⟨g, cap, rfl, _, hg⟩ := hO.leads (by rw [strs_length]; exact hp)
  obtain ⟨a', c', e, hc, _⟩ := hO.form
  simp only [Value.slice.injEq] at e
  obtain ⟨_, _, rfl⟩ := e
  rw [strs_length] at hc ⊢
  have h := Tryz.strings_Join g 0 cap xs ⟨#[32]⟩ w (fun j x hx => by rw [Nat.zero_add]; exact hO.cell (by simp [strs, hx])) hg (by omega) hc (by rw [show (⟨#[32]⟩ : ByteArray).data.toList = [32] from rfl, jn_join]; exact hl)
  rw [show (⟨#[32]⟩ : ByteArray).data.toList = [32] from rfl, jn_join] at h
  refine h.mono ?_
  rintro e w' ⟨rfl, hb⟩
  exact ⟨rfl, Kp.of_below hb _⟩

set_option maxRecDepth 100000 in
set_option maxHeartbeats 8000000 in
theorem trace_Changes (V : CV) (C : Circ) (Y : List (Int × Int × ByteArray)) (sa : Option Addr) (sn sc : Nat) (ga : Option Addr) (gn gc : Nat) (st : List Bool) (rows : List (List Bool)) (w : World) (h : CAt w V C) (hY : SyAt w V Y) (hy : V.ny ≤ 1000000) (hf : CFew C 1000) (hg : GoodC C) (hs : BS w sa sn st) (hi : GS w ga gn gc rows) (hgn : gn ≤ 1000) (hN : ∀ x ∈ namesK Y 108 C.lats.length, x.size ≤ 2000000) (ht : Tab w) :
  Calls Tryz.prog 13 #[.agg (cvals V C), .agg #[.slice sa sn sc, .slice ga gn gc]] w fun e w' => ∃ v, e = .returned v ∧ Own w' w.heap.size 9 v (strs (chK C (namesK Y 108 C.lats.length) st rows (gn - 1))) ∧ Kp (fun _ => False) w w' := by
 have HIs := Lib.hid strInfo
 obtain ⟨wz, hwz⟩ : ∃ wz : World, wz = (w.alloc (.cells (cvals V C) 27)).alloc (.cells #[.slice sa sn sc, .slice ga gn gc] 31) := ⟨_, rfl⟩
 have HK0 := Lib.hid (show Kp (fun _ => False) w wz by rw [hwz]; exact ((Kp.refl _ w).alloc _).alloc _)
 have HC0 := Lib.hid (show Blk wz w.heap.size #[.int .i64 C.max, .slice V.ai C.ins.length V.ci, .slice V.al C.lats.length V.cl, .slice V.ao C.outs.length V.co, .slice V.ab C.bads.length V.cb, .slice V.ac C.cons.length V.cc, .slice V.ag C.gates.length V.cg, .slice V.ay V.ny V.cy, .string V.cm] 27 by rw [hwz]; exact (Blk.new w (cvals V C) _).alloc _)
 have HR0 := Lib.hid (show Blk wz (w.heap.size + 1) #[.slice sa sn sc, .slice ga gn gc] 31 by rw [hwz]; exact two_blk _ _ _ _ _)
 have HZ := Lib.hid hwz
 have hlats := hf.l
 obtain ⟨N, hNN⟩ : ∃ N, namesK Y 108 C.lats.length = N := ⟨_, rfl⟩
 rw [hNN] at hN ⊢
 obtain ⟨nl, hnl⟩ : ∃ n, C.lats.length = n := ⟨_, rfl⟩
 have HNl := Lib.hid hnl
 have hNl : N.length = nl := by rw [← hNN, namesK_len, hnl]
 have HNN := Lib.hid hNl
 have HNs := Lib.hid hN
 have HNm := Lib.hid (fun u (hu : Kp (fun _ => False) wz u) => show Calls Tryz.prog 11 #[.agg (cvals V C), .int .u8 108] u fun e w' => ∃ v, e = .returned v ∧ NamV N nl w' v ∧ Kp (fun _ => False) u w' from
  (trace_Names V C Y 108 u (hY.kp (HK0.out.trans hu (fun _ _ h => h))) (hf.big (by decide)) (by decide) hy (ht.kp (HK0.out.trans hu (fun _ _ h => h)))).mono (by
   rintro e w' ⟨v, rfl, hO, hK⟩
   rw [cnt_lats, hNN] at hO
   obtain ⟨a, c, ev, -, -, -, hr⟩ := hO.form
   rw [strs_length, hNl] at ev
   exact ⟨v, rfl, ⟨a, c, ev, hr⟩, hK⟩))
 have HOf := Lib.hid (fun u (hu : Kp (fun _ => False) wz u) => trace_of V C u (h.kp (HK0.out.trans hu (fun _ _ h => h))) (hf.big (by decide)) hy hg)
 have HSs := Lib.hid (fun u p (hu : Kp (fun _ => False) wz u) (hM : ∃ Vm a4 c4 a5 c5, MAt u 112 Vm C p a4 c4 a5 c5) => show Calls Tryz.prog 20 #[.pointer (some ⟨p, 0, none⟩), .agg #[.slice sa sn sc, .slice ga gn gc]] u fun e w' => ∃ v, e = .returned v ∧ GriV ((List.range gn).map (stateM C st rows)) gn w' v ∧ Kp (fun _ => False) u w' from by
  obtain ⟨Vm, a4, c4, a5, c5, hM⟩ := hM
  refine (step_States Vm C p a4 a5 c4 c5 sa sn sc ga gn gc st rows u hM (hf.big (by decide)) hg (hs.kp (HK0.out.trans hu (fun _ _ h => h))) (GS.kp hi (HK0.out.trans hu (fun _ _ h => h)))).mono ?_
  rintro e w' ⟨v, rfl, ⟨v6, hSL⟩, hK⟩
  obtain ⟨xa, c7, ev, hgr⟩ := SL.grid hSL (Nat.le_trans hf.l (by decide)) (by omega)
  exact ⟨v, rfl, ⟨xa, c7, ev, hgr⟩, hK⟩)
 unfold cvals at HNm HOf HZ ⊢
 clear h hY hf hg hs hi hwz hN hNN hNl hy ht
 rw [hnl] at hlats
 clear hnl
 go_enter Tryz.func13, Tryz.ntmps13
 go_upto_region 1 with fail
 rw [← HZ.out]
 clear HZ
 refine wp_region_loose (p := upTo 9) (V := atV [EqV (.agg #[.int .i64 C.max, .slice V.ai C.ins.length V.ci, .slice V.al C.lats.length V.cl, .slice V.ao C.outs.length V.co, .slice V.ab C.bads.length V.cb, .slice V.ac C.cons.length V.cc, .slice V.ag C.gates.length V.cg, .slice V.ay V.ny V.cy, .string V.cm]), (NamV N nl), EqV (.agg #[.int .i64 C.max, .slice V.ai C.ins.length V.ci, .slice V.al C.lats.length V.cl, .slice V.ao C.outs.length V.co, .slice V.ab C.bads.length V.cb, .slice V.ac C.cons.length V.cc, .slice V.ag C.gates.length V.cg, .slice V.ay V.ny V.cy, .string V.cm]), (TabV V C), (MacP C), EqV (.agg #[.slice sa sn sc, .slice ga gn gc]), (GriV ((List.range gn).map (stateM C st rows)) gn), NamV N nl, GriV ((List.range gn).map (stateM C st rows)) gn]) (LP := #[true, true, true, true, true, true, true, true, true]) (K := 0) (by kernel_rfl) (by kernel_rfl) (atV_st ?hstLL) ?hstepLL (by kernel_rfl) ?hLPLL (by kernel_rfl) ?hendLL
 case hstLL =>
  intro W h
  simp only [List.mem_cons, List.not_mem_nil, or_false] at h
  rcases h with rfl | rfl | rfl | rfl | rfl | rfl | rfl | rfl | rfl <;> first | exact EqV.st _ | exact NamV.st _ _ | exact TabV.st _ _ | exact MacP.st _ | exact GriV.st _ _
 case hLPLL => exact upTo_spec (by kernel_rfl)
 case hstepLL =>
  intro i o ho hp a u hk hoff hdep
  have e2 : a.tmps[2]?.getD undef = (.pointer (some ⟨w.heap.size, 0, none⟩)) := slot_at (hoff 2 (noDst_spec (by kernel_rfl)))
  have e3 : a.tmps[3]?.getD undef = (.pointer (some ⟨w.heap.size + 1, 0, none⟩)) := slot_at (hoff 3 (noDst_spec (by kernel_rfl)))
  clear hoff
  match i, ho with
  |0, ho =>
   obtain rfl := Option.some.inj ho
   obtain ⟨d0, d1, d2, d3, d4, d5, d6, d7, d8⟩ := Blk.cells9 (HC0.out.kp hk (fun h => h))
   refine lw_value (v := .agg #[.int .i64 C.max, .slice V.ai C.ins.length V.ci, .slice V.al C.lats.length V.cl, .slice V.ao C.outs.length V.co, .slice V.ab C.bads.length V.cb, .slice V.ac C.cons.length V.cc, .slice V.ag C.gates.length V.cg, .slice V.ay V.ny V.cy, .string V.cm]) (u' := u) ?_ (Kp.refl _ _) rfl
   go_simp
  |1, ho =>
   obtain rfl := Option.some.inj ho
   have e12 : a.tmps[12]?.getD undef = .agg #[.int .i64 C.max, .slice V.ai C.ins.length V.ci, .slice V.al C.lats.length V.cl, .slice V.ao C.outs.length V.co, .slice V.ab C.bads.length V.cb, .slice V.ac C.cons.length V.cc, .slice V.ag C.gates.length V.cg, .slice V.ay V.ny V.cy, .string V.cm] := slot_at (hdep ⟨0, .data⟩ (by simp) rfl _ 12 rfl rfl)
   refine lw_call (f := 11) (args := #[.agg #[.int .i64 C.max, .slice V.ai C.ins.length V.ci, .slice V.al C.lats.length V.cl, .slice V.ao C.outs.length V.co, .slice V.ab C.bads.length V.cb, .slice V.ac C.cons.length V.cc, .slice V.ag C.gates.length V.cg, .slice V.ay V.ny V.cy, .string V.cm], .int .u8 108]) ?_ ?_
   ·go_simp
   ·exact (HNm.out u hk).mono (by
     rintro e u' ⟨v, rfl, hV, hK⟩
     exact ⟨v, rfl, hK, hV⟩)
  |2, ho =>
   obtain rfl := Option.some.inj ho
   obtain ⟨d0, d1, d2, d3, d4, d5, d6, d7, d8⟩ := Blk.cells9 (HC0.out.kp hk (fun h => h))
   refine lw_value (v := .agg #[.int .i64 C.max, .slice V.ai C.ins.length V.ci, .slice V.al C.lats.length V.cl, .slice V.ao C.outs.length V.co, .slice V.ab C.bads.length V.cb, .slice V.ac C.cons.length V.cc, .slice V.ag C.gates.length V.cg, .slice V.ay V.ny V.cy, .string V.cm]) (u' := u) ?_ (Kp.refl _ _) rfl
   go_simp
  |3, ho =>
   obtain rfl := Option.some.inj ho
   have e14 : a.tmps[14]?.getD undef = .agg #[.int .i64 C.max, .slice V.ai C.ins.length V.ci, .slice V.al C.lats.length V.cl, .slice V.ao C.outs.length V.co, .slice V.ab C.bads.length V.cb, .slice V.ac C.cons.length V.cc, .slice V.ag C.gates.length V.cg, .slice V.ay V.ny V.cy, .string V.cm] := slot_at (hdep ⟨2, .data⟩ (by simp) rfl _ 14 rfl rfl)
   refine lw_call (f := 19) (args := #[.agg #[.int .i64 C.max, .slice V.ai C.ins.length V.ci, .slice V.al C.lats.length V.cl, .slice V.ao C.outs.length V.co, .slice V.ab C.bads.length V.cb, .slice V.ac C.cons.length V.cc, .slice V.ag C.gates.length V.cg, .slice V.ay V.ny V.cy, .string V.cm]]) ?_ ?_
   ·go_simp
   ·exact (HOf.out u hk).mono (by
     rintro e u' ⟨p, b4, m4, b5, m5, rfl, hT, hK⟩
     exact ⟨_, rfl, hK, p, b4, m4, b5, m5, rfl, hT⟩)
  |4, ho =>
   obtain rfl := Option.some.inj ho
   have hV : (TabV V C) u (a.tmps.getD 15 undef) := hdep ⟨3, .data⟩ (by simp) rfl _ 15 rfl rfl
   obtain ⟨p, b4, m4, b5, m5, ev, hT⟩ := hV
   have e15 := slot_at ev
   clear ev
   unfold tvals at e15
   have hfd : (Instr.field 54 (.agg #[.int .i64 C.max, .slice V.ai C.ins.length V.ci, .slice V.al C.lats.length V.cl, .slice V.ao C.outs.length V.co, .slice V.ab C.bads.length V.cb, .slice V.ac C.cons.length V.cc, .slice V.ag C.gates.length V.cg, .slice V.ay V.ny V.cy, .string V.cm, .pointer (some ⟨p, 0, none⟩), .slice b4 (netOf C).1.length m4, .slice b5 (netOf C).2.length m5]) 1).run Tryz.prog u = .ok (.pointer (some ⟨p, 0, none⟩)) u := by kernel_rfl
   refine lw_value (v := .pointer (some ⟨p, 0, none⟩)) (u' := u) ?_ (Kp.refl _ _) ⟨p, rfl, hT.mach⟩
   go_simp
  |5, ho =>
   obtain rfl := Option.some.inj ho
   have r0 := (HR0.out.kp hk (fun h => h)).cell (i := 0) (v := .slice sa sn sc) rfl
   have r1 := (HR0.out.kp hk (fun h => h)).cell (i := 1) (v := .slice ga gn gc) rfl
   refine lw_value (v := .agg #[.slice sa sn sc, .slice ga gn gc]) (u' := u) ?_ (Kp.refl _ _) rfl
   go_simp
  |6, ho =>
   obtain rfl := Option.some.inj ho
   have e17 : a.tmps[17]?.getD undef = .agg #[.slice sa sn sc, .slice ga gn gc] := slot_at (hdep ⟨5, .data⟩ (by simp) rfl _ 17 rfl rfl)
   have hV : (MacP C) u (a.tmps.getD 16 undef) := hdep ⟨4, .data⟩ (by simp) rfl _ 16 rfl rfl
   obtain ⟨p, ev, hM⟩ := hV
   have e16 := slot_at ev
   refine lw_call (f := 20) (args := #[.pointer (some ⟨p, 0, none⟩), .agg #[.slice sa sn sc, .slice ga gn gc]]) ?_ ?_
   ·go_simp
   ·exact (HSs.out u p hk hM).mono (by
     rintro e u' ⟨v, rfl, hV, hK⟩
     exact ⟨v, rfl, hK, hV⟩)
  |7, ho =>
   obtain rfl := Option.some.inj ho
   have hV : (NamV N nl) u (a.tmps.getD 13 undef) := hdep ⟨1, .data⟩ (by simp) rfl _ 13 rfl rfl
   refine lw_value (v := a.tmps.getD 13 undef) (u' := u) ?_ (Kp.refl _ _) hV
   go_simp
  |8, ho =>
   obtain rfl := Option.some.inj ho
   have hV : (GriV ((List.range gn).map (stateM C st rows)) gn) u (a.tmps.getD 18 undef) := hdep ⟨6, .data⟩ (by simp) rfl _ 18 rfl rfl
   refine lw_value (v := a.tmps.getD 18 undef) (u' := u) ?_ (Kp.refl _ _) hV
   go_simp
  |n + 9, _ => exact absurd hp (by simp [upTo])
 case hendLL =>
  intro a u hI
  have hsz : a.tmps.size = 71 := hI.size
  have hdf : a.defers = [] := hI.defers
  have f0 : a.tmps.getD 0 undef = _ := hI.off 0 (noDst_spec (p := upTo 9) (by kernel_rfl))
  have f1 : a.tmps.getD 1 undef = _ := hI.off 1 (noDst_spec (p := upTo 9) (by kernel_rfl))
  have f2 : a.tmps.getD 2 undef = _ := hI.off 2 (noDst_spec (p := upTo 9) (by kernel_rfl))
  have f3 : a.tmps.getD 3 undef = _ := hI.off 3 (noDst_spec (p := upTo 9) (by kernel_rfl))
  have f4 : a.tmps.getD 4 undef = _ := hI.off 4 (noDst_spec (p := upTo 9) (by kernel_rfl))
  have f7 : a.tmps.getD 7 undef = _ := hI.off 7 (noDst_spec (p := upTo 9) (by kernel_rfl))
  have f8 : a.tmps.getD 8 undef = _ := hI.off 8 (noDst_spec (p := upTo 9) (by kernel_rfl))
  have f9 : a.tmps.getD 9 undef = _ := hI.off 9 (noDst_spec (p := upTo 9) (by kernel_rfl))
  have f10 : a.tmps.getD 10 undef = _ := hI.off 10 (noDst_spec (p := upTo 9) (by kernel_rfl))
  have f11 : a.tmps.getD 11 undef = _ := hI.off 11 (noDst_spec (p := upTo 9) (by kernel_rfl))
  have f19 : a.tmps.getD 19 undef = _ := hI.off 19 (noDst_spec (p := upTo 9) (by kernel_rfl))
  have f20 : a.tmps.getD 20 undef = _ := hI.off 20 (noDst_spec (p := upTo 9) (by kernel_rfl))
  have f21 : a.tmps.getD 21 undef = _ := hI.off 21 (noDst_spec (p := upTo 9) (by kernel_rfl))
  have f22 : a.tmps.getD 22 undef = _ := hI.off 22 (noDst_spec (p := upTo 9) (by kernel_rfl))
  have f23 : a.tmps.getD 23 undef = _ := hI.off 23 (noDst_spec (p := upTo 9) (by kernel_rfl))
  have f24 : a.tmps.getD 24 undef = _ := hI.off 24 (noDst_spec (p := upTo 9) (by kernel_rfl))
  have f25 : a.tmps.getD 25 undef = _ := hI.off 25 (noDst_spec (p := upTo 9) (by kernel_rfl))
  have f26 : a.tmps.getD 26 undef = _ := hI.off 26 (noDst_spec (p := upTo 9) (by kernel_rfl))
  have f27 : a.tmps.getD 27 undef = _ := hI.off 27 (noDst_spec (p := upTo 9) (by kernel_rfl))
  have f28 : a.tmps.getD 28 undef = _ := hI.off 28 (noDst_spec (p := upTo 9) (by kernel_rfl))
  have f29 : a.tmps.getD 29 undef = _ := hI.off 29 (noDst_spec (p := upTo 9) (by kernel_rfl))
  have f30 : a.tmps.getD 30 undef = _ := hI.off 30 (noDst_spec (p := upTo 9) (by kernel_rfl))
  have f31 : a.tmps.getD 31 undef = _ := hI.off 31 (noDst_spec (p := upTo 9) (by kernel_rfl))
  have f32 : a.tmps.getD 32 undef = _ := hI.off 32 (noDst_spec (p := upTo 9) (by kernel_rfl))
  have f33 : a.tmps.getD 33 undef = _ := hI.off 33 (noDst_spec (p := upTo 9) (by kernel_rfl))
  have f34 : a.tmps.getD 34 undef = _ := hI.off 34 (noDst_spec (p := upTo 9) (by kernel_rfl))
  have f35 : a.tmps.getD 35 undef = _ := hI.off 35 (noDst_spec (p := upTo 9) (by kernel_rfl))
  have f36 : a.tmps.getD 36 undef = _ := hI.off 36 (noDst_spec (p := upTo 9) (by kernel_rfl))
  have f37 : a.tmps.getD 37 undef = _ := hI.off 37 (noDst_spec (p := upTo 9) (by kernel_rfl))
  have f38 : a.tmps.getD 38 undef = _ := hI.off 38 (noDst_spec (p := upTo 9) (by kernel_rfl))
  have f39 : a.tmps.getD 39 undef = _ := hI.off 39 (noDst_spec (p := upTo 9) (by kernel_rfl))
  have f40 : a.tmps.getD 40 undef = _ := hI.off 40 (noDst_spec (p := upTo 9) (by kernel_rfl))
  have f41 : a.tmps.getD 41 undef = _ := hI.off 41 (noDst_spec (p := upTo 9) (by kernel_rfl))
  have f42 : a.tmps.getD 42 undef = _ := hI.off 42 (noDst_spec (p := upTo 9) (by kernel_rfl))
  have f43 : a.tmps.getD 43 undef = _ := hI.off 43 (noDst_spec (p := upTo 9) (by kernel_rfl))
  have f44 : a.tmps.getD 44 undef = _ := hI.off 44 (noDst_spec (p := upTo 9) (by kernel_rfl))
  have f45 : a.tmps.getD 45 undef = _ := hI.off 45 (noDst_spec (p := upTo 9) (by kernel_rfl))
  have f46 : a.tmps.getD 46 undef = _ := hI.off 46 (noDst_spec (p := upTo 9) (by kernel_rfl))
  have f47 : a.tmps.getD 47 undef = _ := hI.off 47 (noDst_spec (p := upTo 9) (by kernel_rfl))
  have f48 : a.tmps.getD 48 undef = _ := hI.off 48 (noDst_spec (p := upTo 9) (by kernel_rfl))
  have f49 : a.tmps.getD 49 undef = _ := hI.off 49 (noDst_spec (p := upTo 9) (by kernel_rfl))
  have f50 : a.tmps.getD 50 undef = _ := hI.off 50 (noDst_spec (p := upTo 9) (by kernel_rfl))
  have f51 : a.tmps.getD 51 undef = _ := hI.off 51 (noDst_spec (p := upTo 9) (by kernel_rfl))
  have f52 : a.tmps.getD 52 undef = _ := hI.off 52 (noDst_spec (p := upTo 9) (by kernel_rfl))
  have f53 : a.tmps.getD 53 undef = _ := hI.off 53 (noDst_spec (p := upTo 9) (by kernel_rfl))
  have f54 : a.tmps.getD 54 undef = _ := hI.off 54 (noDst_spec (p := upTo 9) (by kernel_rfl))
  have f55 : a.tmps.getD 55 undef = _ := hI.off 55 (noDst_spec (p := upTo 9) (by kernel_rfl))
  have f56 : a.tmps.getD 56 undef = _ := hI.off 56 (noDst_spec (p := upTo 9) (by kernel_rfl))
  have f57 : a.tmps.getD 57 undef = _ := hI.off 57 (noDst_spec (p := upTo 9) (by kernel_rfl))
  have f58 : a.tmps.getD 58 undef = _ := hI.off 58 (noDst_spec (p := upTo 9) (by kernel_rfl))
  have f59 : a.tmps.getD 59 undef = _ := hI.off 59 (noDst_spec (p := upTo 9) (by kernel_rfl))
  have f60 : a.tmps.getD 60 undef = _ := hI.off 60 (noDst_spec (p := upTo 9) (by kernel_rfl))
  have f61 : a.tmps.getD 61 undef = _ := hI.off 61 (noDst_spec (p := upTo 9) (by kernel_rfl))
  have f62 : a.tmps.getD 62 undef = _ := hI.off 62 (noDst_spec (p := upTo 9) (by kernel_rfl))
  have f63 : a.tmps.getD 63 undef = _ := hI.off 63 (noDst_spec (p := upTo 9) (by kernel_rfl))
  have f64 : a.tmps.getD 64 undef = _ := hI.off 64 (noDst_spec (p := upTo 9) (by kernel_rfl))
  have f65 : a.tmps.getD 65 undef = _ := hI.off 65 (noDst_spec (p := upTo 9) (by kernel_rfl))
  have f66 : a.tmps.getD 66 undef = _ := hI.off 66 (noDst_spec (p := upTo 9) (by kernel_rfl))
  have f67 : a.tmps.getD 67 undef = _ := hI.off 67 (noDst_spec (p := upTo 9) (by kernel_rfl))
  have f68 : a.tmps.getD 68 undef = _ := hI.off 68 (noDst_spec (p := upTo 9) (by kernel_rfl))
  have f69 : a.tmps.getD 69 undef = _ := hI.off 69 (noDst_spec (p := upTo 9) (by kernel_rfl))
  have f70 : a.tmps.getD 70 undef = _ := hI.off 70 (noDst_spec (p := upTo 9) (by kernel_rfl))
  have g5 : (NamV N nl) u (a.tmps.getD 5 undef) := hI.val 7 _ 5 rfl rfl rfl
  have g6 : (GriV ((List.range gn).map (stateM C st rows)) gn) u (a.tmps.getD 6 undef) := hI.val 8 _ 6 rfl rfl rfl
  have f12 : a.tmps.getD 12 undef = .agg #[.int .i64 C.max, .slice V.ai C.ins.length V.ci, .slice V.al C.lats.length V.cl, .slice V.ao C.outs.length V.co, .slice V.ab C.bads.length V.cb, .slice V.ac C.cons.length V.cc, .slice V.ag C.gates.length V.cg, .slice V.ay V.ny V.cy, .string V.cm] := hI.val 0 _ 12 rfl rfl rfl
  have g13 : ((NamV N nl)) u (a.tmps.getD 13 undef) := hI.val 1 _ 13 rfl rfl rfl
  have f14 : a.tmps.getD 14 undef = .agg #[.int .i64 C.max, .slice V.ai C.ins.length V.ci, .slice V.al C.lats.length V.cl, .slice V.ao C.outs.length V.co, .slice V.ab C.bads.length V.cb, .slice V.ac C.cons.length V.cc, .slice V.ag C.gates.length V.cg, .slice V.ay V.ny V.cy, .string V.cm] := hI.val 2 _ 14 rfl rfl rfl
  have g15 : ((TabV V C)) u (a.tmps.getD 15 undef) := hI.val 3 _ 15 rfl rfl rfl
  have g16 : ((MacP C)) u (a.tmps.getD 16 undef) := hI.val 4 _ 16 rfl rfl rfl
  have f17 : a.tmps.getD 17 undef = .agg #[.slice sa sn sc, .slice ga gn gc] := hI.val 5 _ 17 rfl rfl rfl
  have g18 : ((GriV ((List.range gn).map (stateM C st rows)) gn)) u (a.tmps.getD 18 undef) := hI.val 6 _ 18 rfl rfl rfl
  have ha : a = ⟨#[a.tmps.getD 0 undef, a.tmps.getD 1 undef, a.tmps.getD 2 undef, a.tmps.getD 3 undef, a.tmps.getD 4 undef, a.tmps.getD 5 undef, a.tmps.getD 6 undef, a.tmps.getD 7 undef, a.tmps.getD 8 undef, a.tmps.getD 9 undef, a.tmps.getD 10 undef, a.tmps.getD 11 undef, a.tmps.getD 12 undef, a.tmps.getD 13 undef, a.tmps.getD 14 undef, a.tmps.getD 15 undef, a.tmps.getD 16 undef, a.tmps.getD 17 undef, a.tmps.getD 18 undef, a.tmps.getD 19 undef, a.tmps.getD 20 undef, a.tmps.getD 21 undef, a.tmps.getD 22 undef, a.tmps.getD 23 undef, a.tmps.getD 24 undef, a.tmps.getD 25 undef, a.tmps.getD 26 undef, a.tmps.getD 27 undef, a.tmps.getD 28 undef, a.tmps.getD 29 undef, a.tmps.getD 30 undef, a.tmps.getD 31 undef, a.tmps.getD 32 undef, a.tmps.getD 33 undef, a.tmps.getD 34 undef, a.tmps.getD 35 undef, a.tmps.getD 36 undef, a.tmps.getD 37 undef, a.tmps.getD 38 undef, a.tmps.getD 39 undef, a.tmps.getD 40 undef, a.tmps.getD 41 undef, a.tmps.getD 42 undef, a.tmps.getD 43 undef, a.tmps.getD 44 undef, a.tmps.getD 45 undef, a.tmps.getD 46 undef, a.tmps.getD 47 undef, a.tmps.getD 48 undef, a.tmps.getD 49 undef, a.tmps.getD 50 undef, a.tmps.getD 51 undef, a.tmps.getD 52 undef, a.tmps.getD 53 undef, a.tmps.getD 54 undef, a.tmps.getD 55 undef, a.tmps.getD 56 undef, a.tmps.getD 57 undef, a.tmps.getD 58 undef, a.tmps.getD 59 undef, a.tmps.getD 60 undef, a.tmps.getD 61 undef, a.tmps.getD 62 undef, a.tmps.getD 63 undef, a.tmps.getD 64 undef, a.tmps.getD 65 undef, a.tmps.getD 66 undef, a.tmps.getD 67 undef, a.tmps.getD 68 undef, a.tmps.getD 69 undef, a.tmps.getD 70 undef], a.defers⟩ := act_list a 71 hsz
  rw [hdf, f0, f1, f2, f3, f4, f7, f8, f9, f10, f11, f12, f14, f17, f19, f20, f21, f22, f23, f24, f25, f26, f27, f28, f29, f30, f31, f32, f33, f34, f35, f36, f37, f38, f39, f40, f41, f42, f43, f44, f45, f46, f47, f48, f49, f50, f51, f52, f53, f54, f55, f56, f57, f58, f59, f60, f61, f62, f63, f64, f65, f66, f67, f68, f69, f70] at ha
  obtain ⟨x5, hx5⟩ : ∃ x, a.tmps.getD 5 undef = x := ⟨_, rfl⟩
  obtain ⟨x6, hx6⟩ : ∃ x, a.tmps.getD 6 undef = x := ⟨_, rfl⟩
  obtain ⟨x13, hx13⟩ : ∃ x, a.tmps.getD 13 undef = x := ⟨_, rfl⟩
  obtain ⟨x15, hx15⟩ : ∃ x, a.tmps.getD 15 undef = x := ⟨_, rfl⟩
  obtain ⟨x16, hx16⟩ : ∃ x, a.tmps.getD 16 undef = x := ⟨_, rfl⟩
  obtain ⟨x18, hx18⟩ : ∃ x, a.tmps.getD 18 undef = x := ⟨_, rfl⟩
  rw [hx5, hx6, hx13, hx15, hx16, hx18] at ha
  rw [hx5] at g5
  rw [hx6] at g6
  rw [hx13] at g13
  rw [hx15] at g15
  rw [hx16] at g16
  rw [hx18] at g18
  have hku := hI.kp
  clear hI hsz hdf f0 f1 f2 f3 f4 f7 f8 f9 f10 f11 f12 f14 f17 f19 f20 f21 f22 f23 f24 f25 f26 f27 f28 f29 f30 f31 f32 f33 f34 f35 f36 f37 f38 f39 f40 f41 f42 f43 f44 f45 f46 f47 f48 f49 f50 f51 f52 f53 f54 f55 f56 f57 f58 f59 f60 f61 f62 f63 f64 f65 f66 f67 f68 f69 f70 hx5 hx6 hx13 hx15 hx16 hx18
  subst ha
  refine wpAny_done (by kernel_rfl) ?_ _
  clear g13 g15 g16 g18
  obtain ⟨na, nc, ev, hr⟩ := g5
  subst ev
  have HNr := Lib.hid hr
  obtain ⟨xa, c7, ev, hgr⟩ := g6
  subst ev
  have HGr := Lib.hid hgr
  have HKu := Lib.hid hku
  clear hr hgr hku
  go_wp2_with fail
  go_loopw [7, 8] (fun v7 v8 wr => ∃ k : Nat, v8 = .int .i64 ((k + 1 : Nat) : Int) ∧ (k + 1 ≤ gn ∨ k = 0) ∧ Own wr u.heap.size 9 v7 (strs (chK C N st rows k)) ∧ Kp (fun _ => False) u wr) (fun _ v8 _ => gn - (intOf v8).toNat)
  case atStart => exact ⟨0, rfl, .inr rfl, Own.nil _ _ _, Kp.refl _ _⟩
  case round =>
   obtain ⟨k, rfl, hk, hO, hK⟩ := hrel
   obtain ⟨wp, rfl⟩ : ∃ wp : World, wp = wr := ⟨_, rfl⟩
   have HO := Lib.hid hO
   have HK := Lib.hid hK
   clear hO hK
   by_cases hlt : k + 1 < gn
   ·obtain ⟨bg, og, xb, xm, xd, exa, hxc, hxs⟩ := GS.states HGr.out (k := k + 1) hlt
    obtain ⟨bg2, og2, yb, ym, yd, eya, hyc, hys⟩ := GS.states HGr.out (k := k) (by omega)
    subst exa
    simp only [Option.some.injEq, Addr.mk.injEq, and_true] at eya
    obtain ⟨rfl, rfl⟩ := eya
    have x1 := HK.out.cellK hxc
    have y1 := HK.out.cellK hyc
    have HXs := Lib.hid (hxs.kp HK.out)
    have HYs := Lib.hid (hys.kp HK.out)
    obtain ⟨sA, hsA⟩ : ∃ s, stateM C st rows k = s := ⟨_, rfl⟩
    obtain ⟨sB, hsB⟩ : ∃ s, stateM C st rows (k + 1) = s := ⟨_, rfl⟩
    have hlB : sB.length = nl := by rw [← hsB, stateM_len, HNl.out]
    have hlA : sA.length = nl := by rw [← hsA, stateM_len, HNl.out]
    rw [hsB] at HXs
    rw [hsA] at HYs
    have hxm : nl = xm := by rw [← HXs.out.len, hlB]
    have hym : nl = ym := by rw [← HYs.out.len, hlA]
    subst hxm hym
    have HT := Lib.hid (show chT C N st rows k = ⟨(jn ((chWB N sA sB nl).map (·.data.toList))).toArray⟩ by unfold chT; rw [hsA, hsB, HNl.out, chWB_lists])
    have HLa := Lib.hid hlA
    have HLb := Lib.hid hlB
    have HNr1 := Lib.hid (HNr.out.kp HK.out (fun _ _ h => h))
    have HZn : Hid ((jn ((chWB N sA sB nl).map (·.data.toList))).length ≤ 140737488355328) := Lib.hid (by
     rw [chWB_lists]
     refine Nat.le_trans (jnw_len (m := 2000001) (chW_word HNs.out)) (Nat.le_trans (Nat.mul_le_mul_right _ (Nat.le_trans (chW_len nl) hlats)) (by decide))
     )
    have HLw : Hid (∀ i, (strs (chWB N sA sB i)).length ≤ i) := Lib.hid (fun i => by rw [strs_length]; exact chWB_len N sA sB i)
    have k0 : (0 : Int) ≤ (k : Int) := by omega
    have k1 : ((k : Int) + 1) < (gn : Int) := by omega
    have k2 : ((k + 1 : Nat) : Int) = (k : Int) + 1 := by omega
    have k3 : IntKind.i64.wrap ((k : Int) + 1 - 1) = (k : Int) := by rw [IntKind.wrap_i64]; omega
    clear hxc hxs hyc hys hsA hsB hlA hlB
    rw [k2]
    go_wp2_with fail
    go_loopw [9, 30] (fun v9 v30 wr2 => ∃ i : Nat, v30 = .int .i64 i ∧ i ≤ nl ∧ Own wr2 wp.heap.size 9 v9 (strs (chWB N sA sB i)) ∧ Kp (fun _ => False) wp wr2) (fun _ v30 _ => nl - (intOf v30).toNat)
    case atStart => exact ⟨0, rfl, Nat.zero_le _, Own.nil _ _ _, Kp.refl _ _⟩
    case round =>
     obtain ⟨i, rfl, hi, hOi, hKi⟩ := hrel
     obtain ⟨wq, hwq⟩ : ∃ wq : World, wq = wr := ⟨_, rfl⟩
     rw [← hwq] at hKi hOi ⊢
     clear hwq
     have HKi := Lib.hid hKi
     have HOi := Lib.hid hOi
     have x2 := hKi.cellK x1
     have y2 := hKi.cellK y1
     clear hKi hOi
     by_cases hil : i < nl
     ·obtain ⟨b1, o1, rfl, e1⟩ := (HXs.out.kp HKi.out).row i _ (bv_at (by rw [HLb.out]; exact hil))
      obtain ⟨b2, o2, rfl, e2⟩ := (HYs.out.kp HKi.out).row i _ (bv_at (by rw [HLa.out]; exact hil))
      obtain ⟨b3, o3, rfl, hnc⟩ := (HNr1.out.kp HKi.out (fun _ _ h => h)) i _ (nK_at (by rw [HNN.out]; exact hil))
      have zn := nK_size HNs.out i
      obtain ⟨nm, hnm⟩ : ∃ s, nK N i = s := ⟨_, rfl⟩
      rw [hnm] at hnc zn
      obtain ⟨bB, hvB⟩ : ∃ b, vb sB i = b := ⟨_, rfl⟩
      obtain ⟨bA, hvA⟩ : ∃ b, vb sA i = b := ⟨_, rfl⟩
      rw [hvB] at e1
      rw [hvA] at e2
      have j0 : (0 : Int) ≤ (i : Int) := by omega
      have j1 : (i : Int) < (nl : Int) := by omega
      cases bB
      ·cases bA
       ·skip
        have HSn := Lib.hid (show strs (chWB N sA sB (i + 1)) = strs (chWB N sA sB i) by rw [chWB_same (by rw [hvA, hvB])])
        have HR5 := Lib.hid (show Own wq wp.heap.size 9 u9 (strs (chWB N sA sB (i + 1))) from by rw [HSn.out]; exact HOi.out)
        clear hvA hvB hnm
        go_wp2_with fail
        go_roundw
        case rel => exact ⟨i + 1, by go_num, by omega, HR5.out, HKi.out⟩
        case measure => simp [intOf]; omega
       ·skip
        obtain ⟨W1, hW1⟩ : ∃ A : ByteArray, (⟨#[45]⟩ : ByteArray) ++ nm = A := ⟨_, rfl⟩
        have HA1 := fun (u : World) => show (Op.stringOp .add (⟨#[45]⟩ : ByteArray) nm).run Tryz.prog u = .ok (.string W1) u by rw [← hW1]; exact run_string_add_sum _ _ _ (by have := (by decide : (⟨#[45]⟩ : ByteArray).size ≤ 1); omega)
        have HSn := Lib.hid (show strs (chWB N sA sB (i + 1)) = strs (chWB N sA sB i) ++ [.string W1] by rw [chWB_new (x := false) hvB (by rw [hvA, hvB]; decide), strs_snoc, ← hW1, ← hnm]; rfl)
        have HOw := Lib.hid (HOi.out.alloc (.cells #[.string W1] 9))
        have HNew := Lib.hid (Blk.new wq #[.string W1] 9)
        clear hW1 hnm hvA hvB
        go_wp2_with (at_builtin; refine wpList_append1_at rfl _ _ 38 9 rfl Tryz.underlying38 HIs.out rfl HOw.out rfl ⟨wq.heap.size, 0, none⟩ (.string W1) rfl (HNew.out.cell rfl) rfl ?d1 ?d2 ?d3 ?_)
        case d1 => have := HLw.out i; omega
        case d2 => have := HLw.out i; unfold maxLen; omega
        case d3 => have := HKi.out.size; simp; omega
        intro v' w5 hO5 hg5 hat5
        have HR5 := Lib.hid (show Own w5 wp.heap.size 9 v' (strs (chWB N sA sB (i + 1))) ∧ Kp (fun _ => False) wp w5 from ⟨by rw [HSn.out]; exact hO5, (HKi.out.alloc _).grown hg5 (fun j hj hl => by have := (HOi.out.lt j hj).1; omega)⟩)
        clear hO5 hg5 hat5 HNew HOw
        go_wp2_with fail
        go_roundw
        case rel => exact ⟨i + 1, by go_num, by omega, HR5.out⟩
        case measure => simp [intOf]; omega
      ·cases bA
       ·skip
        obtain ⟨W1, hW1⟩ : ∃ A : ByteArray, (⟨#[43]⟩ : ByteArray) ++ nm = A := ⟨_, rfl⟩
        have HA1 := fun (u : World) => show (Op.stringOp .add (⟨#[43]⟩ : ByteArray) nm).run Tryz.prog u = .ok (.string W1) u by rw [← hW1]; exact run_string_add_sum _ _ _ (by have := (by decide : (⟨#[43]⟩ : ByteArray).size ≤ 1); omega)
        have HSn := Lib.hid (show strs (chWB N sA sB (i + 1)) = strs (chWB N sA sB i) ++ [.string W1] by rw [chWB_new (x := true) hvB (by rw [hvA, hvB]; decide), strs_snoc, ← hW1, ← hnm]; rfl)
        have HOw := Lib.hid (HOi.out.alloc (.cells #[.string W1] 9))
        have HNew := Lib.hid (Blk.new wq #[.string W1] 9)
        clear hW1 hnm hvA hvB
        go_wp2_with (at_builtin; refine wpList_append1_at rfl _ _ 38 9 rfl Tryz.underlying38 HIs.out rfl HOw.out rfl ⟨wq.heap.size, 0, none⟩ (.string W1) rfl (HNew.out.cell rfl) rfl ?d1 ?d2 ?d3 ?_)
        case d1 => have := HLw.out i; omega
        case d2 => have := HLw.out i; unfold maxLen; omega
        case d3 => have := HKi.out.size; simp; omega
        intro v' w5 hO5 hg5 hat5
        have HR5 := Lib.hid (show Own w5 wp.heap.size 9 v' (strs (chWB N sA sB (i + 1))) ∧ Kp (fun _ => False) wp w5 from ⟨by rw [HSn.out]; exact hO5, (HKi.out.alloc _).grown hg5 (fun j hj hl => by have := (HOi.out.lt j hj).1; omega)⟩)
        clear hO5 hg5 hat5 HNew HOw
        go_wp2_with fail
        go_roundw
        case rel => exact ⟨i + 1, by go_num, by omega, HR5.out⟩
        case measure => simp [intOf]; omega
       ·skip
        have HSn := Lib.hid (show strs (chWB N sA sB (i + 1)) = strs (chWB N sA sB i) by rw [chWB_same (by rw [hvA, hvB])])
        have HR5 := Lib.hid (show Own wq wp.heap.size 9 u9 (strs (chWB N sA sB (i + 1))) from by rw [HSn.out]; exact HOi.out)
        clear hvA hvB hnm
        go_wp2_with fail
        go_roundw
        case rel => exact ⟨i + 1, by go_num, by omega, HR5.out, HKi.out⟩
        case measure => simp [intOf]; omega
     ·obtain rfl : i = nl := by omega
      have HSn := Lib.hid (show strs (chK C N st rows (k + 1)) = strs (chK C N st rows k) ++ [.string (chT C N st rows k)] by rw [chK_succ, strs_snoc])
      obtain ⟨s, hs⟩ : ∃ s, chT C N st rows k = s := ⟨_, rfl⟩
      rw [hs] at HSn
      have HJn := Lib.hid (join_own HOi.out (by have := chWB_len N sA sB i; omega) HZn.out)
      rw [← HT.out, hs] at HJn
      have HKq := Lib.hid (HK.out.trans HKi.out (fun _ _ h => h))
      have HOq := Lib.hid (HO.out.kp HKi.out (fun _ _ h => h))
      have HLi := Lib.hid (show (strs (chK C N st rows k)).length = k by rw [strs_length, chK_len])
      clear hs x1 y1 x2 y2 k3
      go_wp2_with (first
       |(go_at_call 36; with_reducible refine Calls.mono HJn.out ?_; rintro e w4 ⟨rfl, hK4⟩; have HK4 := Lib.hid (HKq.out.trans hK4 (fun _ _ h => h)); have HOw := Lib.hid ((HOq.out.kp hK4 (fun _ _ h => h)).alloc (.cells #[.string s] 9)); have HNew := Lib.hid (Blk.new w4 #[.string s] 9); clear hK4)
       |(at_builtin; refine wpList_append1_at rfl _ _ 38 9 rfl Tryz.underlying38 HIs.out rfl HOw.out rfl ⟨w4.heap.size, 0, none⟩ (.string s) rfl (HNew.out.cell rfl) rfl ?d1 ?d2 ?d3 ?_))
      case d1 => rw [HLi.out]; omega
      case d2 => rw [HLi.out]; unfold maxLen; omega
      case d3 => have := HK4.out.size; simp; omega
      intro v' w5 hO5 hg5 hat5
      have HR5 := Lib.hid (show Own w5 u.heap.size 9 v' (strs (chK C N st rows (k + 1))) ∧ Kp (fun _ => False) u w5 from ⟨by rw [HSn.out]; exact hO5, (HK4.out.alloc _).grown hg5 (fun j hj hl => by have := (HO.out.lt j hj).1; omega)⟩)
      clear hO5 hg5 hat5 HNew HOw
      go_wp2_with fail
      go_roundw
      case rel => exact ⟨k + 1, by go_num, .inl (by omega), HR5.out⟩
      case measure => simp [intOf]; omega
   ·have hkk : gn - 1 = k := by omega
    have HKf := Lib.hid ((HK0.out.trans HKu.out (fun _ _ h => h)).trans HK.out (fun _ _ h => h))
    have HOf2 := Lib.hid (show Own wp w.heap.size 9 u7 (strs (chK C N st rows (gn - 1))) by rw [hkk]; exact (HO.out.mono HKu.out.size).mono HK0.out.size)
    have k4 : ¬ ((k : Int) + 1 < (gn : Int)) := by omega
    clear hkk
    go_wp2_with fail
    go_ret
    exact ⟨_, rfl, HOf2.out, HKf.out⟩

end Go.Proofs.YtghlklcolepfmaaGreatDoor

/-
  The reference's Strings on like lists; latchetlaw01.OctetLines: its walk.
-/
namespace Go.Proofs.YtghlklcolepfmaaGreatDoor
open Go.RowKit

def sa (L : List ByteArray) (k : Nat) : ByteArray := (L[k]?).getD .empty

theorem sa_at {L : List ByteArray} {k : Nat} (h : k < L.length) : (strs L)[k]? = some (.string (sa L k)) := by
 simp [strs, sa, List.getElem?_eq_getElem h]

set_option maxHeartbeats 400000 in
theorem ref_Strings (a a' : Option Addr) (n cap cap' : Nat) (L : List ByteArray) (w : World) (ha : RowAt w a (strs L)) (ha' : RowAt w a' (strs L)) (hl : L.length = n) (hn : n ≤ 9223372036854775807) :
  Calls Tryz.prog 10 #[.slice a n cap, .slice a' n cap'] w fun e w' => e = .returned (.bool true) ∧ ∃ n, w' = w.drewN n := by
 have HL := Lib.hid hl; clear hl
 have b1 : ((n : Int) != (n : Int)) = false := by simp
 go_enter Tryz.func10, Tryz.ntmps10
 go_wp2
 go_loopw [5] (fun i wr => ∃ k m : Nat, k ≤ n ∧ i = .int .i64 k ∧ wr = w.drewN m) (fun i _ => n - (intOf i).toNat)
 case atStart => exact ⟨0, 0, Nat.zero_le _, rfl, rfl⟩
 case round =>
  obtain ⟨k, m, hk, rfl, rfl⟩ := hrel
  by_cases hlt : k < n
  ·obtain ⟨b, off, rfl, hc⟩ := ha k _ (sa_at (by rw [HL.out]; exact hlt))
   obtain ⟨b', off', rfl, hc'⟩ := ha' k _ (sa_at (by rw [HL.out]; exact hlt))
   have i1 : (0 : Int) ≤ (k : Int) := by omega
   have i2 : (k : Int) < (n : Int) := by omega
   have q1 : (!((sa L k).toList == (sa L k).toList)) = false := by simp
   have q2 : ((sa L k).toList == (sa L k).toList) = true := by simp
   go_wp2
   go_quiet (fail)
   go_wp2
   go_roundw
   case rel => exact ⟨k + 1, _, by omega, by go_num, rfl⟩
   case measure => simp [intOf]; omega
  ·go_wp2
   go_ret
   exact ⟨rfl, _, rfl⟩

end Go.Proofs.YtghlklcolepfmaaGreatDoor

/-
  latchetlaw47.lives.
-/
namespace Go.Proofs.YtghlklcolepfmaaGreatDoor
open Go.RowKit

def exT : Circ := ⟨1, [], [(2, 3, 0)], [], [2], [], []⟩
theorem exT_code : ckCode exT = 0 := by decide +kernel
theorem exT_text : trcB exT [false] [[], []] 2 = [48, 32, 115, 61, 48, 32, 105, 61, 32, 111, 61, 32, 98, 61, 48, 32, 99, 61, 10, 49, 32, 115, 61, 49, 32, 105, 61, 32, 111, 61, 32, 98, 61, 49, 32, 99, 61, 10] := by decide +kernel
theorem exT_names : namesK [] 108 exT.lats.length = [⟨#[108, 48]⟩] := by decide +kernel
theorem exT_ch : chK exT [⟨#[108, 48]⟩] [false] [[], []] (2 - 1) = [⟨#[43, 108, 48]⟩] := by decide +kernel
theorem exT_few : CFew exT 1000 := ⟨by decide, by decide, by decide, by decide, by decide, by decide⟩
def exTV (n : Nat) : CV := ⟨none, 0, some ⟨n, 0, none⟩, 1, none, 0, some ⟨n + 1, 0, none⟩, 1, none, 0, none, 0, none, 0, 0, ⟨#[]⟩⟩
theorem exTV_at {w : World} {n : Nat} (h : Blk w n #[.int .i64 2, .int .i64 3, .int .i64 0] 50) (h' : Blk w (n + 1) #[.int .i64 2] 3) : CAt w (exTV n) exT := by
 have hb : IntsAt w (some ⟨n + 1, 0, none⟩) [2] := by
  intro j v hj
  match j, hj with
  |0, hj => exact ⟨n + 1, 0, rfl, by rw [← hj]; exact h'.cell (i := 0) rfl⟩
  |j + 1, hj => cases hj
 have hl : RowAt w (some ⟨n, 0, none⟩) ([((2 : Int), (3 : Int), (0 : Int))].map tri).flatten := by
  intro j v hj
  match j, hj with
  |0, hj => exact ⟨n, 0, rfl, by rw [← hj]; exact h.cell (i := 0) rfl⟩
  |1, hj => exact ⟨n, 0, rfl, by rw [← hj]; exact h.cell (i := 1) rfl⟩
  |2, hj => exact ⟨n, 0, rfl, by rw [← hj]; exact h.cell (i := 2) rfl⟩
  |j + 3, hj => cases hj
 exact ⟨RowAt.nil _ _, hl, RowAt.nil _ _, hb, RowAt.nil _ _, RowAt.nil _ _,
  ⟨[], RowAt.nil _ _, rfl, (fun r h => by cases h), (fun r h => by cases h)⟩,
  ⟨Nat.le_refl _, (by simp [exTV, maxLen]), fun _ => rfl⟩, ⟨Nat.le_refl _, (by simp [exTV, maxLen]), (fun h => by cases h)⟩, ⟨Nat.le_refl _, (by simp [exTV, maxLen]), fun _ => rfl⟩, ⟨Nat.le_refl _, (by simp [exTV, maxLen]), (fun h => by cases h)⟩, ⟨Nat.le_refl _, (by simp [exTV, maxLen]), fun _ => rfl⟩, ⟨Nat.le_refl _, (by simp [exTV, maxLen]), fun _ => rfl⟩, ⟨Nat.le_refl _, (by simp [exTV, maxLen]), fun _ => rfl⟩⟩

theorem exRun {w : World} {n : Nat} (h0 : Blk w n #[.bool false] 4) (h1 : Blk w (n + 1 + 1 + 1) #[.slice (some ⟨n + 1, 0, none⟩) 0 0, .slice (some ⟨n + 1 + 1, 0, none⟩) 0 0] 28) :
  BS w (some ⟨n, 0, none⟩) 1 [false] ∧ GS w (some ⟨n + 1 + 1 + 1, 0, none⟩) 2 2 [[], []] := by
 refine ⟨⟨fun j v hj => ?_, rfl, by decide⟩, ⟨[.slice (some ⟨n + 1, 0, none⟩) 0 0, .slice (some ⟨n + 1 + 1, 0, none⟩) 0 0], fun j v hj => ?_, rfl, fun k hk => ?_⟩, rfl, by decide⟩
 ·match j, hj with
  |0, hj => exact ⟨n, 0, rfl, by rw [← hj]; exact h0.cell (i := 0) rfl⟩
  |j + 1, hj => cases hj
 ·match j, hj with
  |0, hj => exact ⟨n + 1 + 1 + 1, 0, rfl, by rw [← hj]; exact h1.cell (i := 0) rfl⟩
  |1, hj => exact ⟨n + 1 + 1 + 1, 0, rfl, by rw [← hj]; exact h1.cell (i := 1) rfl⟩
  |j + 2, hj => cases hj
 ·match k, hk with
  |0, _ => exact ⟨_, _, _, rfl, RowAt.nil _ _, rfl, by decide⟩
  |1, _ => exact ⟨_, _, _, rfl, RowAt.nil _ _, rfl, by decide⟩

def cxT (n : Nat) : Array Value := #[.int .i64 1, .slice none 0 0, .slice (some ⟨n, 0, none⟩) 1 1, .slice none 0 0, .slice (some ⟨n + 1, 0, none⟩) 1 1, .slice none 0 0, .slice none 0 0, .slice none 0 0, .string ⟨#[]⟩]
theorem cxT_eq (n : Nat) : cvals (exTV n) exT = cxT n := rfl

set_option maxRecDepth 100000 in
set_option maxHeartbeats 8000000 in
theorem law47_lives (w : World) (ht : Tab w) : Calls Tryz.prog 6 #[] w fun e w' => e = .returned (.bool true) ∧ Kp (fun _ => False) w w' := by
 obtain ⟨wz, hwz⟩ : ∃ wz : World, wz = ((w.alloc (.cells #[.int .i64 2, .int .i64 3, .int .i64 0] 50)).alloc (.cells #[.int .i64 2] 3)).alloc (.cells #[.int .i64 1, .slice none 0 0, .slice (some ⟨w.heap.size, 0, none⟩) 1 1, .slice none 0 0, .slice (some ⟨w.heap.size + 1, 0, none⟩) 1 1, .slice none 0 0, .slice none 0 0, .slice none 0 0, .string ⟨#[]⟩] 27) := ⟨_, rfl⟩
 have HK0 := Lib.hid (show Kp (fun _ => False) w wz by rw [hwz]; exact (((Kp.refl _ w).alloc _).alloc _).alloc _)
 have HC0 := Lib.hid (show Blk wz (w.heap.size + 1 + 1) #[.int .i64 1, .slice none 0 0, .slice (some ⟨w.heap.size, 0, none⟩) 1 1, .slice none 0 0, .slice (some ⟨w.heap.size + 1, 0, none⟩) 1 1, .slice none 0 0, .slice none 0 0, .slice none 0 0, .string ⟨#[]⟩] 27 by
  rw [hwz]
  have := Blk.new ((w.alloc (.cells #[.int .i64 2, .int .i64 3, .int .i64 0] 50)).alloc (.cells #[.int .i64 2] 3)) #[.int .i64 1, .slice none 0 0, .slice (some ⟨w.heap.size, 0, none⟩) 1 1, .slice none 0 0, .slice (some ⟨w.heap.size + 1, 0, none⟩) 1 1, .slice none 0 0, .slice none 0 0, .slice none 0 0, .string ⟨#[]⟩] 27
  rwa [World.size_alloc, World.size_alloc] at this)
 have HA := Lib.hid (show CAt wz (exTV w.heap.size) exT from exTV_at (by rw [hwz]; exact ((Blk.new w _ _).alloc _).alloc _) (by rw [hwz]; exact (two_blk w _ _ _ _).alloc _))
 have HZ := Lib.hid hwz
 have HT := Lib.hid (ht.kp HK0.out)
 clear hwz ht
 go_enter Tryz.func6, Tryz.ntmps6
 go_upto_region 2 with fail
 rw [← HZ.out]
 clear HZ
 go_upto_region 3 with fail
 obtain ⟨nz, hnz⟩ : ∃ n, wz.heap.size = n := ⟨_, rfl⟩
 obtain ⟨wy, hwy⟩ : ∃ wy : World, wy = (((((wz.alloc (.cells #[.bool false] 4)).alloc (.cells #[] 4)).alloc (.cells #[] 4)).alloc (.cells #[.slice (some ⟨wz.heap.size + 1, 0, none⟩) 0 0, .slice (some ⟨wz.heap.size + 1 + 1, 0, none⟩) 0 0] 28)).alloc (.cells #[.slice (some ⟨wz.heap.size, 0, none⟩) 1 1, .slice (some ⟨wz.heap.size + 1 + 1 + 1, 0, none⟩) 2 2] 31)) := ⟨_, rfl⟩
 rw [← hwy]
 have HKy := Lib.hid (show Kp (fun _ => False) wz wy by rw [hwy]; exact (((((Kp.refl _ wz).alloc _).alloc _).alloc _).alloc _).alloc _)
 have hb0 : Blk wy wz.heap.size #[.bool false] 4 := by rw [hwy]; exact ((((Blk.new wz _ _).alloc _).alloc _).alloc _).alloc _
 have hb3 : Blk wy (wz.heap.size + 1 + 1 + 1) #[.slice (some ⟨wz.heap.size + 1, 0, none⟩) 0 0, .slice (some ⟨wz.heap.size + 1 + 1, 0, none⟩) 0 0] 28 := by
  rw [hwy]
  have := Blk.new (((wz.alloc (.cells #[.bool false] 4)).alloc (.cells #[] 4)).alloc (.cells #[] 4)) #[.slice (some ⟨wz.heap.size + 1, 0, none⟩) 0 0, .slice (some ⟨wz.heap.size + 1 + 1, 0, none⟩) 0 0] 28
  rw [World.size_alloc, World.size_alloc, World.size_alloc] at this
  exact this.alloc _
 have hb4 : Blk wy (wz.heap.size + 1 + 1 + 1 + 1) #[.slice (some ⟨wz.heap.size, 0, none⟩) 1 1, .slice (some ⟨wz.heap.size + 1 + 1 + 1, 0, none⟩) 2 2] 31 := by
  rw [hwy]
  have := Blk.new ((((wz.alloc (.cells #[.bool false] 4)).alloc (.cells #[] 4)).alloc (.cells #[] 4)).alloc (.cells #[.slice (some ⟨wz.heap.size + 1, 0, none⟩) 0 0, .slice (some ⟨wz.heap.size + 1 + 1, 0, none⟩) 0 0] 28)) #[.slice (some ⟨wz.heap.size, 0, none⟩) 1 1, .slice (some ⟨wz.heap.size + 1 + 1 + 1, 0, none⟩) 2 2] 31
  rwa [World.size_alloc, World.size_alloc, World.size_alloc, World.size_alloc] at this
 obtain ⟨hbs, hgs⟩ := exRun hb0 hb3
 have HBS := Lib.hid hbs
 have HGS := Lib.hid hgs
 have HB4 := Lib.hid hb4
 have HCy := Lib.hid (HC0.out.kp HKy.out (fun h => h))
 have HWr := Lib.hid (trace_Write (exTV w.heap.size) exT (some ⟨wz.heap.size, 0, none⟩) 1 1 (some ⟨wz.heap.size + 1 + 1 + 1, 0, none⟩) 2 2 [false] [[], []] wy (HA.out.kp HKy.out) exT_few (show 0 ≤ 1000000 by decide) (GoodC.of exT_code) hbs hgs (by decide) (HT.out.kp HKy.out))
 have HCh := Lib.hid (fun u (hu : Kp (fun _ => False) wy u) => trace_Changes (exTV w.heap.size) exT [] (some ⟨wz.heap.size, 0, none⟩) 1 1 (some ⟨wz.heap.size + 1 + 1 + 1, 0, none⟩) 2 2 [false] [[], []] u (HA.out.kp (HKy.out.trans hu (fun _ _ h => h))) ⟨RowAt.nil _ _, rfl⟩ (show 0 ≤ 1000000 by decide) exT_few (GoodC.of exT_code) (hbs.kp hu) (GS.kp hgs hu) (by decide) (by rw [exT_names]; intro x hx; simp only [List.mem_singleton] at hx; subst hx; decide) (HT.out.kp (HKy.out.trans hu (fun _ _ h => h))))
 rw [exT_text, cxT_eq] at HWr
 rw [exT_names, exT_ch, cxT_eq] at HCh
 unfold cxT at HWr HCh
 clear hwy hb0 hb3 hb4 hbs hgs hnz
 obtain ⟨c0, c1, c2, c3, c4, c5, c6, c7, c8⟩ := Blk.cells9 HCy.out
 have r0 := HB4.out.cell (i := 0) (v := .slice (some ⟨wz.heap.size, 0, none⟩) 1 1) rfl
 have r1 := HB4.out.cell (i := 1) (v := .slice (some ⟨wz.heap.size + 1 + 1 + 1, 0, none⟩) 2 2) rfl
 go_wp2_with (go_at_call 7; with_reducible refine Calls.mono HWr.out ?_; rintro e w1 ⟨rfl, hK1⟩; have HK1 := Lib.hid hK1; have HCh1 := Lib.hid (HCh.out w1 hK1); obtain ⟨z0, z1, z2, z3, z4, z5, z6, z7, z8⟩ := Blk.cells9 (HCy.out.kp hK1 (fun h => h)); have y0 := (HB4.out.kp hK1 (fun h => h)).cell (i := 0) (v := .slice (some ⟨wz.heap.size, 0, none⟩) 1 1) rfl; have y1 := (HB4.out.kp hK1 (fun h => h)).cell (i := 1) (v := .slice (some ⟨wz.heap.size + 1 + 1 + 1, 0, none⟩) 2 2) rfl; clear hK1)
 (with_reducible refine Calls.mono HCh1.out ?_)
 rintro e w2 ⟨v, rfl, hO, hK2⟩
 obtain ⟨oa, oc, ev, -, -, -, hr⟩ := hO.form
 have ev2 : v = .slice oa 1 oc := ev
 subst ev2
 have HKa := Lib.hid (HK1.out.trans hK2 (fun _ _ h => h))
 have hn := (Kp.refl (fun _ => False) w2).alloc (.cells #[.string ⟨#[43, 108, 48]⟩] 9)
 have HSt := Lib.hid (ref_Strings oa (some ⟨w2.heap.size, 0, none⟩) 1 oc 1 [⟨#[43, 108, 48]⟩] (w2.alloc (.cells #[.string ⟨#[43, 108, 48]⟩] 9)) (hr.kp hn (fun _ _ h => h)) ((Blk.new w2 #[.string ⟨#[43, 108, 48]⟩] 9).rowAt (n := 1) rfl) rfl (by decide))
 have HKb := Lib.hid (HKa.out.trans hn (fun _ _ h => h))
 clear hO hK2 hr hn ev
 go_wp2_with (go_at_call 10; with_reducible refine Calls.mono HSt.out ?_; rintro e w3 ⟨rfl, q, rfl⟩)
 go_ret
 exact ⟨rfl, ((HK0.out.trans HKy.out (fun _ _ h => h)).trans HKb.out (fun _ _ h => h)).drewN q⟩

end Go.Proofs.YtghlklcolepfmaaGreatDoor

/-
  How a slice of bools that came in is opened.
-/
namespace Go.Proofs.YtghlklcolepfmaaGreatDoor
open Go.RowKit Go.ChangeShapes Go.WideShapes Go.ChangeAt Go.Deep

end Go.Proofs.YtghlklcolepfmaaGreatDoor

/-
  latchetlaw01.OctetBits: its walk.
-/
namespace Go.Proofs.YtghlklcolepfmaaGreatDoor
open Go.RowKit

theorem bt_signs {l : List Bool} {i : Nat} (h : i < l.length) : bt ⟨(signs l).toArray⟩ i = if tb l i then 49 else 48 := by
 have hs : i < (⟨(signs l).toArray⟩ : ByteArray).size := by show i < (signs l).toArray.size; simp [signs_length]; exact h
 have : bt ⟨(signs l).toArray⟩ i = ((⟨(signs l).toArray⟩ : ByteArray)[i]).toNat := by have := bt_eq hs; omega
 rw [this]
 show ((signs l).toArray[i]'hs).toNat = _
 simp only [signs, List.getElem_toArray, List.getElem_map, tb, List.getElem?_eq_getElem h, Option.getD_some, sign]
 split <;> rfl

theorem good_signs (l : List Bool) : allGood ⟨(signs l).toArray⟩ := by
 intro i hi
 have hi' : i < l.length := by have : i < (signs l).toArray.size := hi; simpa [signs_length] using this
 unfold goodAt
 rw [bt_signs hi']
 split <;> simp

theorem bits_signs (l : List Bool) : bitsR ⟨(signs l).toArray⟩ = l := by
 rw [(isGood (good_signs l)).1]
 have hsz : (⟨(signs l).toArray⟩ : ByteArray).size = l.length := by show (signs l).toArray.size = _; simp [signs_length]
 rw [hsz]
 refine bools_ext (bitsL_length _ _) (fun j hj => ?_)
 rw [bitsL_length] at hj
 simp only [tb, bitsL, List.getElem?_map, List.getElem?_range hj, Option.map_some, Option.getD_some, bitAt, bt_signs hj]
 by_cases h : l[j]?.getD false = true <;> simp [h]

theorem bits_signsC (l : List Bool) : bitsC ⟨(signs l).toArray⟩ = 0 := (isGood (good_signs l)).2

end Go.Proofs.YtghlklcolepfmaaGreatDoor

/-
  trace.values.
-/
namespace Go.Proofs.YtghlklcolepfmaaGreatDoor
open Go.RowKit

theorem mark_prefix (c : UInt8) (r : List UInt8) : Lib.hasPrefix (c :: 61 :: r) [c, 61] = true ∧ Lib.trimPrefix (c :: 61 :: r) [c, 61] = r := by
 have h : Lib.hasPrefix (c :: 61 :: r) [c, 61] = true := by unfold Lib.hasPrefix; simp [List.isPrefixOf]
 refine ⟨h, ?_⟩
 unfold Lib.trimPrefix
 rw [if_pos h]
 rfl

set_option maxRecDepth 100000 in
set_option maxHeartbeats 1000000 in
theorem trace_values (c : UInt8) (l : List Bool) (s : ByteArray) (m : ByteArray) (w : World) (hl : l.length ≤ 100000) (hs : s = ⟨(c :: 61 :: signs l).toArray⟩) (hm : m = ⟨#[c, 61]⟩) :
  Calls Tryz.prog 40 #[.string s, .string m] w fun e w' => ∃ v, e = .returned v ∧ Own w' w.heap.size 4 v (bv l) ∧ Kp (fun _ => False) w w' := by
 have hC := fun u : World => Tryz.strings_CutPrefix s m u
 rw [show s.data.toList = c :: 61 :: signs l by rw [hs], show m.data.toList = [c, 61] by rw [hm], (mark_prefix c (signs l)).1, (mark_prefix c (signs l)).2] at hC
 have hB := octet_Bits ⟨(signs l).toArray⟩ w (by show (signs l).toArray.size ≤ _; simp [signs_length]; exact hl)
 rw [bits_signs, bits_signsC] at hB
 obtain ⟨R, hR⟩ : ∃ R : ByteArray, (⟨(signs l).toArray⟩ : ByteArray) = R := ⟨_, rfl⟩
 rw [hR] at hB
 simp only [hR] at hC
 have HC := Lib.hid hC
 have HB := Lib.hid hB
 clear hC hB hR hs hm
 go_enter Tryz.func40, Tryz.ntmps40
 go_wp2_with (first
  |(go_at_call 68; with_reducible refine Calls.mono (HC.out _) ?_; rintro e w1 ⟨rfl, rfl⟩)
  |(go_at_call 69; with_reducible refine Calls.mono HB.out ?_; rintro e w1 ⟨v, rfl, hO, hK⟩; have HO := Lib.hid hO; have HK := Lib.hid hK; clear hO hK))
 go_ret
 exact ⟨_, rfl, HO.out, HK.out⟩

end Go.Proofs.YtghlklcolepfmaaGreatDoor

/-
  lit and latchetref02: a literal's text, and the literal of a text.
-/
namespace Go.Proofs.YtghlklcolepfmaaGreatDoor
open Go.RowKit

def gl (l : Int) : Bool := decide (0 ≤ l ∧ l ≤ 33554433)

end Go.Proofs.YtghlklcolepfmaaGreatDoor

/-
  lit.Read and the reference's: the literal of a text.
-/
namespace Go.Proofs.YtghlklcolepfmaaGreatDoor
open Go.RowKit

end Go.Proofs.YtghlklcolepfmaaGreatDoor

/-
  clause.Read and deriv.line: a clause of a text, a line of a text.
-/
namespace Go.Proofs.YtghlklcolepfmaaGreatDoor
open Go.RowKit

def ML (w : World) : Prop := ∃ m, w.cell? ⟨0, 0, none⟩ = some (.int .i64 m)

theorem ML.kp {w w' : World} (h : ML w) (k : Kp (fun _ => False) w w') : ML w' := by
 obtain ⟨m, h⟩ := h
 have hlt := World.block_lt_of_cell? w _ h
 exact ⟨m, (World.cell?_of_block (w := w) (w' := w') (k.block _ hlt (fun h => h))).trans h⟩

def nums (l : List Nat) : List Value := l.map (fun (n : Nat) => Value.int .i64 (n : Int))

theorem nil_toList {s : ByteArray} (h : s.toList = []) : s.size = 0 := by
 rw [Lib.toList_data] at h; rw [← list_size, h]; rfl

end Go.Proofs.YtghlklcolepfmaaGreatDoor

/-
  deriv.line.
-/
namespace Go.Proofs.YtghlklcolepfmaaGreatDoor
open Go.RowKit

theorem not_empty {s : ByteArray} (h : s.size ≠ 0) : ¬ s.toList = [] ∧ s.toList.isEmpty = false ∧ (!s.toList.isEmpty) = true := by
 have h1 : ¬ s.toList = [] := fun e => h (nil_toList e)
 have h2 : s.toList.isEmpty = false := by cases hl : s.toList with
  |nil => exact absurd hl h1
  |cons a r => rfl
 exact ⟨h1, h2, by rw [h2]; rfl⟩

end Go.Proofs.YtghlklcolepfmaaGreatDoor

/-
  deriv.Read.
-/
namespace Go.Proofs.YtghlklcolepfmaaGreatDoor
open Go.RowKit

def lrows (rs : List (Bool × Value)) : List (List Value) := rs.map (fun r => [.bool r.1, r.2])

def Lns (w : World) (base : Nat) (rs : List (Bool × Value)) (L : List (Bool × List Nat)) : Prop :=
  rs.length = L.length ∧ ∀ (k : Nat) (r : Bool × Value) (x : Bool × List Nat), rs[k]? = some r → L[k]? = some x → r.1 = x.1 ∧ Own w base 3 r.2 (nums x.2)

theorem Lns.nil (w : World) (base : Nat) : Lns w base [] [] := ⟨rfl, fun k r x h => by simp at h⟩

theorem Lns.kp {S : Nat → Prop} {w w' : World} {base : Nat} {rs : List (Bool × Value)} {L : List (Bool × List Nat)} (h : Lns w base rs L) (k : Kp S w w') (hS : ∀ r ∈ rs, ∀ j, r.2.ownBlock = some j → ¬ S j) : Lns w' base rs L :=
 ⟨h.1, fun i r x hr hx => ⟨(h.2 i r x hr hx).1, (h.2 i r x hr hx).2.kp k (hS r (List.mem_of_getElem? hr))⟩⟩

theorem Lns.snoc {w : World} {base : Nat} {rs : List (Bool × Value)} {L : List (Bool × List Nat)} {f : Bool} {v : Value} {c : List Nat} (h : Lns w base rs L) (hv : Own w base 3 v (nums c)) : Lns w base (rs ++ [(f, v)]) (L ++ [(f, c)]) := by
 refine ⟨by rw [List.length_append, List.length_append, h.1]; rfl, ?_⟩
 intro k r x hr hx
 by_cases hk : k < rs.length
 ·rw [List.getElem?_append_left hk] at hr
  rw [List.getElem?_append_left (by rw [← h.1]; exact hk)] at hx
  exact h.2 k r x hr hx
 ·rw [List.getElem?_append_right (by omega)] at hr
  rw [List.getElem?_append_right (by rw [← h.1]; omega), ← h.1] at hx
  cases hi : k - rs.length with
  |zero =>
   rw [hi] at hr hx
   simp at hr hx
   subst hr hx
   exact ⟨rfl, hv⟩
  |succ n => rw [hi] at hr; simp at hr

theorem Lns.mono {w : World} {base b' : Nat} {rs : List (Bool × Value)} {L : List (Bool × List Nat)} (h : Lns w base rs L) (hb : b' ≤ base) : Lns w b' rs L :=
 ⟨h.1, fun i r x hr hx => ⟨(h.2 i r x hr hx).1, (h.2 i r x hr hx).2.mono hb⟩⟩

theorem Lns.block {w : World} {base : Nat} {rs : List (Bool × Value)} {L : List (Bool × List Nat)} (h : Lns w base rs L) {r : Bool × Value} (hr : r ∈ rs) {j : Nat} (hj : r.2.ownBlock = some j) : base ≤ j ∧ ∃ c, Blk w j c 3 := by
 obtain ⟨k, hk⟩ := List.mem_iff_getElem?.1 hr
 have hkl := (List.getElem?_eq_some_iff.1 hk).1
 have hO := (h.2 k r _ hk (List.getElem?_eq_getElem (by rw [← h.1]; exact hkl))).2
 rcases hO.2 with ⟨hv, _⟩ | ⟨g, cap, cur, hv, hb, hg, _⟩
 ·rw [hv] at hj; cases hj
 ·rw [hv] at hj
  have e : g = j := by simpa [Value.ownBlock] using hj
  subst e
  exact ⟨hb, cur, hg⟩

theorem OwnK.blk {w : World} {base k : Nat} {e : TypeId} {v : Value} {rows : List (List Value)} (h : OwnK w base e k v rows) {j : Nat} (hj : v.ownBlock = some j) : base ≤ j ∧ ∃ c, Blk w j c e := by
 rcases h.own.2 with ⟨hv, _⟩ | ⟨g, cap, cur, hv, hb, hg, _⟩
 ·rw [hv] at hj; cases hj
 ·rw [hv] at hj
  have e : g = j := by simpa [Value.ownBlock] using hj
  subst e
  exact ⟨hb, cur, hg⟩

end Go.Proofs.YtghlklcolepfmaaGreatDoor

/-
  clause.Text.
-/
namespace Go.Proofs.YtghlklcolepfmaaGreatDoor
open Go.RowKit

end Go.Proofs.YtghlklcolepfmaaGreatDoor

/-
  deriv.Write.
-/
namespace Go.Proofs.YtghlklcolepfmaaGreatDoor
open Go.RowKit

def IntsSl (w : World) (v : Value) (l : List Int) : Prop := ∃ a cap, v = .slice a l.length cap ∧ l.length ≤ cap ∧ cap ≤ maxLen ∧ (a = none → cap = 0) ∧ IntsAt w a l

theorem IntsSl.kp {w w' : World} {v : Value} {l : List Int} (h : IntsSl w v l) (k : Kp (fun _ => False) w w') : IntsSl w' v l := by
 obtain ⟨a, cap, e, h1, h2, h3, h4⟩ := h
 exact ⟨a, cap, e, h1, h2, h3, h4.kp k (fun _ _ h => h)⟩

def LnsAt (w : World) (a : Option Addr) (L : List (Bool × List Int)) : Prop :=
  ∃ rs : List (Bool × Value), RowAt w a (lrows rs).flatten ∧ rs.length = L.length ∧ ∀ (k : Nat) (r : Bool × Value) (x : Bool × List Int), rs[k]? = some r → L[k]? = some x → r.1 = x.1 ∧ IntsSl w r.2 x.2

theorem LnsAt.kp {w w' : World} {a : Option Addr} {L : List (Bool × List Int)} (h : LnsAt w a L) (k : Kp (fun _ => False) w w') : LnsAt w' a L := by
 obtain ⟨rs, h1, h2, h3⟩ := h
 exact ⟨rs, h1.kp k (fun _ _ h => h), h2, fun i r x hr hx => ⟨(h3 i r x hr hx).1, (h3 i r x hr hx).2.kp k⟩⟩

theorem Kp.cellAt {w w' : World} (k : Kp (fun _ => False) w w') {b o : Nat} {v : Value} (h : w.cell? ⟨b, o, none⟩ = some v) : w'.cell? ⟨b, o, none⟩ = some v :=
 (World.cell?_of_block (w := w) (w' := w') (a := ⟨b, o, none⟩) (k.block b (World.block_lt_of_cell? w _ h) (fun h => h))).trans h

end Go.Proofs.YtghlklcolepfmaaGreatDoor

/-
  latchetref28.Same, deriv.Learned; what is read, as rows of lines.
-/
namespace Go.Proofs.YtghlklcolepfmaaGreatDoor
open Go.RowKit

theorem LnsAt.drewN {w : World} {a : Option Addr} {L : List (Bool × List Int)} (h : LnsAt w a L) (q : Nat) : LnsAt (w.drewN q) a L := h.kp ((Kp.refl _ _).drewN q)

end Go.Proofs.YtghlklcolepfmaaGreatDoor

/-
  A witness's text, and runs that came in. wit.Write.
-/
namespace Go.Proofs.YtghlklcolepfmaaGreatDoor
open Go.RowKit

def BoolsSl (w : World) (v : Value) (l : List Bool) : Prop := ∃ a cap, v = .slice a l.length cap ∧ l.length ≤ cap ∧ cap ≤ maxLen ∧ (a = none → cap = 0) ∧ RowAt w a (l.map Value.bool)

theorem BoolsSl.kp {w w' : World} {v : Value} {l : List Bool} (h : BoolsSl w v l) (k : Kp (fun _ => False) w w') : BoolsSl w' v l := by
 obtain ⟨a, cap, e, h1, h2, h3, h4⟩ := h
 exact ⟨a, cap, e, h1, h2, h3, h4.kp k (fun _ _ h => h)⟩

def GridAt (w : World) (a : Option Addr) (L : List (List Bool)) : Prop := ∃ rs : List Value, RowAt w a rs ∧ rs.length = L.length ∧ ∀ (k : Nat) (r : Value) (x : List Bool), rs[k]? = some r → L[k]? = some x → BoolsSl w r x
def GridSl (w : World) (v : Value) (L : List (List Bool)) : Prop := ∃ a cap, v = .slice a L.length cap ∧ L.length ≤ cap ∧ cap ≤ maxLen ∧ (a = none → cap = 0) ∧ GridAt w a L

theorem GridAt.kp {w w' : World} {a : Option Addr} {L : List (List Bool)} (h : GridAt w a L) (k : Kp (fun _ => False) w w') : GridAt w' a L := by
 obtain ⟨rs, h1, h2, h3⟩ := h
 exact ⟨rs, h1.kp k (fun _ _ h => h), h2, fun i r x hr hx => (h3 i r x hr hx).kp k⟩
theorem GridSl.kp {w w' : World} {v : Value} {L : List (List Bool)} (h : GridSl w v L) (k : Kp (fun _ => False) w w') : GridSl w' v L := by
 obtain ⟨a, cap, e, h1, h2, h3, h4⟩ := h
 exact ⟨a, cap, e, h1, h2, h3, h4.kp k⟩

def gb (L : List (List Bool)) (k : Nat) : List Bool := L[k]?.getD []
theorem gb_at {L : List (List Bool)} {k : Nat} (h : k < L.length) : L[k]? = some (gb L k) := by unfold gb; rw [List.getElem?_eq_getElem h]; rfl

theorem GridAt.row {w : World} {a : Option Addr} {L : List (List Bool)} (h : GridAt w a L) {k : Nat} (hk : k < L.length) : ∃ b off v, a = some ⟨b, off, none⟩ ∧ w.cell? ⟨b, off + k, none⟩ = some v ∧ BoolsSl w v (gb L k) := by
 obtain ⟨rs, h1, h2, h3⟩ := h
 have hk' : k < rs.length := by rw [h2]; exact hk
 have hr : rs[k]? = some rs[k] := List.getElem?_eq_getElem hk'
 obtain ⟨b, off, rfl, c⟩ := h1 k _ hr
 exact ⟨b, off, _, rfl, c, h3 k _ _ hr (gb_at hk)⟩

end Go.Proofs.YtghlklcolepfmaaGreatDoor
