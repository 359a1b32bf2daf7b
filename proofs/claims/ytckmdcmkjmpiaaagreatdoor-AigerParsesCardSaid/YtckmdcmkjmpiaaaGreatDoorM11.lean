/-
  latchetlaw15.AigerParses: what both Parse tell of any text. (Printed by mkprslaw.py.)
-/
import Derived.Test.YtckmdcmkjmpiaaaGreatDoorM10
import Derived.Test.YtckmdcmkjmpiaaaGreatDoorM3
import Derived.Test.YtckmdcmkjmpiaaaGreatDoorM2
import Derived.Lib.LaidTab
import Derived.Stop.LaidErr
set_option linter.unusedVariables false
set_option linter.unusedSimpArgs false
namespace Go.Proofs.YtckmdcmkjmpiaaaGreatDoor
open Go.RowKit

set_option maxRecDepth 100000 in
set_option maxHeartbeats 8000000 in
theorem aigerParses_walk (s : ByteArray) (hs : s.size ≤ maxLen) (w : World) (_ht : Tab w) :
    Calls Tryz.prog 3 #[.string s] w fun e w' => e = .returned (.bool true) ∧ Below w.heap.size w w' := by
  have HS := Lib.hid hs
  clear hs
  go_enter Tryz.func3, Tryz.ntmps3
  go_upto_region 1 with fail
  go_cut [16] from 9 to 16 (fun s16 wx => s16 = .bool (decide (2000 < s.size ∧ s.size ≤ 1048576)) ∧ wx = w)
  case first =>
    by_cases h1 : 2000 < s.size
    · have d1 : decide ((2000 : Int) < (s.size : Int)) = true := by simp; omega
      by_cases h2 : s.size ≤ 1048576
      · have d2 : decide ((s.size : Int) ≤ 1048576) = true := by simp; omega
        have d3 : decide (2000 < s.size ∧ s.size ≤ 1048576) = true := by simp [h1, h2]
        clear h1 h2
        go_wp2_with fail
        go_meet
        case rel => exact ⟨by rw [d3], rfl⟩
      · have d2 : decide ((s.size : Int) ≤ 1048576) = false := by simp; omega
        have d3 : decide (2000 < s.size ∧ s.size ≤ 1048576) = false := by simp [h2]
        clear h1 h2
        go_wp2_with fail
        go_meet
        case rel => exact ⟨by rw [d3], rfl⟩
    · have d1 : decide ((2000 : Int) < (s.size : Int)) = false := by simp; omega
      have d3 : decide (2000 < s.size ∧ s.size ≤ 1048576) = false := by simp [h1]
      clear h1
      go_wp2_with fail
      go_meet
      case rel => exact ⟨by rw [d3], rfl⟩
  case rest =>
  obtain ⟨rfl, rfl⟩ := hcut
  obtain ⟨w, rfl⟩ : ∃ w : World, w = wc := ⟨_, rfl⟩
  go_upto_if 16 with fail
  go_cut [0] from 16 to 18 (fun s0 wx => ∃ t : ByteArray, s0 = .string t ∧ (t.size ≤ 100000 ∨ 1048576 < t.size) ∧ wx = w)
  case first =>
    by_cases hd : 2000 < s.size ∧ s.size ≤ 1048576
    · have d3 : decide (2000 < s.size ∧ s.size ≤ 1048576) = true := by simp only [hd, and_self, decide_true]
      have h5 : (2000 : Int) ≤ (s.size : Int) := by omega
      rw [d3]
      have HZ := Lib.hid (show (s.extract 0 2000).size ≤ 100000 by rw [ByteArray.size_extract]; omega)
      clear hd
      go_wp2_with fail
      go_meet
      case rel => exact ⟨_, rfl, .inl HZ.out, rfl⟩
    · have d3 : decide (2000 < s.size ∧ s.size ≤ 1048576) = false := by simp only [hd, decide_false]
      rw [d3]
      have HZ := Lib.hid (show s.size ≤ 100000 ∨ 1048576 < s.size by omega)
      clear hd
      go_wp2_with fail
      go_meet
      case rel => exact ⟨_, rfl, HZ.out, rfl⟩
  case rest =>
  obtain ⟨t, rfl, ht, rfl⟩ := hcut
  obtain ⟨w, rfl⟩ : ∃ w : World, w = wc := ⟨_, rfl⟩
  obtain ⟨C, l, cm, at_, er, hf, hq⟩ := prs_q ht
  have HA := Lib.hid (fun u : World => (aiger_Prs t u ht).mono (fun o u' h => hq u o u' h))
  have HR := Lib.hid (fun u : World => (ref15_Prs t u ht).mono (fun o u' h => hq u o u' h))
  unfold PrsQ cvals at HA HR
  have HF := Lib.hid hf
  clear hf hq ht
  go_wp2_with fail
  refine (HA.out _).mono ?_
  rintro o w1 ⟨hK1, V, rfl, hC, hrow, hny, hcm⟩
  have HK1 := Lib.hid (hK1.alloc (.cells #[.int .i64 C.max, .slice V.ai C.ins.length V.ci, .slice V.al C.lats.length V.cl, .slice V.ao C.outs.length V.co, .slice V.ab C.bads.length V.cb, .slice V.ac C.cons.length V.cc, .slice V.ag C.gates.length V.cg, .slice V.ay V.ny V.cy, .string V.cm] 27))
  have HB1 := Lib.hid (Blk.new w1 #[.int .i64 C.max, .slice V.ai C.ins.length V.ci, .slice V.al C.lats.length V.cl, .slice V.ao C.outs.length V.co, .slice V.ab C.bads.length V.cb, .slice V.ac C.cons.length V.cc, .slice V.ag C.gates.length V.cg, .slice V.ay V.ny V.cy, .string V.cm] 27)
  have HC1 := Lib.hid (hC.kp ((Kp.refl _ w1).alloc (.cells #[.int .i64 C.max, .slice V.ai C.ins.length V.ci, .slice V.al C.lats.length V.cl, .slice V.ao C.outs.length V.co, .slice V.ab C.bads.length V.cb, .slice V.ac C.cons.length V.cc, .slice V.ag C.gates.length V.cg, .slice V.ay V.ny V.cy, .string V.cm] 27)))
  have HRw1 := Lib.hid (hrow.kp ((Kp.refl (fun _ => False) w1).alloc (.cells #[.int .i64 C.max, .slice V.ai C.ins.length V.ci, .slice V.al C.lats.length V.cl, .slice V.ao C.outs.length V.co, .slice V.ab C.bads.length V.cb, .slice V.ac C.cons.length V.cc, .slice V.ag C.gates.length V.cg, .slice V.ay V.ny V.cy, .string V.cm] 27)) (fun _ _ h => h))
  have HNy := Lib.hid hny
  have HCm := Lib.hid hcm
  obtain ⟨b3, hb3⟩ : ∃ b, w1.heap.size = b := ⟨_, rfl⟩
  rw [hb3] at HB1
  clear hK1 hC hrow hny hcm
  go_upto_region 4 with fail
  clear hb3
  obtain ⟨w2, hw2⟩ : ∃ w2 : World, w2 = w1.alloc (.cells #[.int .i64 C.max, .slice V.ai C.ins.length V.ci, .slice V.al C.lats.length V.cl, .slice V.ao C.outs.length V.co, .slice V.ab C.bads.length V.cb, .slice V.ac C.cons.length V.cc, .slice V.ag C.gates.length V.cg, .slice V.ay V.ny V.cy, .string V.cm] 27) := ⟨_, rfl⟩
  rw [← hw2] at HK1 HB1 HC1 HRw1 ⊢
  clear hw2 HA
  go_wp2_with fail
  refine (HR.out _).mono ?_
  rintro o w3 ⟨hK3, V', rfl, hC', hrow', hny', hcm'⟩
  obtain ⟨w4, hw4⟩ : ∃ w4 : World, w4 = w3.alloc (.cells #[.int .i64 C.max, .slice V'.ai C.ins.length V'.ci, .slice V'.al C.lats.length V'.cl, .slice V'.ao C.outs.length V'.co, .slice V'.ab C.bads.length V'.cb, .slice V'.ac C.cons.length V'.cc, .slice V'.ag C.gates.length V'.cg, .slice V'.ay V'.ny V'.cy, .string V'.cm] 27) := ⟨_, rfl⟩
  have hk4 : Kp (fun _ => False) w2 w4 := by rw [hw4]; exact hK3.alloc _
  have hka : Kp (fun _ => False) w3 w4 := by rw [hw4]; exact (Kp.refl _ w3).alloc _
  have HK4 := Lib.hid (HK1.out.trans hk4 (fun _ _ h => h))
  have HB3 := Lib.hid (HB1.out.kp hk4 (fun h => h))
  obtain ⟨b6, hb6⟩ : ∃ b, w3.heap.size = b := ⟨_, rfl⟩
  have HB6 := Lib.hid (show Blk w4 b6 #[.int .i64 C.max, .slice V'.ai C.ins.length V'.ci, .slice V'.al C.lats.length V'.cl, .slice V'.ao C.outs.length V'.co, .slice V'.ab C.bads.length V'.cb, .slice V'.ac C.cons.length V'.cc, .slice V'.ag C.gates.length V'.cg, .slice V'.ay V'.ny V'.cy, .string V'.cm] 27 by rw [hw4, ← hb6]; exact Blk.new w3 _ _)
  have HSm := Lib.hid (fun (u : World) (hu : Kp (fun _ => False) w4 u) => ref11_Same2 V V' C u ((HC1.out.kp hk4).kp hu) ((hC'.kp hka).kp hu) HF.out ⟨by rw [hny', HNy.out], by rw [hcm', HCm.out]⟩ (sym_two ((HRw1.out.kp hk4 (fun _ _ h => h)).kp hu (fun _ _ h => h)) ((hrow'.kp hka (fun _ _ h => h)).kp hu (fun _ _ h => h)) HNy.out))
  have HSl := Lib.hid (fun (u : World) => aiger_Small V C u)
  have HLv := Lib.hid (fun (u : World) => lives_ok u)
  unfold cvals at HSm HSl
  clear hK3 hC' hrow' hny' hcm' hk4 hka HK1 HB1 HC1 HRw1 HR
  go_upto_region 5 with fail
  rw [← hw4]
  clear hw4 hb6
  refine wp_region_looseG (p := upTo 24) (V := atV [EqV (.agg #[.int .i64 C.max, .slice V.ai C.ins.length V.ci, .slice V.al C.lats.length V.cl, .slice V.ao C.outs.length V.co, .slice V.ab C.bads.length V.cb, .slice V.ac C.cons.length V.cc, .slice V.ag C.gates.length V.cg, .slice V.ay V.ny V.cy, .string V.cm]), EqV (.agg #[.int .i64 C.max, .slice V'.ai C.ins.length V'.ci, .slice V'.al C.lats.length V'.cl, .slice V'.ao C.outs.length V'.co, .slice V'.ab C.bads.length V'.cb, .slice V'.ac C.cons.length V'.cc, .slice V'.ag C.gates.length V'.cg, .slice V'.ay V'.ny V'.cy, .string V'.cm]), EqV (.bool true), EqV (.bool true), EqV ((.int .i64 at_)), EqV ((.int .i64 at_)), EqV (.bool true), EqV (.bool true), EqV (.bool true), EqV ((.int .i64 er)), EqV ((.int .i64 er)), EqV (.bool true), EqV (.bool true), EqV (.bool true), EqV (.agg #[.int .i64 C.max, .slice V.ai C.ins.length V.ci, .slice V.al C.lats.length V.cl, .slice V.ao C.outs.length V.co, .slice V.ab C.bads.length V.cb, .slice V.ac C.cons.length V.cc, .slice V.ag C.gates.length V.cg, .slice V.ay V.ny V.cy, .string V.cm]), EqV (.bool (decide (C.max ≤ 2000))), EqV (.pointer (some ⟨b6, 0, none⟩)), EqV (.int .i64 C.max), EqV (.bool (decide (C.max ≤ 2000))), EqV (.bool true), EqV (.bool true), EqV (.bool true), EqV (.bool true), EqV (.bool true)]) (LP := #[true, true, true, true, true, true, true, true, true, true, true, true, true, true, true, true, true, true, true, true, true, true, true, true, false]) (K := 1) (by kernel_rfl) (by kernel_rfl) (atV_st ?hstL5) ?hstepL5 (by kernel_rfl) ?hLPL5 (by kernel_rfl) ?hendL5
  case hstL5 =>
    intro W h
    simp only [List.mem_cons, List.not_mem_nil, or_false] at h
    rcases h with rfl | rfl | rfl | rfl | rfl | rfl | rfl | rfl | rfl | rfl | rfl | rfl | rfl | rfl | rfl | rfl | rfl | rfl | rfl | rfl | rfl | rfl | rfl | rfl <;> first | exact EqV.st _ | exact EqV.st _
  case hLPL5 => exact upTo_spec (by kernel_rfl)
  case hstepL5 =>
    intro i o ho hp a u hk hoff hdep
    have e3 : a.tmps[3]?.getD undef = (.pointer (some ⟨b3, 0, none⟩)) := slot_at (hoff 3 (noDst_spec (by kernel_rfl)))
    have e4 : a.tmps[4]?.getD undef = (.int .i64 at_) := slot_at (hoff 4 (noDst_spec (by kernel_rfl)))
    have e5 : a.tmps[5]?.getD undef = (.int .i64 er) := slot_at (hoff 5 (noDst_spec (by kernel_rfl)))
    have e6 : a.tmps[6]?.getD undef = (.pointer (some ⟨b6, 0, none⟩)) := slot_at (hoff 6 (noDst_spec (by kernel_rfl)))
    have e7 : a.tmps[7]?.getD undef = (.int .i64 at_) := slot_at (hoff 7 (noDst_spec (by kernel_rfl)))
    have e8 : a.tmps[8]?.getD undef = (.int .i64 er) := slot_at (hoff 8 (noDst_spec (by kernel_rfl)))
    clear hoff
    match i, ho with
    | 0, ho =>
      obtain rfl := Option.some.inj ho
      refine lg_none rfl ?_
      obtain ⟨d0, d1, d2, d3, d4, d5, d6, d7, d8⟩ := Blk.cells9 (HB3.out.kp hk (fun h => h))
      refine lw_value (v := .agg #[.int .i64 C.max, .slice V.ai C.ins.length V.ci, .slice V.al C.lats.length V.cl, .slice V.ao C.outs.length V.co, .slice V.ab C.bads.length V.cb, .slice V.ac C.cons.length V.cc, .slice V.ag C.gates.length V.cg, .slice V.ay V.ny V.cy, .string V.cm]) (u' := u) ?_ (Kp.refl _ _) rfl
      go_simp
    | 1, ho =>
      obtain rfl := Option.some.inj ho
      refine lg_none rfl ?_
      obtain ⟨d0, d1, d2, d3, d4, d5, d6, d7, d8⟩ := Blk.cells9 (HB6.out.kp hk (fun h => h))
      refine lw_value (v := .agg #[.int .i64 C.max, .slice V'.ai C.ins.length V'.ci, .slice V'.al C.lats.length V'.cl, .slice V'.ao C.outs.length V'.co, .slice V'.ab C.bads.length V'.cb, .slice V'.ac C.cons.length V'.cc, .slice V'.ag C.gates.length V'.cg, .slice V'.ay V'.ny V'.cy, .string V'.cm]) (u' := u) ?_ (Kp.refl _ _) rfl
      go_simp
    | 2, ho =>
      obtain rfl := Option.some.inj ho
      have e31 : a.tmps[31]?.getD undef = .agg #[.int .i64 C.max, .slice V.ai C.ins.length V.ci, .slice V.al C.lats.length V.cl, .slice V.ao C.outs.length V.co, .slice V.ab C.bads.length V.cb, .slice V.ac C.cons.length V.cc, .slice V.ag C.gates.length V.cg, .slice V.ay V.ny V.cy, .string V.cm] := slot_at (hdep ⟨0, .data⟩ (by simp) rfl _ 31 rfl rfl)
      have e32 : a.tmps[32]?.getD undef = .agg #[.int .i64 C.max, .slice V'.ai C.ins.length V'.ci, .slice V'.al C.lats.length V'.cl, .slice V'.ao C.outs.length V'.co, .slice V'.ab C.bads.length V'.cb, .slice V'.ac C.cons.length V'.cc, .slice V'.ag C.gates.length V'.cg, .slice V'.ay V'.ny V'.cy, .string V'.cm] := slot_at (hdep ⟨1, .data⟩ (by simp) rfl _ 32 rfl rfl)
      refine lg_none rfl ?_
      refine lw_call (f := 7) (args := #[.agg #[.int .i64 C.max, .slice V.ai C.ins.length V.ci, .slice V.al C.lats.length V.cl, .slice V.ao C.outs.length V.co, .slice V.ab C.bads.length V.cb, .slice V.ac C.cons.length V.cc, .slice V.ag C.gates.length V.cg, .slice V.ay V.ny V.cy, .string V.cm], .agg #[.int .i64 C.max, .slice V'.ai C.ins.length V'.ci, .slice V'.al C.lats.length V'.cl, .slice V'.ao C.outs.length V'.co, .slice V'.ab C.bads.length V'.cb, .slice V'.ac C.cons.length V'.cc, .slice V'.ag C.gates.length V'.cg, .slice V'.ay V'.ny V'.cy, .string V'.cm]]) ?_ ?_
      · go_simp
      · exact (HSm.out u hk).mono (by
          rintro o' u' ⟨rfl, hK⟩
          exact ⟨_, rfl, hK, rfl⟩)
    | 3, ho =>
      obtain rfl := Option.some.inj ho
      have e33 : a.tmps[33]?.getD undef = .bool true := slot_at (hdep ⟨2, .data⟩ (by simp) rfl _ 33 rfl rfl)
      refine lg_none rfl ?_
      refine lw_value (v := .bool true) (u' := u) ?_ (Kp.refl _ _) rfl
      go_simp
    | 4, ho =>
      obtain rfl := Option.some.inj ho
      have e34 : a.tmps[34]?.getD undef = .bool true := slot_at (hdep ⟨3, .guard⟩ (by simp) rfl _ 34 rfl rfl)
      refine lg_on (x := 34) rfl rfl e34 ?_
      refine lw_value (v := (.int .i64 at_)) (u' := u) ?_ (Kp.refl _ _) rfl
      go_simp
    | 5, ho =>
      obtain rfl := Option.some.inj ho
      have e34 : a.tmps[34]?.getD undef = .bool true := slot_at (hdep ⟨3, .guard⟩ (by simp) rfl _ 34 rfl rfl)
      refine lg_on (x := 34) rfl rfl e34 ?_
      refine lw_value (v := (.int .i64 at_)) (u' := u) ?_ (Kp.refl _ _) rfl
      go_simp
    | 6, ho =>
      obtain rfl := Option.some.inj ho
      have e35 : a.tmps[35]?.getD undef = (.int .i64 at_) := slot_at (hdep ⟨4, .data⟩ (by simp) rfl _ 35 rfl rfl)
      have e36 : a.tmps[36]?.getD undef = (.int .i64 at_) := slot_at (hdep ⟨5, .data⟩ (by simp) rfl _ 36 rfl rfl)
      have e34 : a.tmps[34]?.getD undef = .bool true := slot_at (hdep ⟨3, .guard⟩ (by simp) rfl _ 34 rfl rfl)
      refine lg_on (x := 34) rfl rfl e34 ?_
      refine lw_value (v := .bool true) (u' := u) ?_ (Kp.refl _ _) rfl
      go_simp
    | 7, ho =>
      obtain rfl := Option.some.inj ho
      have e34 : a.tmps[34]?.getD undef = .bool true := slot_at (hdep ⟨3, .data⟩ (by simp) rfl _ 34 rfl rfl)
      have e37 : a.tmps[37]?.getD undef = .bool true := slot_at (hdep ⟨6, .data⟩ (by simp) rfl _ 37 rfl rfl)
      refine lg_none rfl ?_
      refine lw_value (v := .bool true) (u' := u) ?_ (Kp.refl _ _) rfl
      go_simp
    | 8, ho =>
      obtain rfl := Option.some.inj ho
      have e38 : a.tmps[38]?.getD undef = .bool true := slot_at (hdep ⟨7, .data⟩ (by simp) rfl _ 38 rfl rfl)
      refine lg_none rfl ?_
      refine lw_value (v := .bool true) (u' := u) ?_ (Kp.refl _ _) rfl
      go_simp
    | 9, ho =>
      obtain rfl := Option.some.inj ho
      have e39 : a.tmps[39]?.getD undef = .bool true := slot_at (hdep ⟨8, .guard⟩ (by simp) rfl _ 39 rfl rfl)
      refine lg_on (x := 39) rfl rfl e39 ?_
      refine lw_value (v := (.int .i64 er)) (u' := u) ?_ (Kp.refl _ _) rfl
      go_simp
    | 10, ho =>
      obtain rfl := Option.some.inj ho
      have e39 : a.tmps[39]?.getD undef = .bool true := slot_at (hdep ⟨8, .guard⟩ (by simp) rfl _ 39 rfl rfl)
      refine lg_on (x := 39) rfl rfl e39 ?_
      refine lw_value (v := (.int .i64 er)) (u' := u) ?_ (Kp.refl _ _) rfl
      go_simp
    | 11, ho =>
      obtain rfl := Option.some.inj ho
      have e40 : a.tmps[40]?.getD undef = (.int .i64 er) := slot_at (hdep ⟨9, .data⟩ (by simp) rfl _ 40 rfl rfl)
      have e41 : a.tmps[41]?.getD undef = (.int .i64 er) := slot_at (hdep ⟨10, .data⟩ (by simp) rfl _ 41 rfl rfl)
      have e39 : a.tmps[39]?.getD undef = .bool true := slot_at (hdep ⟨8, .guard⟩ (by simp) rfl _ 39 rfl rfl)
      refine lg_on (x := 39) rfl rfl e39 ?_
      refine lw_value (v := .bool true) (u' := u) ?_ (Kp.refl _ _) rfl
      go_simp
    | 12, ho =>
      obtain rfl := Option.some.inj ho
      have e39 : a.tmps[39]?.getD undef = .bool true := slot_at (hdep ⟨8, .data⟩ (by simp) rfl _ 39 rfl rfl)
      have e42 : a.tmps[42]?.getD undef = .bool true := slot_at (hdep ⟨11, .data⟩ (by simp) rfl _ 42 rfl rfl)
      refine lg_none rfl ?_
      refine lw_value (v := .bool true) (u' := u) ?_ (Kp.refl _ _) rfl
      go_simp
    | 13, ho =>
      obtain rfl := Option.some.inj ho
      have e43 : a.tmps[43]?.getD undef = .bool true := slot_at (hdep ⟨12, .data⟩ (by simp) rfl _ 43 rfl rfl)
      refine lg_none rfl ?_
      refine lw_value (v := .bool true) (u' := u) ?_ (Kp.refl _ _) rfl
      go_simp
    | 14, ho =>
      obtain rfl := Option.some.inj ho
      have e44 : a.tmps[44]?.getD undef = .bool true := slot_at (hdep ⟨13, .guard⟩ (by simp) rfl _ 44 rfl rfl)
      refine lg_on (x := 44) rfl rfl e44 ?_
      obtain ⟨d0, d1, d2, d3, d4, d5, d6, d7, d8⟩ := Blk.cells9 (HB3.out.kp hk (fun h => h))
      refine lw_value (v := .agg #[.int .i64 C.max, .slice V.ai C.ins.length V.ci, .slice V.al C.lats.length V.cl, .slice V.ao C.outs.length V.co, .slice V.ab C.bads.length V.cb, .slice V.ac C.cons.length V.cc, .slice V.ag C.gates.length V.cg, .slice V.ay V.ny V.cy, .string V.cm]) (u' := u) ?_ (Kp.refl _ _) rfl
      go_simp
    | 15, ho =>
      obtain rfl := Option.some.inj ho
      have e45 : a.tmps[45]?.getD undef = .agg #[.int .i64 C.max, .slice V.ai C.ins.length V.ci, .slice V.al C.lats.length V.cl, .slice V.ao C.outs.length V.co, .slice V.ab C.bads.length V.cb, .slice V.ac C.cons.length V.cc, .slice V.ag C.gates.length V.cg, .slice V.ay V.ny V.cy, .string V.cm] := slot_at (hdep ⟨14, .data⟩ (by simp) rfl _ 45 rfl rfl)
      have e44 : a.tmps[44]?.getD undef = .bool true := slot_at (hdep ⟨13, .chain⟩ (by simp) rfl _ 44 rfl rfl)
      refine lg_on (x := 44) rfl rfl e44 ?_
      refine lw_call (f := 8) (args := #[.agg #[.int .i64 C.max, .slice V.ai C.ins.length V.ci, .slice V.al C.lats.length V.cl, .slice V.ao C.outs.length V.co, .slice V.ab C.bads.length V.cb, .slice V.ac C.cons.length V.cc, .slice V.ag C.gates.length V.cg, .slice V.ay V.ny V.cy, .string V.cm]]) ?_ ?_
      · go_simp
      · exact (HSl.out u).mono (by
          rintro o' u' ⟨rfl, hK⟩
          exact ⟨_, rfl, hK, rfl⟩)
    | 16, ho =>
      obtain rfl := Option.some.inj ho
      have e44 : a.tmps[44]?.getD undef = .bool true := slot_at (hdep ⟨13, .guard⟩ (by simp) rfl _ 44 rfl rfl)
      refine lg_on (x := 44) rfl rfl e44 ?_
      refine lw_value (v := .pointer (some ⟨b6, 0, none⟩)) (u' := u) ?_ (Kp.refl _ _) rfl
      go_simp
    | 17, ho =>
      obtain rfl := Option.some.inj ho
      have e47 : a.tmps[47]?.getD undef = .pointer (some ⟨b6, 0, none⟩) := slot_at (hdep ⟨16, .data⟩ (by simp) rfl _ 47 rfl rfl)
      have e44 : a.tmps[44]?.getD undef = .bool true := slot_at (hdep ⟨13, .guard⟩ (by simp) rfl _ 44 rfl rfl)
      refine lg_on (x := 44) rfl rfl e44 ?_
      obtain ⟨d0, d1, d2, d3, d4, d5, d6, d7, d8⟩ := Blk.cells9 (HB6.out.kp hk (fun h => h))
      refine lw_value (v := .int .i64 C.max) (u' := u) ?_ (Kp.refl _ _) rfl
      go_simp
    | 18, ho =>
      obtain rfl := Option.some.inj ho
      have e48 : a.tmps[48]?.getD undef = .int .i64 C.max := slot_at (hdep ⟨17, .data⟩ (by simp) rfl _ 48 rfl rfl)
      have e44 : a.tmps[44]?.getD undef = .bool true := slot_at (hdep ⟨13, .guard⟩ (by simp) rfl _ 44 rfl rfl)
      refine lg_on (x := 44) rfl rfl e44 ?_
      refine lw_value (v := .bool (decide (C.max ≤ 2000))) (u' := u) ?_ (Kp.refl _ _) rfl
      go_simp
    | 19, ho =>
      obtain rfl := Option.some.inj ho
      have e46 : a.tmps[46]?.getD undef = .bool (decide (C.max ≤ 2000)) := slot_at (hdep ⟨15, .data⟩ (by simp) rfl _ 46 rfl rfl)
      have e49 : a.tmps[49]?.getD undef = .bool (decide (C.max ≤ 2000)) := slot_at (hdep ⟨18, .data⟩ (by simp) rfl _ 49 rfl rfl)
      have e44 : a.tmps[44]?.getD undef = .bool true := slot_at (hdep ⟨13, .guard⟩ (by simp) rfl _ 44 rfl rfl)
      refine lg_on (x := 44) rfl rfl e44 ?_
      refine lw_value (v := .bool true) (u' := u) ?_ (Kp.refl _ _) rfl
      go_simp
    | 20, ho =>
      obtain rfl := Option.some.inj ho
      have e44 : a.tmps[44]?.getD undef = .bool true := slot_at (hdep ⟨13, .data⟩ (by simp) rfl _ 44 rfl rfl)
      have e50 : a.tmps[50]?.getD undef = .bool true := slot_at (hdep ⟨19, .data⟩ (by simp) rfl _ 50 rfl rfl)
      refine lg_none rfl ?_
      refine lw_value (v := .bool true) (u' := u) ?_ (Kp.refl _ _) rfl
      go_simp
    | 21, ho =>
      obtain rfl := Option.some.inj ho
      have e51 : a.tmps[51]?.getD undef = .bool true := slot_at (hdep ⟨20, .data⟩ (by simp) rfl _ 51 rfl rfl)
      refine lg_none rfl ?_
      refine lw_value (v := .bool true) (u' := u) ?_ (Kp.refl _ _) rfl
      go_simp
    | 22, ho =>
      obtain rfl := Option.some.inj ho
      have e52 : a.tmps[52]?.getD undef = .bool true := slot_at (hdep ⟨21, .chain⟩ (by simp) rfl _ 52 rfl rfl)
      refine lg_on (x := 52) rfl rfl e52 ?_
      refine lw_call (f := 9) (args := #[]) ?_ ?_
      · go_simp
      · exact (HLv.out u).mono (by
          rintro o' u' ⟨rfl, hK⟩
          exact ⟨_, rfl, hK, rfl⟩)
    | 23, ho =>
      obtain rfl := Option.some.inj ho
      have e52 : a.tmps[52]?.getD undef = .bool true := slot_at (hdep ⟨21, .data⟩ (by simp) rfl _ 52 rfl rfl)
      have e53 : a.tmps[53]?.getD undef = .bool true := slot_at (hdep ⟨22, .data⟩ (by simp) rfl _ 53 rfl rfl)
      refine lg_none rfl ?_
      refine lw_value (v := .bool true) (u' := u) ?_ (Kp.refl _ _) rfl
      go_simp
    | n + 24, _ => exact absurd hp (by simp [upTo])
  intro a u hI
  have hsz : a.tmps.size = 55 := hI.size
  have hdf : a.defers = [] := hI.defers
  have f0 : a.tmps.getD 0 undef = _ := hI.off 0 (noDst_spec (p := upTo 24) (by kernel_rfl))
  have f1 : a.tmps.getD 1 undef = _ := hI.off 1 (noDst_spec (p := upTo 24) (by kernel_rfl))
  have f2 : a.tmps.getD 2 undef = _ := hI.off 2 (noDst_spec (p := upTo 24) (by kernel_rfl))
  have f3 : a.tmps.getD 3 undef = _ := hI.off 3 (noDst_spec (p := upTo 24) (by kernel_rfl))
  have f4 : a.tmps.getD 4 undef = _ := hI.off 4 (noDst_spec (p := upTo 24) (by kernel_rfl))
  have f5 : a.tmps.getD 5 undef = _ := hI.off 5 (noDst_spec (p := upTo 24) (by kernel_rfl))
  have f6 : a.tmps.getD 6 undef = _ := hI.off 6 (noDst_spec (p := upTo 24) (by kernel_rfl))
  have f7 : a.tmps.getD 7 undef = _ := hI.off 7 (noDst_spec (p := upTo 24) (by kernel_rfl))
  have f8 : a.tmps.getD 8 undef = _ := hI.off 8 (noDst_spec (p := upTo 24) (by kernel_rfl))
  have f9 : a.tmps.getD 9 undef = _ := hI.off 9 (noDst_spec (p := upTo 24) (by kernel_rfl))
  have f10 : a.tmps.getD 10 undef = _ := hI.off 10 (noDst_spec (p := upTo 24) (by kernel_rfl))
  have f11 : a.tmps.getD 11 undef = _ := hI.off 11 (noDst_spec (p := upTo 24) (by kernel_rfl))
  have f12 : a.tmps.getD 12 undef = _ := hI.off 12 (noDst_spec (p := upTo 24) (by kernel_rfl))
  have f13 : a.tmps.getD 13 undef = _ := hI.off 13 (noDst_spec (p := upTo 24) (by kernel_rfl))
  have f14 : a.tmps.getD 14 undef = _ := hI.off 14 (noDst_spec (p := upTo 24) (by kernel_rfl))
  have f15 : a.tmps.getD 15 undef = _ := hI.off 15 (noDst_spec (p := upTo 24) (by kernel_rfl))
  have f16 : a.tmps.getD 16 undef = _ := hI.off 16 (noDst_spec (p := upTo 24) (by kernel_rfl))
  have f17 : a.tmps.getD 17 undef = _ := hI.off 17 (noDst_spec (p := upTo 24) (by kernel_rfl))
  have f18 : a.tmps.getD 18 undef = _ := hI.off 18 (noDst_spec (p := upTo 24) (by kernel_rfl))
  have f19 : a.tmps.getD 19 undef = _ := hI.off 19 (noDst_spec (p := upTo 24) (by kernel_rfl))
  have f20 : a.tmps.getD 20 undef = _ := hI.off 20 (noDst_spec (p := upTo 24) (by kernel_rfl))
  have f21 : a.tmps.getD 21 undef = _ := hI.off 21 (noDst_spec (p := upTo 24) (by kernel_rfl))
  have f22 : a.tmps.getD 22 undef = _ := hI.off 22 (noDst_spec (p := upTo 24) (by kernel_rfl))
  have f23 : a.tmps.getD 23 undef = _ := hI.off 23 (noDst_spec (p := upTo 24) (by kernel_rfl))
  have f24 : a.tmps.getD 24 undef = _ := hI.off 24 (noDst_spec (p := upTo 24) (by kernel_rfl))
  have f25 : a.tmps.getD 25 undef = _ := hI.off 25 (noDst_spec (p := upTo 24) (by kernel_rfl))
  have f26 : a.tmps.getD 26 undef = _ := hI.off 26 (noDst_spec (p := upTo 24) (by kernel_rfl))
  have f27 : a.tmps.getD 27 undef = _ := hI.off 27 (noDst_spec (p := upTo 24) (by kernel_rfl))
  have f28 : a.tmps.getD 28 undef = _ := hI.off 28 (noDst_spec (p := upTo 24) (by kernel_rfl))
  have f29 : a.tmps.getD 29 undef = _ := hI.off 29 (noDst_spec (p := upTo 24) (by kernel_rfl))
  have f30 : a.tmps.getD 30 undef = _ := hI.off 30 (noDst_spec (p := upTo 24) (by kernel_rfl))
  have f31 : a.tmps.getD 31 undef = .agg #[.int .i64 C.max, .slice V.ai C.ins.length V.ci, .slice V.al C.lats.length V.cl, .slice V.ao C.outs.length V.co, .slice V.ab C.bads.length V.cb, .slice V.ac C.cons.length V.cc, .slice V.ag C.gates.length V.cg, .slice V.ay V.ny V.cy, .string V.cm] := hI.val 0 _ 31 rfl rfl rfl
  have f32 : a.tmps.getD 32 undef = .agg #[.int .i64 C.max, .slice V'.ai C.ins.length V'.ci, .slice V'.al C.lats.length V'.cl, .slice V'.ao C.outs.length V'.co, .slice V'.ab C.bads.length V'.cb, .slice V'.ac C.cons.length V'.cc, .slice V'.ag C.gates.length V'.cg, .slice V'.ay V'.ny V'.cy, .string V'.cm] := hI.val 1 _ 32 rfl rfl rfl
  have f33 : a.tmps.getD 33 undef = .bool true := hI.val 2 _ 33 rfl rfl rfl
  have f34 : a.tmps.getD 34 undef = .bool true := hI.val 3 _ 34 rfl rfl rfl
  have f35 : a.tmps.getD 35 undef = (.int .i64 at_) := hI.val 4 _ 35 rfl rfl rfl
  have f36 : a.tmps.getD 36 undef = (.int .i64 at_) := hI.val 5 _ 36 rfl rfl rfl
  have f37 : a.tmps.getD 37 undef = .bool true := hI.val 6 _ 37 rfl rfl rfl
  have f38 : a.tmps.getD 38 undef = .bool true := hI.val 7 _ 38 rfl rfl rfl
  have f39 : a.tmps.getD 39 undef = .bool true := hI.val 8 _ 39 rfl rfl rfl
  have f40 : a.tmps.getD 40 undef = (.int .i64 er) := hI.val 9 _ 40 rfl rfl rfl
  have f41 : a.tmps.getD 41 undef = (.int .i64 er) := hI.val 10 _ 41 rfl rfl rfl
  have f42 : a.tmps.getD 42 undef = .bool true := hI.val 11 _ 42 rfl rfl rfl
  have f43 : a.tmps.getD 43 undef = .bool true := hI.val 12 _ 43 rfl rfl rfl
  have f44 : a.tmps.getD 44 undef = .bool true := hI.val 13 _ 44 rfl rfl rfl
  have f45 : a.tmps.getD 45 undef = .agg #[.int .i64 C.max, .slice V.ai C.ins.length V.ci, .slice V.al C.lats.length V.cl, .slice V.ao C.outs.length V.co, .slice V.ab C.bads.length V.cb, .slice V.ac C.cons.length V.cc, .slice V.ag C.gates.length V.cg, .slice V.ay V.ny V.cy, .string V.cm] := hI.val 14 _ 45 rfl rfl rfl
  have f46 : a.tmps.getD 46 undef = .bool (decide (C.max ≤ 2000)) := hI.val 15 _ 46 rfl rfl rfl
  have f47 : a.tmps.getD 47 undef = .pointer (some ⟨b6, 0, none⟩) := hI.val 16 _ 47 rfl rfl rfl
  have f48 : a.tmps.getD 48 undef = .int .i64 C.max := hI.val 17 _ 48 rfl rfl rfl
  have f49 : a.tmps.getD 49 undef = .bool (decide (C.max ≤ 2000)) := hI.val 18 _ 49 rfl rfl rfl
  have f50 : a.tmps.getD 50 undef = .bool true := hI.val 19 _ 50 rfl rfl rfl
  have f51 : a.tmps.getD 51 undef = .bool true := hI.val 20 _ 51 rfl rfl rfl
  have f52 : a.tmps.getD 52 undef = .bool true := hI.val 21 _ 52 rfl rfl rfl
  have f53 : a.tmps.getD 53 undef = .bool true := hI.val 22 _ 53 rfl rfl rfl
  have f54 : a.tmps.getD 54 undef = .bool true := hI.val 23 _ 54 rfl rfl rfl
  have ha : a = ⟨#[a.tmps.getD 0 undef, a.tmps.getD 1 undef, a.tmps.getD 2 undef, a.tmps.getD 3 undef, a.tmps.getD 4 undef, a.tmps.getD 5 undef, a.tmps.getD 6 undef, a.tmps.getD 7 undef, a.tmps.getD 8 undef, a.tmps.getD 9 undef, a.tmps.getD 10 undef, a.tmps.getD 11 undef, a.tmps.getD 12 undef, a.tmps.getD 13 undef, a.tmps.getD 14 undef, a.tmps.getD 15 undef, a.tmps.getD 16 undef, a.tmps.getD 17 undef, a.tmps.getD 18 undef, a.tmps.getD 19 undef, a.tmps.getD 20 undef, a.tmps.getD 21 undef, a.tmps.getD 22 undef, a.tmps.getD 23 undef, a.tmps.getD 24 undef, a.tmps.getD 25 undef, a.tmps.getD 26 undef, a.tmps.getD 27 undef, a.tmps.getD 28 undef, a.tmps.getD 29 undef, a.tmps.getD 30 undef, a.tmps.getD 31 undef, a.tmps.getD 32 undef, a.tmps.getD 33 undef, a.tmps.getD 34 undef, a.tmps.getD 35 undef, a.tmps.getD 36 undef, a.tmps.getD 37 undef, a.tmps.getD 38 undef, a.tmps.getD 39 undef, a.tmps.getD 40 undef, a.tmps.getD 41 undef, a.tmps.getD 42 undef, a.tmps.getD 43 undef, a.tmps.getD 44 undef, a.tmps.getD 45 undef, a.tmps.getD 46 undef, a.tmps.getD 47 undef, a.tmps.getD 48 undef, a.tmps.getD 49 undef, a.tmps.getD 50 undef, a.tmps.getD 51 undef, a.tmps.getD 52 undef, a.tmps.getD 53 undef, a.tmps.getD 54 undef], a.defers⟩ := act_list a 55 hsz
  rw [hdf, f0, f1, f2, f3, f4, f5, f6, f7, f8, f9, f10, f11, f12, f13, f14, f15, f16, f17, f18, f19, f20, f21, f22, f23, f24, f25, f26, f27, f28, f29, f30, f31, f32, f33, f34, f35, f36, f37, f38, f39, f40, f41, f42, f43, f44, f45, f46, f47, f48, f49, f50, f51, f52, f53, f54] at ha
  have hku := hI.kp
  clear hI hsz hdf f0 f1 f2 f3 f4 f5 f6 f7 f8 f9 f10 f11 f12 f13 f14 f15 f16 f17 f18 f19 f20 f21 f22 f23 f24 f25 f26 f27 f28 f29 f30 f31 f32 f33 f34 f35 f36 f37 f38 f39 f40 f41 f42 f43 f44 f45 f46 f47 f48 f49 f50 f51 f52 f53 f54 
  subst ha
  refine wpAny_tail 24 rfl (by kernel_rfl) ?_
  simp only [List.drop_succ_cons, List.drop_zero]
  have HE := Lib.hid (show Below w.heap.size w u from (HK4.out.trans hku (fun _ _ h => h)).below (Nat.le_refl _) (fun k _ h => h))
  clear hku
  go_wp2_with fail
  go_ret
  exact ⟨rfl, HE.out⟩

end Go.Proofs.YtckmdcmkjmpiaaaGreatDoor

/-
  The package-level variables that the rows list: a world that holds them, and the table of powers of ten out of a row's list.
-/
namespace Go.Proofs.YtckmdcmkjmpiaaaGreatDoor
open Go.RowKit

def synS : ByteArray := { data := #[105, 110, 118, 97, 108, 105, 100, 32, 115, 121, 110, 116, 97, 120] }
def rangeS : ByteArray := { data := #[118, 97, 108, 117, 101, 32, 111, 117, 116, 32, 111, 102, 32, 114, 97, 110, 103, 101] }
noncomputable def low : Nat := (World.holding Tryz.prog default ⟨#[], #[], []⟩).heap.size

def putCells (g : Nat) (cs : Array Value) (w : World) : World :=
  { w with heap := w.heap.modify g fun
      | .cells _ t frozen => .cells cs t frozen
      | o => o }

def tab32 : Array Value := #[0, 1, 28, 2, 29, 14, 24, 3, 30, 22, 20, 15, 25, 17, 4, 8, 31, 27, 13, 23, 21, 19, 16, 7, 26, 12, 18, 6, 11, 5, 10, 9].map (Value.int .u8)
def tab64 : Array Value := #[0, 1, 56, 2, 57, 49, 28, 3, 61, 58, 42, 50, 38, 29, 17, 4, 62, 47, 59, 36, 45, 43, 51, 22, 53, 39, 33, 30, 24, 18, 12, 5, 63, 55, 48, 27, 60, 41, 37, 16, 46, 35, 44, 21, 52, 32, 23, 11, 54, 26, 40, 15, 34, 20, 31, 10, 25, 14, 19, 9, 13, 8, 7, 6].map (Value.int .u8)
def tabPow : Array Value := (Lib.pow10Tab.map (Value.int .u64)).toArray

noncomputable def laidWorld (os : Os) : World :=
  putCells 5 tab64 (putCells 4 tab32 (putCells 3 tabPow
    (putCells 2 #[.iface 194 (.pointer (some ⟨low + 1, 0, none⟩))] (putCells 1 #[.iface 194 (.pointer (some ⟨low, 0, none⟩))]
      (World.holding Tryz.prog os ⟨#[.cells #[.string synS] 196, .cells #[.string rangeS] 196], #[], []⟩)))))

theorem gPowType : (Tryz.prog.globals[3]?).map (·.type) = some 190 := by kernel_rfl
theorem cells64 : Tryz.prog.cellsOf 163 = 1 := by kernel_rfl
theorem cellsPow : Tryz.prog.cellsOf 190 = 20 := by kernel_rfl

theorem tab_of_laid {W : World} {x y : String × DataW Unit} {r : List (String × DataW Unit)}
    (h : laidMet Tryz.prog (x :: y :: ("internal/strconv.uint64pow10", Rows.laid_internal_strconv_uint64pow10) :: r) W) : Tab W :=
  Lib.tabIs_of_head (zs := Lib.pow10Tab) gPow gPowType Tryz.underlying190 Tryz.underlying163 cells64 cellsPow (laidMet.tail (laidMet.tail h))

end Go.Proofs.YtckmdcmkjmpiaaaGreatDoor
