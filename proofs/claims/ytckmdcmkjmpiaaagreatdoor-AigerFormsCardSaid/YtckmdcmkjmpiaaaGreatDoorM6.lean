/-
  binary.circuit. (Printed by mkbincirc.py.)
-/
import Derived.Test.YtckmdcmkjmpiaaaGreatDoorM3
set_option linter.unusedVariables false
set_option linter.unusedSimpArgs false
namespace Go.Proofs.YtckmdcmkjmpiaaaGreatDoor
open Go.RowKit

set_option maxRecDepth 100000 in
set_option maxHeartbeats 8000000 in
theorem bin_circuit (s : ByteArray) (b : Nat) (st : Nat × Nat) (bin : Bool) (M : Int) (nI nL nO nA nB nC : Nat) (w : World) (hs : s.size ≤ 1000000) (hp : st.1 ≤ s.size) (hM0 : 0 ≤ M) (hM1 : M ≤ 16777216) (hI : nI ≤ 16777216) (hL : nL ≤ 16777216) (hO : nO ≤ 16777216) (hA : nA ≤ 16777216) (hBd : nB ≤ 16777216) (hC : nC ≤ 16777216) (hB : TX w b s st) :
    Calls Tryz.prog 69 #[.iface 128 (.pointer (some ⟨b, 0, none⟩)), .agg #[.bool bin, .int .i64 M, .int .i64 (nI : Nat), .int .i64 (nL : Nat), .int .i64 (nO : Nat), .int .i64 (nA : Nat), .int .i64 (nB : Nat), .int .i64 (nC : Nat)]] w fun e w' => ∃ V' C', e = .returned (.agg (cvals V' C')) ∧ V'.ay = none ∧ V'.ny = 0 ∧ V'.cy = 0 ∧ V'.cm = ⟨#[]⟩ ∧ TX w' b s (rdC s M nI nL nO nA nB nC st).2 ∧ Kp (fun j => j = b) w w' ∧ ((rdC s M nI nL nO nA nB nC st).2.2 = 0 → C' = (rdC s M nI nL nO nA nB nC st).1 ∧ BKeep (w.heap.size + 4) w' V' C') := by
  have HB := Lib.hid hB
  obtain ⟨hd, hhd⟩ : ∃ hd : Array Value, hd = #[.bool bin, .int .i64 M, .int .i64 (nI : Nat), .int .i64 (nL : Nat), .int .i64 (nO : Nat), .int .i64 (nA : Nat), .int .i64 (nB : Nat), .int .i64 (nC : Nat)] := ⟨_, rfl⟩
  obtain ⟨wz, hwz⟩ : ∃ wz : World, wz = (w.alloc (.cells #[.bool bin, .int .i64 M, .int .i64 (nI : Nat), .int .i64 (nL : Nat), .int .i64 (nO : Nat), .int .i64 (nA : Nat), .int .i64 (nB : Nat), .int .i64 (nC : Nat)] 42)).alloc (.cells zc9 27) := ⟨_, rfl⟩
  have HK0 := Lib.hid (show Kp (fun _ => False) w wz by rw [hwz]; exact ((Kp.refl _ w).alloc _).alloc _)
  have HH0 := Lib.hid (show Blk wz w.heap.size hd 42 by rw [hwz, hhd]; exact (Blk.new w _ _).alloc _)
  have HR0 := Lib.hid (show Blk wz (w.heap.size + 1) zc9 27 by rw [hwz]; exact two_blk _ _ _ _ _)
  have HSz := Lib.hid (show wz.heap.size = w.heap.size + 2 by rw [hwz]; simp)
  have h1 := (hhd ▸ HH0.out).cell (i := 1) (v := .int .i64 M) rfl
  have HHd := Lib.hid hhd
  have HIl := Lib.hid (show (Tryz.prog.info? 59).map (fun i => (i.zero, i.size, i.bytes)) = some (some (.agg #[.int .i64 0, .int .i64 0, .int .i64 0]), 3, 24) by kernel_rfl)
  have HIg := Lib.hid (show (Tryz.prog.info? 61).map (fun i => (i.zero, i.size, i.bytes)) = some (some (.agg #[.int .i64 0, .int .i64 0, .int .i64 0]), 3, 24) by kernel_rfl)
  have hal : ∀ o, (wz.alloc o).cell? ⟨w.heap.size, 1, none⟩ = some (.int .i64 M) := fun o => (hhd ▸ HH0.out.alloc o).cell (i := 1) (v := .int .i64 M) rfl
  have hal2 : ∀ o o', ((wz.alloc o).alloc o').cell? ⟨w.heap.size, 1, none⟩ = some (.int .i64 M) := fun o o' => (hhd ▸ (HH0.out.alloc o).alloc o').cell (i := 1) (v := .int .i64 M) rfl
  have hsz := HSz.out
  have hlt := HH0.out.lt
  unfold zc9 at hwz
  have HZ := Lib.hid hwz
  clear hB hwz hhd
  go_enter Tryz.func69, Tryz.ntmps69
  go_upto_region 1 with fail
  rw [← HZ.out]
  clear HZ
  go_cut [5, 6, 7] from 13 to 19 (fun s5 s6 s7 wx => ∃ cb nb, s5 = .pointer (some ⟨cb, 0, none⟩) ∧ s6 = .pointer (some ⟨nb, 0, none⟩) ∧ s7 = .int .i64 (2 * M + 1) ∧ BC w wx b w.heap.size (w.heap.size + 1) cb nb (w.heap.size + 4) s hd st M 0 (.slice none 0 0) (.slice none 0 0) (.slice none 0 0) (.slice none 0 0) (.slice none 0 0) (.slice none 0 0) [] [] [] [] [] [])
  case first =>
    go_region
    all_goals go_wp2_with fail
    all_goals go_meet
    · have n1 := Blk.new wz #[.int .i64 M, .slice none 0 0, .slice none 0 0, .slice none 0 0, .slice none 0 0, .slice none 0 0, .slice none 0 0, .slice none 0 0, .string ⟨#[]⟩] 27
      rw [hsz] at n1
      have n2 := Blk.new (wz.alloc (.cells #[.int .i64 M, .slice none 0 0, .slice none 0 0, .slice none 0 0, .slice none 0 0, .slice none 0 0, .slice none 0 0, .slice none 0 0, .string ⟨#[]⟩] 27)) #[.int .i64 0] 3
      rw [World.size_alloc, hsz] at n2
      have kk := ((Kp.refl (fun _ => False) wz).alloc (.cells #[.int .i64 M, .slice none 0 0, .slice none 0 0, .slice none 0 0, .slice none 0 0, .slice none 0 0, .slice none 0 0, .slice none 0 0, .string ⟨#[]⟩] 27)).alloc (.cells #[.int .i64 0] 3)
      exact ⟨w.heap.size + 2, w.heap.size + 2 + 1, rfl, rfl, rfl, ⟨HB.out.kp (HK0.out.trans kk.drew (fun _ _ h => h)) (fun h => h), HH0.out.kp kk.drew (fun h => h), HR0.out.kp kk.drew (fun h => h), (n1.alloc _).drew, n2.drew, Own.nil _ _ _, OwnK.nil _ _ _ _, Own.nil _ _ _, Own.nil _ _ _, Own.nil _ _ _, OwnK.nil _ _ _ _, HB.out.lt, ⟨by omega, by omega, by omega, by omega⟩, ⟨by omega, by omega, by omega, by omega, by simp [hsz]⟩, ⟨by omega, by omega, by omega, by omega, by omega⟩, (HK0.out.trans kk.drew (fun _ _ h => h)).mono (fun _ _ h => h.elim)⟩⟩
    · have n1 := Blk.new wz #[.int .i64 0] 3
      rw [hsz] at n1
      have n2 := Blk.new (wz.alloc (.cells #[.int .i64 0] 3)) #[.int .i64 M, .slice none 0 0, .slice none 0 0, .slice none 0 0, .slice none 0 0, .slice none 0 0, .slice none 0 0, .slice none 0 0, .string ⟨#[]⟩] 27
      rw [World.size_alloc, hsz] at n2
      have kk := ((Kp.refl (fun _ => False) wz).alloc (.cells #[.int .i64 0] 3)).alloc (.cells #[.int .i64 M, .slice none 0 0, .slice none 0 0, .slice none 0 0, .slice none 0 0, .slice none 0 0, .slice none 0 0, .slice none 0 0, .string ⟨#[]⟩] 27)
      exact ⟨w.heap.size + 2 + 1, w.heap.size + 2, rfl, rfl, rfl, ⟨HB.out.kp (HK0.out.trans kk.drew (fun _ _ h => h)) (fun h => h), HH0.out.kp kk.drew (fun h => h), HR0.out.kp kk.drew (fun h => h), n2.drew, (n1.alloc _).drew, Own.nil _ _ _, OwnK.nil _ _ _ _, Own.nil _ _ _, Own.nil _ _ _, Own.nil _ _ _, OwnK.nil _ _ _ _, HB.out.lt, ⟨by omega, by omega, by omega, by omega⟩, ⟨by omega, by omega, by omega, by omega, by simp [hsz]⟩, ⟨by omega, by omega, by omega, by omega, by omega⟩, (HK0.out.trans kk.drew (fun _ _ h => h)).mono (fun _ _ h => h.elim)⟩⟩
  case rest =>
  obtain ⟨cb, nb, rfl, rfl, rfl, hbc⟩ := hcut
  have HBc := Lib.hid hbc
  have HHd := HHd
  have i2 := (HHd.out ▸ hbc.h).cell (i := 2) (v := .int .i64 (nI : Nat)) rfl
  clear hal hal2 hsz hlt h1 HK0 HH0 HR0 HSz HB hbc
  go_wp2_with fail
  go_loopw [23] (fun v23 wr => ∃ (k : Nat) (vI : Value), v23 = .int .i64 k ∧ k ≤ nI ∧ BC w wr b w.heap.size (w.heap.size + 1) cb nb (w.heap.size + 4) s hd st M (2 * (k : Int)) vI (.slice none 0 0) (.slice none 0 0) (.slice none 0 0) (.slice none 0 0) (.slice none 0 0) (insP k) [] [] [] [] []) (fun v23 _ => nI - (intOf v23).toNat)
  case atStart => exact ⟨0, .slice none 0 0, rfl, by omega, HBc.out⟩
  case round =>
    obtain ⟨k, vI, rfl, hk, hbc⟩ := hrel
    obtain ⟨wp, rfl⟩ : ∃ wp : World, wp = wr := ⟨_, rfl⟩
    clear i2
    have HBk := Lib.hid hbc
    clear hbc HBc
    by_cases hlt : k < nI
    · obtain ⟨n0, hn0⟩ : ∃ n0 : Int, 2 * (k : Int) = n0 := ⟨_, rfl⟩
      rw [hn0] at HBk
      have HN0 := Lib.hid hn0
      have hn1 : 0 ≤ n0 := by omega
      have hn2 : n0 ≤ 1000000000 := by omega
      clear hn0
      go_upto_region 5 with fail
      refine wp_region_looseS (p := (inL [0, 1, 2, 3, 4, 5, 6, 7])) (V := atV [EqV (.pointer (some ⟨cb, 1, none⟩)), EqV (vI), EqV (.func (.func 87) #[] #[.pointer (some ⟨nb, 0, none⟩)]), AnyV, AnyV, AnyV, EqV (.pointer (some ⟨cb, 1, none⟩)), AnyV]) (R := (fun _ _ => True)) (W := (WI w b w.heap.size (w.heap.size + 1) cb nb (w.heap.size + 4) s hd st M n0 vI (insP k))) (c := (inL [3, 4, 5, 7])) (LP := #[true, true, true, true, true, true, true, true]) (K := 0) (N := 4) (by kernel_rfl) (by kernel_rfl) (by kernel_rfl) trivial (HBk.out.kp0 (Kp.refl _ _).drew) (fun _ _ _ _ _ => trivial) (atV_stR ?hstR5) ?hstepR5 (by kernel_rfl) ?hLPR5 (by kernel_rfl) (by kernel_rfl) ?hendR5
      case hstR5 =>
        intro V h
        simp only [List.mem_cons, List.not_mem_nil, or_false] at h
        rcases h with rfl | rfl | rfl | rfl | rfl | rfl | rfl | rfl <;> intro u u' v k h <;> first | exact h | exact trivial | exact EqV.st _
      case hLPR5 => exact pOf_spec (by kernel_rfl)
      case hstepR5 =>
        intro i o ho hp vs a u hk hw hn hub htold hoff hdep
        have e5 : a.tmps[5]?.getD undef = (.pointer (some ⟨cb, 0, none⟩)) := slot_at (hoff 5 (noDst_spec (by kernel_rfl)))
        have e8 : a.tmps[8]?.getD undef = (.func (.func 87) #[] #[.pointer (some ⟨nb, 0, none⟩)]) := slot_at (hoff 8 (noDst_spec (by kernel_rfl)))
        clear hoff
        match i, ho with
        | 0, ho =>
          obtain rfl := Option.some.inj ho
          show LS _ _ _ _ _ _ _ false _ _ _ _
          clear hn
          refine lsn_value (v := .pointer (some ⟨cb, 1, none⟩)) (u' := u) rfl ?_ trivial hw rfl
          go_simp
        | 1, ho =>
          obtain rfl := Option.some.inj ho
          show LS _ _ _ _ _ _ _ false _ _ _ _
          clear hn
          have e25 : a.tmps[25]?.getD undef = .pointer (some ⟨cb, 1, none⟩) := slot_at (hdep ⟨0, .data⟩ (by simp) rfl _ 25 rfl rfl)
          have hl : vs.length ≤ 2 := hub 5 (by decide) rfl (by decide +kernel)
          have c1 := WI_load hw hl
          refine lsn_value (v := vI) (u' := u) rfl ?_ trivial hw rfl
          go_simp
        | 2, ho =>
          obtain rfl := Option.some.inj ho
          show LS _ _ _ _ _ _ _ false _ _ _ _
          clear hn
          refine lsn_value (v := .func (.func 87) #[] #[.pointer (some ⟨nb, 0, none⟩)]) (u' := u) rfl ?_ trivial hw rfl
          go_simp
        | 3, ho =>
          obtain rfl := Option.some.inj ho
          have hlen : vs.length = 0 := (hn rfl).trans (by kernel_rfl)
          obtain rfl : vs = [] := List.eq_nil_of_length_eq_zero hlen
          show LS _ _ _ _ _ _ _ true _ _ _ _
          clear hn
          have e27 : a.tmps[27]?.getD undef = .func (.func 87) #[] #[.pointer (some ⟨nb, 0, none⟩)] := slot_at (hdep ⟨2, .data⟩ (by simp) rfl _ 27 rfl rfl)
          refine lsn_call (f := 87) (args := #[.pointer (some ⟨nb, 0, none⟩)]) rfl ?_ ?_
          · go_simp
          · exact (bin_lit nb n0 u hn1 hn2 (BC.x hw)).mono (by
              rintro e u' ⟨rfl, hx, hK⟩
              exact ⟨_, rfl, trivial, ⟨rfl, BC.nx hw hK hx⟩, trivial⟩)
        | 4, ho =>
          obtain rfl := Option.some.inj ho
          have hlen : vs.length = 1 := (hn rfl).trans (by kernel_rfl)
          obtain ⟨r0, rfl⟩ := vs_list1 hlen
          show LS _ _ _ _ _ _ _ true _ _ _ _
          clear hn
          have e28 : a.tmps[28]?.getD undef = r0 := slot_at (htold 3 _ 28 ⟨⟨3, .data⟩, by simp, rfl, rfl⟩ rfl rfl rfl)
          obtain ⟨rfl, hb⟩ := hw
          refine lsn_value (v := .slice (some ⟨u.heap.size, 0, none⟩) 1 1) (u' := u.alloc (.cells #[.int .i64 (n0 + 2)] 3)) rfl ?_ trivial ⟨⟨_, rfl, (Blk.new u _ _).cell rfl⟩, hb.kp0 ((Kp.refl _ _).alloc _)⟩ trivial
          go_simp
        | 5, ho =>
          obtain rfl := Option.some.inj ho
          have hlen : vs.length = 2 := (hn rfl).trans (by kernel_rfl)
          obtain ⟨r0, r1, rfl⟩ := vs_list2 hlen
          show LS _ _ _ _ _ _ _ true _ _ _ _
          clear hn
          have e29 : a.tmps[29]?.getD undef = r1 := slot_at (htold 4 _ 29 ⟨⟨4, .data⟩, by simp, rfl, rfl⟩ rfl rfl rfl)
          have e26 : a.tmps[26]?.getD undef = vI := slot_at (hdep ⟨1, .data⟩ (by simp) rfl _ 26 rfl rfl)
          obtain ⟨⟨g, rfl, hg⟩, hb⟩ := hw
          have hlen2 : (iv (insP k)).length = k := by rw [iv_length]; simp [insP]
          refine ls_none rfl ?_
          refine op_append1 (.tmp 26) (.tmp 29) 22 3 rfl Tryz.underlying22 wint_info rfl hb.oi (eval_at e26) ⟨g, 0, none⟩ (.int .i64 (n0 + 2)) (eval_at e29) hg rfl (by rw [hlen2]; omega) (by rw [hlen2]; unfold maxLen; omega) hb.hi.2.2.2.2 ?_
          intro v' u' hO' hgr
          exact ⟨v', rfl, trivial, ⟨u, hb, (Kp.refl _ _).grown hgr (fun j hj _ => hj), by rw [iv_append]; exact hO'⟩, trivial⟩
        | 6, ho =>
          obtain rfl := Option.some.inj ho
          show LS _ _ _ _ _ _ _ false _ _ _ _
          clear hn
          refine lsn_value (v := .pointer (some ⟨cb, 1, none⟩)) (u' := u) rfl ?_ trivial hw rfl
          go_simp
        | 7, ho =>
          obtain rfl := Option.some.inj ho
          have hlen : vs.length = 3 := (hn rfl).trans (by kernel_rfl)
          obtain ⟨r0, r1, r2, rfl⟩ := vs_list3 hlen
          show LS _ _ _ _ _ _ _ true _ _ _ _
          clear hn
          have e30 : a.tmps[30]?.getD undef = r2 := slot_at (htold 5 _ 30 ⟨⟨5, .data⟩, by simp, rfl, rfl⟩ rfl rfl rfl)
          have e31 : a.tmps[31]?.getD undef = .pointer (some ⟨cb, 1, none⟩) := slot_at (hdep ⟨6, .data⟩ (by simp) rfl _ 31 rfl rfl)
          obtain ⟨u0, hb, hk0, hO'⟩ := hw
          obtain ⟨ra, rc, rfl, -⟩ := hO'.form
          have hS : ∀ j, vI.ownBlock = some j → w.heap.size + 4 ≤ j := fun j hj => (hb.oi.lt j hj).1
          have hfin := hb.put (I' := insP k ++ [n0 + 2]) (L' := []) (O' := []) (D' := []) (N' := []) (G' := []) hk0 hS 1 _ rfl hO' (OwnK.nil _ _ _ _) (Own.nil _ _ _) (Own.nil _ _ _) (Own.nil _ _ _) (OwnK.nil _ _ _ _)
          have hcb := hb.c.kp hk0 (fun h => by have := hS _ h; have := hb.hi.2.2.1; omega)
          have c1 := hcb.cell (i := 1) (v := vI) rfl
          have f1 := hcb.free 1
          refine lsn_skip (u' := u.setCell ⟨cb, 1, none⟩ (.slice ra (iv (insP k ++ [n0 + 2])).length rc)) rfl ?_ trivial hfin trivial
          go_simp
        | n + 8, _ => exact (inL_far (N := 8) (by decide) hp).elim
      intro vs a u hlen hI
      have hsz : a.tmps.size = 120 := hI.size
      have hdf : a.defers = [] := hI.defers
      have f0 : a.tmps.getD 0 undef = _ := hI.off 0 (noDst_spec (p := (inL [0, 1, 2, 3, 4, 5, 6, 7])) (by kernel_rfl))
      have f1 : a.tmps.getD 1 undef = _ := hI.off 1 (noDst_spec (p := (inL [0, 1, 2, 3, 4, 5, 6, 7])) (by kernel_rfl))
      have f2 : a.tmps.getD 2 undef = _ := hI.off 2 (noDst_spec (p := (inL [0, 1, 2, 3, 4, 5, 6, 7])) (by kernel_rfl))
      have f3 : a.tmps.getD 3 undef = _ := hI.off 3 (noDst_spec (p := (inL [0, 1, 2, 3, 4, 5, 6, 7])) (by kernel_rfl))
      have f4 : a.tmps.getD 4 undef = _ := hI.off 4 (noDst_spec (p := (inL [0, 1, 2, 3, 4, 5, 6, 7])) (by kernel_rfl))
      have f5 : a.tmps.getD 5 undef = _ := hI.off 5 (noDst_spec (p := (inL [0, 1, 2, 3, 4, 5, 6, 7])) (by kernel_rfl))
      have f6 : a.tmps.getD 6 undef = _ := hI.off 6 (noDst_spec (p := (inL [0, 1, 2, 3, 4, 5, 6, 7])) (by kernel_rfl))
      have f7 : a.tmps.getD 7 undef = _ := hI.off 7 (noDst_spec (p := (inL [0, 1, 2, 3, 4, 5, 6, 7])) (by kernel_rfl))
      have f8 : a.tmps.getD 8 undef = _ := hI.off 8 (noDst_spec (p := (inL [0, 1, 2, 3, 4, 5, 6, 7])) (by kernel_rfl))
      have f9 : a.tmps.getD 9 undef = _ := hI.off 9 (noDst_spec (p := (inL [0, 1, 2, 3, 4, 5, 6, 7])) (by kernel_rfl))
      have f10 : a.tmps.getD 10 undef = _ := hI.off 10 (noDst_spec (p := (inL [0, 1, 2, 3, 4, 5, 6, 7])) (by kernel_rfl))
      have f11 : a.tmps.getD 11 undef = _ := hI.off 11 (noDst_spec (p := (inL [0, 1, 2, 3, 4, 5, 6, 7])) (by kernel_rfl))
      have f12 : a.tmps.getD 12 undef = _ := hI.off 12 (noDst_spec (p := (inL [0, 1, 2, 3, 4, 5, 6, 7])) (by kernel_rfl))
      have f13 : a.tmps.getD 13 undef = _ := hI.off 13 (noDst_spec (p := (inL [0, 1, 2, 3, 4, 5, 6, 7])) (by kernel_rfl))
      have f14 : a.tmps.getD 14 undef = _ := hI.off 14 (noDst_spec (p := (inL [0, 1, 2, 3, 4, 5, 6, 7])) (by kernel_rfl))
      have f15 : a.tmps.getD 15 undef = _ := hI.off 15 (noDst_spec (p := (inL [0, 1, 2, 3, 4, 5, 6, 7])) (by kernel_rfl))
      have f16 : a.tmps.getD 16 undef = _ := hI.off 16 (noDst_spec (p := (inL [0, 1, 2, 3, 4, 5, 6, 7])) (by kernel_rfl))
      have f17 : a.tmps.getD 17 undef = _ := hI.off 17 (noDst_spec (p := (inL [0, 1, 2, 3, 4, 5, 6, 7])) (by kernel_rfl))
      have f18 : a.tmps.getD 18 undef = _ := hI.off 18 (noDst_spec (p := (inL [0, 1, 2, 3, 4, 5, 6, 7])) (by kernel_rfl))
      have f19 : a.tmps.getD 19 undef = _ := hI.off 19 (noDst_spec (p := (inL [0, 1, 2, 3, 4, 5, 6, 7])) (by kernel_rfl))
      have f20 : a.tmps.getD 20 undef = _ := hI.off 20 (noDst_spec (p := (inL [0, 1, 2, 3, 4, 5, 6, 7])) (by kernel_rfl))
      have f21 : a.tmps.getD 21 undef = _ := hI.off 21 (noDst_spec (p := (inL [0, 1, 2, 3, 4, 5, 6, 7])) (by kernel_rfl))
      have f22 : a.tmps.getD 22 undef = _ := hI.off 22 (noDst_spec (p := (inL [0, 1, 2, 3, 4, 5, 6, 7])) (by kernel_rfl))
      have f23 : a.tmps.getD 23 undef = _ := hI.off 23 (noDst_spec (p := (inL [0, 1, 2, 3, 4, 5, 6, 7])) (by kernel_rfl))
      have f24 : a.tmps.getD 24 undef = _ := hI.off 24 (noDst_spec (p := (inL [0, 1, 2, 3, 4, 5, 6, 7])) (by kernel_rfl))
      have f32 : a.tmps.getD 32 undef = _ := hI.off 32 (noDst_spec (p := (inL [0, 1, 2, 3, 4, 5, 6, 7])) (by kernel_rfl))
      have f33 : a.tmps.getD 33 undef = _ := hI.off 33 (noDst_spec (p := (inL [0, 1, 2, 3, 4, 5, 6, 7])) (by kernel_rfl))
      have f34 : a.tmps.getD 34 undef = _ := hI.off 34 (noDst_spec (p := (inL [0, 1, 2, 3, 4, 5, 6, 7])) (by kernel_rfl))
      have f35 : a.tmps.getD 35 undef = _ := hI.off 35 (noDst_spec (p := (inL [0, 1, 2, 3, 4, 5, 6, 7])) (by kernel_rfl))
      have f36 : a.tmps.getD 36 undef = _ := hI.off 36 (noDst_spec (p := (inL [0, 1, 2, 3, 4, 5, 6, 7])) (by kernel_rfl))
      have f37 : a.tmps.getD 37 undef = _ := hI.off 37 (noDst_spec (p := (inL [0, 1, 2, 3, 4, 5, 6, 7])) (by kernel_rfl))
      have f38 : a.tmps.getD 38 undef = _ := hI.off 38 (noDst_spec (p := (inL [0, 1, 2, 3, 4, 5, 6, 7])) (by kernel_rfl))
      have f39 : a.tmps.getD 39 undef = _ := hI.off 39 (noDst_spec (p := (inL [0, 1, 2, 3, 4, 5, 6, 7])) (by kernel_rfl))
      have f40 : a.tmps.getD 40 undef = _ := hI.off 40 (noDst_spec (p := (inL [0, 1, 2, 3, 4, 5, 6, 7])) (by kernel_rfl))
      have f41 : a.tmps.getD 41 undef = _ := hI.off 41 (noDst_spec (p := (inL [0, 1, 2, 3, 4, 5, 6, 7])) (by kernel_rfl))
      have f42 : a.tmps.getD 42 undef = _ := hI.off 42 (noDst_spec (p := (inL [0, 1, 2, 3, 4, 5, 6, 7])) (by kernel_rfl))
      have f43 : a.tmps.getD 43 undef = _ := hI.off 43 (noDst_spec (p := (inL [0, 1, 2, 3, 4, 5, 6, 7])) (by kernel_rfl))
      have f44 : a.tmps.getD 44 undef = _ := hI.off 44 (noDst_spec (p := (inL [0, 1, 2, 3, 4, 5, 6, 7])) (by kernel_rfl))
      have f45 : a.tmps.getD 45 undef = _ := hI.off 45 (noDst_spec (p := (inL [0, 1, 2, 3, 4, 5, 6, 7])) (by kernel_rfl))
      have f46 : a.tmps.getD 46 undef = _ := hI.off 46 (noDst_spec (p := (inL [0, 1, 2, 3, 4, 5, 6, 7])) (by kernel_rfl))
      have f47 : a.tmps.getD 47 undef = _ := hI.off 47 (noDst_spec (p := (inL [0, 1, 2, 3, 4, 5, 6, 7])) (by kernel_rfl))
      have f48 : a.tmps.getD 48 undef = _ := hI.off 48 (noDst_spec (p := (inL [0, 1, 2, 3, 4, 5, 6, 7])) (by kernel_rfl))
      have f49 : a.tmps.getD 49 undef = _ := hI.off 49 (noDst_spec (p := (inL [0, 1, 2, 3, 4, 5, 6, 7])) (by kernel_rfl))
      have f50 : a.tmps.getD 50 undef = _ := hI.off 50 (noDst_spec (p := (inL [0, 1, 2, 3, 4, 5, 6, 7])) (by kernel_rfl))
      have f51 : a.tmps.getD 51 undef = _ := hI.off 51 (noDst_spec (p := (inL [0, 1, 2, 3, 4, 5, 6, 7])) (by kernel_rfl))
      have f52 : a.tmps.getD 52 undef = _ := hI.off 52 (noDst_spec (p := (inL [0, 1, 2, 3, 4, 5, 6, 7])) (by kernel_rfl))
      have f53 : a.tmps.getD 53 undef = _ := hI.off 53 (noDst_spec (p := (inL [0, 1, 2, 3, 4, 5, 6, 7])) (by kernel_rfl))
      have f54 : a.tmps.getD 54 undef = _ := hI.off 54 (noDst_spec (p := (inL [0, 1, 2, 3, 4, 5, 6, 7])) (by kernel_rfl))
      have f55 : a.tmps.getD 55 undef = _ := hI.off 55 (noDst_spec (p := (inL [0, 1, 2, 3, 4, 5, 6, 7])) (by kernel_rfl))
      have f56 : a.tmps.getD 56 undef = _ := hI.off 56 (noDst_spec (p := (inL [0, 1, 2, 3, 4, 5, 6, 7])) (by kernel_rfl))
      have f57 : a.tmps.getD 57 undef = _ := hI.off 57 (noDst_spec (p := (inL [0, 1, 2, 3, 4, 5, 6, 7])) (by kernel_rfl))
      have f58 : a.tmps.getD 58 undef = _ := hI.off 58 (noDst_spec (p := (inL [0, 1, 2, 3, 4, 5, 6, 7])) (by kernel_rfl))
      have f59 : a.tmps.getD 59 undef = _ := hI.off 59 (noDst_spec (p := (inL [0, 1, 2, 3, 4, 5, 6, 7])) (by kernel_rfl))
      have f60 : a.tmps.getD 60 undef = _ := hI.off 60 (noDst_spec (p := (inL [0, 1, 2, 3, 4, 5, 6, 7])) (by kernel_rfl))
      have f61 : a.tmps.getD 61 undef = _ := hI.off 61 (noDst_spec (p := (inL [0, 1, 2, 3, 4, 5, 6, 7])) (by kernel_rfl))
      have f62 : a.tmps.getD 62 undef = _ := hI.off 62 (noDst_spec (p := (inL [0, 1, 2, 3, 4, 5, 6, 7])) (by kernel_rfl))
      have f63 : a.tmps.getD 63 undef = _ := hI.off 63 (noDst_spec (p := (inL [0, 1, 2, 3, 4, 5, 6, 7])) (by kernel_rfl))
      have f64 : a.tmps.getD 64 undef = _ := hI.off 64 (noDst_spec (p := (inL [0, 1, 2, 3, 4, 5, 6, 7])) (by kernel_rfl))
      have f65 : a.tmps.getD 65 undef = _ := hI.off 65 (noDst_spec (p := (inL [0, 1, 2, 3, 4, 5, 6, 7])) (by kernel_rfl))
      have f66 : a.tmps.getD 66 undef = _ := hI.off 66 (noDst_spec (p := (inL [0, 1, 2, 3, 4, 5, 6, 7])) (by kernel_rfl))
      have f67 : a.tmps.getD 67 undef = _ := hI.off 67 (noDst_spec (p := (inL [0, 1, 2, 3, 4, 5, 6, 7])) (by kernel_rfl))
      have f68 : a.tmps.getD 68 undef = _ := hI.off 68 (noDst_spec (p := (inL [0, 1, 2, 3, 4, 5, 6, 7])) (by kernel_rfl))
      have f69 : a.tmps.getD 69 undef = _ := hI.off 69 (noDst_spec (p := (inL [0, 1, 2, 3, 4, 5, 6, 7])) (by kernel_rfl))
      have f70 : a.tmps.getD 70 undef = _ := hI.off 70 (noDst_spec (p := (inL [0, 1, 2, 3, 4, 5, 6, 7])) (by kernel_rfl))
      have f71 : a.tmps.getD 71 undef = _ := hI.off 71 (noDst_spec (p := (inL [0, 1, 2, 3, 4, 5, 6, 7])) (by kernel_rfl))
      have f72 : a.tmps.getD 72 undef = _ := hI.off 72 (noDst_spec (p := (inL [0, 1, 2, 3, 4, 5, 6, 7])) (by kernel_rfl))
      have f73 : a.tmps.getD 73 undef = _ := hI.off 73 (noDst_spec (p := (inL [0, 1, 2, 3, 4, 5, 6, 7])) (by kernel_rfl))
      have f74 : a.tmps.getD 74 undef = _ := hI.off 74 (noDst_spec (p := (inL [0, 1, 2, 3, 4, 5, 6, 7])) (by kernel_rfl))
      have f75 : a.tmps.getD 75 undef = _ := hI.off 75 (noDst_spec (p := (inL [0, 1, 2, 3, 4, 5, 6, 7])) (by kernel_rfl))
      have f76 : a.tmps.getD 76 undef = _ := hI.off 76 (noDst_spec (p := (inL [0, 1, 2, 3, 4, 5, 6, 7])) (by kernel_rfl))
      have f77 : a.tmps.getD 77 undef = _ := hI.off 77 (noDst_spec (p := (inL [0, 1, 2, 3, 4, 5, 6, 7])) (by kernel_rfl))
      have f78 : a.tmps.getD 78 undef = _ := hI.off 78 (noDst_spec (p := (inL [0, 1, 2, 3, 4, 5, 6, 7])) (by kernel_rfl))
      have f79 : a.tmps.getD 79 undef = _ := hI.off 79 (noDst_spec (p := (inL [0, 1, 2, 3, 4, 5, 6, 7])) (by kernel_rfl))
      have f80 : a.tmps.getD 80 undef = _ := hI.off 80 (noDst_spec (p := (inL [0, 1, 2, 3, 4, 5, 6, 7])) (by kernel_rfl))
      have f81 : a.tmps.getD 81 undef = _ := hI.off 81 (noDst_spec (p := (inL [0, 1, 2, 3, 4, 5, 6, 7])) (by kernel_rfl))
      have f82 : a.tmps.getD 82 undef = _ := hI.off 82 (noDst_spec (p := (inL [0, 1, 2, 3, 4, 5, 6, 7])) (by kernel_rfl))
      have f83 : a.tmps.getD 83 undef = _ := hI.off 83 (noDst_spec (p := (inL [0, 1, 2, 3, 4, 5, 6, 7])) (by kernel_rfl))
      have f84 : a.tmps.getD 84 undef = _ := hI.off 84 (noDst_spec (p := (inL [0, 1, 2, 3, 4, 5, 6, 7])) (by kernel_rfl))
      have f85 : a.tmps.getD 85 undef = _ := hI.off 85 (noDst_spec (p := (inL [0, 1, 2, 3, 4, 5, 6, 7])) (by kernel_rfl))
      have f86 : a.tmps.getD 86 undef = _ := hI.off 86 (noDst_spec (p := (inL [0, 1, 2, 3, 4, 5, 6, 7])) (by kernel_rfl))
      have f87 : a.tmps.getD 87 undef = _ := hI.off 87 (noDst_spec (p := (inL [0, 1, 2, 3, 4, 5, 6, 7])) (by kernel_rfl))
      have f88 : a.tmps.getD 88 undef = _ := hI.off 88 (noDst_spec (p := (inL [0, 1, 2, 3, 4, 5, 6, 7])) (by kernel_rfl))
      have f89 : a.tmps.getD 89 undef = _ := hI.off 89 (noDst_spec (p := (inL [0, 1, 2, 3, 4, 5, 6, 7])) (by kernel_rfl))
      have f90 : a.tmps.getD 90 undef = _ := hI.off 90 (noDst_spec (p := (inL [0, 1, 2, 3, 4, 5, 6, 7])) (by kernel_rfl))
      have f91 : a.tmps.getD 91 undef = _ := hI.off 91 (noDst_spec (p := (inL [0, 1, 2, 3, 4, 5, 6, 7])) (by kernel_rfl))
      have f92 : a.tmps.getD 92 undef = _ := hI.off 92 (noDst_spec (p := (inL [0, 1, 2, 3, 4, 5, 6, 7])) (by kernel_rfl))
      have f93 : a.tmps.getD 93 undef = _ := hI.off 93 (noDst_spec (p := (inL [0, 1, 2, 3, 4, 5, 6, 7])) (by kernel_rfl))
      have f94 : a.tmps.getD 94 undef = _ := hI.off 94 (noDst_spec (p := (inL [0, 1, 2, 3, 4, 5, 6, 7])) (by kernel_rfl))
      have f95 : a.tmps.getD 95 undef = _ := hI.off 95 (noDst_spec (p := (inL [0, 1, 2, 3, 4, 5, 6, 7])) (by kernel_rfl))
      have f96 : a.tmps.getD 96 undef = _ := hI.off 96 (noDst_spec (p := (inL [0, 1, 2, 3, 4, 5, 6, 7])) (by kernel_rfl))
      have f97 : a.tmps.getD 97 undef = _ := hI.off 97 (noDst_spec (p := (inL [0, 1, 2, 3, 4, 5, 6, 7])) (by kernel_rfl))
      have f98 : a.tmps.getD 98 undef = _ := hI.off 98 (noDst_spec (p := (inL [0, 1, 2, 3, 4, 5, 6, 7])) (by kernel_rfl))
      have f99 : a.tmps.getD 99 undef = _ := hI.off 99 (noDst_spec (p := (inL [0, 1, 2, 3, 4, 5, 6, 7])) (by kernel_rfl))
      have f100 : a.tmps.getD 100 undef = _ := hI.off 100 (noDst_spec (p := (inL [0, 1, 2, 3, 4, 5, 6, 7])) (by kernel_rfl))
      have f101 : a.tmps.getD 101 undef = _ := hI.off 101 (noDst_spec (p := (inL [0, 1, 2, 3, 4, 5, 6, 7])) (by kernel_rfl))
      have f102 : a.tmps.getD 102 undef = _ := hI.off 102 (noDst_spec (p := (inL [0, 1, 2, 3, 4, 5, 6, 7])) (by kernel_rfl))
      have f103 : a.tmps.getD 103 undef = _ := hI.off 103 (noDst_spec (p := (inL [0, 1, 2, 3, 4, 5, 6, 7])) (by kernel_rfl))
      have f104 : a.tmps.getD 104 undef = _ := hI.off 104 (noDst_spec (p := (inL [0, 1, 2, 3, 4, 5, 6, 7])) (by kernel_rfl))
      have f105 : a.tmps.getD 105 undef = _ := hI.off 105 (noDst_spec (p := (inL [0, 1, 2, 3, 4, 5, 6, 7])) (by kernel_rfl))
      have f106 : a.tmps.getD 106 undef = _ := hI.off 106 (noDst_spec (p := (inL [0, 1, 2, 3, 4, 5, 6, 7])) (by kernel_rfl))
      have f107 : a.tmps.getD 107 undef = _ := hI.off 107 (noDst_spec (p := (inL [0, 1, 2, 3, 4, 5, 6, 7])) (by kernel_rfl))
      have f108 : a.tmps.getD 108 undef = _ := hI.off 108 (noDst_spec (p := (inL [0, 1, 2, 3, 4, 5, 6, 7])) (by kernel_rfl))
      have f109 : a.tmps.getD 109 undef = _ := hI.off 109 (noDst_spec (p := (inL [0, 1, 2, 3, 4, 5, 6, 7])) (by kernel_rfl))
      have f110 : a.tmps.getD 110 undef = _ := hI.off 110 (noDst_spec (p := (inL [0, 1, 2, 3, 4, 5, 6, 7])) (by kernel_rfl))
      have f111 : a.tmps.getD 111 undef = _ := hI.off 111 (noDst_spec (p := (inL [0, 1, 2, 3, 4, 5, 6, 7])) (by kernel_rfl))
      have f112 : a.tmps.getD 112 undef = _ := hI.off 112 (noDst_spec (p := (inL [0, 1, 2, 3, 4, 5, 6, 7])) (by kernel_rfl))
      have f113 : a.tmps.getD 113 undef = _ := hI.off 113 (noDst_spec (p := (inL [0, 1, 2, 3, 4, 5, 6, 7])) (by kernel_rfl))
      have f114 : a.tmps.getD 114 undef = _ := hI.off 114 (noDst_spec (p := (inL [0, 1, 2, 3, 4, 5, 6, 7])) (by kernel_rfl))
      have f115 : a.tmps.getD 115 undef = _ := hI.off 115 (noDst_spec (p := (inL [0, 1, 2, 3, 4, 5, 6, 7])) (by kernel_rfl))
      have f116 : a.tmps.getD 116 undef = _ := hI.off 116 (noDst_spec (p := (inL [0, 1, 2, 3, 4, 5, 6, 7])) (by kernel_rfl))
      have f117 : a.tmps.getD 117 undef = _ := hI.off 117 (noDst_spec (p := (inL [0, 1, 2, 3, 4, 5, 6, 7])) (by kernel_rfl))
      have f118 : a.tmps.getD 118 undef = _ := hI.off 118 (noDst_spec (p := (inL [0, 1, 2, 3, 4, 5, 6, 7])) (by kernel_rfl))
      have f119 : a.tmps.getD 119 undef = _ := hI.off 119 (noDst_spec (p := (inL [0, 1, 2, 3, 4, 5, 6, 7])) (by kernel_rfl))
      obtain ⟨r0, r1, r2, r3, rfl⟩ := vs_list4 hlen
      have f25 : a.tmps.getD 25 undef = .pointer (some ⟨cb, 1, none⟩) := hI.val 0 _ 25 rfl rfl rfl
      have f26 : a.tmps.getD 26 undef = vI := hI.val 1 _ 26 rfl rfl rfl
      have f27 : a.tmps.getD 27 undef = .func (.func 87) #[] #[.pointer (some ⟨nb, 0, none⟩)] := hI.val 2 _ 27 rfl rfl rfl
      have f28 : a.tmps.getD 28 undef = r0 := hI.told 3 _ 28 rfl rfl rfl rfl
      have f29 : a.tmps.getD 29 undef = r1 := hI.told 4 _ 29 rfl rfl rfl rfl
      have f30 : a.tmps.getD 30 undef = r2 := hI.told 5 _ 30 rfl rfl rfl rfl
      have f31 : a.tmps.getD 31 undef = .pointer (some ⟨cb, 1, none⟩) := hI.val 6 _ 31 rfl rfl rfl
      have ha : a = ⟨#[a.tmps.getD 0 undef, a.tmps.getD 1 undef, a.tmps.getD 2 undef, a.tmps.getD 3 undef, a.tmps.getD 4 undef, a.tmps.getD 5 undef, a.tmps.getD 6 undef, a.tmps.getD 7 undef, a.tmps.getD 8 undef, a.tmps.getD 9 undef, a.tmps.getD 10 undef, a.tmps.getD 11 undef, a.tmps.getD 12 undef, a.tmps.getD 13 undef, a.tmps.getD 14 undef, a.tmps.getD 15 undef, a.tmps.getD 16 undef, a.tmps.getD 17 undef, a.tmps.getD 18 undef, a.tmps.getD 19 undef, a.tmps.getD 20 undef, a.tmps.getD 21 undef, a.tmps.getD 22 undef, a.tmps.getD 23 undef, a.tmps.getD 24 undef, a.tmps.getD 25 undef, a.tmps.getD 26 undef, a.tmps.getD 27 undef, a.tmps.getD 28 undef, a.tmps.getD 29 undef, a.tmps.getD 30 undef, a.tmps.getD 31 undef, a.tmps.getD 32 undef, a.tmps.getD 33 undef, a.tmps.getD 34 undef, a.tmps.getD 35 undef, a.tmps.getD 36 undef, a.tmps.getD 37 undef, a.tmps.getD 38 undef, a.tmps.getD 39 undef, a.tmps.getD 40 undef, a.tmps.getD 41 undef, a.tmps.getD 42 undef, a.tmps.getD 43 undef, a.tmps.getD 44 undef, a.tmps.getD 45 undef, a.tmps.getD 46 undef, a.tmps.getD 47 undef, a.tmps.getD 48 undef, a.tmps.getD 49 undef, a.tmps.getD 50 undef, a.tmps.getD 51 undef, a.tmps.getD 52 undef, a.tmps.getD 53 undef, a.tmps.getD 54 undef, a.tmps.getD 55 undef, a.tmps.getD 56 undef, a.tmps.getD 57 undef, a.tmps.getD 58 undef, a.tmps.getD 59 undef, a.tmps.getD 60 undef, a.tmps.getD 61 undef, a.tmps.getD 62 undef, a.tmps.getD 63 undef, a.tmps.getD 64 undef, a.tmps.getD 65 undef, a.tmps.getD 66 undef, a.tmps.getD 67 undef, a.tmps.getD 68 undef, a.tmps.getD 69 undef, a.tmps.getD 70 undef, a.tmps.getD 71 undef, a.tmps.getD 72 undef, a.tmps.getD 73 undef, a.tmps.getD 74 undef, a.tmps.getD 75 undef, a.tmps.getD 76 undef, a.tmps.getD 77 undef, a.tmps.getD 78 undef, a.tmps.getD 79 undef, a.tmps.getD 80 undef, a.tmps.getD 81 undef, a.tmps.getD 82 undef, a.tmps.getD 83 undef, a.tmps.getD 84 undef, a.tmps.getD 85 undef, a.tmps.getD 86 undef, a.tmps.getD 87 undef, a.tmps.getD 88 undef, a.tmps.getD 89 undef, a.tmps.getD 90 undef, a.tmps.getD 91 undef, a.tmps.getD 92 undef, a.tmps.getD 93 undef, a.tmps.getD 94 undef, a.tmps.getD 95 undef, a.tmps.getD 96 undef, a.tmps.getD 97 undef, a.tmps.getD 98 undef, a.tmps.getD 99 undef, a.tmps.getD 100 undef, a.tmps.getD 101 undef, a.tmps.getD 102 undef, a.tmps.getD 103 undef, a.tmps.getD 104 undef, a.tmps.getD 105 undef, a.tmps.getD 106 undef, a.tmps.getD 107 undef, a.tmps.getD 108 undef, a.tmps.getD 109 undef, a.tmps.getD 110 undef, a.tmps.getD 111 undef, a.tmps.getD 112 undef, a.tmps.getD 113 undef, a.tmps.getD 114 undef, a.tmps.getD 115 undef, a.tmps.getD 116 undef, a.tmps.getD 117 undef, a.tmps.getD 118 undef, a.tmps.getD 119 undef], a.defers⟩ := act_list a 120 hsz
      rw [hdf, f0, f1, f2, f3, f4, f5, f6, f7, f8, f9, f10, f11, f12, f13, f14, f15, f16, f17, f18, f19, f20, f21, f22, f23, f24, f25, f26, f27, f28, f29, f30, f31, f32, f33, f34, f35, f36, f37, f38, f39, f40, f41, f42, f43, f44, f45, f46, f47, f48, f49, f50, f51, f52, f53, f54, f55, f56, f57, f58, f59, f60, f61, f62, f63, f64, f65, f66, f67, f68, f69, f70, f71, f72, f73, f74, f75, f76, f77, f78, f79, f80, f81, f82, f83, f84, f85, f86, f87, f88, f89, f90, f91, f92, f93, f94, f95, f96, f97, f98, f99, f100, f101, f102, f103, f104, f105, f106, f107, f108, f109, f110, f111, f112, f113, f114, f115, f116, f117, f118, f119] at ha
      clear hlen
      have hru := hI.rel
      have hwu := hI.st
      clear hI hsz hdf f0 f1 f2 f3 f4 f5 f6 f7 f8 f9 f10 f11 f12 f13 f14 f15 f16 f17 f18 f19 f20 f21 f22 f23 f24 f25 f26 f27 f28 f29 f30 f31 f32 f33 f34 f35 f36 f37 f38 f39 f40 f41 f42 f43 f44 f45 f46 f47 f48 f49 f50 f51 f52 f53 f54 f55 f56 f57 f58 f59 f60 f61 f62 f63 f64 f65 f66 f67 f68 f69 f70 f71 f72 f73 f74 f75 f76 f77 f78 f79 f80 f81 f82 f83 f84 f85 f86 f87 f88 f89 f90 f91 f92 f93 f94 f95 f96 f97 f98 f99 f100 f101 f102 f103 f104 f105 f106 f107 f108 f109 f110 f111 f112 f113 f114 f115 f116 f117 f118 f119 
      subst ha
      refine wpAny_done (by kernel_rfl) ?_ _
      simp only [Array.getD_eq_getD_getElem?, List.getElem?_toArray, List.getElem?_cons_zero, List.getElem?_cons_succ, Option.getD_some]
      go_wp2_with fail
      have hfin : BC w u b w.heap.size (w.heap.size + 1) cb nb (w.heap.size + 4) s hd st M (n0 + 2) r2 (.slice none 0 0) (.slice none 0 0) (.slice none 0 0) (.slice none 0 0) (.slice none 0 0) (insP k ++ [n0 + 2]) [] [] [] [] [] := hwu
      have HF := Lib.hid (show BC w u b w.heap.size (w.heap.size + 1) cb nb (w.heap.size + 4) s hd st M (2 * ((k + 1 : Nat) : Int)) r2 (.slice none 0 0) (.slice none 0 0) (.slice none 0 0) (.slice none 0 0) (.slice none 0 0) (insP (k + 1)) [] [] [] [] [] from by
        have e1 : 2 * ((k + 1 : Nat) : Int) = n0 + 2 := by have := HN0.out; omega
        have e2 : insP (k + 1) = insP k ++ [n0 + 2] := by
          unfold insP
          rw [List.range_succ, List.map_append, List.map_cons, List.map_nil, HN0.out]
        rw [e1, e2]
        exact hfin)
      clear hfin hwu
      go_roundw
      case rel => exact ⟨k + 1, r2, by go_num, by omega, HF.out⟩
      case measure => simp [intOf]; omega
    · obtain rfl : k = nI := by omega
      obtain ⟨w1, hw1⟩ : ∃ w1 : World, w1 = wp := ⟨_, rfl⟩
      rw [← hw1] at HBk
      have i3 := (HHd.out ▸ HBk.out.h).cell (i := 3) (v := .int .i64 (nL : Nat)) rfl
      rw [hw1] at i3 HBk
      go_wp2_with fail
      go_loopw [9, 35] (fun v9 v35 wr => ∃ (q : Nat) (vL : Value) (L : List (Int × Int × Int)) (t : Nat × Nat), v35 = .int .i64 q ∧ q ≤ nL ∧ t.1 ≤ s.size ∧ L.length = q ∧ rdLatsP s (2 * M + 1) k nL 0 [] st = rdLatsP s (2 * M + 1) k (nL - q) q L t ∧ BC w wr b w.heap.size (w.heap.size + 1) cb nb (w.heap.size + 4) s hd t M (2 * ((k + q : Nat) : Int)) vI vL (.slice none 0 0) (.slice none 0 0) (.slice none 0 0) (.slice none 0 0) (insP k) L [] [] [] []) (fun _ v35 _ => nL - (intOf v35).toNat)
      case atStart => exact ⟨0, .slice none 0 0, [], st, rfl, by omega, hp, rfl, rfl, HBk.out⟩
      case round =>
        obtain ⟨q, vL, L, t, rfl, hq, ht, hLl, hE, hbc⟩ := hrel
        obtain ⟨wq, rfl⟩ : ∃ wq : World, wq = wr := ⟨_, rfl⟩
        clear hw1
        try clear i3
        have HBq := Lib.hid hbc
        have HE := Lib.hid hE
        have HLl := Lib.hid hLl
        clear hbc HBk hE hLl
        by_cases hlt : q < nL
        · obtain ⟨t1, t2⟩ := t
          obtain ⟨n0, hn0⟩ : ∃ n0 : Int, 2 * ((k + q : Nat) : Int) = n0 := ⟨_, rfl⟩
          rw [hn0] at HBq
          have HN0 := Lib.hid hn0
          have hn1 : 0 ≤ n0 := by omega
          have hn2 : n0 ≤ 1000000000 := by omega
          obtain ⟨n, p2, e2, hd2⟩ : ∃ n p2 e2, rdD s (2 * M + 1) (t1, t2) = (n, p2, e2) := ⟨_, _, _, rfl⟩
          have hp2 : p2 ≤ s.size := by have := rdD_le (s := s) (top := 2 * M + 1) ht; rw [hd2] at this; exact this
          obtain ⟨c, p3, e3, hg3⟩ : ∃ c p3 e3, rdS s (fun c => c == 32 || c == 10) (p2, e2) = (c, p3, e3) := ⟨_, _, _, rfl⟩
          have hp3 : p3 ≤ s.size := by have := rdS_le (s := s) (ok := fun c => c == 32 || c == 10) (st := (p2, e2)) hp2; rw [hg3] at this; exact this
          have HD := Lib.hid (fun u hu => bin_digits s b t1 t2 (2 * M + 1) u hs ht hu)
          have HS := Lib.hid (fun u hu => bin_sign s ⟨#[32, 10]⟩ (fun c => c == 32 || c == 10) b p2 e2 u hs hp2 idx3210 hu)
          rw [hd2] at HD
          rw [hg3] at HS
          obtain ⟨j, hj⟩ : ∃ j, nL - q = j + 1 := ⟨nL - q - 1, by omega⟩
          have HJ := Lib.hid (show nL - (q + 1) = j by omega)
          have HStep := Lib.hid (show rdLatsP s (2 * M + 1) k (nL - q) q L (t1, t2) = if c = 32 then rdLatsP s (2 * M + 1) k j (q + 1) (L ++ [(n0 + 2, (n : Int), ((rdD s (2 * M + 1) (p3, e3)).1 : Int))]) (rdS s (fun c => c == 10) (rdD s (2 * M + 1) (p3, e3)).2).2 else if c = 0 then (L, (p3, e3)) else rdLatsP s (2 * M + 1) k j (q + 1) (L ++ [(n0 + 2, (n : Int), 0)]) (p3, e3) from by
            rw [hj, rdLatsP_succ, hd2]
            simp only
            rw [hg3]
            simp only
            rw [hn0])
          have HZ3 := Lib.hid (fun h0 : c = 0 => show e3 ≠ 0 from rdS_zero (ok := fun c => c == 32 || c == 10) rfl (h0 ▸ hg3))
          have iv1 := met_digits
          have iv2 := met_sign
          clear hn0 hd2 hg3 hj ht
          go_upto_region 10 with (first
            | (go_at_call 87; refine Calls.mono (bin_lit nb n0 _ hn1 hn2 (BC.x HBq.out)) ?_; rintro e w2 ⟨rfl, hx2, hK2⟩; have hb2 := HBq.out.nx hK2 hx2; have HD2 := Lib.hid (HD.out w2 hb2.t))
            | (go_at_call 144; with_reducible refine Calls.mono HD2.out ?_; rintro e w3 ⟨rfl, hT3, hK3⟩; have HB3 := Lib.hid (hb2.rd hK3 hT3)))
          obtain ⟨w4, hw4⟩ : ∃ w4 : World, w4 = w3.alloc (.cells #[.int .i64 (n0 + 2), .int .i64 (n : Nat), .int .i64 0] 59) := ⟨_, rfl⟩
          rw [← hw4]
          have HB4 := Lib.hid (HB3.out.kp0 (by rw [hw4]; exact (Kp.refl _ w3).alloc _ : Kp (fun _ => False) w3 w4))
          have HX4 := Lib.hid (show Blk w4 w3.heap.size #[.int .i64 (n0 + 2), .int .i64 (n : Nat), .int .i64 0] 59 by rw [hw4]; exact Blk.new _ _ _)
          have HXb := Lib.hid (show ¬ w3.heap.size = b by have := HB3.out.bl; have := HB3.out.hi; omega)
          have HS4 := Lib.hid (HS.out w4 HB4.out.t)
          clear hw4 hb2 hx2 hK2 hT3 hK3 HD2 HD HS
          go_upto_region 11 with (go_at_call 145; with_reducible refine Calls.mono HS4.out ?_; rintro e w5 ⟨rfl, hT5, hK5⟩)
          have HB5 := Lib.hid (HB4.out.rd hK5 hT5)
          have HX5 := Lib.hid (HX4.out.kp hK5 HXb.out)
          clear hT5 hK5 HB4 HX4 HS4
          by_cases hc : c = 32
          · subst hc
            rw [if_pos rfl] at HStep
            obtain ⟨n2, p4, e4, hd4⟩ : ∃ n p2 e2, rdD s (2 * M + 1) (p3, e3) = (n, p2, e2) := ⟨_, _, _, rfl⟩
            have hp4 : p4 ≤ s.size := by have := rdD_le (s := s) (top := 2 * M + 1) (st := (p3, e3)) hp3; rw [hd4] at this; exact this
            obtain ⟨c5, p5, e5, hg5⟩ : ∃ c p3 e3, rdS s (fun c => c == 10) (p4, e4) = (c, p3, e3) := ⟨_, _, _, rfl⟩
            have hp5 : p5 ≤ s.size := by have := rdS_le (s := s) (ok := fun c => c == 10) (st := (p4, e4)) hp4; rw [hg5] at this; exact this
            have HP := Lib.hid hp5
            have HD5 := Lib.hid (bin_digits s b p3 e3 (2 * M + 1) w5 hs hp3 HB5.out.t)
            have HS5 := Lib.hid (fun u hu => bin_sign s ⟨#[10]⟩ (fun c => c == 10) b p4 e4 u hs hp4 idx10 hu)
            rw [hd4] at HD5 HStep
            simp only at HStep
            rw [hg5] at HS5 HStep
            simp only at HStep
            have HE2 := Lib.hid (HE.out.trans HStep.out)
            clear hd4 hg5
            go_upto_region 13 with (go_at_call 144; with_reducible refine Calls.mono HD5.out ?_; rintro e w6 ⟨rfl, hT6, hK6⟩; have HB6 := Lib.hid (HB5.out.rd hK6 hT6); have HX6 := Lib.hid (HX5.out.kp hK6 HXb.out); have x2 := HX6.out.cell (i := 2) (v := .int .i64 0) rfl; have fx := HX6.out.free 2)
            obtain ⟨w7, hw7⟩ : ∃ w7 : World, w7 = w6.setCell ⟨w3.heap.size, 2, none⟩ (.int .i64 (n2 : Nat)) := ⟨_, rfl⟩
            rw [← hw7]
            have HB7 := Lib.hid (BC.fresh HB3.out (Nat.le_refl _) HB6.out (by rw [hw7]; exact Kp.set _ ⟨w3.heap.size, 2, none⟩ _ : Kp (fun j => j = w3.heap.size) w6 w7))
            have HX7 := Lib.hid (show Blk w7 w3.heap.size #[.int .i64 (n0 + 2), .int .i64 (n : Nat), .int .i64 ((n2 : Nat) : Int)] 59 by rw [hw7]; exact HX6.out.set_same 2 _)
            have HS7 := Lib.hid (HS5.out w7 HB7.out.t)
            clear hw7 x2 fx hT6 hK6 HB6 HX6 HD5 HS5
            go_upto_region 16 with (go_at_call 145; with_reducible refine Calls.mono HS7.out ?_; rintro e w8 ⟨rfl, hT8, hK8⟩; have HB9 := Lib.hid (HB7.out.rd hK8 hT8); have HX9 := Lib.hid (HX7.out.kp hK8 HXb.out))
            have hb8 := HB9.out
            have c2 := hb8.c.cell (i := 2) (v := vL) rfl
            have x0 := HX9.out.cell (i := 0) (v := .int .i64 (n0 + 2)) rfl
            have x1 := HX9.out.cell (i := 1) (v := .int .i64 (n : Nat)) rfl
            have x2 := HX9.out.cell (i := 2) (v := .int .i64 (n2 : Nat)) rfl
            have HNew := Lib.hid (Blk.new w8 #[.int .i64 (n0 + 2), .int .i64 (n : Nat), .int .i64 (n2 : Nat)] 59)
            have HB8 := Lib.hid (hb8.kp0 ((Kp.refl _ w8).alloc (.cells #[.int .i64 (n0 + 2), .int .i64 (n : Nat), .int .i64 (n2 : Nat)] 59)))
            clear hb8
            go_wp2_with (at_builtin; refine wpList_appendK rfl _ _ 23 59 rfl Tryz.underlying23 HIl.out rfl (by decide) HB8.out.ol rfl w8.heap.size [.int .i64 (n0 + 2), .int .i64 (n : Nat), .int .i64 (n2 : Nat)] rfl rfl ?n0 ?m0 ?n1 ?n2 ?n3 ?_)
            case n0 => exact fun j u hj => HNew.out.cell (i := j) (by simpa using hj)
            case m0 => intro u hu; simp at hu; rcases hu with rfl | rfl | rfl <;> rfl
            case n1 => rw [List.length_map, HLl.out]; omega
            case n2 => rw [List.length_map, HLl.out]; unfold maxLen; omega
            case n3 => exact HB8.out.hi.2.2.2.2
            intro v' w9 hO9 hg9 hat9
            have hk9 : Kp (fun j => vL.ownBlock = some j) _ w9 := (Kp.refl _ _).grown hg9 (fun j hj _ => hj)
            have hput := HB8.out.putL (L' := L ++ [(n0 + 2, (n : Int), (n2 : Int))]) hg9 (by rw [List.map_append]; exact hO9)
            have hcb := HB8.out.c.kp hk9 (fun h => by have := (HB8.out.ol.lt _ h).1; have := HB8.out.hi.2.2.1; omega)
            obtain ⟨la, lc, ev, -⟩ := hO9.form
            rw [List.length_append, List.length_map, List.length_singleton] at ev
            subst ev
            have c2 := hcb.cell (i := 2) (v := vL) rfl
            have f2 := hcb.free 2
            have HF := Lib.hid hput
            clear hO9 hg9 hat9 hk9 hput hcb HNew HB8 x0 x1 x2
            go_wp2_with fail
            have HG := Lib.hid (show BC w _ b w.heap.size (w.heap.size + 1) cb nb (w.heap.size + 4) s hd (p5, e5) M (2 * ((k + (q + 1) : Nat) : Int)) vI _ (.slice none 0 0) (.slice none 0 0) (.slice none 0 0) (.slice none 0 0) (insP k) (L ++ [(n0 + 2, (n : Int), (n2 : Int))]) [] [] [] [] from by
              have e1 : 2 * ((k + (q + 1) : Nat) : Int) = n0 + 2 := by have := HN0.out; omega
              rw [e1]
              exact HF.out)
            go_roundw
            case rel => exact ⟨q + 1, _, L ++ [(n0 + 2, (n : Int), (n2 : Int))], (p5, e5), by go_num, by omega, HP.out, by rw [List.length_append, HLl.out]; rfl, by rw [HJ.out]; exact HE2.out, HG.out⟩
            case measure => simp [intOf]; omega
          · rw [if_neg hc] at HStep
            by_cases hc0 : c = 0
            · subst hc0
              rw [if_pos rfl] at HStep
              obtain ⟨ia, ic, ei, -⟩ := HB5.out.oi.form
              obtain ⟨la, lc, el, -⟩ := HB5.out.ol.form
              rw [iv_length] at ei
              rw [List.length_map] at el
              subst ei el
              have HSt := Lib.hid (rdC_stop (nO := nO) (nA := nA) (nB := nB) (nC := nC) (congrArg Prod.snd (HE.out.trans HStep.out)) (HZ3.out rfl))
              obtain ⟨d0, d1, d2, d3, d4, d5, d6, d7, d8⟩ := Blk.cells9 HB5.out.c
              have hr9 := HB5.out.r
              unfold zc9 at hr9
              obtain ⟨z0, z1, z2, z3, z4, z5, z6, z7, z8⟩ := Blk.cells9 hr9
              have fr := Blk.free hr9
              have fr0 := fr 0
              have fr1 := fr 1
              have fr2 := fr 2
              have fr3 := fr 3
              have fr4 := fr 4
              have fr5 := fr 5
              have fr6 := fr 6
              have fr7 := fr 7
              have fr8 := fr 8
              clear fr
              have HBe := Lib.hid (Blk.set9 hr9 (.int .i64 M) (.slice ia (insP k).length ic) (.slice la L.length lc) (.slice none 0 0) (.slice none 0 0) (.slice none 0 0) (.slice none 0 0) (.slice none 0 0) (.string ⟨#[]⟩))
              have HKe := Lib.hid (Kp.set9 w5 (w.heap.size + 1) (.int .i64 M) (.slice ia (insP k).length ic) (.slice la L.length lc) (.slice none 0 0) (.slice none 0 0) (.slice none 0 0) (.slice none 0 0) (.slice none 0 0) (.string ⟨#[]⟩))
              unfold Go.Proofs.YtckmdcmkjmpiaaaGreatDoor.set9 at HBe HKe
              have HT9 := Lib.hid (HB5.out.t.kp HKe.out (by have := HB5.out.bl; omega))
              have HK9 := Lib.hid (HB5.out.kp.trans HKe.out (fun j hj e => by omega))
              clear hr9
              go_wp2_with fail
              obtain ⟨s0, s1, s2, s3, s4, s5, s6, s7, s8⟩ := HBe.out.cells9
              exact bodyPost_ret (v := .agg #[.int .i64 M, .slice ia (insP k).length ic, .slice la L.length lc, .slice none 0 0, .slice none 0 0, .slice none 0 0, .slice none 0 0, .slice none 0 0, .string ⟨#[]⟩]) (by simp [results, Tryz.results69, go_sem, s0, s1, s2, s3, s4, s5, s6, s7, s8]) rfl ⟨⟨ia, ic, la, lc, none, 0, none, 0, none, 0, none, 0, none, 0, 0, ⟨#[]⟩⟩, ⟨M, insP k, L, [], [], [], []⟩, rfl, rfl, rfl, rfl, rfl, by rw [HSt.out]; exact HT9.out, HK9.out, fun h => absurd h (by rw [HSt.out]; first | exact HZ3.out rfl | exact HZ3.out trivial)⟩
            · rw [if_neg hc0] at HStep
              have q1 : ((c : Int) == 32) = false := by rw [beq_eq_false_iff_ne]; omega
              have q2 : ((c : Int) == 0) = false := by rw [beq_eq_false_iff_ne]; omega
              have HP := Lib.hid hp3
              have HE2 := Lib.hid (HE.out.trans HStep.out)
              clear hc hc0
              go_upto_region 16 with fail
              have hb8 := HB5.out
              have c2 := hb8.c.cell (i := 2) (v := vL) rfl
              have x0 := HX5.out.cell (i := 0) (v := .int .i64 (n0 + 2)) rfl
              have x1 := HX5.out.cell (i := 1) (v := .int .i64 (n : Nat)) rfl
              have x2 := HX5.out.cell (i := 2) (v := .int .i64 0) rfl
              have HNew := Lib.hid (Blk.new w5 #[.int .i64 (n0 + 2), .int .i64 (n : Nat), .int .i64 0] 59)
              have HB8 := Lib.hid (hb8.kp0 ((Kp.refl _ w5).alloc (.cells #[.int .i64 (n0 + 2), .int .i64 (n : Nat), .int .i64 0] 59)))
              clear hb8
              go_wp2_with (at_builtin; refine wpList_appendK rfl _ _ 23 59 rfl Tryz.underlying23 HIl.out rfl (by decide) HB8.out.ol rfl w5.heap.size [.int .i64 (n0 + 2), .int .i64 (n : Nat), .int .i64 0] rfl rfl ?n0 ?m0 ?n1 ?n2 ?n3 ?_)
              case n0 => exact fun j u hj => HNew.out.cell (i := j) (by simpa using hj)
              case m0 => intro u hu; simp at hu; rcases hu with rfl | rfl | rfl <;> rfl
              case n1 => rw [List.length_map, HLl.out]; omega
              case n2 => rw [List.length_map, HLl.out]; unfold maxLen; omega
              case n3 => exact HB8.out.hi.2.2.2.2
              intro v' w9 hO9 hg9 hat9
              have hk9 : Kp (fun j => vL.ownBlock = some j) _ w9 := (Kp.refl _ _).grown hg9 (fun j hj _ => hj)
              have hput := HB8.out.putL (L' := L ++ [(n0 + 2, (n : Int), 0)]) hg9 (by rw [List.map_append]; exact hO9)
              have hcb := HB8.out.c.kp hk9 (fun h => by have := (HB8.out.ol.lt _ h).1; have := HB8.out.hi.2.2.1; omega)
              obtain ⟨la, lc, ev, -⟩ := hO9.form
              rw [List.length_append, List.length_map, List.length_singleton] at ev
              subst ev
              have c2 := hcb.cell (i := 2) (v := vL) rfl
              have f2 := hcb.free 2
              have HF := Lib.hid hput
              clear hO9 hg9 hat9 hk9 hput hcb HNew HB8 x0 x1 x2
              go_wp2_with fail
              have HG := Lib.hid (show BC w _ b w.heap.size (w.heap.size + 1) cb nb (w.heap.size + 4) s hd (p3, e3) M (2 * ((k + (q + 1) : Nat) : Int)) vI _ (.slice none 0 0) (.slice none 0 0) (.slice none 0 0) (.slice none 0 0) (insP k) (L ++ [(n0 + 2, (n : Int), 0)]) [] [] [] [] from by
                have e1 : 2 * ((k + (q + 1) : Nat) : Int) = n0 + 2 := by have := HN0.out; omega
                rw [e1]
                exact HF.out)
              go_roundw
              case rel => exact ⟨q + 1, _, L ++ [(n0 + 2, (n : Int), 0)], (p3, e3), by go_num, by omega, HP.out, by rw [List.length_append, HLl.out]; rfl, by rw [HJ.out]; exact HE2.out, HG.out⟩
              case measure => simp [intOf]; omega
        · obtain rfl : q = nL := by omega
          rw [Nat.sub_self] at HE
          have HLt := Lib.hid (show rdLatsP s (2 * M + 1) k q 0 [] st = (L, t) from HE.out)
          obtain ⟨o1, ho1⟩ : ∃ o, rdLits s (2 * M + 1) nO [] t = o := ⟨_, rfl⟩
          obtain ⟨o2, ho2⟩ : ∃ o, rdLits s (2 * M + 1) nB [] o1.2 = o := ⟨_, rfl⟩
          obtain ⟨o3, ho3⟩ : ∃ o, rdLits s (2 * M + 1) nC [] o2.2 = o := ⟨_, rfl⟩
          have ht1 : o1.2.1 ≤ s.size := by rw [← ho1]; exact rdLits_le ht
          have ht2 : o2.2.1 ≤ s.size := by rw [← ho2]; exact rdLits_le ht1
          have ht3 : o3.2.1 ≤ s.size := by rw [← ho3]; exact rdLits_le ht2
          have HO1 := Lib.hid ho1
          have HO2 := Lib.hid ho2
          have HO3 := Lib.hid ho3
          have HT := Lib.hid ht
          have HT1 := Lib.hid ht1
          have HT2 := Lib.hid ht2
          clear ho1 ho2 ho3 HE ht ht1 ht2
          go_upto_region 18 with fail
          refine wp_region_looseS (p := (inL [0, 1, 2, 3, 4, 5, 6, 7, 8, 9, 10, 11, 12, 13, 14, 15, 16, 17, 18, 19, 20])) (V := atV [EqV (.iface 128 (.pointer (some ⟨b, 0, none⟩))), EqV (.int .i64 (2 * M + 1)), EqV (.pointer (some ⟨w.heap.size, 4, none⟩)), EqV (.int .i64 (nO : Nat)), AnyV, EqV (.iface 128 (.pointer (some ⟨b, 0, none⟩))), EqV (.int .i64 (2 * M + 1)), EqV (.pointer (some ⟨w.heap.size, 6, none⟩)), EqV (.int .i64 (nB : Nat)), AnyV, EqV (.iface 128 (.pointer (some ⟨b, 0, none⟩))), EqV (.int .i64 (2 * M + 1)), EqV (.pointer (some ⟨w.heap.size, 7, none⟩)), EqV (.int .i64 (nC : Nat)), AnyV, EqV (.pointer (some ⟨cb, 3, none⟩)), AnyV, EqV (.pointer (some ⟨cb, 4, none⟩)), AnyV, EqV (.pointer (some ⟨cb, 5, none⟩)), AnyV]) (R := (fun _ _ => True)) (W := (WO w b w.heap.size (w.heap.size + 1) cb nb (w.heap.size + 4) s hd t o1 o2 o3 M (2 * ((k + q : Nat) : Int)) vI vL (insP k) L)) (c := (inL [4, 9, 14, 16, 18, 20])) (LP := #[true, true, true, true, true, true, true, true, true, true, true, true, true, true, true, true, true, true, true, true, true]) (K := 0) (N := 6) (by kernel_rfl) (by kernel_rfl) (by kernel_rfl) trivial (HBq.out.kp0 (Kp.refl _ _).drew) (fun _ _ _ _ _ => trivial) (atV_stR ?hstR18) ?hstepR18 (by kernel_rfl) ?hLPR18 (by kernel_rfl) (by kernel_rfl) ?hendR18
          case hstR18 =>
            intro V h
            simp only [List.mem_cons, List.not_mem_nil, or_false] at h
            rcases h with rfl | rfl | rfl | rfl | rfl | rfl | rfl | rfl | rfl | rfl | rfl | rfl | rfl | rfl | rfl | rfl | rfl | rfl | rfl | rfl | rfl <;> intro u u' v k h <;> first | exact h | exact trivial | exact EqV.st _
          case hLPR18 => exact pOf_spec (by kernel_rfl)
          case hstepR18 =>
            intro i o ho hp vs a u hk hw hn hub htold hoff hdep
            have e0 : a.tmps[0]?.getD undef = (.iface 128 (.pointer (some ⟨b, 0, none⟩))) := slot_at (hoff 0 (noDst_spec (by kernel_rfl)))
            have e3 : a.tmps[3]?.getD undef = (.pointer (some ⟨w.heap.size, 0, none⟩)) := slot_at (hoff 3 (noDst_spec (by kernel_rfl)))
            have e5 : a.tmps[5]?.getD undef = (.pointer (some ⟨cb, 0, none⟩)) := slot_at (hoff 5 (noDst_spec (by kernel_rfl)))
            have e7 : a.tmps[7]?.getD undef = (.int .i64 (2 * M + 1)) := slot_at (hoff 7 (noDst_spec (by kernel_rfl)))
            clear hoff
            match i, ho with
            | 0, ho =>
              obtain rfl := Option.some.inj ho
              show LS _ _ _ _ _ _ _ false _ _ _ _
              clear hn
              refine lsn_value (v := .iface 128 (.pointer (some ⟨b, 0, none⟩))) (u' := u) rfl ?_ trivial hw rfl
              go_simp
            | 1, ho =>
              obtain rfl := Option.some.inj ho
              show LS _ _ _ _ _ _ _ false _ _ _ _
              clear hn
              refine lsn_value (v := .int .i64 (2 * M + 1)) (u' := u) rfl ?_ trivial hw rfl
              go_simp
            | 2, ho =>
              obtain rfl := Option.some.inj ho
              show LS _ _ _ _ _ _ _ false _ _ _ _
              clear hn
              refine lsn_value (v := .pointer (some ⟨w.heap.size, 4, none⟩)) (u' := u) rfl ?_ trivial hw rfl
              go_simp
            | 3, ho =>
              obtain rfl := Option.some.inj ho
              show LS _ _ _ _ _ _ _ false _ _ _ _
              clear hn
              have e65 : a.tmps[65]?.getD undef = .pointer (some ⟨w.heap.size, 4, none⟩) := slot_at (hdep ⟨2, .data⟩ (by simp) rfl _ 65 rfl rfl)
              have c1 := (HHd.out ▸ WO_h hw).cell (i := 4) (v := .int .i64 (nO : Nat)) rfl
              refine lsn_value (v := .int .i64 (nO : Nat)) (u' := u) rfl ?_ trivial hw rfl
              go_simp
            | 4, ho =>
              obtain rfl := Option.some.inj ho
              have hlen : vs.length = 0 := (hn rfl).trans (by kernel_rfl)
              obtain rfl : vs = [] := List.eq_nil_of_length_eq_zero hlen
              show LS _ _ _ _ _ _ _ true _ _ _ _
              clear hn
              have e63 : a.tmps[63]?.getD undef = .iface 128 (.pointer (some ⟨b, 0, none⟩)) := slot_at (hdep ⟨0, .data⟩ (by simp) rfl _ 63 rfl rfl)
              have e64 : a.tmps[64]?.getD undef = .int .i64 (2 * M + 1) := slot_at (hdep ⟨1, .data⟩ (by simp) rfl _ 64 rfl rfl)
              have e66 : a.tmps[66]?.getD undef = .int .i64 (nO : Nat) := slot_at (hdep ⟨3, .data⟩ (by simp) rfl _ 66 rfl rfl)
              have hb := hw
              refine lsn_call (f := 88) (args := #[.iface 128 (.pointer (some ⟨b, 0, none⟩)), .int .i64 (2 * M + 1), .int .i64 (nO : Nat)]) rfl ?_ ?_
              · go_simp
              · exact (bin_lits s b t (2 * M + 1) nO u hs HT.out (by omega) hb.t).mono (by
                  rintro e u' ⟨v, rfl, hO, hT, hK⟩
                  have hbB : ∀ j, j = b → j < w.heap.size + 4 := fun j e => by have := hb.bl; omega
                  rw [HO1.out] at hO hT
                  exact ⟨v, rfl, trivial, ⟨hO.mono hb.hi.2.2.2.2, hb.rd hK hT⟩, trivial⟩)
            | 5, ho =>
              obtain rfl := Option.some.inj ho
              show LS _ _ _ _ _ _ _ false _ _ _ _
              clear hn
              refine lsn_value (v := .iface 128 (.pointer (some ⟨b, 0, none⟩))) (u' := u) rfl ?_ trivial hw rfl
              go_simp
            | 6, ho =>
              obtain rfl := Option.some.inj ho
              show LS _ _ _ _ _ _ _ false _ _ _ _
              clear hn
              refine lsn_value (v := .int .i64 (2 * M + 1)) (u' := u) rfl ?_ trivial hw rfl
              go_simp
            | 7, ho =>
              obtain rfl := Option.some.inj ho
              show LS _ _ _ _ _ _ _ false _ _ _ _
              clear hn
              refine lsn_value (v := .pointer (some ⟨w.heap.size, 6, none⟩)) (u' := u) rfl ?_ trivial hw rfl
              go_simp
            | 8, ho =>
              obtain rfl := Option.some.inj ho
              show LS _ _ _ _ _ _ _ false _ _ _ _
              clear hn
              have e70 : a.tmps[70]?.getD undef = .pointer (some ⟨w.heap.size, 6, none⟩) := slot_at (hdep ⟨7, .data⟩ (by simp) rfl _ 70 rfl rfl)
              have c1 := (HHd.out ▸ WO_h hw).cell (i := 6) (v := .int .i64 (nB : Nat)) rfl
              refine lsn_value (v := .int .i64 (nB : Nat)) (u' := u) rfl ?_ trivial hw rfl
              go_simp
            | 9, ho =>
              obtain rfl := Option.some.inj ho
              have hlen : vs.length = 1 := (hn rfl).trans (by kernel_rfl)
              obtain ⟨r0, rfl⟩ := vs_list1 hlen
              show LS _ _ _ _ _ _ _ true _ _ _ _
              clear hn
              have e68 : a.tmps[68]?.getD undef = .iface 128 (.pointer (some ⟨b, 0, none⟩)) := slot_at (hdep ⟨5, .data⟩ (by simp) rfl _ 68 rfl rfl)
              have e69 : a.tmps[69]?.getD undef = .int .i64 (2 * M + 1) := slot_at (hdep ⟨6, .data⟩ (by simp) rfl _ 69 rfl rfl)
              have e71 : a.tmps[71]?.getD undef = .int .i64 (nB : Nat) := slot_at (hdep ⟨8, .data⟩ (by simp) rfl _ 71 rfl rfl)
              obtain ⟨h0, hb⟩ := hw
              refine lsn_call (f := 88) (args := #[.iface 128 (.pointer (some ⟨b, 0, none⟩)), .int .i64 (2 * M + 1), .int .i64 (nB : Nat)]) rfl ?_ ?_
              · go_simp
              · exact (bin_lits s b o1.2 (2 * M + 1) nB u hs HT1.out (by omega) hb.t).mono (by
                  rintro e u' ⟨v, rfl, hO, hT, hK⟩
                  have hbB : ∀ j, j = b → j < w.heap.size + 4 := fun j e => by have := hb.bl; omega
                  rw [HO2.out] at hO hT
                  exact ⟨v, rfl, trivial, ⟨h0.low hK hbB, hO.mono hb.hi.2.2.2.2, hb.rd hK hT⟩, trivial⟩)
            | 10, ho =>
              obtain rfl := Option.some.inj ho
              show LS _ _ _ _ _ _ _ false _ _ _ _
              clear hn
              refine lsn_value (v := .iface 128 (.pointer (some ⟨b, 0, none⟩))) (u' := u) rfl ?_ trivial hw rfl
              go_simp
            | 11, ho =>
              obtain rfl := Option.some.inj ho
              show LS _ _ _ _ _ _ _ false _ _ _ _
              clear hn
              refine lsn_value (v := .int .i64 (2 * M + 1)) (u' := u) rfl ?_ trivial hw rfl
              go_simp
            | 12, ho =>
              obtain rfl := Option.some.inj ho
              show LS _ _ _ _ _ _ _ false _ _ _ _
              clear hn
              refine lsn_value (v := .pointer (some ⟨w.heap.size, 7, none⟩)) (u' := u) rfl ?_ trivial hw rfl
              go_simp
            | 13, ho =>
              obtain rfl := Option.some.inj ho
              show LS _ _ _ _ _ _ _ false _ _ _ _
              clear hn
              have e75 : a.tmps[75]?.getD undef = .pointer (some ⟨w.heap.size, 7, none⟩) := slot_at (hdep ⟨12, .data⟩ (by simp) rfl _ 75 rfl rfl)
              have c1 := (HHd.out ▸ WO_h hw).cell (i := 7) (v := .int .i64 (nC : Nat)) rfl
              refine lsn_value (v := .int .i64 (nC : Nat)) (u' := u) rfl ?_ trivial hw rfl
              go_simp
            | 14, ho =>
              obtain rfl := Option.some.inj ho
              have hlen : vs.length = 2 := (hn rfl).trans (by kernel_rfl)
              obtain ⟨r0, r1, rfl⟩ := vs_list2 hlen
              show LS _ _ _ _ _ _ _ true _ _ _ _
              clear hn
              have e73 : a.tmps[73]?.getD undef = .iface 128 (.pointer (some ⟨b, 0, none⟩)) := slot_at (hdep ⟨10, .data⟩ (by simp) rfl _ 73 rfl rfl)
              have e74 : a.tmps[74]?.getD undef = .int .i64 (2 * M + 1) := slot_at (hdep ⟨11, .data⟩ (by simp) rfl _ 74 rfl rfl)
              have e76 : a.tmps[76]?.getD undef = .int .i64 (nC : Nat) := slot_at (hdep ⟨13, .data⟩ (by simp) rfl _ 76 rfl rfl)
              obtain ⟨h0, h1, hb⟩ := hw
              refine lsn_call (f := 88) (args := #[.iface 128 (.pointer (some ⟨b, 0, none⟩)), .int .i64 (2 * M + 1), .int .i64 (nC : Nat)]) rfl ?_ ?_
              · go_simp
              · exact (bin_lits s b o2.2 (2 * M + 1) nC u hs HT2.out (by omega) hb.t).mono (by
                  rintro e u' ⟨v, rfl, hO, hT, hK⟩
                  have hbB : ∀ j, j = b → j < w.heap.size + 4 := fun j e => by have := hb.bl; omega
                  rw [HO3.out] at hO hT
                  exact ⟨v, rfl, trivial, ⟨h0.low hK hbB, h1.low hK hbB, hO.mono hb.hi.2.2.2.2, hb.rd hK hT⟩, trivial⟩)
            | 15, ho =>
              obtain rfl := Option.some.inj ho
              show LS _ _ _ _ _ _ _ false _ _ _ _
              clear hn
              refine lsn_value (v := .pointer (some ⟨cb, 3, none⟩)) (u' := u) rfl ?_ trivial hw rfl
              go_simp
            | 16, ho =>
              obtain rfl := Option.some.inj ho
              have hlen : vs.length = 3 := (hn rfl).trans (by kernel_rfl)
              obtain ⟨r0, r1, r2, rfl⟩ := vs_list3 hlen
              show LS _ _ _ _ _ _ _ true _ _ _ _
              clear hn
              have e67 : a.tmps[67]?.getD undef = r0 := slot_at (htold 4 _ 67 ⟨⟨4, .data⟩, by simp, rfl, rfl⟩ rfl rfl rfl)
              have e78 : a.tmps[78]?.getD undef = .pointer (some ⟨cb, 3, none⟩) := slot_at (hdep ⟨15, .data⟩ (by simp) rfl _ 78 rfl rfl)
              obtain ⟨h0, h1, h2, hb⟩ := hw
              obtain ⟨ra, rc, rfl, -⟩ := h0.form
              have c1 := hb.c.cell (i := 3) (v := .slice none 0 0) rfl
              have f1 := hb.c.free 3
              have hcB : ∀ j, j = cb → j < w.heap.size + 4 := fun j e => by have := hb.hi.2.2.1; omega
              have kc := Kp.set u ⟨cb, 3, none⟩ (.slice ra (iv o1.1).length rc)
              refine lsn_skip (u' := u.setCell ⟨cb, 3, none⟩ (.slice ra (iv o1.1).length rc)) rfl ?_ trivial ⟨h1.low kc hcB, h2.low kc hcB, (hb.put (Kp.refl (fun _ => False) u) (fun _ h => h.elim) 3 _ rfl hb.oi hb.ol h0 hb.od hb.on hb.og)⟩ trivial
              go_simp
            | 17, ho =>
              obtain rfl := Option.some.inj ho
              show LS _ _ _ _ _ _ _ false _ _ _ _
              clear hn
              refine lsn_value (v := .pointer (some ⟨cb, 4, none⟩)) (u' := u) rfl ?_ trivial hw rfl
              go_simp
            | 18, ho =>
              obtain rfl := Option.some.inj ho
              have hlen : vs.length = 4 := (hn rfl).trans (by kernel_rfl)
              obtain ⟨r0, r1, r2, r3, rfl⟩ := vs_list4 hlen
              show LS _ _ _ _ _ _ _ true _ _ _ _
              clear hn
              have e72 : a.tmps[72]?.getD undef = r1 := slot_at (htold 9 _ 72 ⟨⟨9, .data⟩, by simp, rfl, rfl⟩ rfl rfl rfl)
              have e79 : a.tmps[79]?.getD undef = .pointer (some ⟨cb, 4, none⟩) := slot_at (hdep ⟨17, .data⟩ (by simp) rfl _ 79 rfl rfl)
              obtain ⟨h1, h2, hb⟩ := hw
              obtain ⟨ra, rc, rfl, -⟩ := h1.form
              have c1 := hb.c.cell (i := 4) (v := .slice none 0 0) rfl
              have f1 := hb.c.free 4
              have hcB : ∀ j, j = cb → j < w.heap.size + 4 := fun j e => by have := hb.hi.2.2.1; omega
              have kc := Kp.set u ⟨cb, 4, none⟩ (.slice ra (iv o2.1).length rc)
              refine lsn_skip (u' := u.setCell ⟨cb, 4, none⟩ (.slice ra (iv o2.1).length rc)) rfl ?_ trivial ⟨h2.low kc hcB, (hb.put (Kp.refl (fun _ => False) u) (fun _ h => h.elim) 4 _ rfl hb.oi hb.ol hb.oo h1 hb.on hb.og)⟩ trivial
              go_simp
            | 19, ho =>
              obtain rfl := Option.some.inj ho
              show LS _ _ _ _ _ _ _ false _ _ _ _
              clear hn
              refine lsn_value (v := .pointer (some ⟨cb, 5, none⟩)) (u' := u) rfl ?_ trivial hw rfl
              go_simp
            | 20, ho =>
              obtain rfl := Option.some.inj ho
              have hlen : vs.length = 5 := (hn rfl).trans (by kernel_rfl)
              obtain ⟨r0, r1, r2, r3, r4, rfl⟩ := vs_list5 hlen
              show LS _ _ _ _ _ _ _ true _ _ _ _
              clear hn
              have e77 : a.tmps[77]?.getD undef = r2 := slot_at (htold 14 _ 77 ⟨⟨14, .data⟩, by simp, rfl, rfl⟩ rfl rfl rfl)
              have e80 : a.tmps[80]?.getD undef = .pointer (some ⟨cb, 5, none⟩) := slot_at (hdep ⟨19, .data⟩ (by simp) rfl _ 80 rfl rfl)
              obtain ⟨h2, hb⟩ := hw
              obtain ⟨ra, rc, rfl, -⟩ := h2.form
              have c1 := hb.c.cell (i := 5) (v := .slice none 0 0) rfl
              have f1 := hb.c.free 5
              have hcB : ∀ j, j = cb → j < w.heap.size + 4 := fun j e => by have := hb.hi.2.2.1; omega
              have kc := Kp.set u ⟨cb, 5, none⟩ (.slice ra (iv o3.1).length rc)
              refine lsn_skip (u' := u.setCell ⟨cb, 5, none⟩ (.slice ra (iv o3.1).length rc)) rfl ?_ trivial (hb.put (Kp.refl (fun _ => False) u) (fun _ h => h.elim) 5 _ rfl hb.oi hb.ol hb.oo hb.od h2 hb.og) trivial
              go_simp
            | n + 21, _ => exact (inL_far (N := 21) (by decide) hp).elim
          intro vs a u hlen hI
          have hsz : a.tmps.size = 120 := hI.size
          have hdf : a.defers = [] := hI.defers
          have f0 : a.tmps.getD 0 undef = _ := hI.off 0 (noDst_spec (p := (inL [0, 1, 2, 3, 4, 5, 6, 7, 8, 9, 10, 11, 12, 13, 14, 15, 16, 17, 18, 19, 20])) (by kernel_rfl))
          have f1 : a.tmps.getD 1 undef = _ := hI.off 1 (noDst_spec (p := (inL [0, 1, 2, 3, 4, 5, 6, 7, 8, 9, 10, 11, 12, 13, 14, 15, 16, 17, 18, 19, 20])) (by kernel_rfl))
          have f2 : a.tmps.getD 2 undef = _ := hI.off 2 (noDst_spec (p := (inL [0, 1, 2, 3, 4, 5, 6, 7, 8, 9, 10, 11, 12, 13, 14, 15, 16, 17, 18, 19, 20])) (by kernel_rfl))
          have f3 : a.tmps.getD 3 undef = _ := hI.off 3 (noDst_spec (p := (inL [0, 1, 2, 3, 4, 5, 6, 7, 8, 9, 10, 11, 12, 13, 14, 15, 16, 17, 18, 19, 20])) (by kernel_rfl))
          have f4 : a.tmps.getD 4 undef = _ := hI.off 4 (noDst_spec (p := (inL [0, 1, 2, 3, 4, 5, 6, 7, 8, 9, 10, 11, 12, 13, 14, 15, 16, 17, 18, 19, 20])) (by kernel_rfl))
          have f5 : a.tmps.getD 5 undef = _ := hI.off 5 (noDst_spec (p := (inL [0, 1, 2, 3, 4, 5, 6, 7, 8, 9, 10, 11, 12, 13, 14, 15, 16, 17, 18, 19, 20])) (by kernel_rfl))
          have f6 : a.tmps.getD 6 undef = _ := hI.off 6 (noDst_spec (p := (inL [0, 1, 2, 3, 4, 5, 6, 7, 8, 9, 10, 11, 12, 13, 14, 15, 16, 17, 18, 19, 20])) (by kernel_rfl))
          have f7 : a.tmps.getD 7 undef = _ := hI.off 7 (noDst_spec (p := (inL [0, 1, 2, 3, 4, 5, 6, 7, 8, 9, 10, 11, 12, 13, 14, 15, 16, 17, 18, 19, 20])) (by kernel_rfl))
          have f8 : a.tmps.getD 8 undef = _ := hI.off 8 (noDst_spec (p := (inL [0, 1, 2, 3, 4, 5, 6, 7, 8, 9, 10, 11, 12, 13, 14, 15, 16, 17, 18, 19, 20])) (by kernel_rfl))
          have f9 : a.tmps.getD 9 undef = _ := hI.off 9 (noDst_spec (p := (inL [0, 1, 2, 3, 4, 5, 6, 7, 8, 9, 10, 11, 12, 13, 14, 15, 16, 17, 18, 19, 20])) (by kernel_rfl))
          have f10 : a.tmps.getD 10 undef = _ := hI.off 10 (noDst_spec (p := (inL [0, 1, 2, 3, 4, 5, 6, 7, 8, 9, 10, 11, 12, 13, 14, 15, 16, 17, 18, 19, 20])) (by kernel_rfl))
          have f11 : a.tmps.getD 11 undef = _ := hI.off 11 (noDst_spec (p := (inL [0, 1, 2, 3, 4, 5, 6, 7, 8, 9, 10, 11, 12, 13, 14, 15, 16, 17, 18, 19, 20])) (by kernel_rfl))
          have f12 : a.tmps.getD 12 undef = _ := hI.off 12 (noDst_spec (p := (inL [0, 1, 2, 3, 4, 5, 6, 7, 8, 9, 10, 11, 12, 13, 14, 15, 16, 17, 18, 19, 20])) (by kernel_rfl))
          have f13 : a.tmps.getD 13 undef = _ := hI.off 13 (noDst_spec (p := (inL [0, 1, 2, 3, 4, 5, 6, 7, 8, 9, 10, 11, 12, 13, 14, 15, 16, 17, 18, 19, 20])) (by kernel_rfl))
          have f14 : a.tmps.getD 14 undef = _ := hI.off 14 (noDst_spec (p := (inL [0, 1, 2, 3, 4, 5, 6, 7, 8, 9, 10, 11, 12, 13, 14, 15, 16, 17, 18, 19, 20])) (by kernel_rfl))
          have f15 : a.tmps.getD 15 undef = _ := hI.off 15 (noDst_spec (p := (inL [0, 1, 2, 3, 4, 5, 6, 7, 8, 9, 10, 11, 12, 13, 14, 15, 16, 17, 18, 19, 20])) (by kernel_rfl))
          have f16 : a.tmps.getD 16 undef = _ := hI.off 16 (noDst_spec (p := (inL [0, 1, 2, 3, 4, 5, 6, 7, 8, 9, 10, 11, 12, 13, 14, 15, 16, 17, 18, 19, 20])) (by kernel_rfl))
          have f17 : a.tmps.getD 17 undef = _ := hI.off 17 (noDst_spec (p := (inL [0, 1, 2, 3, 4, 5, 6, 7, 8, 9, 10, 11, 12, 13, 14, 15, 16, 17, 18, 19, 20])) (by kernel_rfl))
          have f18 : a.tmps.getD 18 undef = _ := hI.off 18 (noDst_spec (p := (inL [0, 1, 2, 3, 4, 5, 6, 7, 8, 9, 10, 11, 12, 13, 14, 15, 16, 17, 18, 19, 20])) (by kernel_rfl))
          have f19 : a.tmps.getD 19 undef = _ := hI.off 19 (noDst_spec (p := (inL [0, 1, 2, 3, 4, 5, 6, 7, 8, 9, 10, 11, 12, 13, 14, 15, 16, 17, 18, 19, 20])) (by kernel_rfl))
          have f20 : a.tmps.getD 20 undef = _ := hI.off 20 (noDst_spec (p := (inL [0, 1, 2, 3, 4, 5, 6, 7, 8, 9, 10, 11, 12, 13, 14, 15, 16, 17, 18, 19, 20])) (by kernel_rfl))
          have f21 : a.tmps.getD 21 undef = _ := hI.off 21 (noDst_spec (p := (inL [0, 1, 2, 3, 4, 5, 6, 7, 8, 9, 10, 11, 12, 13, 14, 15, 16, 17, 18, 19, 20])) (by kernel_rfl))
          have f22 : a.tmps.getD 22 undef = _ := hI.off 22 (noDst_spec (p := (inL [0, 1, 2, 3, 4, 5, 6, 7, 8, 9, 10, 11, 12, 13, 14, 15, 16, 17, 18, 19, 20])) (by kernel_rfl))
          have f23 : a.tmps.getD 23 undef = _ := hI.off 23 (noDst_spec (p := (inL [0, 1, 2, 3, 4, 5, 6, 7, 8, 9, 10, 11, 12, 13, 14, 15, 16, 17, 18, 19, 20])) (by kernel_rfl))
          have f24 : a.tmps.getD 24 undef = _ := hI.off 24 (noDst_spec (p := (inL [0, 1, 2, 3, 4, 5, 6, 7, 8, 9, 10, 11, 12, 13, 14, 15, 16, 17, 18, 19, 20])) (by kernel_rfl))
          have f25 : a.tmps.getD 25 undef = _ := hI.off 25 (noDst_spec (p := (inL [0, 1, 2, 3, 4, 5, 6, 7, 8, 9, 10, 11, 12, 13, 14, 15, 16, 17, 18, 19, 20])) (by kernel_rfl))
          have f26 : a.tmps.getD 26 undef = _ := hI.off 26 (noDst_spec (p := (inL [0, 1, 2, 3, 4, 5, 6, 7, 8, 9, 10, 11, 12, 13, 14, 15, 16, 17, 18, 19, 20])) (by kernel_rfl))
          have f27 : a.tmps.getD 27 undef = _ := hI.off 27 (noDst_spec (p := (inL [0, 1, 2, 3, 4, 5, 6, 7, 8, 9, 10, 11, 12, 13, 14, 15, 16, 17, 18, 19, 20])) (by kernel_rfl))
          have f28 : a.tmps.getD 28 undef = _ := hI.off 28 (noDst_spec (p := (inL [0, 1, 2, 3, 4, 5, 6, 7, 8, 9, 10, 11, 12, 13, 14, 15, 16, 17, 18, 19, 20])) (by kernel_rfl))
          have f29 : a.tmps.getD 29 undef = _ := hI.off 29 (noDst_spec (p := (inL [0, 1, 2, 3, 4, 5, 6, 7, 8, 9, 10, 11, 12, 13, 14, 15, 16, 17, 18, 19, 20])) (by kernel_rfl))
          have f30 : a.tmps.getD 30 undef = _ := hI.off 30 (noDst_spec (p := (inL [0, 1, 2, 3, 4, 5, 6, 7, 8, 9, 10, 11, 12, 13, 14, 15, 16, 17, 18, 19, 20])) (by kernel_rfl))
          have f31 : a.tmps.getD 31 undef = _ := hI.off 31 (noDst_spec (p := (inL [0, 1, 2, 3, 4, 5, 6, 7, 8, 9, 10, 11, 12, 13, 14, 15, 16, 17, 18, 19, 20])) (by kernel_rfl))
          have f32 : a.tmps.getD 32 undef = _ := hI.off 32 (noDst_spec (p := (inL [0, 1, 2, 3, 4, 5, 6, 7, 8, 9, 10, 11, 12, 13, 14, 15, 16, 17, 18, 19, 20])) (by kernel_rfl))
          have f33 : a.tmps.getD 33 undef = _ := hI.off 33 (noDst_spec (p := (inL [0, 1, 2, 3, 4, 5, 6, 7, 8, 9, 10, 11, 12, 13, 14, 15, 16, 17, 18, 19, 20])) (by kernel_rfl))
          have f34 : a.tmps.getD 34 undef = _ := hI.off 34 (noDst_spec (p := (inL [0, 1, 2, 3, 4, 5, 6, 7, 8, 9, 10, 11, 12, 13, 14, 15, 16, 17, 18, 19, 20])) (by kernel_rfl))
          have f35 : a.tmps.getD 35 undef = _ := hI.off 35 (noDst_spec (p := (inL [0, 1, 2, 3, 4, 5, 6, 7, 8, 9, 10, 11, 12, 13, 14, 15, 16, 17, 18, 19, 20])) (by kernel_rfl))
          have f36 : a.tmps.getD 36 undef = _ := hI.off 36 (noDst_spec (p := (inL [0, 1, 2, 3, 4, 5, 6, 7, 8, 9, 10, 11, 12, 13, 14, 15, 16, 17, 18, 19, 20])) (by kernel_rfl))
          have f37 : a.tmps.getD 37 undef = _ := hI.off 37 (noDst_spec (p := (inL [0, 1, 2, 3, 4, 5, 6, 7, 8, 9, 10, 11, 12, 13, 14, 15, 16, 17, 18, 19, 20])) (by kernel_rfl))
          have f38 : a.tmps.getD 38 undef = _ := hI.off 38 (noDst_spec (p := (inL [0, 1, 2, 3, 4, 5, 6, 7, 8, 9, 10, 11, 12, 13, 14, 15, 16, 17, 18, 19, 20])) (by kernel_rfl))
          have f39 : a.tmps.getD 39 undef = _ := hI.off 39 (noDst_spec (p := (inL [0, 1, 2, 3, 4, 5, 6, 7, 8, 9, 10, 11, 12, 13, 14, 15, 16, 17, 18, 19, 20])) (by kernel_rfl))
          have f40 : a.tmps.getD 40 undef = _ := hI.off 40 (noDst_spec (p := (inL [0, 1, 2, 3, 4, 5, 6, 7, 8, 9, 10, 11, 12, 13, 14, 15, 16, 17, 18, 19, 20])) (by kernel_rfl))
          have f41 : a.tmps.getD 41 undef = _ := hI.off 41 (noDst_spec (p := (inL [0, 1, 2, 3, 4, 5, 6, 7, 8, 9, 10, 11, 12, 13, 14, 15, 16, 17, 18, 19, 20])) (by kernel_rfl))
          have f42 : a.tmps.getD 42 undef = _ := hI.off 42 (noDst_spec (p := (inL [0, 1, 2, 3, 4, 5, 6, 7, 8, 9, 10, 11, 12, 13, 14, 15, 16, 17, 18, 19, 20])) (by kernel_rfl))
          have f43 : a.tmps.getD 43 undef = _ := hI.off 43 (noDst_spec (p := (inL [0, 1, 2, 3, 4, 5, 6, 7, 8, 9, 10, 11, 12, 13, 14, 15, 16, 17, 18, 19, 20])) (by kernel_rfl))
          have f44 : a.tmps.getD 44 undef = _ := hI.off 44 (noDst_spec (p := (inL [0, 1, 2, 3, 4, 5, 6, 7, 8, 9, 10, 11, 12, 13, 14, 15, 16, 17, 18, 19, 20])) (by kernel_rfl))
          have f45 : a.tmps.getD 45 undef = _ := hI.off 45 (noDst_spec (p := (inL [0, 1, 2, 3, 4, 5, 6, 7, 8, 9, 10, 11, 12, 13, 14, 15, 16, 17, 18, 19, 20])) (by kernel_rfl))
          have f46 : a.tmps.getD 46 undef = _ := hI.off 46 (noDst_spec (p := (inL [0, 1, 2, 3, 4, 5, 6, 7, 8, 9, 10, 11, 12, 13, 14, 15, 16, 17, 18, 19, 20])) (by kernel_rfl))
          have f47 : a.tmps.getD 47 undef = _ := hI.off 47 (noDst_spec (p := (inL [0, 1, 2, 3, 4, 5, 6, 7, 8, 9, 10, 11, 12, 13, 14, 15, 16, 17, 18, 19, 20])) (by kernel_rfl))
          have f48 : a.tmps.getD 48 undef = _ := hI.off 48 (noDst_spec (p := (inL [0, 1, 2, 3, 4, 5, 6, 7, 8, 9, 10, 11, 12, 13, 14, 15, 16, 17, 18, 19, 20])) (by kernel_rfl))
          have f49 : a.tmps.getD 49 undef = _ := hI.off 49 (noDst_spec (p := (inL [0, 1, 2, 3, 4, 5, 6, 7, 8, 9, 10, 11, 12, 13, 14, 15, 16, 17, 18, 19, 20])) (by kernel_rfl))
          have f50 : a.tmps.getD 50 undef = _ := hI.off 50 (noDst_spec (p := (inL [0, 1, 2, 3, 4, 5, 6, 7, 8, 9, 10, 11, 12, 13, 14, 15, 16, 17, 18, 19, 20])) (by kernel_rfl))
          have f51 : a.tmps.getD 51 undef = _ := hI.off 51 (noDst_spec (p := (inL [0, 1, 2, 3, 4, 5, 6, 7, 8, 9, 10, 11, 12, 13, 14, 15, 16, 17, 18, 19, 20])) (by kernel_rfl))
          have f52 : a.tmps.getD 52 undef = _ := hI.off 52 (noDst_spec (p := (inL [0, 1, 2, 3, 4, 5, 6, 7, 8, 9, 10, 11, 12, 13, 14, 15, 16, 17, 18, 19, 20])) (by kernel_rfl))
          have f53 : a.tmps.getD 53 undef = _ := hI.off 53 (noDst_spec (p := (inL [0, 1, 2, 3, 4, 5, 6, 7, 8, 9, 10, 11, 12, 13, 14, 15, 16, 17, 18, 19, 20])) (by kernel_rfl))
          have f54 : a.tmps.getD 54 undef = _ := hI.off 54 (noDst_spec (p := (inL [0, 1, 2, 3, 4, 5, 6, 7, 8, 9, 10, 11, 12, 13, 14, 15, 16, 17, 18, 19, 20])) (by kernel_rfl))
          have f55 : a.tmps.getD 55 undef = _ := hI.off 55 (noDst_spec (p := (inL [0, 1, 2, 3, 4, 5, 6, 7, 8, 9, 10, 11, 12, 13, 14, 15, 16, 17, 18, 19, 20])) (by kernel_rfl))
          have f56 : a.tmps.getD 56 undef = _ := hI.off 56 (noDst_spec (p := (inL [0, 1, 2, 3, 4, 5, 6, 7, 8, 9, 10, 11, 12, 13, 14, 15, 16, 17, 18, 19, 20])) (by kernel_rfl))
          have f57 : a.tmps.getD 57 undef = _ := hI.off 57 (noDst_spec (p := (inL [0, 1, 2, 3, 4, 5, 6, 7, 8, 9, 10, 11, 12, 13, 14, 15, 16, 17, 18, 19, 20])) (by kernel_rfl))
          have f58 : a.tmps.getD 58 undef = _ := hI.off 58 (noDst_spec (p := (inL [0, 1, 2, 3, 4, 5, 6, 7, 8, 9, 10, 11, 12, 13, 14, 15, 16, 17, 18, 19, 20])) (by kernel_rfl))
          have f59 : a.tmps.getD 59 undef = _ := hI.off 59 (noDst_spec (p := (inL [0, 1, 2, 3, 4, 5, 6, 7, 8, 9, 10, 11, 12, 13, 14, 15, 16, 17, 18, 19, 20])) (by kernel_rfl))
          have f60 : a.tmps.getD 60 undef = _ := hI.off 60 (noDst_spec (p := (inL [0, 1, 2, 3, 4, 5, 6, 7, 8, 9, 10, 11, 12, 13, 14, 15, 16, 17, 18, 19, 20])) (by kernel_rfl))
          have f61 : a.tmps.getD 61 undef = _ := hI.off 61 (noDst_spec (p := (inL [0, 1, 2, 3, 4, 5, 6, 7, 8, 9, 10, 11, 12, 13, 14, 15, 16, 17, 18, 19, 20])) (by kernel_rfl))
          have f62 : a.tmps.getD 62 undef = _ := hI.off 62 (noDst_spec (p := (inL [0, 1, 2, 3, 4, 5, 6, 7, 8, 9, 10, 11, 12, 13, 14, 15, 16, 17, 18, 19, 20])) (by kernel_rfl))
          have f81 : a.tmps.getD 81 undef = _ := hI.off 81 (noDst_spec (p := (inL [0, 1, 2, 3, 4, 5, 6, 7, 8, 9, 10, 11, 12, 13, 14, 15, 16, 17, 18, 19, 20])) (by kernel_rfl))
          have f82 : a.tmps.getD 82 undef = _ := hI.off 82 (noDst_spec (p := (inL [0, 1, 2, 3, 4, 5, 6, 7, 8, 9, 10, 11, 12, 13, 14, 15, 16, 17, 18, 19, 20])) (by kernel_rfl))
          have f83 : a.tmps.getD 83 undef = _ := hI.off 83 (noDst_spec (p := (inL [0, 1, 2, 3, 4, 5, 6, 7, 8, 9, 10, 11, 12, 13, 14, 15, 16, 17, 18, 19, 20])) (by kernel_rfl))
          have f84 : a.tmps.getD 84 undef = _ := hI.off 84 (noDst_spec (p := (inL [0, 1, 2, 3, 4, 5, 6, 7, 8, 9, 10, 11, 12, 13, 14, 15, 16, 17, 18, 19, 20])) (by kernel_rfl))
          have f85 : a.tmps.getD 85 undef = _ := hI.off 85 (noDst_spec (p := (inL [0, 1, 2, 3, 4, 5, 6, 7, 8, 9, 10, 11, 12, 13, 14, 15, 16, 17, 18, 19, 20])) (by kernel_rfl))
          have f86 : a.tmps.getD 86 undef = _ := hI.off 86 (noDst_spec (p := (inL [0, 1, 2, 3, 4, 5, 6, 7, 8, 9, 10, 11, 12, 13, 14, 15, 16, 17, 18, 19, 20])) (by kernel_rfl))
          have f87 : a.tmps.getD 87 undef = _ := hI.off 87 (noDst_spec (p := (inL [0, 1, 2, 3, 4, 5, 6, 7, 8, 9, 10, 11, 12, 13, 14, 15, 16, 17, 18, 19, 20])) (by kernel_rfl))
          have f88 : a.tmps.getD 88 undef = _ := hI.off 88 (noDst_spec (p := (inL [0, 1, 2, 3, 4, 5, 6, 7, 8, 9, 10, 11, 12, 13, 14, 15, 16, 17, 18, 19, 20])) (by kernel_rfl))
          have f89 : a.tmps.getD 89 undef = _ := hI.off 89 (noDst_spec (p := (inL [0, 1, 2, 3, 4, 5, 6, 7, 8, 9, 10, 11, 12, 13, 14, 15, 16, 17, 18, 19, 20])) (by kernel_rfl))
          have f90 : a.tmps.getD 90 undef = _ := hI.off 90 (noDst_spec (p := (inL [0, 1, 2, 3, 4, 5, 6, 7, 8, 9, 10, 11, 12, 13, 14, 15, 16, 17, 18, 19, 20])) (by kernel_rfl))
          have f91 : a.tmps.getD 91 undef = _ := hI.off 91 (noDst_spec (p := (inL [0, 1, 2, 3, 4, 5, 6, 7, 8, 9, 10, 11, 12, 13, 14, 15, 16, 17, 18, 19, 20])) (by kernel_rfl))
          have f92 : a.tmps.getD 92 undef = _ := hI.off 92 (noDst_spec (p := (inL [0, 1, 2, 3, 4, 5, 6, 7, 8, 9, 10, 11, 12, 13, 14, 15, 16, 17, 18, 19, 20])) (by kernel_rfl))
          have f93 : a.tmps.getD 93 undef = _ := hI.off 93 (noDst_spec (p := (inL [0, 1, 2, 3, 4, 5, 6, 7, 8, 9, 10, 11, 12, 13, 14, 15, 16, 17, 18, 19, 20])) (by kernel_rfl))
          have f94 : a.tmps.getD 94 undef = _ := hI.off 94 (noDst_spec (p := (inL [0, 1, 2, 3, 4, 5, 6, 7, 8, 9, 10, 11, 12, 13, 14, 15, 16, 17, 18, 19, 20])) (by kernel_rfl))
          have f95 : a.tmps.getD 95 undef = _ := hI.off 95 (noDst_spec (p := (inL [0, 1, 2, 3, 4, 5, 6, 7, 8, 9, 10, 11, 12, 13, 14, 15, 16, 17, 18, 19, 20])) (by kernel_rfl))
          have f96 : a.tmps.getD 96 undef = _ := hI.off 96 (noDst_spec (p := (inL [0, 1, 2, 3, 4, 5, 6, 7, 8, 9, 10, 11, 12, 13, 14, 15, 16, 17, 18, 19, 20])) (by kernel_rfl))
          have f97 : a.tmps.getD 97 undef = _ := hI.off 97 (noDst_spec (p := (inL [0, 1, 2, 3, 4, 5, 6, 7, 8, 9, 10, 11, 12, 13, 14, 15, 16, 17, 18, 19, 20])) (by kernel_rfl))
          have f98 : a.tmps.getD 98 undef = _ := hI.off 98 (noDst_spec (p := (inL [0, 1, 2, 3, 4, 5, 6, 7, 8, 9, 10, 11, 12, 13, 14, 15, 16, 17, 18, 19, 20])) (by kernel_rfl))
          have f99 : a.tmps.getD 99 undef = _ := hI.off 99 (noDst_spec (p := (inL [0, 1, 2, 3, 4, 5, 6, 7, 8, 9, 10, 11, 12, 13, 14, 15, 16, 17, 18, 19, 20])) (by kernel_rfl))
          have f100 : a.tmps.getD 100 undef = _ := hI.off 100 (noDst_spec (p := (inL [0, 1, 2, 3, 4, 5, 6, 7, 8, 9, 10, 11, 12, 13, 14, 15, 16, 17, 18, 19, 20])) (by kernel_rfl))
          have f101 : a.tmps.getD 101 undef = _ := hI.off 101 (noDst_spec (p := (inL [0, 1, 2, 3, 4, 5, 6, 7, 8, 9, 10, 11, 12, 13, 14, 15, 16, 17, 18, 19, 20])) (by kernel_rfl))
          have f102 : a.tmps.getD 102 undef = _ := hI.off 102 (noDst_spec (p := (inL [0, 1, 2, 3, 4, 5, 6, 7, 8, 9, 10, 11, 12, 13, 14, 15, 16, 17, 18, 19, 20])) (by kernel_rfl))
          have f103 : a.tmps.getD 103 undef = _ := hI.off 103 (noDst_spec (p := (inL [0, 1, 2, 3, 4, 5, 6, 7, 8, 9, 10, 11, 12, 13, 14, 15, 16, 17, 18, 19, 20])) (by kernel_rfl))
          have f104 : a.tmps.getD 104 undef = _ := hI.off 104 (noDst_spec (p := (inL [0, 1, 2, 3, 4, 5, 6, 7, 8, 9, 10, 11, 12, 13, 14, 15, 16, 17, 18, 19, 20])) (by kernel_rfl))
          have f105 : a.tmps.getD 105 undef = _ := hI.off 105 (noDst_spec (p := (inL [0, 1, 2, 3, 4, 5, 6, 7, 8, 9, 10, 11, 12, 13, 14, 15, 16, 17, 18, 19, 20])) (by kernel_rfl))
          have f106 : a.tmps.getD 106 undef = _ := hI.off 106 (noDst_spec (p := (inL [0, 1, 2, 3, 4, 5, 6, 7, 8, 9, 10, 11, 12, 13, 14, 15, 16, 17, 18, 19, 20])) (by kernel_rfl))
          have f107 : a.tmps.getD 107 undef = _ := hI.off 107 (noDst_spec (p := (inL [0, 1, 2, 3, 4, 5, 6, 7, 8, 9, 10, 11, 12, 13, 14, 15, 16, 17, 18, 19, 20])) (by kernel_rfl))
          have f108 : a.tmps.getD 108 undef = _ := hI.off 108 (noDst_spec (p := (inL [0, 1, 2, 3, 4, 5, 6, 7, 8, 9, 10, 11, 12, 13, 14, 15, 16, 17, 18, 19, 20])) (by kernel_rfl))
          have f109 : a.tmps.getD 109 undef = _ := hI.off 109 (noDst_spec (p := (inL [0, 1, 2, 3, 4, 5, 6, 7, 8, 9, 10, 11, 12, 13, 14, 15, 16, 17, 18, 19, 20])) (by kernel_rfl))
          have f110 : a.tmps.getD 110 undef = _ := hI.off 110 (noDst_spec (p := (inL [0, 1, 2, 3, 4, 5, 6, 7, 8, 9, 10, 11, 12, 13, 14, 15, 16, 17, 18, 19, 20])) (by kernel_rfl))
          have f111 : a.tmps.getD 111 undef = _ := hI.off 111 (noDst_spec (p := (inL [0, 1, 2, 3, 4, 5, 6, 7, 8, 9, 10, 11, 12, 13, 14, 15, 16, 17, 18, 19, 20])) (by kernel_rfl))
          have f112 : a.tmps.getD 112 undef = _ := hI.off 112 (noDst_spec (p := (inL [0, 1, 2, 3, 4, 5, 6, 7, 8, 9, 10, 11, 12, 13, 14, 15, 16, 17, 18, 19, 20])) (by kernel_rfl))
          have f113 : a.tmps.getD 113 undef = _ := hI.off 113 (noDst_spec (p := (inL [0, 1, 2, 3, 4, 5, 6, 7, 8, 9, 10, 11, 12, 13, 14, 15, 16, 17, 18, 19, 20])) (by kernel_rfl))
          have f114 : a.tmps.getD 114 undef = _ := hI.off 114 (noDst_spec (p := (inL [0, 1, 2, 3, 4, 5, 6, 7, 8, 9, 10, 11, 12, 13, 14, 15, 16, 17, 18, 19, 20])) (by kernel_rfl))
          have f115 : a.tmps.getD 115 undef = _ := hI.off 115 (noDst_spec (p := (inL [0, 1, 2, 3, 4, 5, 6, 7, 8, 9, 10, 11, 12, 13, 14, 15, 16, 17, 18, 19, 20])) (by kernel_rfl))
          have f116 : a.tmps.getD 116 undef = _ := hI.off 116 (noDst_spec (p := (inL [0, 1, 2, 3, 4, 5, 6, 7, 8, 9, 10, 11, 12, 13, 14, 15, 16, 17, 18, 19, 20])) (by kernel_rfl))
          have f117 : a.tmps.getD 117 undef = _ := hI.off 117 (noDst_spec (p := (inL [0, 1, 2, 3, 4, 5, 6, 7, 8, 9, 10, 11, 12, 13, 14, 15, 16, 17, 18, 19, 20])) (by kernel_rfl))
          have f118 : a.tmps.getD 118 undef = _ := hI.off 118 (noDst_spec (p := (inL [0, 1, 2, 3, 4, 5, 6, 7, 8, 9, 10, 11, 12, 13, 14, 15, 16, 17, 18, 19, 20])) (by kernel_rfl))
          have f119 : a.tmps.getD 119 undef = _ := hI.off 119 (noDst_spec (p := (inL [0, 1, 2, 3, 4, 5, 6, 7, 8, 9, 10, 11, 12, 13, 14, 15, 16, 17, 18, 19, 20])) (by kernel_rfl))
          obtain ⟨r0, r1, r2, r3, r4, r5, rfl⟩ := vs_list6 hlen
          have f63 : a.tmps.getD 63 undef = .iface 128 (.pointer (some ⟨b, 0, none⟩)) := hI.val 0 _ 63 rfl rfl rfl
          have f64 : a.tmps.getD 64 undef = .int .i64 (2 * M + 1) := hI.val 1 _ 64 rfl rfl rfl
          have f65 : a.tmps.getD 65 undef = .pointer (some ⟨w.heap.size, 4, none⟩) := hI.val 2 _ 65 rfl rfl rfl
          have f66 : a.tmps.getD 66 undef = .int .i64 (nO : Nat) := hI.val 3 _ 66 rfl rfl rfl
          have f67 : a.tmps.getD 67 undef = r0 := hI.told 4 _ 67 rfl rfl rfl rfl
          have f68 : a.tmps.getD 68 undef = .iface 128 (.pointer (some ⟨b, 0, none⟩)) := hI.val 5 _ 68 rfl rfl rfl
          have f69 : a.tmps.getD 69 undef = .int .i64 (2 * M + 1) := hI.val 6 _ 69 rfl rfl rfl
          have f70 : a.tmps.getD 70 undef = .pointer (some ⟨w.heap.size, 6, none⟩) := hI.val 7 _ 70 rfl rfl rfl
          have f71 : a.tmps.getD 71 undef = .int .i64 (nB : Nat) := hI.val 8 _ 71 rfl rfl rfl
          have f72 : a.tmps.getD 72 undef = r1 := hI.told 9 _ 72 rfl rfl rfl rfl
          have f73 : a.tmps.getD 73 undef = .iface 128 (.pointer (some ⟨b, 0, none⟩)) := hI.val 10 _ 73 rfl rfl rfl
          have f74 : a.tmps.getD 74 undef = .int .i64 (2 * M + 1) := hI.val 11 _ 74 rfl rfl rfl
          have f75 : a.tmps.getD 75 undef = .pointer (some ⟨w.heap.size, 7, none⟩) := hI.val 12 _ 75 rfl rfl rfl
          have f76 : a.tmps.getD 76 undef = .int .i64 (nC : Nat) := hI.val 13 _ 76 rfl rfl rfl
          have f77 : a.tmps.getD 77 undef = r2 := hI.told 14 _ 77 rfl rfl rfl rfl
          have f78 : a.tmps.getD 78 undef = .pointer (some ⟨cb, 3, none⟩) := hI.val 15 _ 78 rfl rfl rfl
          have f79 : a.tmps.getD 79 undef = .pointer (some ⟨cb, 4, none⟩) := hI.val 17 _ 79 rfl rfl rfl
          have f80 : a.tmps.getD 80 undef = .pointer (some ⟨cb, 5, none⟩) := hI.val 19 _ 80 rfl rfl rfl
          have ha : a = ⟨#[a.tmps.getD 0 undef, a.tmps.getD 1 undef, a.tmps.getD 2 undef, a.tmps.getD 3 undef, a.tmps.getD 4 undef, a.tmps.getD 5 undef, a.tmps.getD 6 undef, a.tmps.getD 7 undef, a.tmps.getD 8 undef, a.tmps.getD 9 undef, a.tmps.getD 10 undef, a.tmps.getD 11 undef, a.tmps.getD 12 undef, a.tmps.getD 13 undef, a.tmps.getD 14 undef, a.tmps.getD 15 undef, a.tmps.getD 16 undef, a.tmps.getD 17 undef, a.tmps.getD 18 undef, a.tmps.getD 19 undef, a.tmps.getD 20 undef, a.tmps.getD 21 undef, a.tmps.getD 22 undef, a.tmps.getD 23 undef, a.tmps.getD 24 undef, a.tmps.getD 25 undef, a.tmps.getD 26 undef, a.tmps.getD 27 undef, a.tmps.getD 28 undef, a.tmps.getD 29 undef, a.tmps.getD 30 undef, a.tmps.getD 31 undef, a.tmps.getD 32 undef, a.tmps.getD 33 undef, a.tmps.getD 34 undef, a.tmps.getD 35 undef, a.tmps.getD 36 undef, a.tmps.getD 37 undef, a.tmps.getD 38 undef, a.tmps.getD 39 undef, a.tmps.getD 40 undef, a.tmps.getD 41 undef, a.tmps.getD 42 undef, a.tmps.getD 43 undef, a.tmps.getD 44 undef, a.tmps.getD 45 undef, a.tmps.getD 46 undef, a.tmps.getD 47 undef, a.tmps.getD 48 undef, a.tmps.getD 49 undef, a.tmps.getD 50 undef, a.tmps.getD 51 undef, a.tmps.getD 52 undef, a.tmps.getD 53 undef, a.tmps.getD 54 undef, a.tmps.getD 55 undef, a.tmps.getD 56 undef, a.tmps.getD 57 undef, a.tmps.getD 58 undef, a.tmps.getD 59 undef, a.tmps.getD 60 undef, a.tmps.getD 61 undef, a.tmps.getD 62 undef, a.tmps.getD 63 undef, a.tmps.getD 64 undef, a.tmps.getD 65 undef, a.tmps.getD 66 undef, a.tmps.getD 67 undef, a.tmps.getD 68 undef, a.tmps.getD 69 undef, a.tmps.getD 70 undef, a.tmps.getD 71 undef, a.tmps.getD 72 undef, a.tmps.getD 73 undef, a.tmps.getD 74 undef, a.tmps.getD 75 undef, a.tmps.getD 76 undef, a.tmps.getD 77 undef, a.tmps.getD 78 undef, a.tmps.getD 79 undef, a.tmps.getD 80 undef, a.tmps.getD 81 undef, a.tmps.getD 82 undef, a.tmps.getD 83 undef, a.tmps.getD 84 undef, a.tmps.getD 85 undef, a.tmps.getD 86 undef, a.tmps.getD 87 undef, a.tmps.getD 88 undef, a.tmps.getD 89 undef, a.tmps.getD 90 undef, a.tmps.getD 91 undef, a.tmps.getD 92 undef, a.tmps.getD 93 undef, a.tmps.getD 94 undef, a.tmps.getD 95 undef, a.tmps.getD 96 undef, a.tmps.getD 97 undef, a.tmps.getD 98 undef, a.tmps.getD 99 undef, a.tmps.getD 100 undef, a.tmps.getD 101 undef, a.tmps.getD 102 undef, a.tmps.getD 103 undef, a.tmps.getD 104 undef, a.tmps.getD 105 undef, a.tmps.getD 106 undef, a.tmps.getD 107 undef, a.tmps.getD 108 undef, a.tmps.getD 109 undef, a.tmps.getD 110 undef, a.tmps.getD 111 undef, a.tmps.getD 112 undef, a.tmps.getD 113 undef, a.tmps.getD 114 undef, a.tmps.getD 115 undef, a.tmps.getD 116 undef, a.tmps.getD 117 undef, a.tmps.getD 118 undef, a.tmps.getD 119 undef], a.defers⟩ := act_list a 120 hsz
          rw [hdf, f0, f1, f2, f3, f4, f5, f6, f7, f8, f9, f10, f11, f12, f13, f14, f15, f16, f17, f18, f19, f20, f21, f22, f23, f24, f25, f26, f27, f28, f29, f30, f31, f32, f33, f34, f35, f36, f37, f38, f39, f40, f41, f42, f43, f44, f45, f46, f47, f48, f49, f50, f51, f52, f53, f54, f55, f56, f57, f58, f59, f60, f61, f62, f63, f64, f65, f66, f67, f68, f69, f70, f71, f72, f73, f74, f75, f76, f77, f78, f79, f80, f81, f82, f83, f84, f85, f86, f87, f88, f89, f90, f91, f92, f93, f94, f95, f96, f97, f98, f99, f100, f101, f102, f103, f104, f105, f106, f107, f108, f109, f110, f111, f112, f113, f114, f115, f116, f117, f118, f119] at ha
          clear hlen
          have hru := hI.rel
          have hwu := hI.st
          clear hI hsz hdf f0 f1 f2 f3 f4 f5 f6 f7 f8 f9 f10 f11 f12 f13 f14 f15 f16 f17 f18 f19 f20 f21 f22 f23 f24 f25 f26 f27 f28 f29 f30 f31 f32 f33 f34 f35 f36 f37 f38 f39 f40 f41 f42 f43 f44 f45 f46 f47 f48 f49 f50 f51 f52 f53 f54 f55 f56 f57 f58 f59 f60 f61 f62 f63 f64 f65 f66 f67 f68 f69 f70 f71 f72 f73 f74 f75 f76 f77 f78 f79 f80 f81 f82 f83 f84 f85 f86 f87 f88 f89 f90 f91 f92 f93 f94 f95 f96 f97 f98 f99 f100 f101 f102 f103 f104 f105 f106 f107 f108 f109 f110 f111 f112 f113 f114 f115 f116 f117 f118 f119 
          subst ha
          refine wpAny_done (by kernel_rfl) ?_ _
          simp only [Array.getD_eq_getD_getElem?, List.getElem?_toArray, List.getElem?_cons_zero, List.getElem?_cons_succ, Option.getD_some]
          obtain ⟨vO, rfl⟩ : ∃ x : Value, x = r0 := ⟨_, rfl⟩
          obtain ⟨vB, rfl⟩ : ∃ x : Value, x = r1 := ⟨_, rfl⟩
          obtain ⟨vC, rfl⟩ : ∃ x : Value, x = r2 := ⟨_, rfl⟩
          have hbu : BC w u b w.heap.size (w.heap.size + 1) cb nb (w.heap.size + 4) s hd o3.2 M (2 * ((k + q : Nat) : Int)) vI vL vO vB vC (.slice none 0 0) (insP k) L o1.1 o2.1 o3.1 [] := hwu
          have HBu := Lib.hid hbu
          have i5 := (HHd.out ▸ hbu.h).cell (i := 5) (v := .int .i64 (nA : Nat)) rfl
          obtain ⟨wu, hwu2⟩ : ∃ wu : World, wu = u := ⟨_, rfl⟩
          clear hwu hru hbu HBq
          go_wp2_with fail
          go_loopw [10, 11, 12, 83] (fun v10 v11 v12 v83 wr => ∃ (g : Nat) (vG : Value) (G : List (Int × Int × Int)) (t' : Nat × Nat), v83 = .int .i64 g ∧ g ≤ nA ∧ t'.1 ≤ s.size ∧ G.length = g ∧ rdGatesP s (k + q) nA 0 [] o3.2 = rdGatesP s (k + q) (nA - g) g G t' ∧ BC w wr b w.heap.size (w.heap.size + 1) cb nb (w.heap.size + 4) s hd t' M (2 * ((k + q + g : Nat) : Int)) vI vL vO vB vC vG (insP k) L o1.1 o2.1 o3.1 G) (fun _ _ _ v83 _ => nA - (intOf v83).toNat)
          case atStart => exact ⟨0, .slice none 0 0, [], o3.2, rfl, by omega, ht3, rfl, rfl, HBu.out⟩
          case round =>
            obtain ⟨g, vG, G, t', rfl, hg, ht', hGl, hE, hbc⟩ := hrel
            obtain ⟨wg, rfl⟩ : ∃ wg : World, wg = wr := ⟨_, rfl⟩
            clear hwu2 i5
            have HBg := Lib.hid hbc
            have HE := Lib.hid hE
            have HGl := Lib.hid hGl
            have HT' := Lib.hid ht'
            clear hbc hE hGl
            by_cases hltg : g < nA
            · obtain ⟨n0, hn0⟩ : ∃ n0 : Int, 2 * ((k + q + g : Nat) : Int) = n0 := ⟨_, rfl⟩
              rw [hn0] at HBg
              have HN0 := Lib.hid hn0
              have hn1 : 0 ≤ n0 := by omega
              have hn2 : n0 ≤ 1000000000 := by omega
              obtain ⟨dA, p2, e2, hd2⟩ : ∃ n p2 e2, rdG s 1 (n0 + 2) t' = (n, p2, e2) := ⟨_, _, _, rfl⟩
              have hq2 := rdG_le (s := s) (least := 1) (top := n0 + 2) ht' (by omega)
              rw [hd2] at hq2
              have hdA : (dA : Int) ≤ n0 + 2 := hq2.2
              obtain ⟨A, hA⟩ : ∃ A : Int, n0 + 2 - (dA : Int) = A := ⟨_, rfl⟩
              have hA0 : 0 ≤ A := by omega
              have hA1 : A ≤ 1000000002 := by omega
              obtain ⟨dB, p3, e3, hd3⟩ : ∃ n p9 e9, rdG s 0 A (p2, e2) = (n, p9, e9) := ⟨_, _, _, rfl⟩
              have hq3 := rdG_le (s := s) (least := 0) (top := A) (st := (p2, e2)) hq2.1 hA0
              rw [hd3] at hq3
              have hdB : (dB : Int) ≤ A := hq3.2
              obtain ⟨Bv, hBv⟩ : ∃ B : Int, A - (dB : Int) = B := ⟨_, rfl⟩
              have HP2 := Lib.hid hq2.1
              have HP3 := Lib.hid hq3.1
              obtain ⟨j, hj⟩ : ∃ j, nA - g = j + 1 := ⟨nA - g - 1, by omega⟩
              have HJ := Lib.hid (show nA - (g + 1) = j by omega)
              have HStep := Lib.hid (show rdGatesP s (k + q) (nA - g) g G t' = if e3 ≠ 0 then (G, (p3, e3)) else rdGatesP s (k + q) j (g + 1) (G ++ [(n0 + 2, A, Bv)]) (p3, e3) from by
                rw [hj, rdGatesP_succ, hn0, hd2]
                simp only
                rw [hA, hd3]
                simp only
                rw [hBv])
              have HDA := Lib.hid (fun u (hu : TX u b s t') => bin_delta s b t'.1 t'.2 1 (n0 + 2) u hs HT'.out hu)
              have HDB := Lib.hid (fun u (hu : TX u b s (p2, e2)) => bin_delta s b p2 e2 0 A u hs HP2.out hu)
              rw [show ((t'.1, t'.2) : Nat × Nat) = t' from rfl, hd2] at HDA
              rw [hd3] at HDB
              have HAe := Lib.hid hA
              have HBe0 := Lib.hid hBv
              have iv3 := met_delta
              have iv4 := met_ended
              clear hn0 hd2 hd3 hj ht' hq2 hq3
              go_upto_region 22 with (go_at_call 87; refine Calls.mono (bin_lit nb n0 _ hn1 hn2 (BC.x HBg.out)) ?_; rintro e w2 ⟨rfl, hx2, hK2⟩; have HB2 := Lib.hid (HBg.out.nx hK2 hx2))
              obtain ⟨w4, hw4⟩ : ∃ w4 : World, w4 = w2.alloc (.cells #[.int .i64 (n0 + 2), .int .i64 0, .int .i64 0] 61) := ⟨_, rfl⟩
              rw [← hw4]
              have HB4 := Lib.hid (HB2.out.kp0 (by rw [hw4]; exact (Kp.refl _ w2).alloc _ : Kp (fun _ => False) w2 w4))
              have HX4 := Lib.hid (show Blk w4 w2.heap.size #[.int .i64 (n0 + 2), .int .i64 0, .int .i64 0] 61 by rw [hw4]; exact Blk.new _ _ _)
              have HXb := Lib.hid (show ¬ w2.heap.size = b by have := HB2.out.bl; have := HB2.out.hi; omega)
              obtain ⟨gb, hgb⟩ : ∃ gb, w2.heap.size = gb := ⟨_, rfl⟩
              have HGb := Lib.hid (Nat.le_of_eq hgb)
              rw [hgb] at HX4 HXb ⊢
              clear hw4 hx2 hK2 hgb
              refine wp_region_looseS (p := (inL [0, 1, 2, 3, 4, 5, 6, 7, 8])) (V := atV [EqV (.pointer (some ⟨gb, 0, none⟩)), EqV (.int .i64 (n0 + 2)), EqV (.iface 128 (.pointer (some ⟨b, 0, none⟩))), EqV (.pointer (some ⟨gb, 0, none⟩)), EqV (.int .i64 (n0 + 2)), EqV (.int .i64 (dA : Nat)), EqV (.int .i64 A), EqV (.pointer (some ⟨gb, 1, none⟩)), AnyV]) (R := (fun _ _ => True)) (W := (WG (fun u => BC w u b w.heap.size (w.heap.size + 1) cb nb (w.heap.size + 4) s hd t' M (n0 + 2) vI vL vO vB vC vG (insP k) L o1.1 o2.1 o3.1 G ∧ Blk u gb #[.int .i64 (n0 + 2), .int .i64 0, .int .i64 0] 61) (fun u => BC w u b w.heap.size (w.heap.size + 1) cb nb (w.heap.size + 4) s hd (p2, e2) M (n0 + 2) vI vL vO vB vC vG (insP k) L o1.1 o2.1 o3.1 G ∧ Blk u gb #[.int .i64 (n0 + 2), .int .i64 0, .int .i64 0] 61) (fun u => BC w u b w.heap.size (w.heap.size + 1) cb nb (w.heap.size + 4) s hd (p2, e2) M (n0 + 2) vI vL vO vB vC vG (insP k) L o1.1 o2.1 o3.1 G ∧ Blk u gb #[.int .i64 (n0 + 2), .int .i64 A, .int .i64 0] 61))) (c := (inL [5, 8])) (LP := #[true, true, true, true, true, true, true, true, true]) (K := 0) (N := 2) (by kernel_rfl) (by kernel_rfl) (by kernel_rfl) trivial ⟨HB4.out.kp0 (Kp.refl _ _).drew, HX4.out.drew⟩ (fun _ _ _ _ _ => trivial) (atV_stR ?hstR22) ?hstepR22 (by kernel_rfl) ?hLPR22 (by kernel_rfl) (by kernel_rfl) ?hendR22
              case hstR22 =>
                intro V h
                simp only [List.mem_cons, List.not_mem_nil, or_false] at h
                rcases h with rfl | rfl | rfl | rfl | rfl | rfl | rfl | rfl | rfl <;> intro u u' v k h <;> first | exact h | exact trivial | exact EqV.st _
              case hLPR22 => exact pOf_spec (by kernel_rfl)
              case hstepR22 =>
                intro i o ho hp vs a u hk hw hn hub htold hoff hdep
                have e0 : a.tmps[0]?.getD undef = (.iface 128 (.pointer (some ⟨b, 0, none⟩))) := slot_at (hoff 0 (noDst_spec (by kernel_rfl)))
                have e10 : a.tmps[10]?.getD undef = (.pointer (some ⟨gb, 0, none⟩)) := slot_at (hoff 10 (noDst_spec (by kernel_rfl)))
                clear hoff
                match i, ho with
                | 0, ho =>
                  obtain rfl := Option.some.inj ho
                  show LS _ _ _ _ _ _ _ false _ _ _ _
                  clear hn
                  refine lsn_value (v := .pointer (some ⟨gb, 0, none⟩)) (u' := u) rfl ?_ trivial hw rfl
                  go_simp
                | 1, ho =>
                  obtain rfl := Option.some.inj ho
                  show LS _ _ _ _ _ _ _ false _ _ _ _
                  clear hn
                  have e88 : a.tmps[88]?.getD undef = .pointer (some ⟨gb, 0, none⟩) := slot_at (hdep ⟨0, .data⟩ (by simp) rfl _ 88 rfl rfl)
                  have c1 : u.cell? ⟨gb, 0, none⟩ = some (.int .i64 (n0 + 2)) := WG_all (fun h => h.2.cell rfl) (fun h => h.2.cell rfl) (fun h => h.2.cell rfl) hw
                  refine lsn_value (v := .int .i64 (n0 + 2)) (u' := u) rfl ?_ trivial hw rfl
                  go_simp
                | 2, ho =>
                  obtain rfl := Option.some.inj ho
                  show LS _ _ _ _ _ _ _ false _ _ _ _
                  clear hn
                  refine lsn_value (v := .iface 128 (.pointer (some ⟨b, 0, none⟩))) (u' := u) rfl ?_ trivial hw rfl
                  go_simp
                | 3, ho =>
                  obtain rfl := Option.some.inj ho
                  show LS _ _ _ _ _ _ _ false _ _ _ _
                  clear hn
                  refine lsn_value (v := .pointer (some ⟨gb, 0, none⟩)) (u' := u) rfl ?_ trivial hw rfl
                  go_simp
                | 4, ho =>
                  obtain rfl := Option.some.inj ho
                  show LS _ _ _ _ _ _ _ false _ _ _ _
                  clear hn
                  have e91 : a.tmps[91]?.getD undef = .pointer (some ⟨gb, 0, none⟩) := slot_at (hdep ⟨3, .data⟩ (by simp) rfl _ 91 rfl rfl)
                  have c1 : u.cell? ⟨gb, 0, none⟩ = some (.int .i64 (n0 + 2)) := WG_all (fun h => h.2.cell rfl) (fun h => h.2.cell rfl) (fun h => h.2.cell rfl) hw
                  refine lsn_value (v := .int .i64 (n0 + 2)) (u' := u) rfl ?_ trivial hw rfl
                  go_simp
                | 5, ho =>
                  obtain rfl := Option.some.inj ho
                  have hlen : vs.length = 0 := (hn rfl).trans (by kernel_rfl)
                  obtain rfl : vs = [] := List.eq_nil_of_length_eq_zero hlen
                  show LS _ _ _ _ _ _ _ true _ _ _ _
                  clear hn
                  have e90 : a.tmps[90]?.getD undef = .iface 128 (.pointer (some ⟨b, 0, none⟩)) := slot_at (hdep ⟨2, .data⟩ (by simp) rfl _ 90 rfl rfl)
                  have e92 : a.tmps[92]?.getD undef = .int .i64 (n0 + 2) := slot_at (hdep ⟨4, .data⟩ (by simp) rfl _ 92 rfl rfl)
                  refine lsn_call (f := 143) (args := #[.pointer (some ⟨b, 0, none⟩), .int .i64 1, .int .i64 (n0 + 2)]) rfl ?_ ?_
                  · go_simp
                  · exact (HDA.out u hw.1.t).mono (by
                      rintro e u' ⟨rfl, hT, hK⟩
                      exact ⟨_, rfl, trivial, ⟨hw.1.rd hK hT, hw.2.kp hK HXb.out⟩, rfl⟩)
                | 6, ho =>
                  obtain rfl := Option.some.inj ho
                  show LS _ _ _ _ _ _ _ false _ _ _ _
                  clear hn
                  have e89 : a.tmps[89]?.getD undef = .int .i64 (n0 + 2) := slot_at (hdep ⟨1, .data⟩ (by simp) rfl _ 89 rfl rfl)
                  have e93 : a.tmps[93]?.getD undef = .int .i64 (dA : Nat) := slot_at (hdep ⟨5, .data⟩ (by simp) rfl _ 93 rfl rfl)
                  have hA := HAe.out
                  refine lsn_value (v := .int .i64 A) (u' := u) rfl ?_ trivial hw rfl
                  go_simp
                  all_goals (first | done | (unfold IntKind.wrap; simp [IntKind.signed, IntKind.bits]; omega))
                | 7, ho =>
                  obtain rfl := Option.some.inj ho
                  show LS _ _ _ _ _ _ _ false _ _ _ _
                  clear hn
                  refine lsn_value (v := .pointer (some ⟨gb, 1, none⟩)) (u' := u) rfl ?_ trivial hw rfl
                  go_simp
                | 8, ho =>
                  obtain rfl := Option.some.inj ho
                  have hlen : vs.length = 1 := (hn rfl).trans (by kernel_rfl)
                  obtain ⟨r0, rfl⟩ := vs_list1 hlen
                  show LS _ _ _ _ _ _ _ true _ _ _ _
                  clear hn
                  have e95 : a.tmps[95]?.getD undef = .pointer (some ⟨gb, 1, none⟩) := slot_at (hdep ⟨7, .data⟩ (by simp) rfl _ 95 rfl rfl)
                  have e94 : a.tmps[94]?.getD undef = .int .i64 A := slot_at (hdep ⟨6, .data⟩ (by simp) rfl _ 94 rfl rfl)
                  have c1 := hw.2.cell (i := 1) (v := .int .i64 0) rfl
                  have f1 := Blk.free hw.2 1
                  refine lsn_skip (u' := u.setCell ⟨gb, 1, none⟩ (.int .i64 A)) rfl ?_ trivial ⟨BC.fresh HB2.out HGb.out hw.1 (Kp.set u ⟨gb, 1, none⟩ _), hw.2.set_same 1 _⟩ trivial
                  go_simp
                | n + 9, _ => exact (inL_far (N := 9) (by decide) hp).elim
              intro vs a u hlen hI
              have hsz : a.tmps.size = 120 := hI.size
              have hdf : a.defers = [] := hI.defers
              have f0 : a.tmps.getD 0 undef = _ := hI.off 0 (noDst_spec (p := (inL [0, 1, 2, 3, 4, 5, 6, 7, 8])) (by kernel_rfl))
              have f1 : a.tmps.getD 1 undef = _ := hI.off 1 (noDst_spec (p := (inL [0, 1, 2, 3, 4, 5, 6, 7, 8])) (by kernel_rfl))
              have f2 : a.tmps.getD 2 undef = _ := hI.off 2 (noDst_spec (p := (inL [0, 1, 2, 3, 4, 5, 6, 7, 8])) (by kernel_rfl))
              have f3 : a.tmps.getD 3 undef = _ := hI.off 3 (noDst_spec (p := (inL [0, 1, 2, 3, 4, 5, 6, 7, 8])) (by kernel_rfl))
              have f4 : a.tmps.getD 4 undef = _ := hI.off 4 (noDst_spec (p := (inL [0, 1, 2, 3, 4, 5, 6, 7, 8])) (by kernel_rfl))
              have f5 : a.tmps.getD 5 undef = _ := hI.off 5 (noDst_spec (p := (inL [0, 1, 2, 3, 4, 5, 6, 7, 8])) (by kernel_rfl))
              have f6 : a.tmps.getD 6 undef = _ := hI.off 6 (noDst_spec (p := (inL [0, 1, 2, 3, 4, 5, 6, 7, 8])) (by kernel_rfl))
              have f7 : a.tmps.getD 7 undef = _ := hI.off 7 (noDst_spec (p := (inL [0, 1, 2, 3, 4, 5, 6, 7, 8])) (by kernel_rfl))
              have f8 : a.tmps.getD 8 undef = _ := hI.off 8 (noDst_spec (p := (inL [0, 1, 2, 3, 4, 5, 6, 7, 8])) (by kernel_rfl))
              have f9 : a.tmps.getD 9 undef = _ := hI.off 9 (noDst_spec (p := (inL [0, 1, 2, 3, 4, 5, 6, 7, 8])) (by kernel_rfl))
              have f10 : a.tmps.getD 10 undef = _ := hI.off 10 (noDst_spec (p := (inL [0, 1, 2, 3, 4, 5, 6, 7, 8])) (by kernel_rfl))
              have f11 : a.tmps.getD 11 undef = _ := hI.off 11 (noDst_spec (p := (inL [0, 1, 2, 3, 4, 5, 6, 7, 8])) (by kernel_rfl))
              have f12 : a.tmps.getD 12 undef = _ := hI.off 12 (noDst_spec (p := (inL [0, 1, 2, 3, 4, 5, 6, 7, 8])) (by kernel_rfl))
              have f13 : a.tmps.getD 13 undef = _ := hI.off 13 (noDst_spec (p := (inL [0, 1, 2, 3, 4, 5, 6, 7, 8])) (by kernel_rfl))
              have f14 : a.tmps.getD 14 undef = _ := hI.off 14 (noDst_spec (p := (inL [0, 1, 2, 3, 4, 5, 6, 7, 8])) (by kernel_rfl))
              have f15 : a.tmps.getD 15 undef = _ := hI.off 15 (noDst_spec (p := (inL [0, 1, 2, 3, 4, 5, 6, 7, 8])) (by kernel_rfl))
              have f16 : a.tmps.getD 16 undef = _ := hI.off 16 (noDst_spec (p := (inL [0, 1, 2, 3, 4, 5, 6, 7, 8])) (by kernel_rfl))
              have f17 : a.tmps.getD 17 undef = _ := hI.off 17 (noDst_spec (p := (inL [0, 1, 2, 3, 4, 5, 6, 7, 8])) (by kernel_rfl))
              have f18 : a.tmps.getD 18 undef = _ := hI.off 18 (noDst_spec (p := (inL [0, 1, 2, 3, 4, 5, 6, 7, 8])) (by kernel_rfl))
              have f19 : a.tmps.getD 19 undef = _ := hI.off 19 (noDst_spec (p := (inL [0, 1, 2, 3, 4, 5, 6, 7, 8])) (by kernel_rfl))
              have f20 : a.tmps.getD 20 undef = _ := hI.off 20 (noDst_spec (p := (inL [0, 1, 2, 3, 4, 5, 6, 7, 8])) (by kernel_rfl))
              have f21 : a.tmps.getD 21 undef = _ := hI.off 21 (noDst_spec (p := (inL [0, 1, 2, 3, 4, 5, 6, 7, 8])) (by kernel_rfl))
              have f22 : a.tmps.getD 22 undef = _ := hI.off 22 (noDst_spec (p := (inL [0, 1, 2, 3, 4, 5, 6, 7, 8])) (by kernel_rfl))
              have f23 : a.tmps.getD 23 undef = _ := hI.off 23 (noDst_spec (p := (inL [0, 1, 2, 3, 4, 5, 6, 7, 8])) (by kernel_rfl))
              have f24 : a.tmps.getD 24 undef = _ := hI.off 24 (noDst_spec (p := (inL [0, 1, 2, 3, 4, 5, 6, 7, 8])) (by kernel_rfl))
              have f25 : a.tmps.getD 25 undef = _ := hI.off 25 (noDst_spec (p := (inL [0, 1, 2, 3, 4, 5, 6, 7, 8])) (by kernel_rfl))
              have f26 : a.tmps.getD 26 undef = _ := hI.off 26 (noDst_spec (p := (inL [0, 1, 2, 3, 4, 5, 6, 7, 8])) (by kernel_rfl))
              have f27 : a.tmps.getD 27 undef = _ := hI.off 27 (noDst_spec (p := (inL [0, 1, 2, 3, 4, 5, 6, 7, 8])) (by kernel_rfl))
              have f28 : a.tmps.getD 28 undef = _ := hI.off 28 (noDst_spec (p := (inL [0, 1, 2, 3, 4, 5, 6, 7, 8])) (by kernel_rfl))
              have f29 : a.tmps.getD 29 undef = _ := hI.off 29 (noDst_spec (p := (inL [0, 1, 2, 3, 4, 5, 6, 7, 8])) (by kernel_rfl))
              have f30 : a.tmps.getD 30 undef = _ := hI.off 30 (noDst_spec (p := (inL [0, 1, 2, 3, 4, 5, 6, 7, 8])) (by kernel_rfl))
              have f31 : a.tmps.getD 31 undef = _ := hI.off 31 (noDst_spec (p := (inL [0, 1, 2, 3, 4, 5, 6, 7, 8])) (by kernel_rfl))
              have f32 : a.tmps.getD 32 undef = _ := hI.off 32 (noDst_spec (p := (inL [0, 1, 2, 3, 4, 5, 6, 7, 8])) (by kernel_rfl))
              have f33 : a.tmps.getD 33 undef = _ := hI.off 33 (noDst_spec (p := (inL [0, 1, 2, 3, 4, 5, 6, 7, 8])) (by kernel_rfl))
              have f34 : a.tmps.getD 34 undef = _ := hI.off 34 (noDst_spec (p := (inL [0, 1, 2, 3, 4, 5, 6, 7, 8])) (by kernel_rfl))
              have f35 : a.tmps.getD 35 undef = _ := hI.off 35 (noDst_spec (p := (inL [0, 1, 2, 3, 4, 5, 6, 7, 8])) (by kernel_rfl))
              have f36 : a.tmps.getD 36 undef = _ := hI.off 36 (noDst_spec (p := (inL [0, 1, 2, 3, 4, 5, 6, 7, 8])) (by kernel_rfl))
              have f37 : a.tmps.getD 37 undef = _ := hI.off 37 (noDst_spec (p := (inL [0, 1, 2, 3, 4, 5, 6, 7, 8])) (by kernel_rfl))
              have f38 : a.tmps.getD 38 undef = _ := hI.off 38 (noDst_spec (p := (inL [0, 1, 2, 3, 4, 5, 6, 7, 8])) (by kernel_rfl))
              have f39 : a.tmps.getD 39 undef = _ := hI.off 39 (noDst_spec (p := (inL [0, 1, 2, 3, 4, 5, 6, 7, 8])) (by kernel_rfl))
              have f40 : a.tmps.getD 40 undef = _ := hI.off 40 (noDst_spec (p := (inL [0, 1, 2, 3, 4, 5, 6, 7, 8])) (by kernel_rfl))
              have f41 : a.tmps.getD 41 undef = _ := hI.off 41 (noDst_spec (p := (inL [0, 1, 2, 3, 4, 5, 6, 7, 8])) (by kernel_rfl))
              have f42 : a.tmps.getD 42 undef = _ := hI.off 42 (noDst_spec (p := (inL [0, 1, 2, 3, 4, 5, 6, 7, 8])) (by kernel_rfl))
              have f43 : a.tmps.getD 43 undef = _ := hI.off 43 (noDst_spec (p := (inL [0, 1, 2, 3, 4, 5, 6, 7, 8])) (by kernel_rfl))
              have f44 : a.tmps.getD 44 undef = _ := hI.off 44 (noDst_spec (p := (inL [0, 1, 2, 3, 4, 5, 6, 7, 8])) (by kernel_rfl))
              have f45 : a.tmps.getD 45 undef = _ := hI.off 45 (noDst_spec (p := (inL [0, 1, 2, 3, 4, 5, 6, 7, 8])) (by kernel_rfl))
              have f46 : a.tmps.getD 46 undef = _ := hI.off 46 (noDst_spec (p := (inL [0, 1, 2, 3, 4, 5, 6, 7, 8])) (by kernel_rfl))
              have f47 : a.tmps.getD 47 undef = _ := hI.off 47 (noDst_spec (p := (inL [0, 1, 2, 3, 4, 5, 6, 7, 8])) (by kernel_rfl))
              have f48 : a.tmps.getD 48 undef = _ := hI.off 48 (noDst_spec (p := (inL [0, 1, 2, 3, 4, 5, 6, 7, 8])) (by kernel_rfl))
              have f49 : a.tmps.getD 49 undef = _ := hI.off 49 (noDst_spec (p := (inL [0, 1, 2, 3, 4, 5, 6, 7, 8])) (by kernel_rfl))
              have f50 : a.tmps.getD 50 undef = _ := hI.off 50 (noDst_spec (p := (inL [0, 1, 2, 3, 4, 5, 6, 7, 8])) (by kernel_rfl))
              have f51 : a.tmps.getD 51 undef = _ := hI.off 51 (noDst_spec (p := (inL [0, 1, 2, 3, 4, 5, 6, 7, 8])) (by kernel_rfl))
              have f52 : a.tmps.getD 52 undef = _ := hI.off 52 (noDst_spec (p := (inL [0, 1, 2, 3, 4, 5, 6, 7, 8])) (by kernel_rfl))
              have f53 : a.tmps.getD 53 undef = _ := hI.off 53 (noDst_spec (p := (inL [0, 1, 2, 3, 4, 5, 6, 7, 8])) (by kernel_rfl))
              have f54 : a.tmps.getD 54 undef = _ := hI.off 54 (noDst_spec (p := (inL [0, 1, 2, 3, 4, 5, 6, 7, 8])) (by kernel_rfl))
              have f55 : a.tmps.getD 55 undef = _ := hI.off 55 (noDst_spec (p := (inL [0, 1, 2, 3, 4, 5, 6, 7, 8])) (by kernel_rfl))
              have f56 : a.tmps.getD 56 undef = _ := hI.off 56 (noDst_spec (p := (inL [0, 1, 2, 3, 4, 5, 6, 7, 8])) (by kernel_rfl))
              have f57 : a.tmps.getD 57 undef = _ := hI.off 57 (noDst_spec (p := (inL [0, 1, 2, 3, 4, 5, 6, 7, 8])) (by kernel_rfl))
              have f58 : a.tmps.getD 58 undef = _ := hI.off 58 (noDst_spec (p := (inL [0, 1, 2, 3, 4, 5, 6, 7, 8])) (by kernel_rfl))
              have f59 : a.tmps.getD 59 undef = _ := hI.off 59 (noDst_spec (p := (inL [0, 1, 2, 3, 4, 5, 6, 7, 8])) (by kernel_rfl))
              have f60 : a.tmps.getD 60 undef = _ := hI.off 60 (noDst_spec (p := (inL [0, 1, 2, 3, 4, 5, 6, 7, 8])) (by kernel_rfl))
              have f61 : a.tmps.getD 61 undef = _ := hI.off 61 (noDst_spec (p := (inL [0, 1, 2, 3, 4, 5, 6, 7, 8])) (by kernel_rfl))
              have f62 : a.tmps.getD 62 undef = _ := hI.off 62 (noDst_spec (p := (inL [0, 1, 2, 3, 4, 5, 6, 7, 8])) (by kernel_rfl))
              have f63 : a.tmps.getD 63 undef = _ := hI.off 63 (noDst_spec (p := (inL [0, 1, 2, 3, 4, 5, 6, 7, 8])) (by kernel_rfl))
              have f64 : a.tmps.getD 64 undef = _ := hI.off 64 (noDst_spec (p := (inL [0, 1, 2, 3, 4, 5, 6, 7, 8])) (by kernel_rfl))
              have f65 : a.tmps.getD 65 undef = _ := hI.off 65 (noDst_spec (p := (inL [0, 1, 2, 3, 4, 5, 6, 7, 8])) (by kernel_rfl))
              have f66 : a.tmps.getD 66 undef = _ := hI.off 66 (noDst_spec (p := (inL [0, 1, 2, 3, 4, 5, 6, 7, 8])) (by kernel_rfl))
              have f67 : a.tmps.getD 67 undef = _ := hI.off 67 (noDst_spec (p := (inL [0, 1, 2, 3, 4, 5, 6, 7, 8])) (by kernel_rfl))
              have f68 : a.tmps.getD 68 undef = _ := hI.off 68 (noDst_spec (p := (inL [0, 1, 2, 3, 4, 5, 6, 7, 8])) (by kernel_rfl))
              have f69 : a.tmps.getD 69 undef = _ := hI.off 69 (noDst_spec (p := (inL [0, 1, 2, 3, 4, 5, 6, 7, 8])) (by kernel_rfl))
              have f70 : a.tmps.getD 70 undef = _ := hI.off 70 (noDst_spec (p := (inL [0, 1, 2, 3, 4, 5, 6, 7, 8])) (by kernel_rfl))
              have f71 : a.tmps.getD 71 undef = _ := hI.off 71 (noDst_spec (p := (inL [0, 1, 2, 3, 4, 5, 6, 7, 8])) (by kernel_rfl))
              have f72 : a.tmps.getD 72 undef = _ := hI.off 72 (noDst_spec (p := (inL [0, 1, 2, 3, 4, 5, 6, 7, 8])) (by kernel_rfl))
              have f73 : a.tmps.getD 73 undef = _ := hI.off 73 (noDst_spec (p := (inL [0, 1, 2, 3, 4, 5, 6, 7, 8])) (by kernel_rfl))
              have f74 : a.tmps.getD 74 undef = _ := hI.off 74 (noDst_spec (p := (inL [0, 1, 2, 3, 4, 5, 6, 7, 8])) (by kernel_rfl))
              have f75 : a.tmps.getD 75 undef = _ := hI.off 75 (noDst_spec (p := (inL [0, 1, 2, 3, 4, 5, 6, 7, 8])) (by kernel_rfl))
              have f76 : a.tmps.getD 76 undef = _ := hI.off 76 (noDst_spec (p := (inL [0, 1, 2, 3, 4, 5, 6, 7, 8])) (by kernel_rfl))
              have f77 : a.tmps.getD 77 undef = _ := hI.off 77 (noDst_spec (p := (inL [0, 1, 2, 3, 4, 5, 6, 7, 8])) (by kernel_rfl))
              have f78 : a.tmps.getD 78 undef = _ := hI.off 78 (noDst_spec (p := (inL [0, 1, 2, 3, 4, 5, 6, 7, 8])) (by kernel_rfl))
              have f79 : a.tmps.getD 79 undef = _ := hI.off 79 (noDst_spec (p := (inL [0, 1, 2, 3, 4, 5, 6, 7, 8])) (by kernel_rfl))
              have f80 : a.tmps.getD 80 undef = _ := hI.off 80 (noDst_spec (p := (inL [0, 1, 2, 3, 4, 5, 6, 7, 8])) (by kernel_rfl))
              have f81 : a.tmps.getD 81 undef = _ := hI.off 81 (noDst_spec (p := (inL [0, 1, 2, 3, 4, 5, 6, 7, 8])) (by kernel_rfl))
              have f82 : a.tmps.getD 82 undef = _ := hI.off 82 (noDst_spec (p := (inL [0, 1, 2, 3, 4, 5, 6, 7, 8])) (by kernel_rfl))
              have f83 : a.tmps.getD 83 undef = _ := hI.off 83 (noDst_spec (p := (inL [0, 1, 2, 3, 4, 5, 6, 7, 8])) (by kernel_rfl))
              have f84 : a.tmps.getD 84 undef = _ := hI.off 84 (noDst_spec (p := (inL [0, 1, 2, 3, 4, 5, 6, 7, 8])) (by kernel_rfl))
              have f85 : a.tmps.getD 85 undef = _ := hI.off 85 (noDst_spec (p := (inL [0, 1, 2, 3, 4, 5, 6, 7, 8])) (by kernel_rfl))
              have f86 : a.tmps.getD 86 undef = _ := hI.off 86 (noDst_spec (p := (inL [0, 1, 2, 3, 4, 5, 6, 7, 8])) (by kernel_rfl))
              have f87 : a.tmps.getD 87 undef = _ := hI.off 87 (noDst_spec (p := (inL [0, 1, 2, 3, 4, 5, 6, 7, 8])) (by kernel_rfl))
              have f96 : a.tmps.getD 96 undef = _ := hI.off 96 (noDst_spec (p := (inL [0, 1, 2, 3, 4, 5, 6, 7, 8])) (by kernel_rfl))
              have f97 : a.tmps.getD 97 undef = _ := hI.off 97 (noDst_spec (p := (inL [0, 1, 2, 3, 4, 5, 6, 7, 8])) (by kernel_rfl))
              have f98 : a.tmps.getD 98 undef = _ := hI.off 98 (noDst_spec (p := (inL [0, 1, 2, 3, 4, 5, 6, 7, 8])) (by kernel_rfl))
              have f99 : a.tmps.getD 99 undef = _ := hI.off 99 (noDst_spec (p := (inL [0, 1, 2, 3, 4, 5, 6, 7, 8])) (by kernel_rfl))
              have f100 : a.tmps.getD 100 undef = _ := hI.off 100 (noDst_spec (p := (inL [0, 1, 2, 3, 4, 5, 6, 7, 8])) (by kernel_rfl))
              have f101 : a.tmps.getD 101 undef = _ := hI.off 101 (noDst_spec (p := (inL [0, 1, 2, 3, 4, 5, 6, 7, 8])) (by kernel_rfl))
              have f102 : a.tmps.getD 102 undef = _ := hI.off 102 (noDst_spec (p := (inL [0, 1, 2, 3, 4, 5, 6, 7, 8])) (by kernel_rfl))
              have f103 : a.tmps.getD 103 undef = _ := hI.off 103 (noDst_spec (p := (inL [0, 1, 2, 3, 4, 5, 6, 7, 8])) (by kernel_rfl))
              have f104 : a.tmps.getD 104 undef = _ := hI.off 104 (noDst_spec (p := (inL [0, 1, 2, 3, 4, 5, 6, 7, 8])) (by kernel_rfl))
              have f105 : a.tmps.getD 105 undef = _ := hI.off 105 (noDst_spec (p := (inL [0, 1, 2, 3, 4, 5, 6, 7, 8])) (by kernel_rfl))
              have f106 : a.tmps.getD 106 undef = _ := hI.off 106 (noDst_spec (p := (inL [0, 1, 2, 3, 4, 5, 6, 7, 8])) (by kernel_rfl))
              have f107 : a.tmps.getD 107 undef = _ := hI.off 107 (noDst_spec (p := (inL [0, 1, 2, 3, 4, 5, 6, 7, 8])) (by kernel_rfl))
              have f108 : a.tmps.getD 108 undef = _ := hI.off 108 (noDst_spec (p := (inL [0, 1, 2, 3, 4, 5, 6, 7, 8])) (by kernel_rfl))
              have f109 : a.tmps.getD 109 undef = _ := hI.off 109 (noDst_spec (p := (inL [0, 1, 2, 3, 4, 5, 6, 7, 8])) (by kernel_rfl))
              have f110 : a.tmps.getD 110 undef = _ := hI.off 110 (noDst_spec (p := (inL [0, 1, 2, 3, 4, 5, 6, 7, 8])) (by kernel_rfl))
              have f111 : a.tmps.getD 111 undef = _ := hI.off 111 (noDst_spec (p := (inL [0, 1, 2, 3, 4, 5, 6, 7, 8])) (by kernel_rfl))
              have f112 : a.tmps.getD 112 undef = _ := hI.off 112 (noDst_spec (p := (inL [0, 1, 2, 3, 4, 5, 6, 7, 8])) (by kernel_rfl))
              have f113 : a.tmps.getD 113 undef = _ := hI.off 113 (noDst_spec (p := (inL [0, 1, 2, 3, 4, 5, 6, 7, 8])) (by kernel_rfl))
              have f114 : a.tmps.getD 114 undef = _ := hI.off 114 (noDst_spec (p := (inL [0, 1, 2, 3, 4, 5, 6, 7, 8])) (by kernel_rfl))
              have f115 : a.tmps.getD 115 undef = _ := hI.off 115 (noDst_spec (p := (inL [0, 1, 2, 3, 4, 5, 6, 7, 8])) (by kernel_rfl))
              have f116 : a.tmps.getD 116 undef = _ := hI.off 116 (noDst_spec (p := (inL [0, 1, 2, 3, 4, 5, 6, 7, 8])) (by kernel_rfl))
              have f117 : a.tmps.getD 117 undef = _ := hI.off 117 (noDst_spec (p := (inL [0, 1, 2, 3, 4, 5, 6, 7, 8])) (by kernel_rfl))
              have f118 : a.tmps.getD 118 undef = _ := hI.off 118 (noDst_spec (p := (inL [0, 1, 2, 3, 4, 5, 6, 7, 8])) (by kernel_rfl))
              have f119 : a.tmps.getD 119 undef = _ := hI.off 119 (noDst_spec (p := (inL [0, 1, 2, 3, 4, 5, 6, 7, 8])) (by kernel_rfl))
              obtain ⟨r0, r1, rfl⟩ := vs_list2 hlen
              have f88 : a.tmps.getD 88 undef = .pointer (some ⟨gb, 0, none⟩) := hI.val 0 _ 88 rfl rfl rfl
              have f89 : a.tmps.getD 89 undef = .int .i64 (n0 + 2) := hI.val 1 _ 89 rfl rfl rfl
              have f90 : a.tmps.getD 90 undef = .iface 128 (.pointer (some ⟨b, 0, none⟩)) := hI.val 2 _ 90 rfl rfl rfl
              have f91 : a.tmps.getD 91 undef = .pointer (some ⟨gb, 0, none⟩) := hI.val 3 _ 91 rfl rfl rfl
              have f92 : a.tmps.getD 92 undef = .int .i64 (n0 + 2) := hI.val 4 _ 92 rfl rfl rfl
              have f93 : a.tmps.getD 93 undef = .int .i64 (dA : Nat) := hI.val 5 _ 93 rfl rfl rfl
              have f94 : a.tmps.getD 94 undef = .int .i64 A := hI.val 6 _ 94 rfl rfl rfl
              have f95 : a.tmps.getD 95 undef = .pointer (some ⟨gb, 1, none⟩) := hI.val 7 _ 95 rfl rfl rfl
              have ha : a = ⟨#[a.tmps.getD 0 undef, a.tmps.getD 1 undef, a.tmps.getD 2 undef, a.tmps.getD 3 undef, a.tmps.getD 4 undef, a.tmps.getD 5 undef, a.tmps.getD 6 undef, a.tmps.getD 7 undef, a.tmps.getD 8 undef, a.tmps.getD 9 undef, a.tmps.getD 10 undef, a.tmps.getD 11 undef, a.tmps.getD 12 undef, a.tmps.getD 13 undef, a.tmps.getD 14 undef, a.tmps.getD 15 undef, a.tmps.getD 16 undef, a.tmps.getD 17 undef, a.tmps.getD 18 undef, a.tmps.getD 19 undef, a.tmps.getD 20 undef, a.tmps.getD 21 undef, a.tmps.getD 22 undef, a.tmps.getD 23 undef, a.tmps.getD 24 undef, a.tmps.getD 25 undef, a.tmps.getD 26 undef, a.tmps.getD 27 undef, a.tmps.getD 28 undef, a.tmps.getD 29 undef, a.tmps.getD 30 undef, a.tmps.getD 31 undef, a.tmps.getD 32 undef, a.tmps.getD 33 undef, a.tmps.getD 34 undef, a.tmps.getD 35 undef, a.tmps.getD 36 undef, a.tmps.getD 37 undef, a.tmps.getD 38 undef, a.tmps.getD 39 undef, a.tmps.getD 40 undef, a.tmps.getD 41 undef, a.tmps.getD 42 undef, a.tmps.getD 43 undef, a.tmps.getD 44 undef, a.tmps.getD 45 undef, a.tmps.getD 46 undef, a.tmps.getD 47 undef, a.tmps.getD 48 undef, a.tmps.getD 49 undef, a.tmps.getD 50 undef, a.tmps.getD 51 undef, a.tmps.getD 52 undef, a.tmps.getD 53 undef, a.tmps.getD 54 undef, a.tmps.getD 55 undef, a.tmps.getD 56 undef, a.tmps.getD 57 undef, a.tmps.getD 58 undef, a.tmps.getD 59 undef, a.tmps.getD 60 undef, a.tmps.getD 61 undef, a.tmps.getD 62 undef, a.tmps.getD 63 undef, a.tmps.getD 64 undef, a.tmps.getD 65 undef, a.tmps.getD 66 undef, a.tmps.getD 67 undef, a.tmps.getD 68 undef, a.tmps.getD 69 undef, a.tmps.getD 70 undef, a.tmps.getD 71 undef, a.tmps.getD 72 undef, a.tmps.getD 73 undef, a.tmps.getD 74 undef, a.tmps.getD 75 undef, a.tmps.getD 76 undef, a.tmps.getD 77 undef, a.tmps.getD 78 undef, a.tmps.getD 79 undef, a.tmps.getD 80 undef, a.tmps.getD 81 undef, a.tmps.getD 82 undef, a.tmps.getD 83 undef, a.tmps.getD 84 undef, a.tmps.getD 85 undef, a.tmps.getD 86 undef, a.tmps.getD 87 undef, a.tmps.getD 88 undef, a.tmps.getD 89 undef, a.tmps.getD 90 undef, a.tmps.getD 91 undef, a.tmps.getD 92 undef, a.tmps.getD 93 undef, a.tmps.getD 94 undef, a.tmps.getD 95 undef, a.tmps.getD 96 undef, a.tmps.getD 97 undef, a.tmps.getD 98 undef, a.tmps.getD 99 undef, a.tmps.getD 100 undef, a.tmps.getD 101 undef, a.tmps.getD 102 undef, a.tmps.getD 103 undef, a.tmps.getD 104 undef, a.tmps.getD 105 undef, a.tmps.getD 106 undef, a.tmps.getD 107 undef, a.tmps.getD 108 undef, a.tmps.getD 109 undef, a.tmps.getD 110 undef, a.tmps.getD 111 undef, a.tmps.getD 112 undef, a.tmps.getD 113 undef, a.tmps.getD 114 undef, a.tmps.getD 115 undef, a.tmps.getD 116 undef, a.tmps.getD 117 undef, a.tmps.getD 118 undef, a.tmps.getD 119 undef], a.defers⟩ := act_list a 120 hsz
              rw [hdf, f0, f1, f2, f3, f4, f5, f6, f7, f8, f9, f10, f11, f12, f13, f14, f15, f16, f17, f18, f19, f20, f21, f22, f23, f24, f25, f26, f27, f28, f29, f30, f31, f32, f33, f34, f35, f36, f37, f38, f39, f40, f41, f42, f43, f44, f45, f46, f47, f48, f49, f50, f51, f52, f53, f54, f55, f56, f57, f58, f59, f60, f61, f62, f63, f64, f65, f66, f67, f68, f69, f70, f71, f72, f73, f74, f75, f76, f77, f78, f79, f80, f81, f82, f83, f84, f85, f86, f87, f88, f89, f90, f91, f92, f93, f94, f95, f96, f97, f98, f99, f100, f101, f102, f103, f104, f105, f106, f107, f108, f109, f110, f111, f112, f113, f114, f115, f116, f117, f118, f119] at ha
              clear hlen
              have hru := hI.rel
              have hwu := hI.st
              clear hI hsz hdf f0 f1 f2 f3 f4 f5 f6 f7 f8 f9 f10 f11 f12 f13 f14 f15 f16 f17 f18 f19 f20 f21 f22 f23 f24 f25 f26 f27 f28 f29 f30 f31 f32 f33 f34 f35 f36 f37 f38 f39 f40 f41 f42 f43 f44 f45 f46 f47 f48 f49 f50 f51 f52 f53 f54 f55 f56 f57 f58 f59 f60 f61 f62 f63 f64 f65 f66 f67 f68 f69 f70 f71 f72 f73 f74 f75 f76 f77 f78 f79 f80 f81 f82 f83 f84 f85 f86 f87 f88 f89 f90 f91 f92 f93 f94 f95 f96 f97 f98 f99 f100 f101 f102 f103 f104 f105 f106 f107 f108 f109 f110 f111 f112 f113 f114 f115 f116 f117 f118 f119 
              subst ha
              refine wpAny_done (by kernel_rfl) ?_ _
              simp only [Array.getD_eq_getD_getElem?, List.getElem?_toArray, List.getElem?_cons_zero, List.getElem?_cons_succ, Option.getD_some]
              have HW5 := Lib.hid (show BC w u b w.heap.size (w.heap.size + 1) cb nb (w.heap.size + 4) s hd (p2, e2) M (n0 + 2) vI vL vO vB vC vG (insP k) L o1.1 o2.1 o3.1 G ∧ Blk u gb #[.int .i64 (n0 + 2), .int .i64 A, .int .i64 0] 61 from hwu)
              obtain ⟨w5, hw5⟩ : ∃ w5 : World, w5 = u := ⟨_, rfl⟩
              rw [← hw5] at HW5 ⊢
              clear hwu hru hw5
              go_upto_region 23 with fail
              refine wp_region_looseS (p := (inL [0, 1, 2, 3, 4, 5, 6, 7, 8])) (V := atV [EqV (.pointer (some ⟨gb, 1, none⟩)), EqV (.int .i64 A), EqV (.iface 128 (.pointer (some ⟨b, 0, none⟩))), EqV (.pointer (some ⟨gb, 1, none⟩)), EqV (.int .i64 A), EqV (.int .i64 (dB : Nat)), EqV (.int .i64 Bv), EqV (.pointer (some ⟨gb, 2, none⟩)), AnyV]) (R := (fun _ _ => True)) (W := (WG (fun u => BC w u b w.heap.size (w.heap.size + 1) cb nb (w.heap.size + 4) s hd (p2, e2) M (n0 + 2) vI vL vO vB vC vG (insP k) L o1.1 o2.1 o3.1 G ∧ Blk u gb #[.int .i64 (n0 + 2), .int .i64 A, .int .i64 0] 61) (fun u => BC w u b w.heap.size (w.heap.size + 1) cb nb (w.heap.size + 4) s hd (p3, e3) M (n0 + 2) vI vL vO vB vC vG (insP k) L o1.1 o2.1 o3.1 G ∧ Blk u gb #[.int .i64 (n0 + 2), .int .i64 A, .int .i64 0] 61) (fun u => BC w u b w.heap.size (w.heap.size + 1) cb nb (w.heap.size + 4) s hd (p3, e3) M (n0 + 2) vI vL vO vB vC vG (insP k) L o1.1 o2.1 o3.1 G ∧ Blk u gb #[.int .i64 (n0 + 2), .int .i64 A, .int .i64 Bv] 61))) (c := (inL [5, 8])) (LP := #[true, true, true, true, true, true, true, true, true]) (K := 0) (N := 2) (by kernel_rfl) (by kernel_rfl) (by kernel_rfl) trivial ⟨HW5.out.1.kp0 (Kp.refl _ _).drew, HW5.out.2.drew⟩ (fun _ _ _ _ _ => trivial) (atV_stR ?hstR23) ?hstepR23 (by kernel_rfl) ?hLPR23 (by kernel_rfl) (by kernel_rfl) ?hendR23
              case hstR23 =>
                intro V h
                simp only [List.mem_cons, List.not_mem_nil, or_false] at h
                rcases h with rfl | rfl | rfl | rfl | rfl | rfl | rfl | rfl | rfl <;> intro u u' v k h <;> first | exact h | exact trivial | exact EqV.st _
              case hLPR23 => exact pOf_spec (by kernel_rfl)
              case hstepR23 =>
                intro i o ho hp vs a u hk hw hn hub htold hoff hdep
                have e0 : a.tmps[0]?.getD undef = (.iface 128 (.pointer (some ⟨b, 0, none⟩))) := slot_at (hoff 0 (noDst_spec (by kernel_rfl)))
                have e10 : a.tmps[10]?.getD undef = (.pointer (some ⟨gb, 0, none⟩)) := slot_at (hoff 10 (noDst_spec (by kernel_rfl)))
                clear hoff
                match i, ho with
                | 0, ho =>
                  obtain rfl := Option.some.inj ho
                  show LS _ _ _ _ _ _ _ false _ _ _ _
                  clear hn
                  refine lsn_value (v := .pointer (some ⟨gb, 1, none⟩)) (u' := u) rfl ?_ trivial hw rfl
                  go_simp
                | 1, ho =>
                  obtain rfl := Option.some.inj ho
                  show LS _ _ _ _ _ _ _ false _ _ _ _
                  clear hn
                  have e96 : a.tmps[96]?.getD undef = .pointer (some ⟨gb, 1, none⟩) := slot_at (hdep ⟨0, .data⟩ (by simp) rfl _ 96 rfl rfl)
                  have c1 : u.cell? ⟨gb, 1, none⟩ = some (.int .i64 A) := WG_all (fun h => h.2.cell rfl) (fun h => h.2.cell rfl) (fun h => h.2.cell rfl) hw
                  refine lsn_value (v := .int .i64 A) (u' := u) rfl ?_ trivial hw rfl
                  go_simp
                | 2, ho =>
                  obtain rfl := Option.some.inj ho
                  show LS _ _ _ _ _ _ _ false _ _ _ _
                  clear hn
                  refine lsn_value (v := .iface 128 (.pointer (some ⟨b, 0, none⟩))) (u' := u) rfl ?_ trivial hw rfl
                  go_simp
                | 3, ho =>
                  obtain rfl := Option.some.inj ho
                  show LS _ _ _ _ _ _ _ false _ _ _ _
                  clear hn
                  refine lsn_value (v := .pointer (some ⟨gb, 1, none⟩)) (u' := u) rfl ?_ trivial hw rfl
                  go_simp
                | 4, ho =>
                  obtain rfl := Option.some.inj ho
                  show LS _ _ _ _ _ _ _ false _ _ _ _
                  clear hn
                  have e99 : a.tmps[99]?.getD undef = .pointer (some ⟨gb, 1, none⟩) := slot_at (hdep ⟨3, .data⟩ (by simp) rfl _ 99 rfl rfl)
                  have c1 : u.cell? ⟨gb, 1, none⟩ = some (.int .i64 A) := WG_all (fun h => h.2.cell rfl) (fun h => h.2.cell rfl) (fun h => h.2.cell rfl) hw
                  refine lsn_value (v := .int .i64 A) (u' := u) rfl ?_ trivial hw rfl
                  go_simp
                | 5, ho =>
                  obtain rfl := Option.some.inj ho
                  have hlen : vs.length = 0 := (hn rfl).trans (by kernel_rfl)
                  obtain rfl : vs = [] := List.eq_nil_of_length_eq_zero hlen
                  show LS _ _ _ _ _ _ _ true _ _ _ _
                  clear hn
                  have e98 : a.tmps[98]?.getD undef = .iface 128 (.pointer (some ⟨b, 0, none⟩)) := slot_at (hdep ⟨2, .data⟩ (by simp) rfl _ 98 rfl rfl)
                  have e100 : a.tmps[100]?.getD undef = .int .i64 A := slot_at (hdep ⟨4, .data⟩ (by simp) rfl _ 100 rfl rfl)
                  refine lsn_call (f := 143) (args := #[.pointer (some ⟨b, 0, none⟩), .int .i64 0, .int .i64 A]) rfl ?_ ?_
                  · go_simp
                  · exact (HDB.out u hw.1.t).mono (by
                      rintro e u' ⟨rfl, hT, hK⟩
                      exact ⟨_, rfl, trivial, ⟨hw.1.rd hK hT, hw.2.kp hK HXb.out⟩, rfl⟩)
                | 6, ho =>
                  obtain rfl := Option.some.inj ho
                  show LS _ _ _ _ _ _ _ false _ _ _ _
                  clear hn
                  have e97 : a.tmps[97]?.getD undef = .int .i64 A := slot_at (hdep ⟨1, .data⟩ (by simp) rfl _ 97 rfl rfl)
                  have e101 : a.tmps[101]?.getD undef = .int .i64 (dB : Nat) := slot_at (hdep ⟨5, .data⟩ (by simp) rfl _ 101 rfl rfl)
                  have hBv := HBe0.out
                  refine lsn_value (v := .int .i64 Bv) (u' := u) rfl ?_ trivial hw rfl
                  go_simp
                  all_goals (first | done | (unfold IntKind.wrap; simp [IntKind.signed, IntKind.bits]; omega))
                | 7, ho =>
                  obtain rfl := Option.some.inj ho
                  show LS _ _ _ _ _ _ _ false _ _ _ _
                  clear hn
                  refine lsn_value (v := .pointer (some ⟨gb, 2, none⟩)) (u' := u) rfl ?_ trivial hw rfl
                  go_simp
                | 8, ho =>
                  obtain rfl := Option.some.inj ho
                  have hlen : vs.length = 1 := (hn rfl).trans (by kernel_rfl)
                  obtain ⟨r0, rfl⟩ := vs_list1 hlen
                  show LS _ _ _ _ _ _ _ true _ _ _ _
                  clear hn
                  have e103 : a.tmps[103]?.getD undef = .pointer (some ⟨gb, 2, none⟩) := slot_at (hdep ⟨7, .data⟩ (by simp) rfl _ 103 rfl rfl)
                  have e102 : a.tmps[102]?.getD undef = .int .i64 Bv := slot_at (hdep ⟨6, .data⟩ (by simp) rfl _ 102 rfl rfl)
                  have c1 := hw.2.cell (i := 2) (v := .int .i64 0) rfl
                  have f1 := Blk.free hw.2 2
                  refine lsn_skip (u' := u.setCell ⟨gb, 2, none⟩ (.int .i64 Bv)) rfl ?_ trivial ⟨BC.fresh HB2.out HGb.out hw.1 (Kp.set u ⟨gb, 2, none⟩ _), hw.2.set_same 2 _⟩ trivial
                  go_simp
                | n + 9, _ => exact (inL_far (N := 9) (by decide) hp).elim
              intro vs a u hlen hI
              have hsz : a.tmps.size = 120 := hI.size
              have hdf : a.defers = [] := hI.defers
              have f0 : a.tmps.getD 0 undef = _ := hI.off 0 (noDst_spec (p := (inL [0, 1, 2, 3, 4, 5, 6, 7, 8])) (by kernel_rfl))
              have f1 : a.tmps.getD 1 undef = _ := hI.off 1 (noDst_spec (p := (inL [0, 1, 2, 3, 4, 5, 6, 7, 8])) (by kernel_rfl))
              have f2 : a.tmps.getD 2 undef = _ := hI.off 2 (noDst_spec (p := (inL [0, 1, 2, 3, 4, 5, 6, 7, 8])) (by kernel_rfl))
              have f3 : a.tmps.getD 3 undef = _ := hI.off 3 (noDst_spec (p := (inL [0, 1, 2, 3, 4, 5, 6, 7, 8])) (by kernel_rfl))
              have f4 : a.tmps.getD 4 undef = _ := hI.off 4 (noDst_spec (p := (inL [0, 1, 2, 3, 4, 5, 6, 7, 8])) (by kernel_rfl))
              have f5 : a.tmps.getD 5 undef = _ := hI.off 5 (noDst_spec (p := (inL [0, 1, 2, 3, 4, 5, 6, 7, 8])) (by kernel_rfl))
              have f6 : a.tmps.getD 6 undef = _ := hI.off 6 (noDst_spec (p := (inL [0, 1, 2, 3, 4, 5, 6, 7, 8])) (by kernel_rfl))
              have f7 : a.tmps.getD 7 undef = _ := hI.off 7 (noDst_spec (p := (inL [0, 1, 2, 3, 4, 5, 6, 7, 8])) (by kernel_rfl))
              have f8 : a.tmps.getD 8 undef = _ := hI.off 8 (noDst_spec (p := (inL [0, 1, 2, 3, 4, 5, 6, 7, 8])) (by kernel_rfl))
              have f9 : a.tmps.getD 9 undef = _ := hI.off 9 (noDst_spec (p := (inL [0, 1, 2, 3, 4, 5, 6, 7, 8])) (by kernel_rfl))
              have f10 : a.tmps.getD 10 undef = _ := hI.off 10 (noDst_spec (p := (inL [0, 1, 2, 3, 4, 5, 6, 7, 8])) (by kernel_rfl))
              have f11 : a.tmps.getD 11 undef = _ := hI.off 11 (noDst_spec (p := (inL [0, 1, 2, 3, 4, 5, 6, 7, 8])) (by kernel_rfl))
              have f12 : a.tmps.getD 12 undef = _ := hI.off 12 (noDst_spec (p := (inL [0, 1, 2, 3, 4, 5, 6, 7, 8])) (by kernel_rfl))
              have f13 : a.tmps.getD 13 undef = _ := hI.off 13 (noDst_spec (p := (inL [0, 1, 2, 3, 4, 5, 6, 7, 8])) (by kernel_rfl))
              have f14 : a.tmps.getD 14 undef = _ := hI.off 14 (noDst_spec (p := (inL [0, 1, 2, 3, 4, 5, 6, 7, 8])) (by kernel_rfl))
              have f15 : a.tmps.getD 15 undef = _ := hI.off 15 (noDst_spec (p := (inL [0, 1, 2, 3, 4, 5, 6, 7, 8])) (by kernel_rfl))
              have f16 : a.tmps.getD 16 undef = _ := hI.off 16 (noDst_spec (p := (inL [0, 1, 2, 3, 4, 5, 6, 7, 8])) (by kernel_rfl))
              have f17 : a.tmps.getD 17 undef = _ := hI.off 17 (noDst_spec (p := (inL [0, 1, 2, 3, 4, 5, 6, 7, 8])) (by kernel_rfl))
              have f18 : a.tmps.getD 18 undef = _ := hI.off 18 (noDst_spec (p := (inL [0, 1, 2, 3, 4, 5, 6, 7, 8])) (by kernel_rfl))
              have f19 : a.tmps.getD 19 undef = _ := hI.off 19 (noDst_spec (p := (inL [0, 1, 2, 3, 4, 5, 6, 7, 8])) (by kernel_rfl))
              have f20 : a.tmps.getD 20 undef = _ := hI.off 20 (noDst_spec (p := (inL [0, 1, 2, 3, 4, 5, 6, 7, 8])) (by kernel_rfl))
              have f21 : a.tmps.getD 21 undef = _ := hI.off 21 (noDst_spec (p := (inL [0, 1, 2, 3, 4, 5, 6, 7, 8])) (by kernel_rfl))
              have f22 : a.tmps.getD 22 undef = _ := hI.off 22 (noDst_spec (p := (inL [0, 1, 2, 3, 4, 5, 6, 7, 8])) (by kernel_rfl))
              have f23 : a.tmps.getD 23 undef = _ := hI.off 23 (noDst_spec (p := (inL [0, 1, 2, 3, 4, 5, 6, 7, 8])) (by kernel_rfl))
              have f24 : a.tmps.getD 24 undef = _ := hI.off 24 (noDst_spec (p := (inL [0, 1, 2, 3, 4, 5, 6, 7, 8])) (by kernel_rfl))
              have f25 : a.tmps.getD 25 undef = _ := hI.off 25 (noDst_spec (p := (inL [0, 1, 2, 3, 4, 5, 6, 7, 8])) (by kernel_rfl))
              have f26 : a.tmps.getD 26 undef = _ := hI.off 26 (noDst_spec (p := (inL [0, 1, 2, 3, 4, 5, 6, 7, 8])) (by kernel_rfl))
              have f27 : a.tmps.getD 27 undef = _ := hI.off 27 (noDst_spec (p := (inL [0, 1, 2, 3, 4, 5, 6, 7, 8])) (by kernel_rfl))
              have f28 : a.tmps.getD 28 undef = _ := hI.off 28 (noDst_spec (p := (inL [0, 1, 2, 3, 4, 5, 6, 7, 8])) (by kernel_rfl))
              have f29 : a.tmps.getD 29 undef = _ := hI.off 29 (noDst_spec (p := (inL [0, 1, 2, 3, 4, 5, 6, 7, 8])) (by kernel_rfl))
              have f30 : a.tmps.getD 30 undef = _ := hI.off 30 (noDst_spec (p := (inL [0, 1, 2, 3, 4, 5, 6, 7, 8])) (by kernel_rfl))
              have f31 : a.tmps.getD 31 undef = _ := hI.off 31 (noDst_spec (p := (inL [0, 1, 2, 3, 4, 5, 6, 7, 8])) (by kernel_rfl))
              have f32 : a.tmps.getD 32 undef = _ := hI.off 32 (noDst_spec (p := (inL [0, 1, 2, 3, 4, 5, 6, 7, 8])) (by kernel_rfl))
              have f33 : a.tmps.getD 33 undef = _ := hI.off 33 (noDst_spec (p := (inL [0, 1, 2, 3, 4, 5, 6, 7, 8])) (by kernel_rfl))
              have f34 : a.tmps.getD 34 undef = _ := hI.off 34 (noDst_spec (p := (inL [0, 1, 2, 3, 4, 5, 6, 7, 8])) (by kernel_rfl))
              have f35 : a.tmps.getD 35 undef = _ := hI.off 35 (noDst_spec (p := (inL [0, 1, 2, 3, 4, 5, 6, 7, 8])) (by kernel_rfl))
              have f36 : a.tmps.getD 36 undef = _ := hI.off 36 (noDst_spec (p := (inL [0, 1, 2, 3, 4, 5, 6, 7, 8])) (by kernel_rfl))
              have f37 : a.tmps.getD 37 undef = _ := hI.off 37 (noDst_spec (p := (inL [0, 1, 2, 3, 4, 5, 6, 7, 8])) (by kernel_rfl))
              have f38 : a.tmps.getD 38 undef = _ := hI.off 38 (noDst_spec (p := (inL [0, 1, 2, 3, 4, 5, 6, 7, 8])) (by kernel_rfl))
              have f39 : a.tmps.getD 39 undef = _ := hI.off 39 (noDst_spec (p := (inL [0, 1, 2, 3, 4, 5, 6, 7, 8])) (by kernel_rfl))
              have f40 : a.tmps.getD 40 undef = _ := hI.off 40 (noDst_spec (p := (inL [0, 1, 2, 3, 4, 5, 6, 7, 8])) (by kernel_rfl))
              have f41 : a.tmps.getD 41 undef = _ := hI.off 41 (noDst_spec (p := (inL [0, 1, 2, 3, 4, 5, 6, 7, 8])) (by kernel_rfl))
              have f42 : a.tmps.getD 42 undef = _ := hI.off 42 (noDst_spec (p := (inL [0, 1, 2, 3, 4, 5, 6, 7, 8])) (by kernel_rfl))
              have f43 : a.tmps.getD 43 undef = _ := hI.off 43 (noDst_spec (p := (inL [0, 1, 2, 3, 4, 5, 6, 7, 8])) (by kernel_rfl))
              have f44 : a.tmps.getD 44 undef = _ := hI.off 44 (noDst_spec (p := (inL [0, 1, 2, 3, 4, 5, 6, 7, 8])) (by kernel_rfl))
              have f45 : a.tmps.getD 45 undef = _ := hI.off 45 (noDst_spec (p := (inL [0, 1, 2, 3, 4, 5, 6, 7, 8])) (by kernel_rfl))
              have f46 : a.tmps.getD 46 undef = _ := hI.off 46 (noDst_spec (p := (inL [0, 1, 2, 3, 4, 5, 6, 7, 8])) (by kernel_rfl))
              have f47 : a.tmps.getD 47 undef = _ := hI.off 47 (noDst_spec (p := (inL [0, 1, 2, 3, 4, 5, 6, 7, 8])) (by kernel_rfl))
              have f48 : a.tmps.getD 48 undef = _ := hI.off 48 (noDst_spec (p := (inL [0, 1, 2, 3, 4, 5, 6, 7, 8])) (by kernel_rfl))
              have f49 : a.tmps.getD 49 undef = _ := hI.off 49 (noDst_spec (p := (inL [0, 1, 2, 3, 4, 5, 6, 7, 8])) (by kernel_rfl))
              have f50 : a.tmps.getD 50 undef = _ := hI.off 50 (noDst_spec (p := (inL [0, 1, 2, 3, 4, 5, 6, 7, 8])) (by kernel_rfl))
              have f51 : a.tmps.getD 51 undef = _ := hI.off 51 (noDst_spec (p := (inL [0, 1, 2, 3, 4, 5, 6, 7, 8])) (by kernel_rfl))
              have f52 : a.tmps.getD 52 undef = _ := hI.off 52 (noDst_spec (p := (inL [0, 1, 2, 3, 4, 5, 6, 7, 8])) (by kernel_rfl))
              have f53 : a.tmps.getD 53 undef = _ := hI.off 53 (noDst_spec (p := (inL [0, 1, 2, 3, 4, 5, 6, 7, 8])) (by kernel_rfl))
              have f54 : a.tmps.getD 54 undef = _ := hI.off 54 (noDst_spec (p := (inL [0, 1, 2, 3, 4, 5, 6, 7, 8])) (by kernel_rfl))
              have f55 : a.tmps.getD 55 undef = _ := hI.off 55 (noDst_spec (p := (inL [0, 1, 2, 3, 4, 5, 6, 7, 8])) (by kernel_rfl))
              have f56 : a.tmps.getD 56 undef = _ := hI.off 56 (noDst_spec (p := (inL [0, 1, 2, 3, 4, 5, 6, 7, 8])) (by kernel_rfl))
              have f57 : a.tmps.getD 57 undef = _ := hI.off 57 (noDst_spec (p := (inL [0, 1, 2, 3, 4, 5, 6, 7, 8])) (by kernel_rfl))
              have f58 : a.tmps.getD 58 undef = _ := hI.off 58 (noDst_spec (p := (inL [0, 1, 2, 3, 4, 5, 6, 7, 8])) (by kernel_rfl))
              have f59 : a.tmps.getD 59 undef = _ := hI.off 59 (noDst_spec (p := (inL [0, 1, 2, 3, 4, 5, 6, 7, 8])) (by kernel_rfl))
              have f60 : a.tmps.getD 60 undef = _ := hI.off 60 (noDst_spec (p := (inL [0, 1, 2, 3, 4, 5, 6, 7, 8])) (by kernel_rfl))
              have f61 : a.tmps.getD 61 undef = _ := hI.off 61 (noDst_spec (p := (inL [0, 1, 2, 3, 4, 5, 6, 7, 8])) (by kernel_rfl))
              have f62 : a.tmps.getD 62 undef = _ := hI.off 62 (noDst_spec (p := (inL [0, 1, 2, 3, 4, 5, 6, 7, 8])) (by kernel_rfl))
              have f63 : a.tmps.getD 63 undef = _ := hI.off 63 (noDst_spec (p := (inL [0, 1, 2, 3, 4, 5, 6, 7, 8])) (by kernel_rfl))
              have f64 : a.tmps.getD 64 undef = _ := hI.off 64 (noDst_spec (p := (inL [0, 1, 2, 3, 4, 5, 6, 7, 8])) (by kernel_rfl))
              have f65 : a.tmps.getD 65 undef = _ := hI.off 65 (noDst_spec (p := (inL [0, 1, 2, 3, 4, 5, 6, 7, 8])) (by kernel_rfl))
              have f66 : a.tmps.getD 66 undef = _ := hI.off 66 (noDst_spec (p := (inL [0, 1, 2, 3, 4, 5, 6, 7, 8])) (by kernel_rfl))
              have f67 : a.tmps.getD 67 undef = _ := hI.off 67 (noDst_spec (p := (inL [0, 1, 2, 3, 4, 5, 6, 7, 8])) (by kernel_rfl))
              have f68 : a.tmps.getD 68 undef = _ := hI.off 68 (noDst_spec (p := (inL [0, 1, 2, 3, 4, 5, 6, 7, 8])) (by kernel_rfl))
              have f69 : a.tmps.getD 69 undef = _ := hI.off 69 (noDst_spec (p := (inL [0, 1, 2, 3, 4, 5, 6, 7, 8])) (by kernel_rfl))
              have f70 : a.tmps.getD 70 undef = _ := hI.off 70 (noDst_spec (p := (inL [0, 1, 2, 3, 4, 5, 6, 7, 8])) (by kernel_rfl))
              have f71 : a.tmps.getD 71 undef = _ := hI.off 71 (noDst_spec (p := (inL [0, 1, 2, 3, 4, 5, 6, 7, 8])) (by kernel_rfl))
              have f72 : a.tmps.getD 72 undef = _ := hI.off 72 (noDst_spec (p := (inL [0, 1, 2, 3, 4, 5, 6, 7, 8])) (by kernel_rfl))
              have f73 : a.tmps.getD 73 undef = _ := hI.off 73 (noDst_spec (p := (inL [0, 1, 2, 3, 4, 5, 6, 7, 8])) (by kernel_rfl))
              have f74 : a.tmps.getD 74 undef = _ := hI.off 74 (noDst_spec (p := (inL [0, 1, 2, 3, 4, 5, 6, 7, 8])) (by kernel_rfl))
              have f75 : a.tmps.getD 75 undef = _ := hI.off 75 (noDst_spec (p := (inL [0, 1, 2, 3, 4, 5, 6, 7, 8])) (by kernel_rfl))
              have f76 : a.tmps.getD 76 undef = _ := hI.off 76 (noDst_spec (p := (inL [0, 1, 2, 3, 4, 5, 6, 7, 8])) (by kernel_rfl))
              have f77 : a.tmps.getD 77 undef = _ := hI.off 77 (noDst_spec (p := (inL [0, 1, 2, 3, 4, 5, 6, 7, 8])) (by kernel_rfl))
              have f78 : a.tmps.getD 78 undef = _ := hI.off 78 (noDst_spec (p := (inL [0, 1, 2, 3, 4, 5, 6, 7, 8])) (by kernel_rfl))
              have f79 : a.tmps.getD 79 undef = _ := hI.off 79 (noDst_spec (p := (inL [0, 1, 2, 3, 4, 5, 6, 7, 8])) (by kernel_rfl))
              have f80 : a.tmps.getD 80 undef = _ := hI.off 80 (noDst_spec (p := (inL [0, 1, 2, 3, 4, 5, 6, 7, 8])) (by kernel_rfl))
              have f81 : a.tmps.getD 81 undef = _ := hI.off 81 (noDst_spec (p := (inL [0, 1, 2, 3, 4, 5, 6, 7, 8])) (by kernel_rfl))
              have f82 : a.tmps.getD 82 undef = _ := hI.off 82 (noDst_spec (p := (inL [0, 1, 2, 3, 4, 5, 6, 7, 8])) (by kernel_rfl))
              have f83 : a.tmps.getD 83 undef = _ := hI.off 83 (noDst_spec (p := (inL [0, 1, 2, 3, 4, 5, 6, 7, 8])) (by kernel_rfl))
              have f84 : a.tmps.getD 84 undef = _ := hI.off 84 (noDst_spec (p := (inL [0, 1, 2, 3, 4, 5, 6, 7, 8])) (by kernel_rfl))
              have f85 : a.tmps.getD 85 undef = _ := hI.off 85 (noDst_spec (p := (inL [0, 1, 2, 3, 4, 5, 6, 7, 8])) (by kernel_rfl))
              have f86 : a.tmps.getD 86 undef = _ := hI.off 86 (noDst_spec (p := (inL [0, 1, 2, 3, 4, 5, 6, 7, 8])) (by kernel_rfl))
              have f87 : a.tmps.getD 87 undef = _ := hI.off 87 (noDst_spec (p := (inL [0, 1, 2, 3, 4, 5, 6, 7, 8])) (by kernel_rfl))
              have f88 : a.tmps.getD 88 undef = _ := hI.off 88 (noDst_spec (p := (inL [0, 1, 2, 3, 4, 5, 6, 7, 8])) (by kernel_rfl))
              have f89 : a.tmps.getD 89 undef = _ := hI.off 89 (noDst_spec (p := (inL [0, 1, 2, 3, 4, 5, 6, 7, 8])) (by kernel_rfl))
              have f90 : a.tmps.getD 90 undef = _ := hI.off 90 (noDst_spec (p := (inL [0, 1, 2, 3, 4, 5, 6, 7, 8])) (by kernel_rfl))
              have f91 : a.tmps.getD 91 undef = _ := hI.off 91 (noDst_spec (p := (inL [0, 1, 2, 3, 4, 5, 6, 7, 8])) (by kernel_rfl))
              have f92 : a.tmps.getD 92 undef = _ := hI.off 92 (noDst_spec (p := (inL [0, 1, 2, 3, 4, 5, 6, 7, 8])) (by kernel_rfl))
              have f93 : a.tmps.getD 93 undef = _ := hI.off 93 (noDst_spec (p := (inL [0, 1, 2, 3, 4, 5, 6, 7, 8])) (by kernel_rfl))
              have f94 : a.tmps.getD 94 undef = _ := hI.off 94 (noDst_spec (p := (inL [0, 1, 2, 3, 4, 5, 6, 7, 8])) (by kernel_rfl))
              have f95 : a.tmps.getD 95 undef = _ := hI.off 95 (noDst_spec (p := (inL [0, 1, 2, 3, 4, 5, 6, 7, 8])) (by kernel_rfl))
              have f104 : a.tmps.getD 104 undef = _ := hI.off 104 (noDst_spec (p := (inL [0, 1, 2, 3, 4, 5, 6, 7, 8])) (by kernel_rfl))
              have f105 : a.tmps.getD 105 undef = _ := hI.off 105 (noDst_spec (p := (inL [0, 1, 2, 3, 4, 5, 6, 7, 8])) (by kernel_rfl))
              have f106 : a.tmps.getD 106 undef = _ := hI.off 106 (noDst_spec (p := (inL [0, 1, 2, 3, 4, 5, 6, 7, 8])) (by kernel_rfl))
              have f107 : a.tmps.getD 107 undef = _ := hI.off 107 (noDst_spec (p := (inL [0, 1, 2, 3, 4, 5, 6, 7, 8])) (by kernel_rfl))
              have f108 : a.tmps.getD 108 undef = _ := hI.off 108 (noDst_spec (p := (inL [0, 1, 2, 3, 4, 5, 6, 7, 8])) (by kernel_rfl))
              have f109 : a.tmps.getD 109 undef = _ := hI.off 109 (noDst_spec (p := (inL [0, 1, 2, 3, 4, 5, 6, 7, 8])) (by kernel_rfl))
              have f110 : a.tmps.getD 110 undef = _ := hI.off 110 (noDst_spec (p := (inL [0, 1, 2, 3, 4, 5, 6, 7, 8])) (by kernel_rfl))
              have f111 : a.tmps.getD 111 undef = _ := hI.off 111 (noDst_spec (p := (inL [0, 1, 2, 3, 4, 5, 6, 7, 8])) (by kernel_rfl))
              have f112 : a.tmps.getD 112 undef = _ := hI.off 112 (noDst_spec (p := (inL [0, 1, 2, 3, 4, 5, 6, 7, 8])) (by kernel_rfl))
              have f113 : a.tmps.getD 113 undef = _ := hI.off 113 (noDst_spec (p := (inL [0, 1, 2, 3, 4, 5, 6, 7, 8])) (by kernel_rfl))
              have f114 : a.tmps.getD 114 undef = _ := hI.off 114 (noDst_spec (p := (inL [0, 1, 2, 3, 4, 5, 6, 7, 8])) (by kernel_rfl))
              have f115 : a.tmps.getD 115 undef = _ := hI.off 115 (noDst_spec (p := (inL [0, 1, 2, 3, 4, 5, 6, 7, 8])) (by kernel_rfl))
              have f116 : a.tmps.getD 116 undef = _ := hI.off 116 (noDst_spec (p := (inL [0, 1, 2, 3, 4, 5, 6, 7, 8])) (by kernel_rfl))
              have f117 : a.tmps.getD 117 undef = _ := hI.off 117 (noDst_spec (p := (inL [0, 1, 2, 3, 4, 5, 6, 7, 8])) (by kernel_rfl))
              have f118 : a.tmps.getD 118 undef = _ := hI.off 118 (noDst_spec (p := (inL [0, 1, 2, 3, 4, 5, 6, 7, 8])) (by kernel_rfl))
              have f119 : a.tmps.getD 119 undef = _ := hI.off 119 (noDst_spec (p := (inL [0, 1, 2, 3, 4, 5, 6, 7, 8])) (by kernel_rfl))
              obtain ⟨r0, r1, rfl⟩ := vs_list2 hlen
              have f96 : a.tmps.getD 96 undef = .pointer (some ⟨gb, 1, none⟩) := hI.val 0 _ 96 rfl rfl rfl
              have f97 : a.tmps.getD 97 undef = .int .i64 A := hI.val 1 _ 97 rfl rfl rfl
              have f98 : a.tmps.getD 98 undef = .iface 128 (.pointer (some ⟨b, 0, none⟩)) := hI.val 2 _ 98 rfl rfl rfl
              have f99 : a.tmps.getD 99 undef = .pointer (some ⟨gb, 1, none⟩) := hI.val 3 _ 99 rfl rfl rfl
              have f100 : a.tmps.getD 100 undef = .int .i64 A := hI.val 4 _ 100 rfl rfl rfl
              have f101 : a.tmps.getD 101 undef = .int .i64 (dB : Nat) := hI.val 5 _ 101 rfl rfl rfl
              have f102 : a.tmps.getD 102 undef = .int .i64 Bv := hI.val 6 _ 102 rfl rfl rfl
              have f103 : a.tmps.getD 103 undef = .pointer (some ⟨gb, 2, none⟩) := hI.val 7 _ 103 rfl rfl rfl
              have ha : a = ⟨#[a.tmps.getD 0 undef, a.tmps.getD 1 undef, a.tmps.getD 2 undef, a.tmps.getD 3 undef, a.tmps.getD 4 undef, a.tmps.getD 5 undef, a.tmps.getD 6 undef, a.tmps.getD 7 undef, a.tmps.getD 8 undef, a.tmps.getD 9 undef, a.tmps.getD 10 undef, a.tmps.getD 11 undef, a.tmps.getD 12 undef, a.tmps.getD 13 undef, a.tmps.getD 14 undef, a.tmps.getD 15 undef, a.tmps.getD 16 undef, a.tmps.getD 17 undef, a.tmps.getD 18 undef, a.tmps.getD 19 undef, a.tmps.getD 20 undef, a.tmps.getD 21 undef, a.tmps.getD 22 undef, a.tmps.getD 23 undef, a.tmps.getD 24 undef, a.tmps.getD 25 undef, a.tmps.getD 26 undef, a.tmps.getD 27 undef, a.tmps.getD 28 undef, a.tmps.getD 29 undef, a.tmps.getD 30 undef, a.tmps.getD 31 undef, a.tmps.getD 32 undef, a.tmps.getD 33 undef, a.tmps.getD 34 undef, a.tmps.getD 35 undef, a.tmps.getD 36 undef, a.tmps.getD 37 undef, a.tmps.getD 38 undef, a.tmps.getD 39 undef, a.tmps.getD 40 undef, a.tmps.getD 41 undef, a.tmps.getD 42 undef, a.tmps.getD 43 undef, a.tmps.getD 44 undef, a.tmps.getD 45 undef, a.tmps.getD 46 undef, a.tmps.getD 47 undef, a.tmps.getD 48 undef, a.tmps.getD 49 undef, a.tmps.getD 50 undef, a.tmps.getD 51 undef, a.tmps.getD 52 undef, a.tmps.getD 53 undef, a.tmps.getD 54 undef, a.tmps.getD 55 undef, a.tmps.getD 56 undef, a.tmps.getD 57 undef, a.tmps.getD 58 undef, a.tmps.getD 59 undef, a.tmps.getD 60 undef, a.tmps.getD 61 undef, a.tmps.getD 62 undef, a.tmps.getD 63 undef, a.tmps.getD 64 undef, a.tmps.getD 65 undef, a.tmps.getD 66 undef, a.tmps.getD 67 undef, a.tmps.getD 68 undef, a.tmps.getD 69 undef, a.tmps.getD 70 undef, a.tmps.getD 71 undef, a.tmps.getD 72 undef, a.tmps.getD 73 undef, a.tmps.getD 74 undef, a.tmps.getD 75 undef, a.tmps.getD 76 undef, a.tmps.getD 77 undef, a.tmps.getD 78 undef, a.tmps.getD 79 undef, a.tmps.getD 80 undef, a.tmps.getD 81 undef, a.tmps.getD 82 undef, a.tmps.getD 83 undef, a.tmps.getD 84 undef, a.tmps.getD 85 undef, a.tmps.getD 86 undef, a.tmps.getD 87 undef, a.tmps.getD 88 undef, a.tmps.getD 89 undef, a.tmps.getD 90 undef, a.tmps.getD 91 undef, a.tmps.getD 92 undef, a.tmps.getD 93 undef, a.tmps.getD 94 undef, a.tmps.getD 95 undef, a.tmps.getD 96 undef, a.tmps.getD 97 undef, a.tmps.getD 98 undef, a.tmps.getD 99 undef, a.tmps.getD 100 undef, a.tmps.getD 101 undef, a.tmps.getD 102 undef, a.tmps.getD 103 undef, a.tmps.getD 104 undef, a.tmps.getD 105 undef, a.tmps.getD 106 undef, a.tmps.getD 107 undef, a.tmps.getD 108 undef, a.tmps.getD 109 undef, a.tmps.getD 110 undef, a.tmps.getD 111 undef, a.tmps.getD 112 undef, a.tmps.getD 113 undef, a.tmps.getD 114 undef, a.tmps.getD 115 undef, a.tmps.getD 116 undef, a.tmps.getD 117 undef, a.tmps.getD 118 undef, a.tmps.getD 119 undef], a.defers⟩ := act_list a 120 hsz
              rw [hdf, f0, f1, f2, f3, f4, f5, f6, f7, f8, f9, f10, f11, f12, f13, f14, f15, f16, f17, f18, f19, f20, f21, f22, f23, f24, f25, f26, f27, f28, f29, f30, f31, f32, f33, f34, f35, f36, f37, f38, f39, f40, f41, f42, f43, f44, f45, f46, f47, f48, f49, f50, f51, f52, f53, f54, f55, f56, f57, f58, f59, f60, f61, f62, f63, f64, f65, f66, f67, f68, f69, f70, f71, f72, f73, f74, f75, f76, f77, f78, f79, f80, f81, f82, f83, f84, f85, f86, f87, f88, f89, f90, f91, f92, f93, f94, f95, f96, f97, f98, f99, f100, f101, f102, f103, f104, f105, f106, f107, f108, f109, f110, f111, f112, f113, f114, f115, f116, f117, f118, f119] at ha
              clear hlen
              have hru := hI.rel
              have hwu := hI.st
              clear hI hsz hdf f0 f1 f2 f3 f4 f5 f6 f7 f8 f9 f10 f11 f12 f13 f14 f15 f16 f17 f18 f19 f20 f21 f22 f23 f24 f25 f26 f27 f28 f29 f30 f31 f32 f33 f34 f35 f36 f37 f38 f39 f40 f41 f42 f43 f44 f45 f46 f47 f48 f49 f50 f51 f52 f53 f54 f55 f56 f57 f58 f59 f60 f61 f62 f63 f64 f65 f66 f67 f68 f69 f70 f71 f72 f73 f74 f75 f76 f77 f78 f79 f80 f81 f82 f83 f84 f85 f86 f87 f88 f89 f90 f91 f92 f93 f94 f95 f96 f97 f98 f99 f100 f101 f102 f103 f104 f105 f106 f107 f108 f109 f110 f111 f112 f113 f114 f115 f116 f117 f118 f119 
              subst ha
              refine wpAny_done (by kernel_rfl) ?_ _
              simp only [Array.getD_eq_getD_getElem?, List.getElem?_toArray, List.getElem?_cons_zero, List.getElem?_cons_succ, Option.getD_some]
              have HW6 := Lib.hid (show BC w u b w.heap.size (w.heap.size + 1) cb nb (w.heap.size + 4) s hd (p3, e3) M (n0 + 2) vI vL vO vB vC vG (insP k) L o1.1 o2.1 o3.1 G ∧ Blk u gb #[.int .i64 (n0 + 2), .int .i64 A, .int .i64 Bv] 61 from hwu)
              obtain ⟨w6, hw6⟩ : ∃ w6 : World, w6 = u := ⟨_, rfl⟩
              rw [← hw6] at HW6 ⊢
              clear hwu hru hw6
              have HEn := Lib.hid (bin_ended s b (p3, e3) w6 HW6.out.1.t)
              go_upto_region 25 with (go_at_call 70; with_reducible refine Calls.mono HEn.out ?_; rintro e w7 ⟨rfl, hK7⟩)
              have HB7 := Lib.hid (HW6.out.1.kp0 hK7)
              have HX7 := Lib.hid (HW6.out.2.kp hK7 (fun h => h))
              clear hK7 HEn HW6 HW5 HX4 HB4 HB2
              by_cases he3 : e3 = 0
              · subst he3
                rw [if_neg (by simp)] at HStep
                have HE2 := Lib.hid (HE.out.trans HStep.out)
                have hb8 := HB7.out
                have c2 := hb8.c.cell (i := 6) (v := vG) rfl
                have x0 := HX7.out.cell (i := 0) (v := .int .i64 (n0 + 2)) rfl
                have x1 := HX7.out.cell (i := 1) (v := .int .i64 A) rfl
                have x2 := HX7.out.cell (i := 2) (v := .int .i64 Bv) rfl
                have HNew := Lib.hid (Blk.new w7 #[.int .i64 (n0 + 2), .int .i64 A, .int .i64 Bv] 61)
                have HB8 := Lib.hid (hb8.kp0 ((Kp.refl _ w7).alloc (.cells #[.int .i64 (n0 + 2), .int .i64 A, .int .i64 Bv] 61)))
                clear hb8
                go_wp2_with (at_builtin; refine wpList_appendK rfl _ _ 24 61 rfl Tryz.underlying24 HIg.out rfl (by decide) HB8.out.og rfl w7.heap.size [.int .i64 (n0 + 2), .int .i64 A, .int .i64 Bv] rfl rfl ?n0 ?m0 ?n1 ?n2 ?n3 ?_)
                case n0 => exact fun j u hj => HNew.out.cell (i := j) (by simpa using hj)
                case m0 => intro u hu; simp at hu; rcases hu with rfl | rfl | rfl <;> rfl
                case n1 => rw [List.length_map, HGl.out]; omega
                case n2 => rw [List.length_map, HGl.out]; unfold maxLen; omega
                case n3 => exact HB8.out.hi.2.2.2.2
                intro v' w9 hO9 hg9 hat9
                have hk9 : Kp (fun j => vG.ownBlock = some j) _ w9 := (Kp.refl _ _).grown hg9 (fun j hj _ => hj)
                have hput := HB8.out.putG (G' := G ++ [(n0 + 2, A, Bv)]) hg9 (by rw [List.map_append]; exact hO9)
                have hcb := HB8.out.c.kp hk9 (fun h => by have := (HB8.out.og.lt _ h).1; have := HB8.out.hi.2.2.1; omega)
                obtain ⟨la, lc, ev, -⟩ := hO9.form
                rw [List.length_append, List.length_map, List.length_singleton] at ev
                subst ev
                have c2 := hcb.cell (i := 6) (v := vG) rfl
                have f2 := hcb.free 6
                have HF := Lib.hid hput
                clear hO9 hg9 hat9 hk9 hput hcb HNew HB8 x0 x1 x2
                go_wp2_with fail
                have HG := Lib.hid (show BC w _ b w.heap.size (w.heap.size + 1) cb nb (w.heap.size + 4) s hd (p3, 0) M (2 * ((k + q + (g + 1) : Nat) : Int)) vI vL vO vB vC _ (insP k) L o1.1 o2.1 o3.1 (G ++ [(n0 + 2, A, Bv)]) from by
                  have e1 : 2 * ((k + q + (g + 1) : Nat) : Int) = n0 + 2 := by have := HN0.out; omega
                  rw [e1]
                  exact HF.out)
                go_roundw
                case rel => exact ⟨g + 1, _, G ++ [(n0 + 2, A, Bv)], (p3, 0), by go_num, by omega, HP3.out, by rw [List.length_append, HGl.out]; rfl, by rw [HJ.out]; exact HE2.out, HG.out⟩
                case measure => simp [intOf]; omega
              · rw [if_pos he3] at HStep
                have q3 : ((e3 : Int) != 0) = true := by simp [he3]
                have q4 : ((e3 : Int) == 0) = false := by rw [beq_eq_false_iff_ne]; omega
                have HE3 := Lib.hid he3
                clear he3
                obtain ⟨ia, ic, ei, -⟩ := HB7.out.oi.form
                obtain ⟨la, lc, el, -⟩ := HB7.out.ol.form
                obtain ⟨oa, oc, eo, -⟩ := HB7.out.oo.form
                obtain ⟨da, dc, ed, -⟩ := HB7.out.od.form
                obtain ⟨na, nc, en, -⟩ := HB7.out.on.form
                obtain ⟨ga, gc, eg, -⟩ := HB7.out.og.form
                rw [iv_length] at ei eo ed en
                rw [List.length_map] at el eg
                subst ei el eo ed en eg
                have HSt := Lib.hid (rdC_fin (nA := nA) HLt.out HO1.out HO2.out HO3.out (HE.out.trans HStep.out))
                obtain ⟨d0, d1, d2, d3, d4, d5, d6, d7, d8⟩ := Blk.cells9 HB7.out.c
                have hr9 := HB7.out.r
                unfold zc9 at hr9
                obtain ⟨z0, z1, z2, z3, z4, z5, z6, z7, z8⟩ := Blk.cells9 hr9
                have fr := Blk.free hr9
                have fr0 := fr 0
                have fr1 := fr 1
                have fr2 := fr 2
                have fr3 := fr 3
                have fr4 := fr 4
                have fr5 := fr 5
                have fr6 := fr 6
                have fr7 := fr 7
                have fr8 := fr 8
                clear fr
                have HBe := Lib.hid (Blk.set9 hr9 (.int .i64 M) (.slice ia (insP k).length ic) (.slice la L.length lc) (.slice oa o1.1.length oc) (.slice da o2.1.length dc) (.slice na o3.1.length nc) (.slice ga G.length gc) (.slice none 0 0) (.string ⟨#[]⟩))
                have HKe := Lib.hid (Kp.set9 w7 (w.heap.size + 1) (.int .i64 M) (.slice ia (insP k).length ic) (.slice la L.length lc) (.slice oa o1.1.length oc) (.slice da o2.1.length dc) (.slice na o3.1.length nc) (.slice ga G.length gc) (.slice none 0 0) (.string ⟨#[]⟩))
                unfold Go.Proofs.YtckmdcmkjmpiaaaGreatDoor.set9 at HBe HKe
                have HT9 := Lib.hid (HB7.out.t.kp HKe.out (by have := HB7.out.bl; omega))
                have HK9 := Lib.hid (HB7.out.kp.trans HKe.out (fun j hj e => by omega))
                clear hr9
                go_wp2_with fail
                obtain ⟨s0, s1, s2, s3, s4, s5, s6, s7, s8⟩ := HBe.out.cells9
                exact bodyPost_ret (v := .agg #[.int .i64 M, .slice ia (insP k).length ic, .slice la L.length lc, .slice oa o1.1.length oc, .slice da o2.1.length dc, .slice na o3.1.length nc, .slice ga G.length gc, .slice none 0 0, .string ⟨#[]⟩]) (by simp [results, Tryz.results69, go_sem, s0, s1, s2, s3, s4, s5, s6, s7, s8]) rfl ⟨⟨ia, ic, la, lc, oa, oc, da, dc, na, nc, ga, gc, none, 0, 0, ⟨#[]⟩⟩, ⟨M, insP k, L, o1.1, o2.1, o3.1, G⟩, rfl, rfl, rfl, rfl, rfl, by rw [HSt.out]; exact HT9.out, HK9.out, fun h => absurd h (by rw [HSt.out]; exact HE3.out)⟩
            · obtain rfl : g = nA := by omega
              rw [Nat.sub_self] at HE
              obtain ⟨ia, ic, ei, -⟩ := HBg.out.oi.form
              obtain ⟨la, lc, el, -⟩ := HBg.out.ol.form
              obtain ⟨oa, oc, eo, -⟩ := HBg.out.oo.form
              obtain ⟨da, dc, ed, -⟩ := HBg.out.od.form
              obtain ⟨na, nc, en, -⟩ := HBg.out.on.form
              obtain ⟨ga, gc, eg, -⟩ := HBg.out.og.form
              rw [iv_length] at ei eo ed en
              rw [List.length_map] at el eg
              subst ei el eo ed en eg
              have HSt := Lib.hid (rdC_fin (nA := g) HLt.out HO1.out HO2.out HO3.out HE.out)
              obtain ⟨d0, d1, d2, d3, d4, d5, d6, d7, d8⟩ := Blk.cells9 HBg.out.c
              have hr9 := HBg.out.r
              unfold zc9 at hr9
              obtain ⟨z0, z1, z2, z3, z4, z5, z6, z7, z8⟩ := Blk.cells9 hr9
              have fr := Blk.free hr9
              have fr0 := fr 0
              have fr1 := fr 1
              have fr2 := fr 2
              have fr3 := fr 3
              have fr4 := fr 4
              have fr5 := fr 5
              have fr6 := fr 6
              have fr7 := fr 7
              have fr8 := fr 8
              clear fr
              have HBe := Lib.hid (Blk.set9 hr9 (.int .i64 M) (.slice ia (insP k).length ic) (.slice la L.length lc) (.slice oa o1.1.length oc) (.slice da o2.1.length dc) (.slice na o3.1.length nc) (.slice ga G.length gc) (.slice none 0 0) (.string ⟨#[]⟩))
              have HKe := Lib.hid (Kp.set9 wg (w.heap.size + 1) (.int .i64 M) (.slice ia (insP k).length ic) (.slice la L.length lc) (.slice oa o1.1.length oc) (.slice da o2.1.length dc) (.slice na o3.1.length nc) (.slice ga G.length gc) (.slice none 0 0) (.string ⟨#[]⟩))
              unfold Go.Proofs.YtckmdcmkjmpiaaaGreatDoor.set9 at HBe HKe
              have HT9 := Lib.hid (HBg.out.t.kp HKe.out (by have := HBg.out.bl; omega))
              have HK9 := Lib.hid (HBg.out.kp.trans HKe.out (fun j hj e => by omega))
              have q9 : ∀ j, (fun j => j = w.heap.size + 1) j → j < w.heap.size + 4 := fun j e => by have e2 : j = w.heap.size + 1 := e; omega
              have HFi := Lib.hid (show BKeep (w.heap.size + 4) _ ⟨ia, ic, la, lc, oa, oc, da, dc, na, nc, ga, gc, none, 0, 0, ⟨#[]⟩⟩ ⟨M, insP k, L, o1.1, o2.1, o3.1, G⟩ from rdC_keep ⟨ownForm (HBg.out.oi.low HKe.out q9), (HBg.out.ol.low HKe.out q9).form, ownForm (HBg.out.oo.low HKe.out q9), ownForm (HBg.out.od.low HKe.out q9), ownForm (HBg.out.on.low HKe.out q9), (HBg.out.og.low HKe.out q9).form⟩)
              clear q9
              clear hr9
              go_wp2_with fail
              obtain ⟨s0, s1, s2, s3, s4, s5, s6, s7, s8⟩ := HBe.out.cells9
              exact bodyPost_ret (v := .agg #[.int .i64 M, .slice ia (insP k).length ic, .slice la L.length lc, .slice oa o1.1.length oc, .slice da o2.1.length dc, .slice na o3.1.length nc, .slice ga G.length gc, .slice none 0 0, .string ⟨#[]⟩]) (by simp [results, Tryz.results69, go_sem, s0, s1, s2, s3, s4, s5, s6, s7, s8]) rfl ⟨⟨ia, ic, la, lc, oa, oc, da, dc, na, nc, ga, gc, none, 0, 0, ⟨#[]⟩⟩, ⟨M, insP k, L, o1.1, o2.1, o3.1, G⟩, rfl, rfl, rfl, rfl, rfl, by rw [HSt.out]; exact HT9.out, HK9.out, fun _ => ⟨by rw [HSt.out], HFi.out⟩⟩

end Go.Proofs.YtckmdcmkjmpiaaaGreatDoor
