/-
  step.Machine.in.
-/
import Derived.Test.YtnoknecfdnjomaaGreatM4
import Derived.Test.YtnoknecfdnjomaaGreatM3
import Derived.Test.YtnoknecfdnjomaaGreatM2
import Derived.Test.YtnoknecfdnjomaaGreatM1
import Derived.Shelf.Small.Wraps
import Derived.Shelf.Strconv.Itoa0
import Derived.Shelf.Sort.Plain
import Derived.Ground.Names2Prog
import Derived.Shelf.Slices.Clone
import Derived.Shelf.Slices.In.SortNone
import Derived.Ground.SlgnProg
import Derived.Shelf.SlicesE.Clone
import Derived.Test.YtnoknecfdnjomaaGreatProg
import Derived.Shelf.SlIterI.Nil
import Derived.Ground.GgzProg
set_option linter.unusedVariables false
set_option linter.unusedSimpArgs false
namespace Go.Proofs.YtnoknecfdnjomaaGreat
open Go.RowKit

set_option maxRecDepth 100000 in
set_option maxHeartbeats 4000000 in
theorem step_in (V : CV) (C : Circ) (p : Nat) (a4 a5 : Option Addr) (c4 c5 : Nat) (sa : Option Addr) (sn sc : Nat) (ia : Option Addr) (in_ ic : Nat) (st ip : List Bool) (w : World) (hM : MAt w 99 V C p a4 c4 a5 c5) (hf : CFew C 1000000) (hg : GoodC C) (hs : BS w sa sn st) (hi : BS w ia in_ ip) :
  Calls Tryz.prog 83 #[.pointer (some ⟨p, 0, none⟩), .slice sa sn sc, .slice ia in_ ic] w fun e w' => (∃ va vc, e = .returned (.agg #[.pointer (some ⟨p, 0, none⟩), .slice va ((netOf C).1.length + 1) vc, .slice a5 (netOf C).2.length c5]) ∧ RowAt w' va (bv (valsM C st ip))) ∧ Kp (fun _ => False) w w' := by
 have HIb := Lib.hid (show (Tryz.prog.info? 4).map (fun i => (i.zero, i.size, i.bytes)) = some (some (.bool false), 1, 1) by kernel_rfl)
 have HNf := Lib.hid (net_few hf hg)
 have HM := Lib.hid hM
 have HF := Lib.hid hf
 have HG := Lib.hid hg
 have HS := Lib.hid hs
 have HI := Lib.hid hi
 have hfi := hf.i
 have hfl := hf.l
 obtain ⟨wz, hwz⟩ : ∃ wz : World, wz = w.alloc (.cells #[.pointer none, .slice none 0 0, .slice none 0 0] 118) := ⟨_, rfl⟩
 have HK0 := Lib.hid (show Kp (fun _ => False) w wz by rw [hwz]; exact (Kp.refl _ w).alloc _)
 have HMb := Lib.hid (show Blk wz w.heap.size #[.pointer none, .slice none 0 0, .slice none 0 0] 118 by rw [hwz]; exact Blk.new _ _ _)
 have HIn := Lib.hid (step_Inputs V C p a4 a5 c4 c5 wz (hM.kp HK0.out) hf)
 have HBi := Lib.hid (step_brought ia in_ ic ip C.ins.length wz (hi.kp HK0.out).row hi.len hi.most (by omega))
 have HLa := Lib.hid (fun u (hu : Kp (fun _ => False) wz u) => step_Latches V C p a4 a5 c4 c5 u (hM.kp (HK0.out.trans hu (fun _ _ h => h))) hf)
 have HBs := Lib.hid (fun u (hu : Kp (fun _ => False) wz u) => step_brought sa sn sc st C.lats.length u (hs.kp (HK0.out.trans hu (fun _ _ h => h))).row hs.len hs.most (by omega))
 have HSz := Lib.hid (show wz.heap.size = w.heap.size + 1 by rw [hwz]; simp)
 have HZ := Lib.hid hwz
 clear hM hf hg hs hi hwz
 go_enter Tryz.func83, Tryz.ntmps83
 go_upto_region 1 with fail
 rw [← HZ.out]
 clear HZ
 go_wp2_with (first
  |(go_at_call 35; with_reducible refine Calls.mono HIn.out ?_; rintro e w1 ⟨rfl, rfl⟩)
  |(go_at_call 34; with_reducible refine Calls.mono (HLa.out _ hKi) ?_; rintro e w1 ⟨rfl, rfl⟩)
  |(go_at_call 95; with_reducible refine Calls.mono HBi.out ?_; rintro e wi ⟨v1, rfl, hOi, hKi⟩)
  |(go_at_call 95; with_reducible refine Calls.mono (HBs.out _ hKi) ?_; rintro e ws ⟨v2, rfl, hOs, hKs⟩; obtain ⟨s2a, s2c, ev2, s2le, s2m, s2nil, -, hr2⟩ := ownForm hOs; rw [bv_length, brought_len] at ev2 s2le; subst ev2; have HO1 := Lib.hid (hOi.kp hKs (fun _ _ h => h)); have HR2 := Lib.hid hr2; have HKz := Lib.hid (hKi.trans hKs (fun _ _ h => h)); clear hOs hKs hOi hKi hr2)
  |(at_builtin; refine wpList_append1s rfl _ _ 38 4 rfl Tryz.underlying38 HIb.out rfl HO1.out rfl s2a C.lats.length s2c (bv (brought st C.lats.length)) rfl ?k0 HR2.out s2nil (bv_one _) ?k1 ?k2 ?k3 ?_))
 case k0 => rw [bv_length, brought_len]
 case k1 => rw [bv_length, brought_len]; omega
 case k2 => rw [bv_length, brought_len]; unfold maxLen; omega
 case k3 => exact HKz.out.size
 intro v9 w2 hO9 hg9 hat9
 have hO9' : Own w2 wz.heap.size 4 v9 (bv (insOf C st ip)) := by unfold insOf; rw [bv_append]; exact hO9
 obtain ⟨n9, hn9⟩ : ∃ n, (insOf C st ip).length = n := ⟨_, rfl⟩
 obtain ⟨a9, c9, ev9, -, -, -, hr9⟩ := hO9'.form
 rw [bv_length, hn9] at ev9
 subst ev9
 have HKy := Lib.hid (show Kp (fun _ => False) wz w2 from HKz.out.grown hg9 (fun j hj hl => by have := (HO1.out.lt j hj).1; omega))
 have HK2 := Lib.hid (HK0.out.trans HKy.out (fun _ _ h => h))
 have HMb2 := Lib.hid (HMb.out.kp HKy.out (fun h => h))
 have HR9 := Lib.hid hr9
 have HN9 := Lib.hid hn9
 have hn91 : n9 ≤ 2000000 := by rw [← hn9, insOf_len]; omega
 have HB := Lib.hid (HM.out.blk.kp HK2.out (fun h => h))
 clear hO9 hO9' hg9 hat9 hr9 hn9 s2nil HO1 HR2 HIn HBi HLa HBs HMb
 go_upto_region 2 with fail
 refine wp_region_loose (p := upTo 13) (V := atV [EqV ((.pointer (some ⟨p, 0, none⟩))), EqV ((.pointer (some ⟨p, 0, none⟩))), EqV (.pointer (some ⟨p, 0, none⟩)), EqV (.pointer (some ⟨p, 9, none⟩)), EqV (.slice a4 (netOf C).1.length c4), EqV ((.slice a9 n9 c9)), (fun u v => Own u (w.heap.size + 1) 4 v (bv (valsM C st ip))), EqV ((.pointer (some ⟨p, 0, none⟩))), EqV (.pointer (some ⟨p, 0, none⟩)), EqV (.pointer (some ⟨p, 10, none⟩)), EqV (.slice a5 (netOf C).2.length c5), (fun u v => ∃ va vc, v = .agg #[.slice va ((netOf C).1.length + 1) vc, .slice a5 (netOf C).2.length c5] ∧ RowAt u va (bv (valsM C st ip)) ∧ ∀ q, va = some q → w.heap.size < q.block), (fun u v => ∃ va vc, v = .agg #[.pointer (some ⟨p, 0, none⟩), .slice va ((netOf C).1.length + 1) vc, .slice a5 (netOf C).2.length c5] ∧ RowAt u va (bv (valsM C st ip)) ∧ ∀ q, va = some q → w.heap.size < q.block)]) (LP := #[true, true, true, true, true, true, true, true, true, true, true, true, true, false]) (K := 1) (by kernel_rfl) (by kernel_rfl) (atV_st ?hstL2) ?hstepL2 (by kernel_rfl) ?hLPL2 (by kernel_rfl) ?hendL2
 case hstL2 =>
  intro W h
  simp only [List.mem_cons, List.not_mem_nil, or_false] at h
  rcases h with rfl | rfl | rfl | rfl | rfl | rfl | rfl | rfl | rfl | rfl | rfl | rfl | rfl <;> first | exact EqV.st _ | exact fun _ _ _ k h => Own.kp h k (fun _ _ h => h) | exact fun _ _ _ k ⟨va, vc, h1, h2, h3⟩ => ⟨va, vc, h1, h2.kp k (fun _ _ h => h), h3⟩
 case hLPL2 => exact upTo_spec (by kernel_rfl)
 case hstepL2 =>
  intro i o ho hp a u hk hoff hdep
  have e0 : a.tmps[0]?.getD undef = (.pointer (some ⟨p, 0, none⟩)) := slot_at (hoff 0 (noDst_spec (by kernel_rfl)))
  have e7 : a.tmps[7]?.getD undef = (.slice a9 n9 c9) := slot_at (hoff 7 (noDst_spec (by kernel_rfl)))
  clear hoff
  match i, ho with
  |0, ho =>
   obtain rfl := Option.some.inj ho
   refine lw_value (v := (.pointer (some ⟨p, 0, none⟩))) (u' := u) ?_ (Kp.refl _ _) rfl
   go_simp
  |1, ho =>
   obtain rfl := Option.some.inj ho
   refine lw_value (v := (.pointer (some ⟨p, 0, none⟩))) (u' := u) ?_ (Kp.refl _ _) rfl
   go_simp
  |2, ho =>
   obtain rfl := Option.some.inj ho
   have e18 : a.tmps[18]?.getD undef = (.pointer (some ⟨p, 0, none⟩)) := slot_at (hdep ⟨1, .data⟩ (by simp) rfl _ 18 rfl rfl)
   refine lw_value (v := .pointer (some ⟨p, 0, none⟩)) (u' := u) ?_ (Kp.refl _ _) rfl
   go_simp
  |3, ho =>
   obtain rfl := Option.some.inj ho
   have e19 : a.tmps[19]?.getD undef = .pointer (some ⟨p, 0, none⟩) := slot_at (hdep ⟨2, .data⟩ (by simp) rfl _ 19 rfl rfl)
   refine lw_value (v := .pointer (some ⟨p, 9, none⟩)) (u' := u) ?_ (Kp.refl _ _) rfl
   go_simp
  |4, ho =>
   obtain rfl := Option.some.inj ho
   have e20 : a.tmps[20]?.getD undef = .pointer (some ⟨p, 9, none⟩) := slot_at (hdep ⟨3, .data⟩ (by simp) rfl _ 20 rfl rfl)
   have c1 := (HB.out.kp hk (fun h => h)).cell (i := 9) (v := .slice a4 (netOf C).1.length c4) rfl
   refine lw_value (v := .slice a4 (netOf C).1.length c4) (u' := u) ?_ (Kp.refl _ _) rfl
   go_simp
  |5, ho =>
   obtain rfl := Option.some.inj ho
   refine lw_value (v := (.slice a9 n9 c9)) (u' := u) ?_ (Kp.refl _ _) rfl
   go_simp
  |6, ho =>
   obtain rfl := Option.some.inj ho
   have e21 : a.tmps[21]?.getD undef = .slice a4 (netOf C).1.length c4 := slot_at (hdep ⟨4, .data⟩ (by simp) rfl _ 21 rfl rfl)
   have e22 : a.tmps[22]?.getD undef = (.slice a9 n9 c9) := slot_at (hdep ⟨5, .data⟩ (by simp) rfl _ 22 rfl rfl)
   refine lw_call (f := 96) (args := #[.slice a4 (netOf C).1.length c4, .slice a9 n9 c9]) ?_ ?_
   ·go_simp
   ·exact (sim_Eval a4 (netOf C).1.length c4 (netOf C).1 a9 n9 c9 (insOf C st ip) u (HM.out.net.kp (HK2.out.trans hk (fun _ _ h => h)) (fun _ _ h => h)) rfl (by have := HNf.out.1; omega) HG.out.net (HR9.out.kp hk (fun _ _ h => h)) HN9.out (by omega)).mono (by
     rintro e u' ⟨v, rfl, hO, hK⟩
     exact ⟨v, rfl, hK, hO.mono (by have := hk.size; have := HKy.out.size; have := HSz.out; omega)⟩)
  |7, ho =>
   obtain rfl := Option.some.inj ho
   refine lw_value (v := (.pointer (some ⟨p, 0, none⟩))) (u' := u) ?_ (Kp.refl _ _) rfl
   go_simp
  |8, ho =>
   obtain rfl := Option.some.inj ho
   have e24 : a.tmps[24]?.getD undef = (.pointer (some ⟨p, 0, none⟩)) := slot_at (hdep ⟨7, .data⟩ (by simp) rfl _ 24 rfl rfl)
   refine lw_value (v := .pointer (some ⟨p, 0, none⟩)) (u' := u) ?_ (Kp.refl _ _) rfl
   go_simp
  |9, ho =>
   obtain rfl := Option.some.inj ho
   have e25 : a.tmps[25]?.getD undef = .pointer (some ⟨p, 0, none⟩) := slot_at (hdep ⟨8, .data⟩ (by simp) rfl _ 25 rfl rfl)
   refine lw_value (v := .pointer (some ⟨p, 10, none⟩)) (u' := u) ?_ (Kp.refl _ _) rfl
   go_simp
  |10, ho =>
   obtain rfl := Option.some.inj ho
   have e26 : a.tmps[26]?.getD undef = .pointer (some ⟨p, 10, none⟩) := slot_at (hdep ⟨9, .data⟩ (by simp) rfl _ 26 rfl rfl)
   have c1 := (HB.out.kp hk (fun h => h)).cell (i := 10) (v := .slice a5 (netOf C).2.length c5) rfl
   refine lw_value (v := .slice a5 (netOf C).2.length c5) (u' := u) ?_ (Kp.refl _ _) rfl
   go_simp
  |11, ho =>
   obtain rfl := Option.some.inj ho
   have e27 : a.tmps[27]?.getD undef = .slice a5 (netOf C).2.length c5 := slot_at (hdep ⟨10, .data⟩ (by simp) rfl _ 27 rfl rfl)
   have hV : Own u (w.heap.size + 1) 4 (a.tmps.getD 23 undef) (bv (valsM C st ip)) := hdep ⟨6, .data⟩ (by simp) rfl _ 23 rfl rfl
   obtain ⟨va, vc, ev, -, -, hfar, hvr⟩ := hV.form
   rw [bv_length, show (valsM C st ip).length = (netOf C).1.length + 1 from valsOf_len _ _] at ev
   have e23 := slot_at ev
   refine lw_value (v := .agg #[.slice va ((netOf C).1.length + 1) vc, .slice a5 (netOf C).2.length c5]) (u' := u) ?_ (Kp.refl _ _) ⟨va, vc, rfl, hvr, fun q hq => by obtain ⟨g, rfl, hb, -⟩ := hfar q hq; exact hb⟩
   go_simp
  |12, ho =>
   obtain rfl := Option.some.inj ho
   have e17 : a.tmps[17]?.getD undef = (.pointer (some ⟨p, 0, none⟩)) := slot_at (hdep ⟨0, .data⟩ (by simp) rfl _ 17 rfl rfl)
   obtain ⟨va, vc, ev, hvr, hfar⟩ : ∃ va vc, (a.tmps.getD 28 undef) = .agg #[.slice va ((netOf C).1.length + 1) vc, .slice a5 (netOf C).2.length c5] ∧ RowAt u va (bv (valsM C st ip)) ∧ ∀ q, va = some q → w.heap.size < q.block := hdep ⟨11, .data⟩ (by simp) rfl _ 28 rfl rfl
   have e28 := slot_at ev
   refine lw_value (v := .agg #[.pointer (some ⟨p, 0, none⟩), .slice va ((netOf C).1.length + 1) vc, .slice a5 (netOf C).2.length c5]) (u' := u) ?_ (Kp.refl _ _) ⟨va, vc, rfl, hvr, hfar⟩
   go_simp
  |n + 13, _ => exact absurd hp (by simp [upTo])
 intro a u hI
 have hsz : a.tmps.size = 30 := hI.size
 have hdf : a.defers = [] := hI.defers
 have f0 := hI.o 0 (by kernel_rfl)
 have f1 := hI.o 1 (by kernel_rfl)
 have f2 := hI.o 2 (by kernel_rfl)
 have f3 := hI.o 3 (by kernel_rfl)
 have f4 := hI.o 4 (by kernel_rfl)
 have f5 := hI.o 5 (by kernel_rfl)
 have f6 := hI.o 6 (by kernel_rfl)
 have f7 := hI.o 7 (by kernel_rfl)
 have f8 := hI.o 8 (by kernel_rfl)
 have f9 := hI.o 9 (by kernel_rfl)
 have f10 := hI.o 10 (by kernel_rfl)
 have f11 := hI.o 11 (by kernel_rfl)
 have f12 := hI.o 12 (by kernel_rfl)
 have f13 := hI.o 13 (by kernel_rfl)
 have f14 := hI.o 14 (by kernel_rfl)
 have f15 := hI.o 15 (by kernel_rfl)
 have f16 := hI.o 16 (by kernel_rfl)
 have f17 : a.tmps.getD 17 undef = (.pointer (some ⟨p, 0, none⟩)) := hI.val 0 _ 17 rfl rfl rfl
 have f18 : a.tmps.getD 18 undef = (.pointer (some ⟨p, 0, none⟩)) := hI.val 1 _ 18 rfl rfl rfl
 have f19 : a.tmps.getD 19 undef = .pointer (some ⟨p, 0, none⟩) := hI.val 2 _ 19 rfl rfl rfl
 have f20 : a.tmps.getD 20 undef = .pointer (some ⟨p, 9, none⟩) := hI.val 3 _ 20 rfl rfl rfl
 have f21 : a.tmps.getD 21 undef = .slice a4 (netOf C).1.length c4 := hI.val 4 _ 21 rfl rfl rfl
 have f22 : a.tmps.getD 22 undef = (.slice a9 n9 c9) := hI.val 5 _ 22 rfl rfl rfl
 have g23 : ((fun u v => Own u (w.heap.size + 1) 4 v (bv (valsM C st ip)))) u (a.tmps.getD 23 undef) := hI.val 6 _ 23 rfl rfl rfl
 have f24 : a.tmps.getD 24 undef = (.pointer (some ⟨p, 0, none⟩)) := hI.val 7 _ 24 rfl rfl rfl
 have f25 : a.tmps.getD 25 undef = .pointer (some ⟨p, 0, none⟩) := hI.val 8 _ 25 rfl rfl rfl
 have f26 : a.tmps.getD 26 undef = .pointer (some ⟨p, 10, none⟩) := hI.val 9 _ 26 rfl rfl rfl
 have f27 : a.tmps.getD 27 undef = .slice a5 (netOf C).2.length c5 := hI.val 10 _ 27 rfl rfl rfl
 have g28 : ((fun u v => ∃ va vc, v = .agg #[.slice va ((netOf C).1.length + 1) vc, .slice a5 (netOf C).2.length c5] ∧ RowAt u va (bv (valsM C st ip)) ∧ ∀ q, va = some q → w.heap.size < q.block)) u (a.tmps.getD 28 undef) := hI.val 11 _ 28 rfl rfl rfl
 have g29 : ((fun u v => ∃ va vc, v = .agg #[.pointer (some ⟨p, 0, none⟩), .slice va ((netOf C).1.length + 1) vc, .slice a5 (netOf C).2.length c5] ∧ RowAt u va (bv (valsM C st ip)) ∧ ∀ q, va = some q → w.heap.size < q.block)) u (a.tmps.getD 29 undef) := hI.val 12 _ 29 rfl rfl rfl
 have ha := act_list30 a hsz
 rw [hdf, f0, f1, f2, f3, f4, f5, f6, f7, f8, f9, f10, f11, f12, f13, f14, f15, f16, f17, f18, f19, f20, f21, f22, f24, f25, f26, f27] at ha
 obtain ⟨x23, hx23⟩ : ∃ x, a.tmps.getD 23 undef = x := ⟨_, rfl⟩
 obtain ⟨x28, hx28⟩ : ∃ x, a.tmps.getD 28 undef = x := ⟨_, rfl⟩
 obtain ⟨x29, hx29⟩ : ∃ x, a.tmps.getD 29 undef = x := ⟨_, rfl⟩
 rw [hx23, hx28, hx29] at ha
 rw [hx23] at g23
 rw [hx28] at g28
 rw [hx29] at g29
 have hku := hI.kp
 clear hI hsz hdf f0 f1 f2 f3 f4 f5 f6 f7 f8 f9 f10 f11 f12 f13 f14 f15 f16 f17 f18 f19 f20 f21 f22 f24 f25 f26 f27 hx23 hx28 hx29
 subst ha
 refine wpAny_tail 13 rfl (by kernel_rfl) ?_
 simp only [List.drop_succ_cons, List.drop_zero]
 obtain ⟨va, vc, rfl, hvr, hfar⟩ := g29
 have HFar := Lib.hid hfar
 clear hfar
 have HMu := HMb2.out.kp hku (fun h => h)
 obtain ⟨t0, t1, t2⟩ : u.cell? ⟨w.heap.size, 0, none⟩ = some (.pointer none) ∧ u.cell? ⟨w.heap.size, 1, none⟩ = some (.slice none 0 0) ∧ u.cell? ⟨w.heap.size, 2, none⟩ = some (.slice none 0 0) := ⟨HMu.cell rfl, HMu.cell rfl, HMu.cell rfl⟩
 have z0 := HMu.free 0
 have z1 := HMu.free 1
 have z2 := HMu.free 2
 have HV := Lib.hid hvr
 have HKu := Lib.hid (HK2.out.trans hku (fun _ _ h => h))
 have HMw := Lib.hid HMu
 clear hvr hku HMu g23 g28
 go_wp2_with fail
 have h3 := ((HMw.out.set_same 0 (.pointer (some ⟨p, 0, none⟩))).set_same 1 (.slice va ((netOf C).1.length + 1) vc)).set_same 2 (.slice a5 (netOf C).2.length c5)
 have s0 := h3.cell (i := 0) (v := .pointer (some ⟨p, 0, none⟩)) rfl
 have s1 := h3.cell (i := 1) (v := .slice va ((netOf C).1.length + 1) vc) rfl
 have s2 := h3.cell (i := 2) (v := .slice a5 (netOf C).2.length c5) rfl
 have hkS := (((Kp.refl (fun j => j = w.heap.size) u).setCell (p := ⟨w.heap.size, 0, none⟩) (fun _ => rfl) (.pointer (some ⟨p, 0, none⟩))).setCell (p := ⟨w.heap.size, 1, none⟩) (fun _ => rfl) (.slice va ((netOf C).1.length + 1) vc)).setCell (p := ⟨w.heap.size, 2, none⟩) (fun _ => rfl) (.slice a5 (netOf C).2.length c5)
 have HE := HV.out.kp hkS (fun q hq e => by have := HFar.out q hq; have e2 : q.block = w.heap.size := e; omega)
 have HKe := HKu.out.trans hkS (fun j hj e => by have e2 : j = w.heap.size := e; omega)
 exact bodyPost_ret (v := .agg #[.pointer (some ⟨p, 0, none⟩), .slice va ((netOf C).1.length + 1) vc, .slice a5 (netOf C).2.length c5]) (by simp [results, Tryz.results83, go_sem, s0, s1, s2]) rfl ⟨⟨va, vc, rfl, HE⟩, HKe⟩
end Go.Proofs.YtnoknecfdnjomaaGreat

/-
  step: moment.next, Machine.Next.
-/
namespace Go.Proofs.YtnoknecfdnjomaaGreat
open Go.RowKit

set_option maxRecDepth 100000 in
set_option maxHeartbeats 2000000 in
theorem step_next (V : CV) (C : Circ) (p : Nat) (a4 a5 : Option Addr) (c4 c5 : Nat) (va : Option Addr) (vc : Nat) (st ip : List Bool) (w : World) (hM : MAt w 99 V C p a4 c4 a5 c5) (hf : CFew C 1000000) (hg : GoodC C) (hv : RowAt w va (bv (valsM C st ip))) :
  Calls Tryz.prog 86 #[.agg #[.pointer (some ⟨p, 0, none⟩), .slice va ((netOf C).1.length + 1) vc, .slice a5 (netOf C).2.length c5]] w fun e w' => ∃ v, e = .returned v ∧ Own w' w.heap.size 4 v (bv (nextM C st ip)) ∧ Kp (fun _ => False) w w' := by
 obtain ⟨nl, hnl⟩ : ∃ n, C.lats.length = n := ⟨_, rfl⟩
 have hnl1 : nl ≤ 1000000 := by have := hf.l; omega
 obtain ⟨i0, hi0, hz0, hz1, hz2⟩ := info_parts (show (Tryz.prog.info? 4).map (fun i => (i.zero, i.size, i.bytes)) = some (some (.bool false), 1, 1) by kernel_rfl)
 have hmk : ∀ u : World, (Instr.makeSlice 38 (.int .i64 (nl : Int)) (.int .i64 (nl : Int))).run Tryz.prog u =
   .ok (.slice (some ⟨u.heap.size, 0, none⟩) nl nl) (u.alloc (.cells (madeCells #[.bool false] nl) 4)) := fun u => by
  have h := run_make (P := Tryz.prog) u 38 4 i0 (.bool false) Tryz.underlying38 hi0 hz0 .i64 .i64 (nl : Int) (nl : Int) (by omega) (Int.le_refl _) (by rw [hz2]; omega) (by omega)
  simpa [hz1, Value.cells] using h
 clear hi0 hz0 hz1 hz2 i0
 have HNl := Lib.hid hnl
 have HL := Lib.hid (step_lit (c5 := c5) (vc := vc) hf hg hM.ats hv)
 have HM := Lib.hid hM
 have HNx := Lib.hid (show (nextM C st ip).length = nl by rw [nextM_len]; exact hnl)
 have HVx := Lib.hid (show ∀ k, k < nl → vb (nextM C st ip) k = litM C st ip (g3 C.lats k).2.1 from fun k hk => by
  unfold vb nextM
  rw [List.getElem?_map, g3_at (by omega)]; rfl)
 obtain ⟨n4, hn4⟩ : ∃ n, (netOf C).1.length + 1 = n := ⟨_, rfl⟩
 obtain ⟨n5, hn5⟩ : ∃ n, (netOf C).2.length = n := ⟨_, rfl⟩
 rw [hn4, hn5] at HL ⊢
 obtain ⟨wa, hwa⟩ : ∃ wa : World, wa = w.alloc (.cells #[.pointer (some ⟨p, 0, none⟩), .slice va n4 vc, .slice a5 n5 c5] 118) := ⟨_, rfl⟩
 obtain ⟨wz, hwz⟩ : ∃ wz : World, wz = wa.alloc (.cells (madeCells #[.bool false] nl) 4) := ⟨_, rfl⟩
 have hwas : wa.heap.size = w.heap.size + 1 := by rw [hwa]; simp
 have hKa : Kp (fun _ => False) w wa := by rw [hwa]; exact (Kp.refl _ w).alloc _
 have hBa : Blk wa w.heap.size #[.pointer (some ⟨p, 0, none⟩), .slice va n4 vc, .slice a5 n5 c5] 118 := by rw [hwa]; exact Blk.new _ _ _
 have HLa := Lib.hid (step_Latches V C p a4 a5 c4 c5 wa (hM.kp hKa) hf)
 rw [hnl] at HLa
 have HK0 := Lib.hid (show Kp (fun _ => False) w wz by rw [hwz]; exact hKa.alloc _)
 have HB0 := Lib.hid (show Blk wz w.heap.size #[.pointer (some ⟨p, 0, none⟩), .slice va n4 vc, .slice a5 n5 c5] 118 by rw [hwz]; exact hBa.alloc _)
 have HO0 : Hid (Own wz (w.heap.size + 1) 4 (.slice (some ⟨wa.heap.size, 0, none⟩) nl nl) (bv (laid (nextM C st ip) nl 0))) := Lib.hid (by rw [hwz, laid_zero]; exact made_bools0 (by unfold maxLen; omega) (by omega))
 have HWs := Lib.hid hwas
 have HZa := Lib.hid hwa
 have HZ := Lib.hid hwz
 have m0 := hBa.cell (i := 0) (v := .pointer (some ⟨p, 0, none⟩)) rfl
 have m1 := HB0.out.cell (i := 0) (v := .pointer (some ⟨p, 0, none⟩)) rfl
 have m2 : wz.cell? ⟨p, 2, none⟩ = some (.slice V.al nl V.cl) := (HM.out.blk.kp HK0.out (fun h => h)).cell (i := 2) (by rw [← hnl]; rfl)
 clear hM hf hg hv hnl hn4 hn5 hwa hwz hwas hKa hBa
 go_enter Tryz.func86, Tryz.ntmps86
 go_upto_region 1 with fail
 rw [← HZa.out]
 go_upto_region 2 with (go_at_call 34; with_reducible refine Calls.mono HLa.out ?_; rintro e w1 ⟨rfl, rfl⟩)
 rw [← HZ.out]
 generalize hgr : wa.heap.size = gr at HO0 HWs ⊢
 clear HZ HZa hmk HLa m0 hgr
 go_wp2_with fail
 clear m1 m2
 go_loopw [17] (fun v17 wr => ∃ k : Nat, v17 = .int .i64 k ∧ k ≤ nl ∧ Own wr (w.heap.size + 1) 4 (.slice (some ⟨gr, 0, none⟩) nl nl) (bv (laid (nextM C st ip) nl k)) ∧ Blk wr w.heap.size #[.pointer (some ⟨p, 0, none⟩), .slice va n4 vc, .slice a5 n5 c5] 118 ∧ Kp (fun _ => False) w wr) (fun v17 _ => nl - (intOf v17).toNat)
 case atStart => exact ⟨0, rfl, by omega, HO0.out, HB0.out, HK0.out⟩
 case round =>
  obtain ⟨k, rfl, hk, hO, hB, hK⟩ := hrel
  clear HO0 HB0 HK0
  obtain ⟨wp, rfl⟩ : ∃ wp : World, wp = wr := ⟨_, rfl⟩
  have HO := Lib.hid hO
  have HB := Lib.hid hB
  have HK := Lib.hid hK
  clear hO hB hK
  by_cases hlt : k < nl
  ·have hkl : k < C.lats.length := by rw [HNl.out]; exact hlt
   obtain ⟨b, off, ea, hE⟩ := HM.out.circ.latCell hkl
   obtain ⟨e0, e1, e2⟩ := hE _ HK.out
   obtain ⟨x0, hx0⟩ : ∃ x, (g3 C.lats k).1 = x := ⟨_, rfl⟩
   obtain ⟨x1, hx1⟩ : ∃ x, (g3 C.lats k).2.1 = x := ⟨_, rfl⟩
   obtain ⟨x2, hx2⟩ : ∃ x, (g3 C.lats k).2.2 = x := ⟨_, rfl⟩
   have hvx := HVx.out k hlt
   obtain ⟨wv, hwv⟩ : ∃ wv : World, wv = wp.alloc (.cells #[.int .i64 x0, .int .i64 x1, .int .i64 x2] 64) := ⟨_, rfl⟩
   have hKv : Kp (fun _ => False) wp wv := by rw [hwv]; exact (Kp.refl _ wp).alloc _
   have hc := HL.out wv (HK.out.trans hKv (fun _ _ h => h)) _ (lat_used hkl)
   rw [hx1] at hc hvx e1
   rw [hx0] at e0
   rw [hx2] at e2
   obtain ⟨y, hy⟩ : ∃ y, litM C st ip x1 = y := ⟨_, rfl⟩
   rw [hy] at hc hvx
   have HC := Lib.hid hc
   have HVk := Lib.hid hvx
   have i0 : (0 : Int) ≤ (k : Int) := by omega
   have i2 : (k : Int) < (nl : Int) := by omega
   have nb : wv.cell? ⟨wp.heap.size, 1, none⟩ = some (.int .i64 x1) := by rw [hwv]; exact (Blk.new wp _ _).cell rfl
   have b1 := (HB.out.kp hKv (fun h => h)).cell (i := 1) (v := .slice va n4 vc) rfl
   have b2 := (HB.out.kp hKv (fun h => h)).cell (i := 2) (v := .slice a5 n5 c5) rfl
   have HKv := Lib.hid hKv
   have HZv := Lib.hid hwv
   rw [ea]
   clear hx0 hx1 hx2 hy hc hvx hE ea hkl hwv hKv
   go_upto_region 5 with fail
   rw [← HZv.out]
   clear HZv e0 e1 e2
   go_wp2_with (go_at_call 85; with_reducible refine Calls.mono HC.out ?_; rintro e w1 ⟨rfl, hK1⟩; have HK1 := Lib.hid (HKv.out.trans hK1 (fun _ _ h => h)); have ck := (HO.out.kp HK1.out (fun _ _ h => h)).cell (j := k) (bv_at (by rw [laid_len HNx.out hk]; exact hlt)); have fk := (HO.out.kp HK1.out (fun _ _ h => h)).free k; clear hK1)
   have h1 := (HO.out.kp HK1.out (fun _ _ h => h)).set k (.bool y)
   have h2 := laid_step HNx.out hlt
   rw [HVk.out] at h2
   rw [bv_set, h2] at h1
   have h3 := (HB.out.kp HK1.out (fun h => h)).kp (Kp.set w1 ⟨gr, k, none⟩ (.bool y)) (fun e => by have e2 : w.heap.size = gr := e; have := HWs.out; omega)
   have h4 := (HK.out.trans HK1.out (fun _ _ h => h)).setCell (p := ⟨gr, k, none⟩) (fun hl => by have h5 : gr < w.heap.size := hl; have := HWs.out; omega) (.bool y)
   exact ⟨⟨k + 1, by go_num, by omega, h1, h3, h4⟩, by simp [intOf]; omega⟩
  ·obtain rfl : k = nl := by omega
   have HE := Lib.hid (show Own wp w.heap.size 4 (.slice (some ⟨gr, 0, none⟩) k k) (bv (nextM C st ip)) from by have := HO.out; rw [laid_full HNx.out] at this; exact this.mono (by omega))
   go_wp2_with fail
   go_ret
   exact ⟨_, rfl, HE.out, HK.out⟩

set_option maxRecDepth 100000 in
theorem step_Next (V : CV) (C : Circ) (p : Nat) (a4 a5 : Option Addr) (c4 c5 : Nat) (sa : Option Addr) (sn sc : Nat) (ia : Option Addr) (in_ ic : Nat) (st ip : List Bool) (w : World) (hM : MAt w 99 V C p a4 c4 a5 c5) (hf : CFew C 1000000) (hg : GoodC C) (hs : BS w sa sn st) (hi : BS w ia in_ ip) :
  Calls Tryz.prog 63 #[.pointer (some ⟨p, 0, none⟩), .slice sa sn sc, .slice ia in_ ic] w fun e w' => ∃ v, e = .returned v ∧ Own w' w.heap.size 4 v (bv (nextM C st ip)) ∧ Kp (fun _ => False) w w' := by
 have H1 := Lib.hid (step_in V C p a4 a5 c4 c5 sa sn sc ia in_ ic st ip w hM hf hg hs hi)
 have H2 := Lib.hid (fun w1 va vc (hk : Kp (fun _ => False) w w1) hv => step_next V C p a4 a5 c4 c5 va vc st ip w1 (hM.kp hk) hf hg hv)
 clear hM hf hg hs hi
 go_enter Tryz.func63, Tryz.ntmps63
 go_wp2_with (first
  |(go_at_call 83; with_reducible refine Calls.mono H1.out ?_; rintro e w1 ⟨⟨va, vc, rfl, hv1⟩, hK1⟩)
  |(go_at_call 86; with_reducible refine Calls.mono (H2.out _ _ _ hK1 hv1) ?_; rintro e w2 ⟨v2, rfl, hO2, hK2⟩))
 have HE := Lib.hid (And.intro (hO2.mono hK1.size) (hK1.trans hK2 (fun _ _ h => h)))
 clear hO2 hK2 hK1 hv1
 try go_wp2_with fail
 go_ret
 exact ⟨_, rfl, HE.out⟩

end Go.Proofs.YtnoknecfdnjomaaGreat

/-
  The law of loose regions, with guards.
-/
namespace Go.Proofs.YtnoknecfdnjomaaGreat
open Go Go.RowKit

structure LooseGOK (ops : Array Oper) (p : Nat → Bool) (N : Nat) : Prop where
  low : ∀ (i : Nat) (o : Oper), ops[i]? = some o → p i = true → ∀ e ∈ o.after, Region.binds .any e = true → e.on < i ∧ p e.on = true
  dst : ∀ (i : Nat) (o : Oper), ops[i]? = some o → p i = true → ∃ d, o.dst = some d ∧ d < N
  inj : ∀ (i j : Nat) (o o' : Oper), ops[i]? = some o → ops[j]? = some o' → p i = true → p j = true → o.dst = o'.dst → i = j
  bar : ∀ (i : Nat) (o : Oper), ops[i]? = some o → p i = false → ∀ j, j < ops.size → p j = true → j ∈ clo ops 6 (edgesOf ops i)

def looseGB (ops : Array Oper) (p : Nat → Bool) (N : Nat) : Bool :=
  (List.range ops.size).all fun i => match ops[i]? with
    | none => true
    | some o => (if p i then
        o.after.all (fun e => !Region.binds .any e || (decide (e.on < i) && p e.on)) &&
          (match o.dst with
            | none => false
            | some d => decide (d < N) && (List.range ops.size).all (fun j => !p j || decide (j = i) || (match ops[j]? with | none => true | some o' => decide (o'.dst ≠ some d))))
      else (List.range ops.size).all (fun j => !p j || (clo ops 6 (edgesOf ops i)).contains j))

theorem looseGB_spec {ops : Array Oper} {p : Nat → Bool} {N : Nat} (h : looseGB ops p N = true) : LooseGOK ops p N := by
 unfold looseGB at h
 rw [List.all_eq_true] at h
 have get : ∀ (i : Nat) (o : Oper), ops[i]? = some o → (if p i then
    o.after.all (fun e => !Region.binds .any e || (decide (e.on < i) && p e.on)) &&
     (match o.dst with
      |none => false
      |some d => decide (d < N) && (List.range ops.size).all (fun j => !p j || decide (j = i) || (match ops[j]? with | none => true | some o' => decide (o'.dst ≠ some d))))
   else (List.range ops.size).all (fun j => !p j || (clo ops 6 (edgesOf ops i)).contains j)) = true := fun i o ho => by
  have hi : i < ops.size := (Array.getElem?_eq_some_iff.1 ho).1
  have := h i (List.mem_range.2 hi)
  simp only [ho] at this
  exact this
 refine ⟨fun i o ho hp e he hb => ?_, fun i o ho hp => ?_, fun i j o o' ho ho' hp hp' hd => ?_, fun i o ho hp j hj hpj => ?_⟩
 ·have := (get i o ho)
  rw [if_pos hp, Bool.and_eq_true] at this
  have h1 := this.1
  rw [Array.all_eq_true_iff_forall_mem] at h1
  have h2 := h1 e he
  rw [hb] at h2
  simpa using h2
 ·have := (get i o ho)
  rw [if_pos hp, Bool.and_eq_true] at this
  have h1 := this.2
  cases hd : o.dst with
  |none => rw [hd] at h1; cases h1
  |some d =>
   rw [hd] at h1
   simp only [Bool.and_eq_true, decide_eq_true_eq] at h1
   exact ⟨d, rfl, h1.1⟩
 ·have := (get i o ho)
  rw [if_pos hp, Bool.and_eq_true] at this
  have h1 := this.2
  cases hdd : o.dst with
  |none => rw [hdd] at h1; cases h1
  |some d =>
   rw [hdd] at h1
   simp only [Bool.and_eq_true] at h1
   have h2 := h1.2
   rw [List.all_eq_true] at h2
   have h3 := h2 j (List.mem_range.2 (Array.getElem?_eq_some_iff.1 ho').1)
   rw [hp', ho'] at h3
   simp only [Bool.not_true, Bool.false_or, Bool.or_eq_true, decide_eq_true_eq] at h3
   rcases h3 with h3 | h3
   ·exact h3.symm
   ·exact absurd (hd.symm.trans hdd) h3
 ·have := (get i o ho)
  rw [if_neg (by simp [hp]), List.all_eq_true] at this
  have h1 := this j (List.mem_range.2 hj)
  rw [hpj, Bool.not_true, Bool.false_or] at h1
  simpa using h1

def LG (P : Program) (ops : Array Oper) (Q : Exit → Act → World → Prop) (V : Nat → World → Value → Prop) (i : Nat) (o : Oper) (a : Act) (u : World) : Prop :=
  (Region.wanted o (yielded ops a.tmps) = true ∧ o.wp P a u (fun a' u' => ∃ v, a' = a.put o.dst v ∧ Kp (fun _ => False) u u' ∧ V i u' v) Q) ∨ (Region.wanted o (yielded ops a.tmps) = false ∧ V i u undef)

theorem lg_none {P : Program} {ops : Array Oper} {Q : Exit → Act → World → Prop} {V : Nat → World → Value → Prop} {i : Nat} {o : Oper} {a : Act} {u : World} (hg : o.guard = none) (h : o.wp P a u (fun a' u' => ∃ v, a' = a.put o.dst v ∧ Kp (fun _ => False) u u' ∧ V i u' v) Q) : LG P ops Q V i o a u :=
 .inl ⟨by unfold Region.wanted; rw [hg], h⟩

theorem yielded_at {ops : Array Oper} {g x : Nat} {b : Bool} {a : Act} (hd : (ops[g]?).bind (·.dst) = some x) (h : a.tmps[x]?.getD undef = .bool b) : yielded ops a.tmps g = some b := by
 unfold yielded
 rw [hd]
 simp only [Option.bind_some]
 cases hx : a.tmps[x]? with
 |none => rw [hx] at h; cases h
 |some v => rw [hx] at h; simp only [Option.getD_some] at h; subst h; rfl

theorem lg_on {P : Program} {ops : Array Oper} {Q : Exit → Act → World → Prop} {V : Nat → World → Value → Prop} {i : Nat} {o : Oper} {a : Act} {u : World} {g x : Nat} {b : Bool} (hg : o.guard = some (g, b)) (hd : (ops[g]?).bind (·.dst) = some x) (hx : a.tmps[x]?.getD undef = .bool b)
  (h : o.wp P a u (fun a' u' => ∃ v, a' = a.put o.dst v ∧ Kp (fun _ => False) u u' ∧ V i u' v) Q) : LG P ops Q V i o a u :=
 .inl ⟨by unfold Region.wanted; rw [hg]; simp only [yielded_at hd hx]; exact beq_self_eq_true _, h⟩

theorem lg_off {P : Program} {ops : Array Oper} {Q : Exit → Act → World → Prop} {V : Nat → World → Value → Prop} {i : Nat} {o : Oper} {a : Act} {u : World} {g x : Nat} {b c : Bool} (hg : o.guard = some (g, b)) (hd : (ops[g]?).bind (·.dst) = some x) (hx : a.tmps[x]?.getD undef = .bool c) (hbc : (c == b) = false) (h : V i u undef) : LG P ops Q V i o a u :=
 .inr ⟨by unfold Region.wanted; rw [hg]; simp only [yielded_at hd hx]; cases b <;> cases c <;> first | rfl | (simp at hbc), h⟩

theorem wpAny_looseG {P : Program} {ops : Array Oper} {Q : Exit → Act → World → Prop} {p : Nat → Bool} {V : Nat → World → Value → Prop} {w0 : World} {a0 : Act} {LP : Array Bool} (L : LooseGOK ops p a0.tmps.size)
  (stable : ∀ i u u' v, Kp (fun _ => False) u u' → V i u v → V i u' v)
  (hstep : ∀ (i : Nat) (o : Oper), ops[i]? = some o → p i = true → ∀ a u, Kp (fun _ => False) w0 u →
   (∀ s, (∀ (j : Nat) (oj : Oper), ops[j]? = some oj → p j = true → oj.dst ≠ some s) → a.tmps.getD s undef = a0.tmps.getD s undef) →
   (∀ e ∈ o.after, Region.binds .any e = true → ∀ (oj : Oper) (d : Nat), ops[e.on]? = some oj → oj.dst = some d → V e.on u (a.tmps.getD d undef)) →
   LG P ops Q V i o a u)
  (hLs : LP.size = ops.size) (hLP : ∀ i, i < ops.size → LP.getD i false = p i)
  (hend : ∀ a u, LInv ops V w0 a0 (fun i => p i = true) a u → wpAny P .any ops Q (cntU ops.size LP) LP a u) :
  ∀ (fuel : Nat) (listed : Array Bool) (a : Act) (u : World), listed.size = ops.size → fuel = cntU ops.size listed → (∀ i, i < ops.size → listed.getD i false = true → p i = true) → (∀ j, listed.getD j false = true → ∀ k, k ∈ edgesOf ops j → listed.getD k false = true) →
   LInv ops V w0 a0 (fun i => listed.getD i false = true) a u → wpAny P .any ops Q fuel listed a u := by
 intro fuel
 induction fuel with
 |zero =>
  intro listed a u hs hf hl hcl hI
  have hall : ∀ i, i < ops.size → listed.getD i false = true := fun i hi => by
   by_cases h : listed.getD i false = true
   ·exact h
   ·have := cntU_set (listed := listed) (by omega) (by simpa using h) ops.size hi
    omega
  have e : listed = LP := listed_ext (by omega) (fun i hi => by
   rw [hall i (by omega), hLP i (by omega)]
   exact (hl i (by omega) (hall i (by omega))).symm)
  subst e
  have := hend a u ⟨hI.kp, fun i o d ho _ hd => hI.val i o d ho (hall i (Array.getElem?_eq_some_iff.1 ho).1) hd, fun s hs' => hI.off s (fun i o ho hi => hs' i o ho (hl i (Array.getElem?_eq_some_iff.1 ho).1 hi)), hI.size, hI.defers⟩
  rwa [← hf] at this
 |succ fuel ih =>
  intro listed a u hs hf hl hcl hI
  by_cases hall : ∀ i, i < ops.size → p i = true → listed.getD i false = true
  ·have e : listed = LP := listed_ext (by omega) (fun i hi => by
    rw [hLP i (by omega)]
    by_cases h : p i = true
    ·rw [h, hall i (by omega) h]
    ·by_cases h2 : listed.getD i false = true
     ·exact absurd (hl i (by omega) h2) h
     ·have h3 : p i = false := by simpa using h
      have h4 : listed.getD i false = false := by simpa using h2
      rw [h3, h4])
   subst e
   have := hend a u ⟨hI.kp, fun i o d ho hp hd => hI.val i o d ho (hall i (Array.getElem?_eq_some_iff.1 ho).1 hp) hd, fun s hs' => hI.off s (fun i o ho hi => hs' i o ho (hl i (Array.getElem?_eq_some_iff.1 ho).1 hi)), hI.size, hI.defers⟩
   rwa [← hf] at this
  ·obtain ⟨i0, ⟨hi0, hp0, hu0⟩, hmin⟩ := least_of (R := fun i => i < ops.size ∧ p i = true ∧ listed.getD i false = false) (by
    refine Classical.byContradiction fun hno => hall fun i hi hp => ?_
    by_cases h : listed.getD i false = true
    ·exact h
    ·exact absurd ⟨i, hi, hp, by simpa using h⟩ hno)
   have hready : i0 ∈ Region.ready .any ops listed := by
    rw [mem_ready]
    refine ⟨by rw [getD_true_false (by omega)]; exact hu0, ops[i0], Array.getElem?_eq_getElem hi0, fun e he hb => ?_⟩
    obtain ⟨h1, h2⟩ := L.low i0 _ (Array.getElem?_eq_getElem hi0) hp0 e he hb
    by_cases h : listed.getD e.on false = true
    ·exact h
    ·exact absurd ⟨by omega, h2, by simpa using h⟩ (hmin e.on h1)
   refine ⟨fun h => (by rw [h] at hready; cases hready), fun i hi => ?_⟩
   obtain ⟨h1, o, ho, hedge⟩ := mem_ready.1 hi
   have hisz : i < ops.size := (Array.getElem?_eq_some_iff.1 ho).1
   rw [getD_true_false (by omega)] at h1
   have hpi : p i = true := by
    by_cases h : p i = true
    ·exact h
    ·have h3 := clo_listed (listed := fun j => listed.getD j false = true) hcl 6 (edgesOf ops i) (fun k hk => by
      obtain ⟨e, he, hb, hon⟩ := (mem_edgesOf ho).1 hk
      have := hedge e he hb
      rwa [hon] at this) i0 (L.bar i o ho (by simpa using h) i0 hi0 hp0)
     rw [hu0] at h3
     cases h3
   obtain ⟨d, hd, hdN⟩ := L.dst i o ho hpi
   have hgo : ∀ a' u', (∃ v, a' = a.put o.dst v ∧ Kp (fun _ => False) u u' ∧ V i u' v) → wpAny P .any ops Q fuel (listed.setIfInBounds i true) a' u' := by
    rintro a' u' ⟨v, rfl, hK, hV⟩
    have hset : ∀ j, (listed.setIfInBounds i true).getD j false = true ↔ j = i ∨ listed.getD j false = true := fun j => by
     simp only [Array.getD_eq_getD_getElem?, Array.getElem?_setIfInBounds]
     by_cases e : i = j
     ·subst e; simp [show i < listed.size by omega]
     ·rw [if_neg e]
      exact ⟨.inr, fun h => h.resolve_left (fun h => e h.symm)⟩
    refine ih _ _ _ (by simp [hs]) ?_ (fun j hj hlj => ?_) (fun j hj k hk => ?_) ⟨hI.kp.trans hK (fun _ _ h => h), fun j oj dj hoj hj hdj => ?_, fun s hs' => ?_, by rw [put_size]; exact hI.size, by rw [put_defers]; exact hI.defers⟩
    ·have := cntU_set (listed := listed) (by omega) h1 ops.size hisz
     omega
    ·rcases (hset j).1 hlj with e | e
     ·rw [e]; exact hpi
     ·exact hl j hj e
    ·rcases (hset j).1 hj with e | e
     ·subst e
      obtain ⟨e, he, hb, hon⟩ := (mem_edgesOf ho).1 hk
      refine (hset k).2 (.inr ?_)
      rw [← hon]
      exact hedge e he hb
     ·exact (hset k).2 (.inr (hcl j e k hk))
    ·rcases (hset j).1 hj with e | e
     ·subst e
      have : oj = o := by rw [hoj] at ho; exact Option.some.inj ho
      subst this
      rw [hdj] at hd
      have : dj = d := Option.some.inj hd
      subst this
      rw [hdj, put_getD_same (by rw [hI.size]; exact hdN)]
      exact hV
     ·by_cases eji : j = i
      ·subst eji
       rw [h1] at e; cases e
      ·rw [put_getD_ne (fun h => eji (L.inj j i oj o hoj ho (hl j (Array.getElem?_eq_some_iff.1 hoj).1 e) hpi (by rw [hdj, h])))]
       exact stable j u u' _ hK (hI.val j oj dj hoj e hdj)
    ·rw [put_getD_ne (hs' i o ho ((hset i).2 (.inl rfl)))]
     exact hI.off s (fun j oj hoj hj => hs' j oj hoj ((hset j).2 (.inr hj)))
   have hst := hstep i o ho hpi a u hI.kp (fun s hs' => hI.off s (fun j oj hoj hj => hs' j oj hoj (hl j (Array.getElem?_eq_some_iff.1 hoj).1 hj))) (fun e he hb oj d' hoj hd' => hI.val e.on oj d' hoj (hedge e he hb) hd')
   unfold wpOp
   rw [ho]
   simp only
   rcases hst with ⟨hw, hst⟩ | ⟨hw, hst⟩
   ·rw [if_pos hw]
    exact .inl (Oper.wp_mono hgo hst)
   ·rw [if_neg (by rw [hw]; exact Bool.false_ne_true)]
    exact hgo _ _ ⟨undef, rfl, Kp.refl _ _, hst⟩

theorem wp_region_looseG {P : Program} {id : Nat} {ops : Array Oper} {Q : Exit → Act → World → Prop} {p : Nat → Bool} {V : Nat → World → Value → Prop} {w : World} {a0 : Act} {LP : Array Bool} {K : Nat} (hm : P.follows .mixedOrders = true) (hB : looseGB ops p a0.tmps.size = true)
  (stable : ∀ i u u' v, Kp (fun _ => False) u u' → V i u v → V i u' v)
  (hstep : ∀ (i : Nat) (o : Oper), ops[i]? = some o → p i = true → ∀ a u, Kp (fun _ => False) w u →
   (∀ s, (∀ (j : Nat) (oj : Oper), ops[j]? = some oj → p j = true → oj.dst ≠ some s) → a.tmps.getD s undef = a0.tmps.getD s undef) →
   (∀ e ∈ o.after, Region.binds .any e = true → ∀ (oj : Oper) (d : Nat), ops[e.on]? = some oj → oj.dst = some d → V e.on u (a.tmps.getD d undef)) →
   LG P ops Q V i o a u)
  (hLs : LP.size = ops.size) (hLP : ∀ i, i < ops.size → LP.getD i false = p i) (hK : cntU ops.size LP = K)
  (hend : ∀ a u, LInv ops V w a0 (fun i => p i = true) a u → wpAny P .any ops Q K LP a u) : (Code.region id ops true).wp P Q a0 w := by
 refine wp_region_any hm ?_
 refine wpAny_looseG (looseGB_spec hB) stable hstep hLs hLP (fun a u h => by rw [hK]; exact hend a u h) ops.size _ a0 _ (by simp) ?_ (fun i hi h => ?_) (fun i h => ?_) ⟨(Kp.refl (fun _ => False) w).drew, fun i o d ho h => ?_, fun _ _ => rfl, rfl, rfl⟩
 ·have : ∀ n, cntU n (Array.replicate ops.size false) = n := fun n => by
   induction n with
   |zero => rfl
   |succ n ih => rw [cntU_succ, ih]; simp [unl, Array.getD_eq_getD_getElem?, Array.getElem?_replicate]; split <;> simp
  rw [this]
 ·simp [Array.getD_eq_getD_getElem?, Array.getElem?_replicate] at h
  split at h <;> simp at h
 ·simp [Array.getD_eq_getD_getElem?, Array.getElem?_replicate] at h
  split at h <;> simp at h
 ·simp [Array.getD_eq_getD_getElem?, Array.getElem?_replicate] at h
  split at h <;> simp at h

end Go.Proofs.YtnoknecfdnjomaaGreat

/-
  step.Machine: Bad, Holds.
-/
namespace Go.Proofs.YtnoknecfdnjomaaGreat
open Go.RowKit

set_option maxRecDepth 100000 in
set_option maxHeartbeats 4000000 in
theorem step_Bad (V : CV) (C : Circ) (p : Nat) (a4 a5 : Option Addr) (c4 c5 : Nat) (sa : Option Addr) (sn sc : Nat) (ia : Option Addr) (in_ ic : Nat) (st ip : List Bool) (pr : Int) (w : World) (hM : MAt w 99 V C p a4 c4 a5 c5) (hf : CFew C 1000000) (hg : GoodC C) (hs : BS w sa sn st) (hi : BS w ia in_ ip) :
  Calls Tryz.prog 61 #[.pointer (some ⟨p, 0, none⟩), .slice sa sn sc, .slice ia in_ ic, .int .i64 pr] w fun e w' => e = .returned (.bool (badM C st ip pr)) ∧ Kp (fun _ => False) w w' := by
 have HIn := Lib.hid (fun u (hu : Kp (fun _ => False) w u) => step_in V C p a4 a5 c4 c5 sa sn sc ia in_ ic st ip u (hM.kp hu) hf hg (hs.kp hu) (hi.kp hu))
 have HL := Lib.hid (fun u (hu : Kp (fun _ => False) w u) va vc (hv : RowAt u va (bv (valsM C st ip))) => step_lit (vc := vc) (c5 := c5) hf hg (hM.ats.kp hu (fun _ _ h => h)) hv u (Kp.refl _ _))
 obtain ⟨nb, hnb⟩ : ∃ n, C.bads.length = n := ⟨_, rfl⟩
 have hnb1 : nb ≤ 1000000 := by have := hf.b; omega
 have hB : w.cell? ⟨p, 4, none⟩ = some (.slice V.ab nb V.cb) := hM.blk.cell (i := 4) (by rw [← hnb]; rfl)
 have HM := Lib.hid hM
 have HNb := Lib.hid hnb
 obtain ⟨r, hr⟩ : ∃ r, badM C st ip pr = r := ⟨_, rfl⟩
 rw [hr]
 unfold badM at hr
 rw [hnb] at hr
 clear hM hf hg hs hi hnb
 by_cases h0 : 0 ≤ pr
 ·by_cases h1 : pr < (nb : Int)
  ·obtain ⟨k, rfl⟩ : ∃ k : Nat, pr = (k : Int) := ⟨pr.toNat, by omega⟩
   have hkl : k < C.bads.length := by rw [HNb.out]; omega
   obtain ⟨b, off, ea, e0⟩ := HM.out.circ.b.get hkl
   have hc := fun u hu va vc hv => HL.out u hu va vc hv _ (bad_used hkl)
   obtain ⟨x, hx⟩ : ∃ x, gi C.bads k = x := ⟨_, rfl⟩
   rw [decide_eq_true (⟨h0, h1⟩ : 0 ≤ (k : Int) ∧ (k : Int) < (nb : Int)), Bool.true_and, Int.toNat_natCast, hx] at hr
   rw [hx] at e0 hc
   rw [hr] at hc
   have HB : Hid (Blk w p #[.int .i64 C.max, .slice V.ai C.ins.length V.ci, .slice V.al C.lats.length V.cl, .slice V.ao C.outs.length V.co, .slice (some ⟨b, off, none⟩) nb V.cb, .slice V.ac C.cons.length V.cc, .slice V.ag C.gates.length V.cg, .slice V.ay V.ny V.cy, .string V.cm, .slice a4 (netOf C).1.length c4, .slice a5 (netOf C).2.length c5] 99) := Lib.hid (by
    have h := HM.out.blk
    unfold cvals at h
    rw [HNb.out, ea] at h
    exact h)
   have HIs := Lib.hid hc
   have E0 := Lib.hid e0
   clear hr hc hx ea hkl hB HL HM e0
   go_enter Tryz.func61, Tryz.ntmps61
   go_upto_region 1 with fail
   refine wp_region_looseG (p := upTo 32) (V := atV [EqV ((.pointer (some ⟨p, 0, none⟩))), EqV (.bool true), EqV (.bool true), EqV ((.int .i64 (k : Int))), EqV (.bool true), EqV (.bool true), EqV (.bool true), EqV ((.int .i64 (k : Int))), EqV ((.pointer (some ⟨p, 0, none⟩))), EqV (.pointer (some ⟨p, 0, none⟩)), EqV (.pointer (some ⟨p, 0, none⟩)), EqV (.pointer (some ⟨p, 4, none⟩)), EqV (.slice (some ⟨b, off, none⟩) nb V.cb), EqV (.int .i64 (nb : Int)), EqV (.bool true), EqV (.bool true), EqV (.bool true), EqV ((.pointer (some ⟨p, 0, none⟩))), EqV ((.slice sa sn sc)), EqV ((.slice ia in_ ic)), (fun u v => ∃ va vc, v = .agg #[.pointer (some ⟨p, 0, none⟩), .slice va ((netOf C).1.length + 1) vc, .slice a5 (netOf C).2.length c5] ∧ RowAt u va (bv (valsM C st ip))), (fun u v => ∃ va vc, v = .agg #[.slice va ((netOf C).1.length + 1) vc, .slice a5 (netOf C).2.length c5] ∧ RowAt u va (bv (valsM C st ip))), EqV ((.pointer (some ⟨p, 0, none⟩))), EqV (.pointer (some ⟨p, 0, none⟩)), EqV (.pointer (some ⟨p, 0, none⟩)), EqV (.pointer (some ⟨p, 4, none⟩)), EqV (.slice (some ⟨b, off, none⟩) nb V.cb), EqV ((.int .i64 (k : Int))), EqV (.pointer (some ⟨b, off + k * 1, none⟩)), EqV (.int .i64 x), EqV (.bool r), EqV (.bool r)]) (LP := #[true, true, true, true, true, true, true, true, true, true, true, true, true, true, true, true, true, true, true, true, true, true, true, true, true, true, true, true, true, true, true, true, false]) (K := 1) (by kernel_rfl) (by kernel_rfl) (atV_st ?hstL1) ?hstepL1 (by kernel_rfl) ?hLPL1 (by kernel_rfl) ?hendL1
   case hstL1 =>
    intro W h
    simp only [List.mem_cons, List.not_mem_nil, or_false] at h
    rcases h with rfl | rfl | rfl | rfl | rfl | rfl | rfl | rfl | rfl | rfl | rfl | rfl | rfl | rfl | rfl | rfl | rfl | rfl | rfl | rfl | rfl | rfl | rfl | rfl | rfl | rfl | rfl | rfl | rfl | rfl | rfl | rfl <;> first | exact EqV.st _ | exact fun _ _ _ k ⟨va, vc, h1, h2⟩ => ⟨va, vc, h1, h2.kp k (fun _ _ h => h)⟩
   case hLPL1 => exact upTo_spec (by kernel_rfl)
   case hstepL1 =>
    intro i o ho hp a u hk hoff hdep
    have e0 : a.tmps[0]?.getD undef = (.pointer (some ⟨p, 0, none⟩)) := slot_at (hoff 0 (noDst_spec (by kernel_rfl)))
    have e1 : a.tmps[1]?.getD undef = (.slice sa sn sc) := slot_at (hoff 1 (noDst_spec (by kernel_rfl)))
    have e2 : a.tmps[2]?.getD undef = (.slice ia in_ ic) := slot_at (hoff 2 (noDst_spec (by kernel_rfl)))
    have e3 : a.tmps[3]?.getD undef = (.int .i64 (k : Int)) := slot_at (hoff 3 (noDst_spec (by kernel_rfl)))
    clear hoff
    match i, ho with
    |0, ho =>
     obtain rfl := Option.some.inj ho
     refine lg_none rfl ?_
     refine lw_value (v := (.pointer (some ⟨p, 0, none⟩))) (u' := u) ?_ (Kp.refl _ _) rfl
     go_simp
    |1, ho =>
     obtain rfl := Option.some.inj ho
     have e9 : a.tmps[9]?.getD undef = (.pointer (some ⟨p, 0, none⟩)) := slot_at (hdep ⟨0, .data⟩ (by simp) rfl _ 9 rfl rfl)
     refine lg_none rfl ?_
     refine lw_value (v := .bool true) (u' := u) ?_ (Kp.refl _ _) rfl
     go_simp
    |2, ho =>
     obtain rfl := Option.some.inj ho
     have e10 : a.tmps[10]?.getD undef = .bool true := slot_at (hdep ⟨1, .data⟩ (by simp) rfl _ 10 rfl rfl)
     refine lg_none rfl ?_
     refine lw_value (v := .bool true) (u' := u) ?_ (Kp.refl _ _) rfl
     go_simp
    |3, ho =>
     obtain rfl := Option.some.inj ho
     have e11 : a.tmps[11]?.getD undef = .bool true := slot_at (hdep ⟨2, .guard⟩ (by simp) rfl _ 11 rfl rfl)
     refine lg_on (x := 11) rfl rfl e11 ?_
     refine lw_value (v := (.int .i64 (k : Int))) (u' := u) ?_ (Kp.refl _ _) rfl
     go_simp
    |4, ho =>
     obtain rfl := Option.some.inj ho
     have e12 : a.tmps[12]?.getD undef = (.int .i64 (k : Int)) := slot_at (hdep ⟨3, .data⟩ (by simp) rfl _ 12 rfl rfl)
     have e11 : a.tmps[11]?.getD undef = .bool true := slot_at (hdep ⟨2, .guard⟩ (by simp) rfl _ 11 rfl rfl)
     refine lg_on (x := 11) rfl rfl e11 ?_
     refine lw_value (v := .bool true) (u' := u) ?_ (Kp.refl _ _) rfl
     go_simp
    |5, ho =>
     obtain rfl := Option.some.inj ho
     have e11 : a.tmps[11]?.getD undef = .bool true := slot_at (hdep ⟨2, .data⟩ (by simp) rfl _ 11 rfl rfl)
     have e13 : a.tmps[13]?.getD undef = .bool true := slot_at (hdep ⟨4, .data⟩ (by simp) rfl _ 13 rfl rfl)
     refine lg_none rfl ?_
     refine lw_value (v := .bool true) (u' := u) ?_ (Kp.refl _ _) rfl
     go_simp
    |6, ho =>
     obtain rfl := Option.some.inj ho
     have e14 : a.tmps[14]?.getD undef = .bool true := slot_at (hdep ⟨5, .data⟩ (by simp) rfl _ 14 rfl rfl)
     refine lg_none rfl ?_
     refine lw_value (v := .bool true) (u' := u) ?_ (Kp.refl _ _) rfl
     go_simp
    |7, ho =>
     obtain rfl := Option.some.inj ho
     have e15 : a.tmps[15]?.getD undef = .bool true := slot_at (hdep ⟨6, .guard⟩ (by simp) rfl _ 15 rfl rfl)
     refine lg_on (x := 15) rfl rfl e15 ?_
     refine lw_value (v := (.int .i64 (k : Int))) (u' := u) ?_ (Kp.refl _ _) rfl
     go_simp
    |8, ho =>
     obtain rfl := Option.some.inj ho
     have e15 : a.tmps[15]?.getD undef = .bool true := slot_at (hdep ⟨6, .guard⟩ (by simp) rfl _ 15 rfl rfl)
     refine lg_on (x := 15) rfl rfl e15 ?_
     refine lw_value (v := (.pointer (some ⟨p, 0, none⟩))) (u' := u) ?_ (Kp.refl _ _) rfl
     go_simp
    |9, ho =>
     obtain rfl := Option.some.inj ho
     have e17 : a.tmps[17]?.getD undef = (.pointer (some ⟨p, 0, none⟩)) := slot_at (hdep ⟨8, .data⟩ (by simp) rfl _ 17 rfl rfl)
     have e15 : a.tmps[15]?.getD undef = .bool true := slot_at (hdep ⟨6, .guard⟩ (by simp) rfl _ 15 rfl rfl)
     refine lg_on (x := 15) rfl rfl e15 ?_
     refine lw_value (v := .pointer (some ⟨p, 0, none⟩)) (u' := u) ?_ (Kp.refl _ _) rfl
     go_simp
    |10, ho =>
     obtain rfl := Option.some.inj ho
     have e18 : a.tmps[18]?.getD undef = .pointer (some ⟨p, 0, none⟩) := slot_at (hdep ⟨9, .data⟩ (by simp) rfl _ 18 rfl rfl)
     have e15 : a.tmps[15]?.getD undef = .bool true := slot_at (hdep ⟨6, .guard⟩ (by simp) rfl _ 15 rfl rfl)
     refine lg_on (x := 15) rfl rfl e15 ?_
     refine lw_value (v := .pointer (some ⟨p, 0, none⟩)) (u' := u) ?_ (Kp.refl _ _) rfl
     go_simp
    |11, ho =>
     obtain rfl := Option.some.inj ho
     have e19 : a.tmps[19]?.getD undef = .pointer (some ⟨p, 0, none⟩) := slot_at (hdep ⟨10, .data⟩ (by simp) rfl _ 19 rfl rfl)
     have e15 : a.tmps[15]?.getD undef = .bool true := slot_at (hdep ⟨6, .guard⟩ (by simp) rfl _ 15 rfl rfl)
     refine lg_on (x := 15) rfl rfl e15 ?_
     refine lw_value (v := .pointer (some ⟨p, 4, none⟩)) (u' := u) ?_ (Kp.refl _ _) rfl
     go_simp
    |12, ho =>
     obtain rfl := Option.some.inj ho
     have e20 : a.tmps[20]?.getD undef = .pointer (some ⟨p, 4, none⟩) := slot_at (hdep ⟨11, .data⟩ (by simp) rfl _ 20 rfl rfl)
     have e15 : a.tmps[15]?.getD undef = .bool true := slot_at (hdep ⟨6, .guard⟩ (by simp) rfl _ 15 rfl rfl)
     refine lg_on (x := 15) rfl rfl e15 ?_
     have c1 := (HB.out.kp hk (fun h => h)).cell (i := 4) (v := .slice (some ⟨b, off, none⟩) nb V.cb) rfl
     refine lw_value (v := .slice (some ⟨b, off, none⟩) nb V.cb) (u' := u) ?_ (Kp.refl _ _) rfl
     go_simp
    |13, ho =>
     obtain rfl := Option.some.inj ho
     have e21 : a.tmps[21]?.getD undef = .slice (some ⟨b, off, none⟩) nb V.cb := slot_at (hdep ⟨12, .data⟩ (by simp) rfl _ 21 rfl rfl)
     have e15 : a.tmps[15]?.getD undef = .bool true := slot_at (hdep ⟨6, .guard⟩ (by simp) rfl _ 15 rfl rfl)
     refine lg_on (x := 15) rfl rfl e15 ?_
     refine lw_value (v := .int .i64 (nb : Int)) (u' := u) ?_ (Kp.refl _ _) rfl
     go_simp
    |14, ho =>
     obtain rfl := Option.some.inj ho
     have e16 : a.tmps[16]?.getD undef = (.int .i64 (k : Int)) := slot_at (hdep ⟨7, .data⟩ (by simp) rfl _ 16 rfl rfl)
     have e22 : a.tmps[22]?.getD undef = .int .i64 (nb : Int) := slot_at (hdep ⟨13, .data⟩ (by simp) rfl _ 22 rfl rfl)
     have e15 : a.tmps[15]?.getD undef = .bool true := slot_at (hdep ⟨6, .guard⟩ (by simp) rfl _ 15 rfl rfl)
     refine lg_on (x := 15) rfl rfl e15 ?_
     refine lw_value (v := .bool true) (u' := u) ?_ (Kp.refl _ _) rfl
     go_simp
    |15, ho =>
     obtain rfl := Option.some.inj ho
     have e15 : a.tmps[15]?.getD undef = .bool true := slot_at (hdep ⟨6, .data⟩ (by simp) rfl _ 15 rfl rfl)
     have e23 : a.tmps[23]?.getD undef = .bool true := slot_at (hdep ⟨14, .data⟩ (by simp) rfl _ 23 rfl rfl)
     refine lg_none rfl ?_
     refine lw_value (v := .bool true) (u' := u) ?_ (Kp.refl _ _) rfl
     go_simp
    |16, ho =>
     obtain rfl := Option.some.inj ho
     have e24 : a.tmps[24]?.getD undef = .bool true := slot_at (hdep ⟨15, .data⟩ (by simp) rfl _ 24 rfl rfl)
     refine lg_none rfl ?_
     refine lw_value (v := .bool true) (u' := u) ?_ (Kp.refl _ _) rfl
     go_simp
    |17, ho =>
     obtain rfl := Option.some.inj ho
     have e25 : a.tmps[25]?.getD undef = .bool true := slot_at (hdep ⟨16, .guard⟩ (by simp) rfl _ 25 rfl rfl)
     refine lg_on (x := 25) rfl rfl e25 ?_
     refine lw_value (v := (.pointer (some ⟨p, 0, none⟩))) (u' := u) ?_ (Kp.refl _ _) rfl
     go_simp
    |18, ho =>
     obtain rfl := Option.some.inj ho
     have e25 : a.tmps[25]?.getD undef = .bool true := slot_at (hdep ⟨16, .guard⟩ (by simp) rfl _ 25 rfl rfl)
     refine lg_on (x := 25) rfl rfl e25 ?_
     refine lw_value (v := (.slice sa sn sc)) (u' := u) ?_ (Kp.refl _ _) rfl
     go_simp
    |19, ho =>
     obtain rfl := Option.some.inj ho
     have e25 : a.tmps[25]?.getD undef = .bool true := slot_at (hdep ⟨16, .guard⟩ (by simp) rfl _ 25 rfl rfl)
     refine lg_on (x := 25) rfl rfl e25 ?_
     refine lw_value (v := (.slice ia in_ ic)) (u' := u) ?_ (Kp.refl _ _) rfl
     go_simp
    |20, ho =>
     obtain rfl := Option.some.inj ho
     have e26 : a.tmps[26]?.getD undef = (.pointer (some ⟨p, 0, none⟩)) := slot_at (hdep ⟨17, .data⟩ (by simp) rfl _ 26 rfl rfl)
     have e27 : a.tmps[27]?.getD undef = (.slice sa sn sc) := slot_at (hdep ⟨18, .data⟩ (by simp) rfl _ 27 rfl rfl)
     have e28 : a.tmps[28]?.getD undef = (.slice ia in_ ic) := slot_at (hdep ⟨19, .data⟩ (by simp) rfl _ 28 rfl rfl)
     have e25 : a.tmps[25]?.getD undef = .bool true := slot_at (hdep ⟨16, .chain⟩ (by simp) rfl _ 25 rfl rfl)
     refine lg_on (x := 25) rfl rfl e25 ?_
     refine lw_call (f := 83) (args := #[.pointer (some ⟨p, 0, none⟩), .slice sa sn sc, .slice ia in_ ic]) ?_ ?_
     ·go_simp
     ·exact (HIn.out u hk).mono (by
       rintro e u' ⟨⟨va, vc, rfl, hv⟩, hK⟩
       exact ⟨_, rfl, hK, va, vc, rfl, hv⟩)
    |21, ho =>
     obtain rfl := Option.some.inj ho
     have e25 : a.tmps[25]?.getD undef = .bool true := slot_at (hdep ⟨16, .guard⟩ (by simp) rfl _ 25 rfl rfl)
     refine lg_on (x := 25) rfl rfl e25 ?_
     obtain ⟨va, vc, ev, hvr⟩ : ∃ va vc, (a.tmps.getD 29 undef) = .agg #[.pointer (some ⟨p, 0, none⟩), .slice va ((netOf C).1.length + 1) vc, .slice a5 (netOf C).2.length c5] ∧ RowAt u va (bv (valsM C st ip)) := hdep ⟨20, .data⟩ (by simp) rfl _ 29 rfl rfl
     have e29 := slot_at ev
     have hfd : ∀ W, (Instr.field 118 (.agg #[.pointer (some ⟨p, 0, none⟩), .slice va ((netOf C).1.length + 1) vc, .slice a5 (netOf C).2.length c5]) 1).run Tryz.prog W = .ok (.agg #[.slice va ((netOf C).1.length + 1) vc, .slice a5 (netOf C).2.length c5]) W := fun _ => by kernel_rfl
     refine lw_value (v := .agg #[.slice va ((netOf C).1.length + 1) vc, .slice a5 (netOf C).2.length c5]) (u' := u) ?_ (Kp.refl _ _) ⟨va, vc, rfl, hvr⟩
     go_simp
    |22, ho =>
     obtain rfl := Option.some.inj ho
     have e25 : a.tmps[25]?.getD undef = .bool true := slot_at (hdep ⟨16, .guard⟩ (by simp) rfl _ 25 rfl rfl)
     refine lg_on (x := 25) rfl rfl e25 ?_
     refine lw_value (v := (.pointer (some ⟨p, 0, none⟩))) (u' := u) ?_ (Kp.refl _ _) rfl
     go_simp
    |23, ho =>
     obtain rfl := Option.some.inj ho
     have e31 : a.tmps[31]?.getD undef = (.pointer (some ⟨p, 0, none⟩)) := slot_at (hdep ⟨22, .data⟩ (by simp) rfl _ 31 rfl rfl)
     have e25 : a.tmps[25]?.getD undef = .bool true := slot_at (hdep ⟨16, .guard⟩ (by simp) rfl _ 25 rfl rfl)
     refine lg_on (x := 25) rfl rfl e25 ?_
     refine lw_value (v := .pointer (some ⟨p, 0, none⟩)) (u' := u) ?_ (Kp.refl _ _) rfl
     go_simp
    |24, ho =>
     obtain rfl := Option.some.inj ho
     have e32 : a.tmps[32]?.getD undef = .pointer (some ⟨p, 0, none⟩) := slot_at (hdep ⟨23, .data⟩ (by simp) rfl _ 32 rfl rfl)
     have e25 : a.tmps[25]?.getD undef = .bool true := slot_at (hdep ⟨16, .guard⟩ (by simp) rfl _ 25 rfl rfl)
     refine lg_on (x := 25) rfl rfl e25 ?_
     refine lw_value (v := .pointer (some ⟨p, 0, none⟩)) (u' := u) ?_ (Kp.refl _ _) rfl
     go_simp
    |25, ho =>
     obtain rfl := Option.some.inj ho
     have e33 : a.tmps[33]?.getD undef = .pointer (some ⟨p, 0, none⟩) := slot_at (hdep ⟨24, .data⟩ (by simp) rfl _ 33 rfl rfl)
     have e25 : a.tmps[25]?.getD undef = .bool true := slot_at (hdep ⟨16, .guard⟩ (by simp) rfl _ 25 rfl rfl)
     refine lg_on (x := 25) rfl rfl e25 ?_
     refine lw_value (v := .pointer (some ⟨p, 4, none⟩)) (u' := u) ?_ (Kp.refl _ _) rfl
     go_simp
    |26, ho =>
     obtain rfl := Option.some.inj ho
     have e34 : a.tmps[34]?.getD undef = .pointer (some ⟨p, 4, none⟩) := slot_at (hdep ⟨25, .data⟩ (by simp) rfl _ 34 rfl rfl)
     have e25 : a.tmps[25]?.getD undef = .bool true := slot_at (hdep ⟨16, .guard⟩ (by simp) rfl _ 25 rfl rfl)
     refine lg_on (x := 25) rfl rfl e25 ?_
     have c1 := (HB.out.kp hk (fun h => h)).cell (i := 4) (v := .slice (some ⟨b, off, none⟩) nb V.cb) rfl
     refine lw_value (v := .slice (some ⟨b, off, none⟩) nb V.cb) (u' := u) ?_ (Kp.refl _ _) rfl
     go_simp
    |27, ho =>
     obtain rfl := Option.some.inj ho
     have e25 : a.tmps[25]?.getD undef = .bool true := slot_at (hdep ⟨16, .guard⟩ (by simp) rfl _ 25 rfl rfl)
     refine lg_on (x := 25) rfl rfl e25 ?_
     refine lw_value (v := (.int .i64 (k : Int))) (u' := u) ?_ (Kp.refl _ _) rfl
     go_simp
    |28, ho =>
     obtain rfl := Option.some.inj ho
     have e35 : a.tmps[35]?.getD undef = .slice (some ⟨b, off, none⟩) nb V.cb := slot_at (hdep ⟨26, .data⟩ (by simp) rfl _ 35 rfl rfl)
     have e36 : a.tmps[36]?.getD undef = (.int .i64 (k : Int)) := slot_at (hdep ⟨27, .data⟩ (by simp) rfl _ 36 rfl rfl)
     have e25 : a.tmps[25]?.getD undef = .bool true := slot_at (hdep ⟨16, .guard⟩ (by simp) rfl _ 25 rfl rfl)
     refine lg_on (x := 25) rfl rfl e25 ?_
     refine lw_value (v := .pointer (some ⟨b, off + k * 1, none⟩)) (u' := u) ?_ (Kp.refl _ _) rfl
     go_simp
    |29, ho =>
     obtain rfl := Option.some.inj ho
     have e37 : a.tmps[37]?.getD undef = .pointer (some ⟨b, off + k * 1, none⟩) := slot_at (hdep ⟨28, .data⟩ (by simp) rfl _ 37 rfl rfl)
     have e25 : a.tmps[25]?.getD undef = .bool true := slot_at (hdep ⟨16, .guard⟩ (by simp) rfl _ 25 rfl rfl)
     refine lg_on (x := 25) rfl rfl e25 ?_
     have c1 := hk.cellK E0.out
     refine lw_value (v := .int .i64 x) (u' := u) ?_ (Kp.refl _ _) rfl
     go_simp
    |30, ho =>
     obtain rfl := Option.some.inj ho
     have e38 : a.tmps[38]?.getD undef = .int .i64 x := slot_at (hdep ⟨29, .data⟩ (by simp) rfl _ 38 rfl rfl)
     have e25 : a.tmps[25]?.getD undef = .bool true := slot_at (hdep ⟨16, .guard⟩ (by simp) rfl _ 25 rfl rfl)
     refine lg_on (x := 25) rfl rfl e25 ?_
     obtain ⟨va, vc, ev, hvr⟩ : ∃ va vc, (a.tmps.getD 30 undef) = .agg #[.slice va ((netOf C).1.length + 1) vc, .slice a5 (netOf C).2.length c5] ∧ RowAt u va (bv (valsM C st ip)) := hdep ⟨21, .data⟩ (by simp) rfl _ 30 rfl rfl
     have e30 := slot_at ev
     refine lw_call (f := 85) (args := #[.agg #[.slice va ((netOf C).1.length + 1) vc, .slice a5 (netOf C).2.length c5], .int .i64 x]) ?_ ?_
     ·go_simp
     ·exact (HIs.out u hk va vc hvr).mono (by
       rintro e u' ⟨rfl, hK⟩
       exact ⟨_, rfl, hK, rfl⟩)
    |31, ho =>
     obtain rfl := Option.some.inj ho
     have e25 : a.tmps[25]?.getD undef = .bool true := slot_at (hdep ⟨16, .data⟩ (by simp) rfl _ 25 rfl rfl)
     have e39 : a.tmps[39]?.getD undef = .bool r := slot_at (hdep ⟨30, .data⟩ (by simp) rfl _ 39 rfl rfl)
     refine lg_none rfl ?_
     refine lw_value (v := .bool r) (u' := u) ?_ (Kp.refl _ _) rfl
     go_simp
    |n + 32, _ => exact absurd hp (by simp [upTo])
   intro a u hI
   have hsz : a.tmps.size = 41 := hI.size
   have hdf : a.defers = [] := hI.defers
   have f0 := hI.o 0 (by kernel_rfl)
   have f1 := hI.o 1 (by kernel_rfl)
   have f2 := hI.o 2 (by kernel_rfl)
   have f3 := hI.o 3 (by kernel_rfl)
   have f4 := hI.o 4 (by kernel_rfl)
   have f5 := hI.o 5 (by kernel_rfl)
   have f6 := hI.o 6 (by kernel_rfl)
   have f7 := hI.o 7 (by kernel_rfl)
   have f8 := hI.o 8 (by kernel_rfl)
   have f9 : a.tmps.getD 9 undef = (.pointer (some ⟨p, 0, none⟩)) := hI.val 0 _ 9 rfl rfl rfl
   have f10 : a.tmps.getD 10 undef = .bool true := hI.val 1 _ 10 rfl rfl rfl
   have f11 : a.tmps.getD 11 undef = .bool true := hI.val 2 _ 11 rfl rfl rfl
   have f12 : a.tmps.getD 12 undef = (.int .i64 (k : Int)) := hI.val 3 _ 12 rfl rfl rfl
   have f13 : a.tmps.getD 13 undef = .bool true := hI.val 4 _ 13 rfl rfl rfl
   have f14 : a.tmps.getD 14 undef = .bool true := hI.val 5 _ 14 rfl rfl rfl
   have f15 : a.tmps.getD 15 undef = .bool true := hI.val 6 _ 15 rfl rfl rfl
   have f16 : a.tmps.getD 16 undef = (.int .i64 (k : Int)) := hI.val 7 _ 16 rfl rfl rfl
   have f17 : a.tmps.getD 17 undef = (.pointer (some ⟨p, 0, none⟩)) := hI.val 8 _ 17 rfl rfl rfl
   have f18 : a.tmps.getD 18 undef = .pointer (some ⟨p, 0, none⟩) := hI.val 9 _ 18 rfl rfl rfl
   have f19 : a.tmps.getD 19 undef = .pointer (some ⟨p, 0, none⟩) := hI.val 10 _ 19 rfl rfl rfl
   have f20 : a.tmps.getD 20 undef = .pointer (some ⟨p, 4, none⟩) := hI.val 11 _ 20 rfl rfl rfl
   have f21 : a.tmps.getD 21 undef = .slice (some ⟨b, off, none⟩) nb V.cb := hI.val 12 _ 21 rfl rfl rfl
   have f22 : a.tmps.getD 22 undef = .int .i64 (nb : Int) := hI.val 13 _ 22 rfl rfl rfl
   have f23 : a.tmps.getD 23 undef = .bool true := hI.val 14 _ 23 rfl rfl rfl
   have f24 : a.tmps.getD 24 undef = .bool true := hI.val 15 _ 24 rfl rfl rfl
   have f25 : a.tmps.getD 25 undef = .bool true := hI.val 16 _ 25 rfl rfl rfl
   have f26 : a.tmps.getD 26 undef = (.pointer (some ⟨p, 0, none⟩)) := hI.val 17 _ 26 rfl rfl rfl
   have f27 : a.tmps.getD 27 undef = (.slice sa sn sc) := hI.val 18 _ 27 rfl rfl rfl
   have f28 : a.tmps.getD 28 undef = (.slice ia in_ ic) := hI.val 19 _ 28 rfl rfl rfl
   have g29 : ((fun u v => ∃ va vc, v = .agg #[.pointer (some ⟨p, 0, none⟩), .slice va ((netOf C).1.length + 1) vc, .slice a5 (netOf C).2.length c5] ∧ RowAt u va (bv (valsM C st ip)))) u (a.tmps.getD 29 undef) := hI.val 20 _ 29 rfl rfl rfl
   have g30 : ((fun u v => ∃ va vc, v = .agg #[.slice va ((netOf C).1.length + 1) vc, .slice a5 (netOf C).2.length c5] ∧ RowAt u va (bv (valsM C st ip)))) u (a.tmps.getD 30 undef) := hI.val 21 _ 30 rfl rfl rfl
   have f31 : a.tmps.getD 31 undef = (.pointer (some ⟨p, 0, none⟩)) := hI.val 22 _ 31 rfl rfl rfl
   have f32 : a.tmps.getD 32 undef = .pointer (some ⟨p, 0, none⟩) := hI.val 23 _ 32 rfl rfl rfl
   have f33 : a.tmps.getD 33 undef = .pointer (some ⟨p, 0, none⟩) := hI.val 24 _ 33 rfl rfl rfl
   have f34 : a.tmps.getD 34 undef = .pointer (some ⟨p, 4, none⟩) := hI.val 25 _ 34 rfl rfl rfl
   have f35 : a.tmps.getD 35 undef = .slice (some ⟨b, off, none⟩) nb V.cb := hI.val 26 _ 35 rfl rfl rfl
   have f36 : a.tmps.getD 36 undef = (.int .i64 (k : Int)) := hI.val 27 _ 36 rfl rfl rfl
   have f37 : a.tmps.getD 37 undef = .pointer (some ⟨b, off + k * 1, none⟩) := hI.val 28 _ 37 rfl rfl rfl
   have f38 : a.tmps.getD 38 undef = .int .i64 x := hI.val 29 _ 38 rfl rfl rfl
   have f39 : a.tmps.getD 39 undef = .bool r := hI.val 30 _ 39 rfl rfl rfl
   have f40 : a.tmps.getD 40 undef = .bool r := hI.val 31 _ 40 rfl rfl rfl
   have ha := act_list41 a hsz
   rw [hdf, f0, f1, f2, f3, f4, f5, f6, f7, f8, f9, f10, f11, f12, f13, f14, f15, f16, f17, f18, f19, f20, f21, f22, f23, f24, f25, f26, f27, f28, f31, f32, f33, f34, f35, f36, f37, f38, f39, f40] at ha
   obtain ⟨x29, hx29⟩ : ∃ x, a.tmps.getD 29 undef = x := ⟨_, rfl⟩
   obtain ⟨x30, hx30⟩ : ∃ x, a.tmps.getD 30 undef = x := ⟨_, rfl⟩
   rw [hx29, hx30] at ha
   rw [hx29] at g29
   rw [hx30] at g30
   have hku := hI.kp
   clear hI hsz hdf f0 f1 f2 f3 f4 f5 f6 f7 f8 f9 f10 f11 f12 f13 f14 f15 f16 f17 f18 f19 f20 f21 f22 f23 f24 f25 f26 f27 f28 f31 f32 f33 f34 f35 f36 f37 f38 f39 f40 hx29 hx30
   subst ha
   refine wpAny_tail 32 rfl (by kernel_rfl) ?_
   simp only [List.drop_succ_cons, List.drop_zero]
   have HKu := Lib.hid hku
   clear hku g29 g30
   go_wp2_with fail
   go_ret
   exact ⟨rfl, HKu.out⟩
  ·have hd : decide (pr < (nb : Int)) = false := decide_eq_false h1
   have hd0 : decide (0 ≤ pr) = true := decide_eq_true h0
   rw [decide_eq_false (fun h => h1 h.2), Bool.false_and] at hr
   subst hr
   clear HIn HL
   go_enter Tryz.func61, Tryz.ntmps61
   go_upto_region 1 with fail
   go_quiet (fail)
   go_wp2_with fail
   go_ret
   exact ⟨rfl, (Kp.refl _ _).drewN _⟩
 ·have hd : decide (0 ≤ pr) = false := decide_eq_false h0
  rw [decide_eq_false (fun h => h0 h.1), Bool.false_and] at hr
  subst hr
  clear HIn HL
  go_enter Tryz.func61, Tryz.ntmps61
  go_upto_region 1 with fail
  go_quiet (fail)
  go_wp2_with fail
  go_ret
  exact ⟨rfl, (Kp.refl _ _).drewN _⟩

set_option maxRecDepth 100000 in
set_option maxHeartbeats 4000000 in
theorem step_Holds (V : CV) (C : Circ) (p : Nat) (a4 a5 : Option Addr) (c4 c5 : Nat) (sa : Option Addr) (sn sc : Nat) (ia : Option Addr) (in_ ic : Nat) (st ip : List Bool) (w : World) (hM : MAt w 99 V C p a4 c4 a5 c5) (hf : CFew C 1000000) (hg : GoodC C) (hs : BS w sa sn st) (hi : BS w ia in_ ip) :
  Calls Tryz.prog 60 #[.pointer (some ⟨p, 0, none⟩), .slice sa sn sc, .slice ia in_ ic] w fun e w' => e = .returned (.bool (holdsM C st ip)) ∧ Kp (fun _ => False) w w' := by
 have HIn := Lib.hid (fun u (hu : Kp (fun _ => False) w u) => step_in V C p a4 a5 c4 c5 sa sn sc ia in_ ic st ip u (hM.kp hu) hf hg (hs.kp hu) (hi.kp hu))
 obtain ⟨nc, hnc⟩ : ∃ n, C.cons.length = n := ⟨_, rfl⟩
 have hnc1 : nc ≤ 1000000 := by have := hf.c; omega
 obtain ⟨r, hr⟩ : ∃ r, holdsM C st ip = r := ⟨_, rfl⟩
 rw [hr]
 unfold holdsM at hr
 have HAll := Lib.hid (fun u (hu : Kp (fun _ => False) w u) va vc (hv : RowAt u va (bv (valsM C st ip))) => by
  have h := step_all #[.slice va ((netOf C).1.length + 1) vc, .slice a5 (netOf C).2.length c5] _ _ rfl V.ac nc V.cc C.cons (litM C st ip) u ((hM.kp hu).circ.c) hnc hnc1 rfl rfl (fun u' hu' l hl => step_lit (vc := vc) (c5 := c5) hf hg ((hM.kp hu).ats) hv u' hu' l (by
   unfold Circ.used
   simp only [List.mem_append]
   exact .inl (.inl (.inr hl)))) va a5 _ vc _ c5 rfl rfl
  rw [hr] at h
  exact h)
 have HB : Hid (Blk w p #[.int .i64 C.max, .slice V.ai C.ins.length V.ci, .slice V.al C.lats.length V.cl, .slice V.ao C.outs.length V.co, .slice V.ab C.bads.length V.cb, .slice V.ac nc V.cc, .slice V.ag C.gates.length V.cg, .slice V.ay V.ny V.cy, .string V.cm, .slice a4 (netOf C).1.length c4, .slice a5 (netOf C).2.length c5] 99) := Lib.hid (by
  have h := hM.blk
  unfold cvals at h
  rw [hnc] at h
  exact h)
 clear hM hf hg hs hi hnc hr
 go_enter Tryz.func60, Tryz.ntmps60
 go_upto_region 1 with fail
 refine wp_region_looseG (p := upTo 15) (V := atV [EqV ((.pointer (some ⟨p, 0, none⟩))), EqV (.bool true), EqV (.bool true), EqV ((.pointer (some ⟨p, 0, none⟩))), EqV ((.slice sa sn sc)), EqV ((.slice ia in_ ic)), (fun u v => ∃ va vc, v = .agg #[.pointer (some ⟨p, 0, none⟩), .slice va ((netOf C).1.length + 1) vc, .slice a5 (netOf C).2.length c5] ∧ RowAt u va (bv (valsM C st ip))), (fun u v => ∃ va vc, v = .agg #[.slice va ((netOf C).1.length + 1) vc, .slice a5 (netOf C).2.length c5] ∧ RowAt u va (bv (valsM C st ip))), EqV ((.pointer (some ⟨p, 0, none⟩))), EqV (.pointer (some ⟨p, 0, none⟩)), EqV (.pointer (some ⟨p, 0, none⟩)), EqV (.pointer (some ⟨p, 5, none⟩)), EqV (.slice V.ac nc V.cc), EqV (.bool r), EqV (.bool r)]) (LP := #[true, true, true, true, true, true, true, true, true, true, true, true, true, true, true, false]) (K := 1) (by kernel_rfl) (by kernel_rfl) (atV_st ?hstL2) ?hstepL2 (by kernel_rfl) ?hLPL2 (by kernel_rfl) ?hendL2
 case hstL2 =>
  intro W h
  simp only [List.mem_cons, List.not_mem_nil, or_false] at h
  rcases h with rfl | rfl | rfl | rfl | rfl | rfl | rfl | rfl | rfl | rfl | rfl | rfl | rfl | rfl | rfl <;> first | exact EqV.st _ | exact fun _ _ _ k ⟨va, vc, h1, h2⟩ => ⟨va, vc, h1, h2.kp k (fun _ _ h => h)⟩
 case hLPL2 => exact upTo_spec (by kernel_rfl)
 case hstepL2 =>
  intro i o ho hp a u hk hoff hdep
  have e0 : a.tmps[0]?.getD undef = (.pointer (some ⟨p, 0, none⟩)) := slot_at (hoff 0 (noDst_spec (by kernel_rfl)))
  have e1 : a.tmps[1]?.getD undef = (.slice sa sn sc) := slot_at (hoff 1 (noDst_spec (by kernel_rfl)))
  have e2 : a.tmps[2]?.getD undef = (.slice ia in_ ic) := slot_at (hoff 2 (noDst_spec (by kernel_rfl)))
  clear hoff
  match i, ho with
  |0, ho =>
   obtain rfl := Option.some.inj ho
   refine lg_none rfl ?_
   refine lw_value (v := (.pointer (some ⟨p, 0, none⟩))) (u' := u) ?_ (Kp.refl _ _) rfl
   go_simp
  |1, ho =>
   obtain rfl := Option.some.inj ho
   have e7 : a.tmps[7]?.getD undef = (.pointer (some ⟨p, 0, none⟩)) := slot_at (hdep ⟨0, .data⟩ (by simp) rfl _ 7 rfl rfl)
   refine lg_none rfl ?_
   refine lw_value (v := .bool true) (u' := u) ?_ (Kp.refl _ _) rfl
   go_simp
  |2, ho =>
   obtain rfl := Option.some.inj ho
   have e8 : a.tmps[8]?.getD undef = .bool true := slot_at (hdep ⟨1, .data⟩ (by simp) rfl _ 8 rfl rfl)
   refine lg_none rfl ?_
   refine lw_value (v := .bool true) (u' := u) ?_ (Kp.refl _ _) rfl
   go_simp
  |3, ho =>
   obtain rfl := Option.some.inj ho
   have e9 : a.tmps[9]?.getD undef = .bool true := slot_at (hdep ⟨2, .guard⟩ (by simp) rfl _ 9 rfl rfl)
   refine lg_on (x := 9) rfl rfl e9 ?_
   refine lw_value (v := (.pointer (some ⟨p, 0, none⟩))) (u' := u) ?_ (Kp.refl _ _) rfl
   go_simp
  |4, ho =>
   obtain rfl := Option.some.inj ho
   have e9 : a.tmps[9]?.getD undef = .bool true := slot_at (hdep ⟨2, .guard⟩ (by simp) rfl _ 9 rfl rfl)
   refine lg_on (x := 9) rfl rfl e9 ?_
   refine lw_value (v := (.slice sa sn sc)) (u' := u) ?_ (Kp.refl _ _) rfl
   go_simp
  |5, ho =>
   obtain rfl := Option.some.inj ho
   have e9 : a.tmps[9]?.getD undef = .bool true := slot_at (hdep ⟨2, .guard⟩ (by simp) rfl _ 9 rfl rfl)
   refine lg_on (x := 9) rfl rfl e9 ?_
   refine lw_value (v := (.slice ia in_ ic)) (u' := u) ?_ (Kp.refl _ _) rfl
   go_simp
  |6, ho =>
   obtain rfl := Option.some.inj ho
   have e10 : a.tmps[10]?.getD undef = (.pointer (some ⟨p, 0, none⟩)) := slot_at (hdep ⟨3, .data⟩ (by simp) rfl _ 10 rfl rfl)
   have e11 : a.tmps[11]?.getD undef = (.slice sa sn sc) := slot_at (hdep ⟨4, .data⟩ (by simp) rfl _ 11 rfl rfl)
   have e12 : a.tmps[12]?.getD undef = (.slice ia in_ ic) := slot_at (hdep ⟨5, .data⟩ (by simp) rfl _ 12 rfl rfl)
   have e9 : a.tmps[9]?.getD undef = .bool true := slot_at (hdep ⟨2, .chain⟩ (by simp) rfl _ 9 rfl rfl)
   refine lg_on (x := 9) rfl rfl e9 ?_
   refine lw_call (f := 83) (args := #[.pointer (some ⟨p, 0, none⟩), .slice sa sn sc, .slice ia in_ ic]) ?_ ?_
   ·go_simp
   ·exact (HIn.out u hk).mono (by
     rintro e u' ⟨⟨va, vc, rfl, hv⟩, hK⟩
     exact ⟨_, rfl, hK, va, vc, rfl, hv⟩)
  |7, ho =>
   obtain rfl := Option.some.inj ho
   have e9 : a.tmps[9]?.getD undef = .bool true := slot_at (hdep ⟨2, .guard⟩ (by simp) rfl _ 9 rfl rfl)
   refine lg_on (x := 9) rfl rfl e9 ?_
   obtain ⟨va, vc, ev, hvr⟩ : ∃ va vc, (a.tmps.getD 13 undef) = .agg #[.pointer (some ⟨p, 0, none⟩), .slice va ((netOf C).1.length + 1) vc, .slice a5 (netOf C).2.length c5] ∧ RowAt u va (bv (valsM C st ip)) := hdep ⟨6, .data⟩ (by simp) rfl _ 13 rfl rfl
   have e13 := slot_at ev
   have hfd : ∀ W, (Instr.field 118 (.agg #[.pointer (some ⟨p, 0, none⟩), .slice va ((netOf C).1.length + 1) vc, .slice a5 (netOf C).2.length c5]) 1).run Tryz.prog W = .ok (.agg #[.slice va ((netOf C).1.length + 1) vc, .slice a5 (netOf C).2.length c5]) W := fun _ => by kernel_rfl
   refine lw_value (v := .agg #[.slice va ((netOf C).1.length + 1) vc, .slice a5 (netOf C).2.length c5]) (u' := u) ?_ (Kp.refl _ _) ⟨va, vc, rfl, hvr⟩
   go_simp
  |8, ho =>
   obtain rfl := Option.some.inj ho
   have e9 : a.tmps[9]?.getD undef = .bool true := slot_at (hdep ⟨2, .guard⟩ (by simp) rfl _ 9 rfl rfl)
   refine lg_on (x := 9) rfl rfl e9 ?_
   refine lw_value (v := (.pointer (some ⟨p, 0, none⟩))) (u' := u) ?_ (Kp.refl _ _) rfl
   go_simp
  |9, ho =>
   obtain rfl := Option.some.inj ho
   have e15 : a.tmps[15]?.getD undef = (.pointer (some ⟨p, 0, none⟩)) := slot_at (hdep ⟨8, .data⟩ (by simp) rfl _ 15 rfl rfl)
   have e9 : a.tmps[9]?.getD undef = .bool true := slot_at (hdep ⟨2, .guard⟩ (by simp) rfl _ 9 rfl rfl)
   refine lg_on (x := 9) rfl rfl e9 ?_
   refine lw_value (v := .pointer (some ⟨p, 0, none⟩)) (u' := u) ?_ (Kp.refl _ _) rfl
   go_simp
  |10, ho =>
   obtain rfl := Option.some.inj ho
   have e16 : a.tmps[16]?.getD undef = .pointer (some ⟨p, 0, none⟩) := slot_at (hdep ⟨9, .data⟩ (by simp) rfl _ 16 rfl rfl)
   have e9 : a.tmps[9]?.getD undef = .bool true := slot_at (hdep ⟨2, .guard⟩ (by simp) rfl _ 9 rfl rfl)
   refine lg_on (x := 9) rfl rfl e9 ?_
   refine lw_value (v := .pointer (some ⟨p, 0, none⟩)) (u' := u) ?_ (Kp.refl _ _) rfl
   go_simp
  |11, ho =>
   obtain rfl := Option.some.inj ho
   have e17 : a.tmps[17]?.getD undef = .pointer (some ⟨p, 0, none⟩) := slot_at (hdep ⟨10, .data⟩ (by simp) rfl _ 17 rfl rfl)
   have e9 : a.tmps[9]?.getD undef = .bool true := slot_at (hdep ⟨2, .guard⟩ (by simp) rfl _ 9 rfl rfl)
   refine lg_on (x := 9) rfl rfl e9 ?_
   refine lw_value (v := .pointer (some ⟨p, 5, none⟩)) (u' := u) ?_ (Kp.refl _ _) rfl
   go_simp
  |12, ho =>
   obtain rfl := Option.some.inj ho
   have e18 : a.tmps[18]?.getD undef = .pointer (some ⟨p, 5, none⟩) := slot_at (hdep ⟨11, .data⟩ (by simp) rfl _ 18 rfl rfl)
   have e9 : a.tmps[9]?.getD undef = .bool true := slot_at (hdep ⟨2, .guard⟩ (by simp) rfl _ 9 rfl rfl)
   refine lg_on (x := 9) rfl rfl e9 ?_
   have c1 := (HB.out.kp hk (fun h => h)).cell (i := 5) (v := .slice V.ac nc V.cc) rfl
   refine lw_value (v := .slice V.ac nc V.cc) (u' := u) ?_ (Kp.refl _ _) rfl
   go_simp
  |13, ho =>
   obtain rfl := Option.some.inj ho
   have e19 : a.tmps[19]?.getD undef = .slice V.ac nc V.cc := slot_at (hdep ⟨12, .data⟩ (by simp) rfl _ 19 rfl rfl)
   have e9 : a.tmps[9]?.getD undef = .bool true := slot_at (hdep ⟨2, .guard⟩ (by simp) rfl _ 9 rfl rfl)
   refine lg_on (x := 9) rfl rfl e9 ?_
   obtain ⟨va, vc, ev, hvr⟩ : ∃ va vc, (a.tmps.getD 14 undef) = .agg #[.slice va ((netOf C).1.length + 1) vc, .slice a5 (netOf C).2.length c5] ∧ RowAt u va (bv (valsM C st ip)) := hdep ⟨7, .data⟩ (by simp) rfl _ 14 rfl rfl
   have e14 := slot_at ev
   refine lw_call (f := 84) (args := #[.agg #[.slice va ((netOf C).1.length + 1) vc, .slice a5 (netOf C).2.length c5], .slice V.ac nc V.cc]) ?_ ?_
   ·go_simp
   ·exact (HAll.out u hk va vc hvr).mono (by
     rintro e u' ⟨rfl, hK⟩
     exact ⟨_, rfl, hK, rfl⟩)
  |14, ho =>
   obtain rfl := Option.some.inj ho
   have e9 : a.tmps[9]?.getD undef = .bool true := slot_at (hdep ⟨2, .data⟩ (by simp) rfl _ 9 rfl rfl)
   have e20 : a.tmps[20]?.getD undef = .bool r := slot_at (hdep ⟨13, .data⟩ (by simp) rfl _ 20 rfl rfl)
   refine lg_none rfl ?_
   refine lw_value (v := .bool r) (u' := u) ?_ (Kp.refl _ _) rfl
   go_simp
  |n + 15, _ => exact absurd hp (by simp [upTo])
 intro a u hI
 have hsz : a.tmps.size = 22 := hI.size
 have hdf : a.defers = [] := hI.defers
 have f0 := hI.o 0 (by kernel_rfl)
 have f1 := hI.o 1 (by kernel_rfl)
 have f2 := hI.o 2 (by kernel_rfl)
 have f3 := hI.o 3 (by kernel_rfl)
 have f4 := hI.o 4 (by kernel_rfl)
 have f5 := hI.o 5 (by kernel_rfl)
 have f6 := hI.o 6 (by kernel_rfl)
 have f7 : a.tmps.getD 7 undef = (.pointer (some ⟨p, 0, none⟩)) := hI.val 0 _ 7 rfl rfl rfl
 have f8 : a.tmps.getD 8 undef = .bool true := hI.val 1 _ 8 rfl rfl rfl
 have f9 : a.tmps.getD 9 undef = .bool true := hI.val 2 _ 9 rfl rfl rfl
 have f10 : a.tmps.getD 10 undef = (.pointer (some ⟨p, 0, none⟩)) := hI.val 3 _ 10 rfl rfl rfl
 have f11 : a.tmps.getD 11 undef = (.slice sa sn sc) := hI.val 4 _ 11 rfl rfl rfl
 have f12 : a.tmps.getD 12 undef = (.slice ia in_ ic) := hI.val 5 _ 12 rfl rfl rfl
 have g13 : ((fun u v => ∃ va vc, v = .agg #[.pointer (some ⟨p, 0, none⟩), .slice va ((netOf C).1.length + 1) vc, .slice a5 (netOf C).2.length c5] ∧ RowAt u va (bv (valsM C st ip)))) u (a.tmps.getD 13 undef) := hI.val 6 _ 13 rfl rfl rfl
 have g14 : ((fun u v => ∃ va vc, v = .agg #[.slice va ((netOf C).1.length + 1) vc, .slice a5 (netOf C).2.length c5] ∧ RowAt u va (bv (valsM C st ip)))) u (a.tmps.getD 14 undef) := hI.val 7 _ 14 rfl rfl rfl
 have f15 : a.tmps.getD 15 undef = (.pointer (some ⟨p, 0, none⟩)) := hI.val 8 _ 15 rfl rfl rfl
 have f16 : a.tmps.getD 16 undef = .pointer (some ⟨p, 0, none⟩) := hI.val 9 _ 16 rfl rfl rfl
 have f17 : a.tmps.getD 17 undef = .pointer (some ⟨p, 0, none⟩) := hI.val 10 _ 17 rfl rfl rfl
 have f18 : a.tmps.getD 18 undef = .pointer (some ⟨p, 5, none⟩) := hI.val 11 _ 18 rfl rfl rfl
 have f19 : a.tmps.getD 19 undef = .slice V.ac nc V.cc := hI.val 12 _ 19 rfl rfl rfl
 have f20 : a.tmps.getD 20 undef = .bool r := hI.val 13 _ 20 rfl rfl rfl
 have f21 : a.tmps.getD 21 undef = .bool r := hI.val 14 _ 21 rfl rfl rfl
 have ha := act_list22 a hsz
 rw [hdf, f0, f1, f2, f3, f4, f5, f6, f7, f8, f9, f10, f11, f12, f15, f16, f17, f18, f19, f20, f21] at ha
 obtain ⟨x13, hx13⟩ : ∃ x, a.tmps.getD 13 undef = x := ⟨_, rfl⟩
 obtain ⟨x14, hx14⟩ : ∃ x, a.tmps.getD 14 undef = x := ⟨_, rfl⟩
 rw [hx13, hx14] at ha
 rw [hx13] at g13
 rw [hx14] at g14
 have hku := hI.kp
 clear hI hsz hdf f0 f1 f2 f3 f4 f5 f6 f7 f8 f9 f10 f11 f12 f15 f16 f17 f18 f19 f20 f21 hx13 hx14
 subst ha
 refine wpAny_tail 15 rfl (by kernel_rfl) ?_
 simp only [List.drop_succ_cons, List.drop_zero]
 have HKu := Lib.hid hku
 clear hku g13 g14
 go_wp2_with fail
 go_ret
 exact ⟨rfl, HKu.out⟩

end Go.Proofs.YtnoknecfdnjomaaGreat

/-
  explore: what a state does by itself.
-/
namespace Go.Proofs.YtnoknecfdnjomaaGreat
open Go.RowKit

theorem Kp.cellAt2 {w w' : World} (k : Kp (fun _ => False) w w') {b o : Nat} {v : Value} (h : w.cell? ⟨b, o, none⟩ = some v) : w'.cell? ⟨b, o, none⟩ = some v :=
 (World.cell?_of_block (w := w) (w' := w') (a := ⟨b, o, none⟩) (k.block b (World.block_lt_of_cell? w _ h) (fun h => h))).trans h

set_option maxRecDepth 100000 in
set_option maxHeartbeats 8000000 in
theorem ex_row {V : CV} {C : Circ} {p sp : Nat} {a4 a5 : Option Addr} {c4 c5 : Nat} {w : World} (hM : MAt w 99 V C p a4 c4 a5 c5) (hf : CFew C 1000000) (hg : GoodC C) (hs : w.cell? ⟨sp, 0, none⟩ = some (.pointer (some ⟨p, 0, none⟩))) (hl : C.lats.length ≤ 10) (hi : C.ins.length ≤ 8) (n : Nat) (hn : n < 2 ^ C.lats.length) (pr : Int) :
  Calls Tryz.prog 36 #[.pointer (some ⟨sp, 0, none⟩), .int .i64 n, .int .i64 pr] w fun e w' => (∃ b k, e = .returned (.agg #[.map (some b), .int .i64 (rowB C pr n), .int .i64 (-1), .int .i64 (-1)]) ∧ IMI w' b k (rowF2 C n) ∧ w.heap.size ≤ b ∧ k ≤ 256) ∧ Kp (fun _ => False) w w' := by
 have hmm := @run_makeMap Tryz.prog
 have HSt := Lib.hid (fun u (hu : Kp (fun _ => False) w u) => ex_state (hM.kp hu) hf ((hu.cellAt2 hs)) hl n hn)
 have HInp := Lib.hid (fun u (hu : Kp (fun _ => False) w u) k (hk : k < 2 ^ C.ins.length) => ex_input (hM.kp hu) hf ((hu.cellAt2 hs)) hi k hk)
 have HIs := Lib.hid (fun u (hu : Kp (fun _ => False) w u) => step_Inputs V C p a4 a5 c4 c5 u (hM.kp hu) hf)
 have HHo := Lib.hid (fun u (hu : Kp (fun _ => False) w u) k sa sc ia ic (h1 : BS u sa C.lats.length (stN C n)) (h2 : BS u ia C.ins.length (inN2 C k)) => show Calls Tryz.prog 60 #[.pointer (some ⟨p, 0, none⟩), .slice sa C.lats.length sc, .slice ia C.ins.length ic] u (fun e w' => e = .returned (.bool (hldN C n k)) ∧ Kp (fun _ => False) u w') from step_Holds V C p a4 a5 c4 c5 sa _ sc ia _ ic _ _ u (hM.kp hu) hf hg h1 h2)
 have HBa := Lib.hid (fun u (hu : Kp (fun _ => False) w u) k sa sc ia ic (h1 : BS u sa C.lats.length (stN C n)) (h2 : BS u ia C.ins.length (inN2 C k)) => show Calls Tryz.prog 61 #[.pointer (some ⟨p, 0, none⟩), .slice sa C.lats.length sc, .slice ia C.ins.length ic, .int .i64 pr] u (fun e w' => e = .returned (.bool (bdN C pr n k)) ∧ Kp (fun _ => False) u w') from step_Bad V C p a4 a5 c4 c5 sa _ sc ia _ ic _ _ pr u (hM.kp hu) hf hg h1 h2)
 have HNx := Lib.hid (fun u (hu : Kp (fun _ => False) w u) k sa sc ia ic (h1 : BS u sa C.lats.length (stN C n)) (h2 : BS u ia C.ins.length (inN2 C k)) => step_Next V C p a4 a5 c4 c5 sa _ sc ia _ ic _ _ u (hM.kp hu) hf hg h1 h2)
 have HNl := Lib.hid (fun k => nextM_len C (stN C n) (inN2 C k))
 have HXl := Lib.hid (fun k => show nxtN C n k < 1024 from by
  have h1 := numP_lt (nextM C (stN C n) (inN2 C k))
  rw [nextM_len] at h1
  have h2 := Nat.pow_le_pow_right (n := 2) (by decide) hl
  exact Nat.lt_of_lt_of_le h1 h2)
 have HNm := Lib.hid (fun (u : World) k a c (hr : RowAt u a (bv (nextM C (stN C n) (inN2 C k)))) => show Calls Tryz.prog 62 #[.slice a C.lats.length c] u (fun e w' => e = .returned (.int .i64 (nxtN C n k : Int)) ∧ u = w') from ex_number a _ c _ u hr (nextM_len C _ _) (by omega))
 have HSl := Lib.hid (show (stN C n).length = C.lats.length from bitsP_len _ _)
 have HIl := Lib.hid (fun k => show (inN2 C k).length = C.ins.length from bitsP_len _ _)
 have HRw := Lib.hid (show rowF2 C n = succK (hldN C n) (nxtN C n) (2 ^ C.ins.length) ∧ rowB C pr n = badK (hldN C n) (bdN C pr n) (2 ^ C.ins.length) from ⟨rfl, rfl⟩)
 obtain ⟨F2, hF2⟩ : ∃ F, rowF2 C n = F := ⟨_, rfl⟩
 obtain ⟨B2, hB2⟩ : ∃ B, rowB C pr n = B := ⟨_, rfl⟩
 rw [hF2, hB2] at HRw
 rw [hF2, hB2]
 obtain ⟨P, hP⟩ : ∃ P, 2 ^ C.ins.length = P := ⟨_, rfl⟩
 have hP9 : P ≤ 256 := by rw [← hP]; have h2 := Nat.pow_le_pow_right (n := 2) (by decide) hi; exact h2
 have HPw := Lib.hid (show wrap64 ((2 : Int) ^ C.ins.length) = (P : Int) by
  have e0 : ((2 : Int) ^ C.ins.length) = ((2 ^ C.ins.length : Nat) : Int) := by push_cast; rfl
  rw [e0, hP]
  unfold wrap64; omega)
 rw [hP] at HRw
 simp only [hP] at HInp
 obtain ⟨nl, hnl⟩ : ∃ nl, C.lats.length = nl := ⟨_, rfl⟩
 obtain ⟨ni, hni⟩ : ∃ ni, C.ins.length = ni := ⟨_, rfl⟩
 rw [hnl] at HSl
 simp only [hnl] at HNl HNm
 simp only [hnl, hni] at HHo HBa HNx
 simp only [hni] at HIs HIl
 rw [hni] at HPw
 obtain ⟨H, hH⟩ : ∃ H, hldN C n = H := ⟨_, rfl⟩
 obtain ⟨X, hX⟩ : ∃ X, nxtN C n = X := ⟨_, rfl⟩
 obtain ⟨B, hB⟩ : ∃ B, bdN C pr n = B := ⟨_, rfl⟩
 rw [hH, hX, hB] at HRw
 simp only [hH] at HHo
 simp only [hB] at HBa
 simp only [hX] at HNm HXl
 rw [hni] at hi
 rw [hnl] at hl
 clear hM hf hg hF2 hB2 hP hnl hni hH hX hB hn
 go_enter Tryz.func36, Tryz.ntmps36
 go_upto_region 2 with fail
 clear hmm
 obtain ⟨W1, hW1⟩ : ∃ W1, ((w.alloc (.cells #[.map none, .int .i64 0, .int .i64 0, .int .i64 0] 75)).alloc (.map #[] 0)).alloc (.cells #[.map (some (w.heap.size + 1)), .int .i64 (-1), .int .i64 (-1), .int .i64 (-1)] 75) = W1 := ⟨_, rfl⟩
 have k1 : Kp (fun _ => False) w W1 := by rw [← hW1]; exact (((Kp.refl _ w).alloc _).alloc _).alloc _
 have HR0 := Lib.hid (show Blk W1 w.heap.size #[.map none, .int .i64 0, .int .i64 0, .int .i64 0] 75 by rw [← hW1]; exact ((Blk.new w _ _).alloc _).alloc _)
 have HM0 := Lib.hid (show IMI W1 (w.heap.size + 1) 0 (succK H X 0) by
  rw [← hW1]
  have h := IMI.made (w.alloc (.cells #[.map none, .int .i64 0, .int .i64 0, .int .i64 0] 75))
  rw [World.size_alloc] at h
  exact h.kp ((Kp.refl (fun _ => False) _).alloc _) (fun h => h))
 have HX0 := Lib.hid (show Blk W1 (w.heap.size + 1 + 1) #[.map (some (w.heap.size + 1)), .int .i64 (-1), .int .i64 (-1), .int .i64 (-1)] 75 by
  rw [← hW1]
  have h := Blk.new ((w.alloc (.cells #[.map none, .int .i64 0, .int .i64 0, .int .i64 0] 75)).alloc (.map #[] 0)) #[.map (some (w.heap.size + 1)), .int .i64 (-1), .int .i64 (-1), .int .i64 (-1)] 75
  rw [World.size_alloc, World.size_alloc] at h
  exact h)
 rw [hW1]
 obtain ⟨r0, hr0⟩ : ∃ r0, w.heap.size = r0 := ⟨_, rfl⟩
 obtain ⟨b, hb⟩ : ∃ b, r0 + 1 = b := ⟨_, rfl⟩
 obtain ⟨hx, hhx⟩ : ∃ hx, b + 1 = hx := ⟨_, rfl⟩
 rw [hr0, hb, hhx] at HX0
 rw [hr0, hb] at HM0
 rw [hr0] at HR0
 rw [hr0, hb, hhx]
 have HLo := Lib.hid (show w.heap.size = r0 ∧ r0 + 1 = b ∧ b + 1 = hx from ⟨hr0, hb, hhx⟩)
 have HK1 := Lib.hid k1
 have HSt1 := Lib.hid (HSt.out W1 k1)
 clear hW1 hr0 hb hhx k1 HSt
 go_upto_region 4 with (first
  |(go_at_call 52; refine HSt1.out.mono ?_; rintro e w2 ⟨v8, rfl, hO, hK⟩; obtain ⟨sa, sc, e8, -, -, hb8, hr8⟩ := hO.form; rw [bv_length, HSl.out] at e8; subst e8; have HRs := Lib.hid hr8; have HBs := Lib.hid (fun q (hq : sa = some q) => show hx < q.block from (by obtain ⟨g, rfl, h1, -⟩ := hb8 q hq; have h2 := HX0.out.lt; show hx < g; omega)); have HK2 := Lib.hid hK; have HIs2 := Lib.hid (HIs.out w2 (HK1.out.trans hK (fun _ _ h => h))); have hs2 := (HK1.out.trans hK (fun _ _ h => h)).cellAt2 hs; clear hO hK hb8 hr8)
  |(go_at_call 35; refine HIs2.out.mono ?_; rintro e w' ⟨rfl, rfl⟩))
 rw [HPw.out]
 clear HPw HIs2 HSt1
 have HKw := Lib.hid (HK1.out.trans HK2.out (fun _ _ h => h))
 have HX2 := Lib.hid (HX0.out.kp HK2.out (fun h => h))
 have HM2 := Lib.hid (HM0.out.kp HK2.out (fun h => h))
 have HR2 := Lib.hid (HR0.out.kp HK2.out (fun h => h))
 clear HX0 HM0 HR0
 go_loopw [25] (fun v25 wr => ∃ k q : Nat, v25 = .int .i64 (k : Int) ∧ k ≤ P ∧ Blk wr hx #[.map (some b), .int .i64 (badK H B k), .int .i64 (-1), .int .i64 (-1)] 75 ∧ IMI wr b q (succK H X k) ∧ q ≤ k ∧ Kp (fun j => j = hx ∨ j = b) w2 wr) (fun v25 _ => P - (intOf v25).toNat)
 case atStart => exact ⟨0, 0, rfl, Nat.zero_le _, HX2.out, HM2.out, Nat.le_refl _, Kp.refl _ _⟩
 case round =>
  clear HX2 HM2 hs2
  obtain ⟨k, q, rfl, hk, hBk, hIm, hq, hK⟩ := hrel
  have HBk := Lib.hid hBk
  have HIm := Lib.hid hIm
  have HK := Lib.hid hK
  clear hBk hIm hK
  obtain ⟨wp, rfl⟩ : ∃ wp : World, wp = wr := ⟨_, rfl⟩
  have HKp := Lib.hid (HKw.out.trans HK.out (fun j hj h => by have := HLo.out; omega))
  by_cases hlt : k < P
  ·have HIk := Lib.hid (HInp.out wp HKp.out k hlt)
   have HBS := Lib.hid (fun u (hu : Kp (fun j => j = hx ∨ j = b) w2 u) => show BS u sa nl (stN C n) from ⟨HRs.out.kp hu (fun p hp e => by have := HBs.out p hp; have := HLo.out; omega), HSl.out, by omega⟩)
   have hsp := HKp.out.cellAt2 hs
   have hk256 : k < 256 := by omega
   obtain ⟨y, hy⟩ : ∃ y, H k = y := ⟨_, rfl⟩
   cases y with
   |false =>
    go_upto_region 7 with (go_at_call 53; refine HIk.out.mono ?_; rintro e w3 ⟨v10, rfl, hO, hK3⟩; obtain ⟨ia, ic, e10, -, -, hb10, hr10⟩ := hO.form; rw [bv_length, HIl.out] at e10; subst e10; have HRi := Lib.hid hr10; have HBi := Lib.hid (fun q (hq : ia = some q) => show q.block ≠ hx ∧ q.block ≠ b from (by obtain ⟨g, rfl, h1, -⟩ := hb10 q hq; have h2 := HBk.out.lt; have h3 := HIm.out.lt; exact ⟨fun e => by simp only at e; omega, fun e => by simp only at e; omega⟩)); have HK3 := Lib.hid hK3; have HK3w := Lib.hid (HKp.out.trans hK3 (fun _ _ h => h)); have HK3b := Lib.hid (HK.out.trans (hK3.mono (fun _ _ h => h.elim)) (fun _ _ h => h)); have HBI := Lib.hid (show BS w3 ia ni (inN2 C k) from ⟨hr10, HIl.out k, by omega⟩); clear hO hK3 hb10 hr10)
    have HHk := Lib.hid (HHo.out w3 HK3w.out k sa sc ia ic (HBS.out w3 HK3b.out) HBI.out)
    rw [hy] at HHk
    have hs3 := HK3w.out.cellAt2 hs
    go_wp2_with (go_at_call 60; refine HHk.out.mono ?_; rintro e w4 ⟨rfl, hK4⟩; have HK4 := Lib.hid hK4; clear hK4)
    go_roundw
    case rel => exact ⟨k + 1, q, by go_num, hlt, by
     have e : badK H B (k + 1) = badK H B k := by show (if _ then _ else _) = _; rw [if_neg (fun z => by rw [hy] at z; cases z.2.1)]
     rw [e]; exact (HBk.out.kp HK3.out (fun h => h)).kp HK4.out (fun h => h), by rw [succK_skip hy]; exact (HIm.out.kp HK3.out (fun h => h)).kp HK4.out (fun h => h), by omega, HK3b.out.trans (HK4.out.mono (fun _ _ h => h.elim)) (fun _ _ h => h)⟩
    case measure => simp [intOf]; omega
   |true =>
    have HHt := Lib.hid hy
    by_cases hbk : badK H B k = -1
    ·obtain ⟨yb, hyb⟩ : ∃ y, B k = y := ⟨_, rfl⟩
     cases yb with
     |true =>
      have HBe := Lib.hid (show badK H B (k + 1) = (k : Int) by show (if _ then _ else _) = _; rw [if_pos ⟨hbk, HHt.out, hyb⟩])
      have HYb := Lib.hid hyb
      rw [hbk] at HBk
      clear hbk hyb
      go_upto_region 7 with (go_at_call 53; refine HIk.out.mono ?_; rintro e w3 ⟨v10, rfl, hO, hK3⟩; obtain ⟨ia, ic, e10, -, -, hb10, hr10⟩ := hO.form; rw [bv_length, HIl.out] at e10; subst e10; have HRi := Lib.hid hr10; have HBi := Lib.hid (fun q (hq : ia = some q) => show q.block ≠ hx ∧ q.block ≠ b from (by obtain ⟨g, rfl, h1, -⟩ := hb10 q hq; have h2 := HBk.out.lt; have h3 := HIm.out.lt; exact ⟨fun e => by simp only at e; omega, fun e => by simp only at e; omega⟩)); have HK3 := Lib.hid hK3; have HK3w := Lib.hid (HKp.out.trans hK3 (fun _ _ h => h)); have HK3b := Lib.hid (HK.out.trans (hK3.mono (fun _ _ h => h.elim)) (fun _ _ h => h)); have HBI := Lib.hid (show BS w3 ia ni (inN2 C k) from ⟨hr10, HIl.out k, by omega⟩); clear hO hK3 hb10 hr10)
      have HHk := Lib.hid (HHo.out w3 HK3w.out k sa sc ia ic (HBS.out w3 HK3b.out) HBI.out)
      rw [HHt.out] at HHk
      have hs3 := HK3w.out.cellAt2 hs
      go_upto_region 8 with (go_at_call 60; refine HHk.out.mono ?_; rintro e w4 ⟨rfl, hK4⟩; have HK4 := Lib.hid hK4; clear hK4)
      have HB4 := Lib.hid ((HBk.out.kp HK3.out (fun h => h)).kp HK4.out (fun h => h))
      have HI4 := Lib.hid ((HIm.out.kp HK3.out (fun h => h)).kp HK4.out (fun h => h))
      have HK4b := Lib.hid (HK3b.out.trans (HK4.out.mono (fun _ _ h => h.elim)) (fun _ _ h => h))
      have HK4w := Lib.hid (HK3w.out.trans HK4.out (fun _ _ h => h))
      have HBI4 := Lib.hid (HBI.out.kp HK4.out)
      have hs4 := HK4w.out.cellAt2 hs
      have b1 := HB4.out.cell (i := 1) rfl
      have HBd := Lib.hid (HBa.out w4 HK4w.out k sa sc ia ic (HBS.out w4 HK4b.out) HBI4.out)
      rw [HYb.out] at HBd
      go_upto_region 9 with (go_at_call 61; refine HBd.out.mono ?_; rintro e w5 ⟨rfl, hK5⟩; have HK5 := Lib.hid hK5; clear hK5)
      have HB5 := Lib.hid (HB4.out.kp HK5.out (fun h => h))
      have n1 := HB5.out.cell (i := 1) rfl
      have f1 := HB5.out.free 1
      go_upto_region 10 with fail
      have HKs := Lib.hid (Kp.set w5 ⟨hx, 1, none⟩ (.int .i64 (k : Int)))
      have HBt := Lib.hid (show Blk (w5.setCell ⟨hx, 1, none⟩ (.int .i64 (k : Int))) hx #[.map (some b), .int .i64 (k : Int), .int .i64 (-1), .int .i64 (-1)] 75 from HB5.out.set_same 1 _)
      have HIt := Lib.hid ((HI4.out.kp HK5.out (fun h => h)).kp HKs.out (fun e => by have := HLo.out; have e2 : b = hx := e; omega))
      have HKt := Lib.hid ((HK4b.out.trans (HK5.out.mono (T := fun j => j = hx ∨ j = b) (fun _ _ h => h.elim)) (fun _ _ h => h)).trans (HKs.out.mono (T := fun j => j = hx ∨ j = b) (fun _ _ h => .inl h)) (fun _ _ h => h))
      have HBIt := Lib.hid (show BS (w5.setCell ⟨hx, 1, none⟩ (.int .i64 (k : Int))) ia ni (inN2 C k) from ⟨(HBI4.out.kp HK5.out).row.kp HKs.out (fun p hp e => (HBi.out p hp).1 e), HBI.out.len, HBI.out.most⟩)
      obtain ⟨wt, hwt⟩ : ∃ wt, w5.setCell ⟨hx, 1, none⟩ (.int .i64 (k : Int)) = wt := ⟨_, rfl⟩
      rw [hwt] at HBt HIt HKt HBIt
      rw [hwt]
      clear hwt HKs
      have HKtw := Lib.hid (HKw.out.trans HKt.out (fun j hj h => by have := HLo.out; omega))
      have HNt := Lib.hid (HNx.out wt HKtw.out k sa sc ia ic (HBS.out wt HKt.out) HBIt.out)
      have hst := HKtw.out.cellAt2 hs
      go_upto_region 11 with (first
       |(go_at_call 63; refine HNt.out.mono ?_; rintro e w7 ⟨v60, rfl, hO7, hK7⟩; obtain ⟨na, nc, e60, -, -, -, hr60⟩ := hO7.form; rw [bv_length, HNl.out] at e60; subst e60; have HNk := Lib.hid (HNm.out w7 k na nc hr60); have HK7 := Lib.hid hK7; clear hO7 hr60 hK7)
       |(go_at_call 62; refine HNk.out.mono ?_; rintro e w' ⟨rfl, rfl⟩))
      have HB7 := Lib.hid (HBt.out.kp HK7.out (fun h => h))
      have hI7 := HIt.out.kp HK7.out (fun h => h)
      have hX9 := HXl.out k
      have hlook := hI7.look (x := (X k : Int)) ⟨by omega, by omega⟩
      have m0 := HB7.out.cell (i := 0) rfl
      have HK7b := Lib.hid (HKt.out.trans (HK7.out.mono (fun _ _ h => h.elim)) (fun _ _ h => h))
      cases hfx : succK H X k (X k : Int) with
      |some i0 =>
       have HTh := Lib.hid (succK_there (H := H) (X := X) (k := k) (by rw [hfx]; rfl))
       rw [hfx] at hlook
       have hlook2 : (Instr.lookup 73 (.map (some b)) (.int .i64 (X k : Int)) true).run Tryz.prog w7 = .ok (.tuple #[.int .i64 i0, .bool true]) w7 := hlook
       have HI7 := Lib.hid hI7
       clear hlook hfx hI7
       obtain ⟨x, hxx⟩ : ∃ x : Int, (X k : Int) = x := ⟨_, rfl⟩
       rw [hxx] at hlook2
       rw [hxx]
       clear hxx
       go_wp2_with fail
       go_roundw
       case rel => exact ⟨k + 1, q, by go_num, hlt, by rw [HBe.out]; exact HB7.out, by rw [HTh.out]; exact HI7.out, by omega, HK7b.out⟩
       case measure => simp [intOf]; omega
      |none =>
       have HPt := Lib.hid (succK_put (H := H) (X := X) (k := k) HHt.out (by rw [hfx]; rfl))
       rw [hfx] at hlook
       have hlook2 : (Instr.lookup 73 (.map (some b)) (.int .i64 (X k : Int)) true).run Tryz.prog w7 = .ok (.tuple #[.int .i64 0, .bool false]) w7 := hlook
       obtain ⟨w8, hput, hI8, hK8⟩ := hI7.put (by unfold maxLen; omega) (x := (X k : Int)) ⟨by omega, by omega⟩ (v := (k : Int)) ⟨by omega, by omega⟩
       have HI8 := Lib.hid hI8
       have HK8 := Lib.hid (HK7b.out.trans (hK8.mono (T := fun j => j = hx ∨ j = b) (fun _ _ h => .inr h)) (fun _ _ h => h))
       have HB8 := Lib.hid (HB7.out.kp hK8 (fun e => by have := HLo.out; omega))
       clear hlook hfx hI7 hI8 hK8
       obtain ⟨x, hxx⟩ : ∃ x : Int, (X k : Int) = x := ⟨_, rfl⟩
       rw [hxx] at hlook2 hput HI8 HPt
       rw [hxx]
       clear hxx
       go_wp2_with fail
       go_roundw
       case rel => exact ⟨k + 1, q + 1, by go_num, hlt, by rw [HBe.out]; exact HB8.out, by rw [HPt.out]; exact HI8.out, by omega, HK8.out⟩
       case measure => simp [intOf]; omega
     |false =>
      have HBe := Lib.hid (show badK H B (k + 1) = -1 by show (if _ then _ else _) = _; rw [if_neg (fun z => by rw [hyb] at z; cases z.2.2)]; exact hbk)
      have HYb := Lib.hid hyb
      rw [hbk] at HBk
      clear hbk hyb
      go_upto_region 7 with (go_at_call 53; refine HIk.out.mono ?_; rintro e w3 ⟨v10, rfl, hO, hK3⟩; obtain ⟨ia, ic, e10, -, -, hb10, hr10⟩ := hO.form; rw [bv_length, HIl.out] at e10; subst e10; have HRi := Lib.hid hr10; have HBi := Lib.hid (fun q (hq : ia = some q) => show q.block ≠ hx ∧ q.block ≠ b from (by obtain ⟨g, rfl, h1, -⟩ := hb10 q hq; have h2 := HBk.out.lt; have h3 := HIm.out.lt; exact ⟨fun e => by simp only at e; omega, fun e => by simp only at e; omega⟩)); have HK3 := Lib.hid hK3; have HK3w := Lib.hid (HKp.out.trans hK3 (fun _ _ h => h)); have HK3b := Lib.hid (HK.out.trans (hK3.mono (fun _ _ h => h.elim)) (fun _ _ h => h)); have HBI := Lib.hid (show BS w3 ia ni (inN2 C k) from ⟨hr10, HIl.out k, by omega⟩); clear hO hK3 hb10 hr10)
      have HHk := Lib.hid (HHo.out w3 HK3w.out k sa sc ia ic (HBS.out w3 HK3b.out) HBI.out)
      rw [HHt.out] at HHk
      have hs3 := HK3w.out.cellAt2 hs
      go_upto_region 8 with (go_at_call 60; refine HHk.out.mono ?_; rintro e w4 ⟨rfl, hK4⟩; have HK4 := Lib.hid hK4; clear hK4)
      have HB4 := Lib.hid ((HBk.out.kp HK3.out (fun h => h)).kp HK4.out (fun h => h))
      have HI4 := Lib.hid ((HIm.out.kp HK3.out (fun h => h)).kp HK4.out (fun h => h))
      have HK4b := Lib.hid (HK3b.out.trans (HK4.out.mono (fun _ _ h => h.elim)) (fun _ _ h => h))
      have HK4w := Lib.hid (HK3w.out.trans HK4.out (fun _ _ h => h))
      have HBI4 := Lib.hid (HBI.out.kp HK4.out)
      have hs4 := HK4w.out.cellAt2 hs
      have b1 := HB4.out.cell (i := 1) rfl
      have HBd := Lib.hid (HBa.out w4 HK4w.out k sa sc ia ic (HBS.out w4 HK4b.out) HBI4.out)
      rw [HYb.out] at HBd
      go_upto_region 10 with (go_at_call 61; refine HBd.out.mono ?_; rintro e w5 ⟨rfl, hK5⟩; have HK5 := Lib.hid hK5; clear hK5)
      have HBt := Lib.hid (HB4.out.kp HK5.out (fun h => h))
      have HIt := Lib.hid (HI4.out.kp HK5.out (fun h => h))
      have HKt := Lib.hid (HK4b.out.trans (HK5.out.mono (T := fun j => j = hx ∨ j = b) (fun _ _ h => h.elim)) (fun _ _ h => h))
      have HBIt := Lib.hid (HBI4.out.kp HK5.out)
      have HKtw := Lib.hid (HKw.out.trans HKt.out (fun j hj h => by have := HLo.out; omega))
      have HNt := Lib.hid (HNx.out w5 HKtw.out k sa sc ia ic (HBS.out w5 HKt.out) HBIt.out)
      have hst := HKtw.out.cellAt2 hs
      go_upto_region 11 with (first
       |(go_at_call 63; refine HNt.out.mono ?_; rintro e w7 ⟨v60, rfl, hO7, hK7⟩; obtain ⟨na, nc, e60, -, -, -, hr60⟩ := hO7.form; rw [bv_length, HNl.out] at e60; subst e60; have HNk := Lib.hid (HNm.out w7 k na nc hr60); have HK7 := Lib.hid hK7; clear hO7 hr60 hK7)
       |(go_at_call 62; refine HNk.out.mono ?_; rintro e w' ⟨rfl, rfl⟩))
      have HB7 := Lib.hid (HBt.out.kp HK7.out (fun h => h))
      have hI7 := HIt.out.kp HK7.out (fun h => h)
      have hX9 := HXl.out k
      have hlook := hI7.look (x := (X k : Int)) ⟨by omega, by omega⟩
      have m0 := HB7.out.cell (i := 0) rfl
      have HK7b := Lib.hid (HKt.out.trans (HK7.out.mono (fun _ _ h => h.elim)) (fun _ _ h => h))
      cases hfx : succK H X k (X k : Int) with
      |some i0 =>
       have HTh := Lib.hid (succK_there (H := H) (X := X) (k := k) (by rw [hfx]; rfl))
       rw [hfx] at hlook
       have hlook2 : (Instr.lookup 73 (.map (some b)) (.int .i64 (X k : Int)) true).run Tryz.prog w7 = .ok (.tuple #[.int .i64 i0, .bool true]) w7 := hlook
       have HI7 := Lib.hid hI7
       clear hlook hfx hI7
       obtain ⟨x, hxx⟩ : ∃ x : Int, (X k : Int) = x := ⟨_, rfl⟩
       rw [hxx] at hlook2
       rw [hxx]
       clear hxx
       go_wp2_with fail
       go_roundw
       case rel => exact ⟨k + 1, q, by go_num, hlt, by rw [HBe.out]; exact HB7.out, by rw [HTh.out]; exact HI7.out, by omega, HK7b.out⟩
       case measure => simp [intOf]; omega
      |none =>
       have HPt := Lib.hid (succK_put (H := H) (X := X) (k := k) HHt.out (by rw [hfx]; rfl))
       rw [hfx] at hlook
       have hlook2 : (Instr.lookup 73 (.map (some b)) (.int .i64 (X k : Int)) true).run Tryz.prog w7 = .ok (.tuple #[.int .i64 0, .bool false]) w7 := hlook
       obtain ⟨w8, hput, hI8, hK8⟩ := hI7.put (by unfold maxLen; omega) (x := (X k : Int)) ⟨by omega, by omega⟩ (v := (k : Int)) ⟨by omega, by omega⟩
       have HI8 := Lib.hid hI8
       have HK8 := Lib.hid (HK7b.out.trans (hK8.mono (T := fun j => j = hx ∨ j = b) (fun _ _ h => .inr h)) (fun _ _ h => h))
       have HB8 := Lib.hid (HB7.out.kp hK8 (fun e => by have := HLo.out; omega))
       clear hlook hfx hI7 hI8 hK8
       obtain ⟨x, hxx⟩ : ∃ x : Int, (X k : Int) = x := ⟨_, rfl⟩
       rw [hxx] at hlook2 hput HI8 HPt
       rw [hxx]
       clear hxx
       go_wp2_with fail
       go_roundw
       case rel => exact ⟨k + 1, q + 1, by go_num, hlt, by rw [HBe.out]; exact HB8.out, by rw [HPt.out]; exact HI8.out, by omega, HK8.out⟩
       case measure => simp [intOf]; omega
    ·have HBe := Lib.hid (show badK H B (k + 1) = badK H B k by show (if _ then _ else _) = _; rw [if_neg (fun z => hbk z.1)])
     obtain ⟨bv0, hbv⟩ : ∃ x, badK H B k = x := ⟨_, rfl⟩
     rw [hbv] at hbk HBk HBe
     have dbk : (bv0 == -1) = false := by simp [hbk]
     clear hbk hbv
     go_upto_region 7 with (go_at_call 53; refine HIk.out.mono ?_; rintro e w3 ⟨v10, rfl, hO, hK3⟩; obtain ⟨ia, ic, e10, -, -, hb10, hr10⟩ := hO.form; rw [bv_length, HIl.out] at e10; subst e10; have HRi := Lib.hid hr10; have HBi := Lib.hid (fun q (hq : ia = some q) => show q.block ≠ hx ∧ q.block ≠ b from (by obtain ⟨g, rfl, h1, -⟩ := hb10 q hq; have h2 := HBk.out.lt; have h3 := HIm.out.lt; exact ⟨fun e => by simp only at e; omega, fun e => by simp only at e; omega⟩)); have HK3 := Lib.hid hK3; have HK3w := Lib.hid (HKp.out.trans hK3 (fun _ _ h => h)); have HK3b := Lib.hid (HK.out.trans (hK3.mono (fun _ _ h => h.elim)) (fun _ _ h => h)); have HBI := Lib.hid (show BS w3 ia ni (inN2 C k) from ⟨hr10, HIl.out k, by omega⟩); clear hO hK3 hb10 hr10)
     have HHk := Lib.hid (HHo.out w3 HK3w.out k sa sc ia ic (HBS.out w3 HK3b.out) HBI.out)
     rw [HHt.out] at HHk
     have hs3 := HK3w.out.cellAt2 hs
     go_upto_region 8 with (go_at_call 60; refine HHk.out.mono ?_; rintro e w4 ⟨rfl, hK4⟩; have HK4 := Lib.hid hK4; clear hK4)
     have HB4 := Lib.hid ((HBk.out.kp HK3.out (fun h => h)).kp HK4.out (fun h => h))
     have HI4 := Lib.hid ((HIm.out.kp HK3.out (fun h => h)).kp HK4.out (fun h => h))
     have HK4b := Lib.hid (HK3b.out.trans (HK4.out.mono (fun _ _ h => h.elim)) (fun _ _ h => h))
     have HK4w := Lib.hid (HK3w.out.trans HK4.out (fun _ _ h => h))
     have HBI4 := Lib.hid (HBI.out.kp HK4.out)
     have hs4 := HK4w.out.cellAt2 hs
     have b1 := HB4.out.cell (i := 1) rfl
     go_upto_region 10 with fail
     have HBt := HB4
     have HIt := HI4
     have HKt := HK4b
     have HBIt := HBI4
     have HKtw := Lib.hid (HKw.out.trans HKt.out (fun j hj h => by have := HLo.out; omega))
     have HNt := Lib.hid (HNx.out w4 HKtw.out k sa sc ia ic (HBS.out w4 HKt.out) HBIt.out)
     have hst := HKtw.out.cellAt2 hs
     go_upto_region 11 with (first
      |(go_at_call 63; refine HNt.out.mono ?_; rintro e w7 ⟨v60, rfl, hO7, hK7⟩; obtain ⟨na, nc, e60, -, -, -, hr60⟩ := hO7.form; rw [bv_length, HNl.out] at e60; subst e60; have HNk := Lib.hid (HNm.out w7 k na nc hr60); have HK7 := Lib.hid hK7; clear hO7 hr60 hK7)
      |(go_at_call 62; refine HNk.out.mono ?_; rintro e w' ⟨rfl, rfl⟩))
     have HB7 := Lib.hid (HBt.out.kp HK7.out (fun h => h))
     have hI7 := HIt.out.kp HK7.out (fun h => h)
     have hX9 := HXl.out k
     have hlook := hI7.look (x := (X k : Int)) ⟨by omega, by omega⟩
     have m0 := HB7.out.cell (i := 0) rfl
     have HK7b := Lib.hid (HKt.out.trans (HK7.out.mono (fun _ _ h => h.elim)) (fun _ _ h => h))
     cases hfx : succK H X k (X k : Int) with
     |some i0 =>
      have HTh := Lib.hid (succK_there (H := H) (X := X) (k := k) (by rw [hfx]; rfl))
      rw [hfx] at hlook
      have hlook2 : (Instr.lookup 73 (.map (some b)) (.int .i64 (X k : Int)) true).run Tryz.prog w7 = .ok (.tuple #[.int .i64 i0, .bool true]) w7 := hlook
      have HI7 := Lib.hid hI7
      clear hlook hfx hI7
      obtain ⟨x, hxx⟩ : ∃ x : Int, (X k : Int) = x := ⟨_, rfl⟩
      rw [hxx] at hlook2
      rw [hxx]
      clear hxx
      go_wp2_with fail
      go_roundw
      case rel => exact ⟨k + 1, q, by go_num, hlt, by rw [HBe.out]; exact HB7.out, by rw [HTh.out]; exact HI7.out, by omega, HK7b.out⟩
      case measure => simp [intOf]; omega
     |none =>
      have HPt := Lib.hid (succK_put (H := H) (X := X) (k := k) HHt.out (by rw [hfx]; rfl))
      rw [hfx] at hlook
      have hlook2 : (Instr.lookup 73 (.map (some b)) (.int .i64 (X k : Int)) true).run Tryz.prog w7 = .ok (.tuple #[.int .i64 0, .bool false]) w7 := hlook
      obtain ⟨w8, hput, hI8, hK8⟩ := hI7.put (by unfold maxLen; omega) (x := (X k : Int)) ⟨by omega, by omega⟩ (v := (k : Int)) ⟨by omega, by omega⟩
      have HI8 := Lib.hid hI8
      have HK8 := Lib.hid (HK7b.out.trans (hK8.mono (T := fun j => j = hx ∨ j = b) (fun _ _ h => .inr h)) (fun _ _ h => h))
      have HB8 := Lib.hid (HB7.out.kp hK8 (fun e => by have := HLo.out; omega))
      clear hlook hfx hI7 hI8 hK8
      obtain ⟨x, hxx⟩ : ∃ x : Int, (X k : Int) = x := ⟨_, rfl⟩
      rw [hxx] at hlook2 hput HI8 HPt
      rw [hxx]
      clear hxx
      go_wp2_with fail
      go_roundw
      case rel => exact ⟨k + 1, q + 1, by go_num, hlt, by rw [HBe.out]; exact HB8.out, by rw [HPt.out]; exact HI8.out, by omega, HK8.out⟩
      case measure => simp [intOf]; omega
  ·have hk' : k = P := by omega
   have HE := Lib.hid (show succK H X k = F2 ∧ badK H B k = B2 by rw [hk']; exact ⟨HRw.out.1.symm, HRw.out.2.symm⟩)
   have hno : decide ((k : Int) < (P : Int)) = false := by simp; omega
   rw [HE.out.2] at HBk
   rw [HE.out.1] at HIm
   have HRf := Lib.hid (HR2.out.kp HK.out (fun e => by have := HLo.out; omega))
   have x0 := HBk.out.cell (i := 0) rfl
   have x1 := HBk.out.cell (i := 1) rfl
   have x2 := HBk.out.cell (i := 2) rfl
   have x3 := HBk.out.cell (i := 3) rfl
   have y0 := HRf.out.cell (i := 0) rfl
   have y1 := HRf.out.cell (i := 1) rfl
   have y2 := HRf.out.cell (i := 2) rfl
   have y3 := HRf.out.cell (i := 3) rfl
   have z0 := HRf.out.free 0
   have z1 := HRf.out.free 1
   have z2 := HRf.out.free 2
   have z3 := HRf.out.free 3
   clear hk'
   go_wp2_with fail
   have hB := (((HRf.out.set_same 0 (.map (some b))).set_same 1 (.int .i64 B2)).set_same 2 (.int .i64 (-1))).set_same 3 (.int .i64 (-1))
   have q1 := (Kp.refl (fun j => j = r0) wp).setCell (p := ⟨r0, 0, none⟩) (fun _ => rfl) (.map (some b))
   have q2 := q1.setCell (p := ⟨r0, 1, none⟩) (fun _ => rfl) (.int .i64 B2)
   have q3 := q2.setCell (p := ⟨r0, 2, none⟩) (fun _ => rfl) (.int .i64 (-1))
   have hKf := q3.setCell (p := ⟨r0, 3, none⟩) (fun _ => rfl) (.int .i64 (-1))
   clear q1 q2 q3
   obtain ⟨wf, hwf⟩ : ∃ wf, ((((wp.setCell ⟨r0, 0, none⟩ (.map (some b))).setCell ⟨r0, 1, none⟩ (.int .i64 B2)).setCell ⟨r0, 2, none⟩ (.int .i64 (-1))).setCell ⟨r0, 3, none⟩ (.int .i64 (-1))) = wf := ⟨_, rfl⟩
   rw [hwf] at hB hKf
   rw [hwf]
   have HKf := Lib.hid hKf
   have v0 := hB.cell (i := 0) (v := .map (some b)) rfl
   have v1 := hB.cell (i := 1) (v := .int .i64 B2) rfl
   have v2 := hB.cell (i := 2) (v := .int .i64 (-1)) rfl
   have v3 := hB.cell (i := 3) (v := .int .i64 (-1)) rfl
   clear hB hKf hwf x0 x1 x2 x3 y0 y1 y2 y3 z0 z1 z2 z3
   refine bodyPost_ret (v := .agg #[.map (some b), .int .i64 B2, .int .i64 (-1), .int .i64 (-1)]) ?_ rfl ⟨⟨b, q, rfl, HIm.out.kp HKf.out (fun e => by have := HLo.out; omega), by have := HLo.out; omega, by omega⟩, HKp.out.trans HKf.out (fun j hj e => by have := HLo.out; omega)⟩
   simp [results, Tryz.results36, go_sem, v0, v1, v2, v3]

end Go.Proofs.YtnoknecfdnjomaaGreat

/-
  explore: the rows of a space in memory.
-/
namespace Go.Proofs.YtnoknecfdnjomaaGreat
open Go.RowKit

def rowV (mb : Nat → Nat) (BD R D : Nat → Int) (t j : Nat) : Value := if j = 0 then .map (some (mb t)) else if j = 1 then .int .i64 (BD t) else if j = 2 then .int .i64 (R t) else .int .i64 (D t)
def rowC (n : Nat) (h : Nat → Value) : Array Value := ((List.range (n * 4)).map h).toArray
def rowH (mb : Nat → Nat) (BD R D : Nat → Int) (i : Nat) : Value := rowV mb BD R D (i / 4) (i % 4)
theorem rowC_at {n : Nat} {h : Nat → Value} {i : Nat} (hi : i < n * 4) : (rowC n h)[i]? = some (h i) := by simp [rowC, hi]
theorem rowC_set {n : Nat} {h : Nat → Value} {i : Nat} {x : Value} : (rowC n h).setIfInBounds i x = rowC n (fun j => if j = i then x else h j) := by
 unfold rowC
 rw [List.setIfInBounds_toArray]
 congr 1
 apply List.ext_getElem?
 intro j
 rw [List.getElem?_set]
 by_cases hj : j < n * 4
 ·by_cases e : i = j
  ·subst e; simp [hj]
  ·simp [hj, e]; exact fun q => absurd q.symm e
 ·by_cases e : i = j
  ·subst e; simp [hj]
  ·simp [hj, e]
theorem rowC_congr {n : Nat} {h h' : Nat → Value} (e : ∀ i, i < n * 4 → h i = h' i) : rowC n h = rowC n h' := by
 unfold rowC
 congr 1
 exact List.map_congr_left fun i hi => e i (List.mem_range.1 hi)

structure RowsS (w : World) (g n : Nat) (mb : Nat → Nat) (F : Nat → Int → Option Int) (BD R D : Nat → Int) : Prop where
  blk : Blk w g (rowC n (rowH mb BD R D)) 75
  map : ∀ t, t < n → ∃ q, IMI w (mb t) q (F t) ∧ q ≤ 256
  ne : ∀ t, t < n → mb t ≠ g

section
variable {w w' : World} {g n : Nat} {mb : Nat → Nat} {F : Nat → Int → Option Int} {BD R D : Nat → Int}
theorem RowsS.kpS {S : Nat → Prop} (h : RowsS w g n mb F BD R D) (k : Kp S w w') (h1 : ¬ S g) (h2 : ∀ t, t < n → ¬ S (mb t)) : RowsS w' g n mb F BD R D :=
 ⟨h.blk.kp k h1, fun t ht => by
  obtain ⟨q, h3, h4⟩ := h.map t ht
  exact ⟨q, h3.kp k (h2 t ht), h4⟩, h.ne⟩
theorem RowsS.kp (h : RowsS w g n mb F BD R D) (k : Kp (fun _ => False) w w') : RowsS w' g n mb F BD R D := h.kpS k (fun h => h) (fun _ _ h => h)
theorem RowsS.cell (h : RowsS w g n mb F BD R D) {t j : Nat} (ht : t < n) (hj : j < 4) : w.cell? ⟨g, t * 4 + j, none⟩ = some (rowV mb BD R D t j) := by
 have := h.blk.cell (i := t * 4 + j) (rowC_at (by omega))
 rw [this]
 unfold rowH
 rw [show (t * 4 + j) / 4 = t by omega, show (t * 4 + j) % 4 = j by omega]
theorem RowsS.cell0 (h : RowsS w g n mb F BD R D) {t : Nat} (ht : t < n) : w.cell? ⟨g, t * 4, none⟩ = some (.map (some (mb t))) := h.cell ht (j := 0) (by decide)
theorem RowsS.cell1 (h : RowsS w g n mb F BD R D) {t : Nat} (ht : t < n) : w.cell? ⟨g, t * 4 + 1, none⟩ = some (.int .i64 (BD t)) := h.cell ht (j := 1) (by decide)
theorem RowsS.cell2 (h : RowsS w g n mb F BD R D) {t : Nat} (ht : t < n) : w.cell? ⟨g, t * 4 + 2, none⟩ = some (.int .i64 (R t)) := h.cell ht (j := 2) (by decide)
theorem RowsS.cell3 (h : RowsS w g n mb F BD R D) {t : Nat} (ht : t < n) : w.cell? ⟨g, t * 4 + 3, none⟩ = some (.int .i64 (D t)) := h.cell ht (j := 3) (by decide)
def upI (f : Nat → Int) (t : Nat) (x : Int) : Nat → Int := fun s => if s = t then x else f s
theorem RowsS.setR (h : RowsS w g n mb F BD R D) {t : Nat} (ht : t < n) (x : Int) : RowsS (w.setCell ⟨g, t * 4 + 2, none⟩ (.int .i64 x)) g n mb F BD (upI R t x) D := by
 have k := Kp.set w ⟨g, t * 4 + 2, none⟩ (.int .i64 x)
 refine ⟨?_, fun s hs => ?_, h.ne⟩
 ·have := h.blk.set_same (t * 4 + 2) (.int .i64 x)
  rw [rowC_set] at this
  rw [show rowC n (rowH mb BD (upI R t x) D) = rowC n (fun j => if j = t * 4 + 2 then .int .i64 x else rowH mb BD R D j) from rowC_congr fun i hi => by
   unfold rowH rowV upI
   by_cases e : i = t * 4 + 2
   ·rw [if_pos e, e, show (t * 4 + 2) / 4 = t by omega, show (t * 4 + 2) % 4 = 2 by omega]
    simp
   ·rw [if_neg e]
    by_cases e2 : i % 4 = 2
    ·have : i / 4 ≠ t := fun q => e (by omega)
     simp [e2, this]
    ·simp [e2]]
  exact this
 ·obtain ⟨q, h3, h4⟩ := h.map s hs
  exact ⟨q, h3.kp k (fun e => h.ne s hs e), h4⟩
theorem RowsS.setD (h : RowsS w g n mb F BD R D) {t : Nat} (ht : t < n) (x : Int) : RowsS (w.setCell ⟨g, t * 4 + 3, none⟩ (.int .i64 x)) g n mb F BD R (upI D t x) := by
 have k := Kp.set w ⟨g, t * 4 + 3, none⟩ (.int .i64 x)
 refine ⟨?_, fun s hs => ?_, h.ne⟩
 ·have := h.blk.set_same (t * 4 + 3) (.int .i64 x)
  rw [rowC_set] at this
  rw [show rowC n (rowH mb BD R (upI D t x)) = rowC n (fun j => if j = t * 4 + 3 then .int .i64 x else rowH mb BD R D j) from rowC_congr fun i hi => by
   unfold rowH rowV upI
   by_cases e : i = t * 4 + 3
   ·rw [if_pos e, e, show (t * 4 + 3) / 4 = t by omega, show (t * 4 + 3) % 4 = 3 by omega]
    simp
   ·rw [if_neg e]
    by_cases e2 : i % 4 = 3
    ·have : i / 4 ≠ t := fun q => e (by omega)
     simp [e2, this]
    ·have : i % 4 = 0 ∨ i % 4 = 1 ∨ i % 4 = 2 := by omega
     rcases this with e3 | e3 | e3 <;> simp [e3]]
  exact this
 ·obtain ⟨q, h3, h4⟩ := h.map s hs
  exact ⟨q, h3.kp k (fun e => h.ne s hs e), h4⟩
end

end Go.Proofs.YtnoknecfdnjomaaGreat

/-
  A graph of few states: in how many steps states are reached. No program in sight.
-/
namespace Go.Proofs.YtnoknecfdnjomaaGreat
open Go.RowKit

section
variable {n : Nat} {st : Nat → Bool} {E : Nat → Nat → Bool}

def seenG (n : Nat) (st : Nat → Bool) (E : Nat → Nat → Bool) : Nat → Nat → Bool
  | 0, t => st t
  | k + 1, t => seenG n st E k t || (List.range n).any (fun s => seenG n st E k s && E s t)
def distG (n : Nat) (st : Nat → Bool) (E : Nat → Nat → Bool) : Nat → Nat → Int
  | 0, t => if st t = true then 0 else -1
  | m + 1, t => if seenG n st E m t = true then distG n st E m t else if seenG n st E (m + 1) t = true then (m : Int) + 1 else -1

theorem seenG_succ {k t : Nat} : seenG n st E (k + 1) t = true ↔ seenG n st E k t = true ∨ ∃ s, s < n ∧ seenG n st E k s = true ∧ E s t = true := by
 show (seenG n st E k t || (List.range n).any (fun s => seenG n st E k s && E s t)) = true ↔ _
 rw [Bool.or_eq_true, List.any_eq_true]
 constructor
 ·rintro (h | ⟨s, hs, h⟩)
  ·exact .inl h
  ·rw [Bool.and_eq_true] at h
   exact .inr ⟨s, List.mem_range.1 hs, h⟩
 ·rintro (h | ⟨s, hs, h⟩)
  ·exact .inl h
  ·exact .inr ⟨s, List.mem_range.2 hs, by rw [Bool.and_eq_true]; exact h⟩
theorem seenG_mono {k t : Nat} (h : seenG n st E k t = true) : ∀ d, seenG n st E (k + d) t = true
 |0 => h
 |d + 1 => seenG_succ.2 (.inl (seenG_mono h d))
theorem seenG_le {k m t : Nat} (h : seenG n st E k t = true) (hk : k ≤ m) : seenG n st E m t = true := by
 have := seenG_mono h (m - k)
 rw [show k + (m - k) = m by omega] at this
 exact this

theorem distG_cases : ∀ m t, (seenG n st E m t = false ∧ distG n st E m t = -1) ∨ (seenG n st E m t = true ∧ 0 ≤ distG n st E m t ∧ distG n st E m t ≤ m)
 |0, t => by
  unfold distG seenG
  cases st t with
  |true => exact .inr ⟨rfl, by simp, by simp⟩
  |false => exact .inl ⟨rfl, by simp⟩
 |m + 1, t => by
  unfold distG
  rcases distG_cases m t with ⟨h1, h2⟩ | ⟨h1, h2, h3⟩
  ·rw [if_neg (by rw [h1]; decide)]
   cases h : seenG n st E (m + 1) t with
   |true => exact .inr ⟨rfl, by rw [if_pos rfl]; omega, by rw [if_pos rfl]; omega⟩
   |false => exact .inl ⟨rfl, by rw [if_neg (by decide)]⟩
  ·rw [if_pos h1]
   exact .inr ⟨seenG_succ.2 (.inl h1), h2, by omega⟩
theorem distG_neg {m t : Nat} : distG n st E m t = -1 ↔ seenG n st E m t = false := by
 rcases distG_cases (n := n) (st := st) (E := E) m t with ⟨h1, h2⟩ | ⟨h1, h2, _⟩
 ·exact ⟨fun _ => h1, fun _ => h2⟩
 ·exact ⟨fun h => by omega, fun h => by rw [h1] at h; cases h⟩
theorem distG_keep {m t : Nat} (h : distG n st E m t ≠ -1) : distG n st E (m + 1) t = distG n st E m t := by
 have : seenG n st E m t = true := by
  cases e : seenG n st E m t with
  |true => rfl
  |false => exact absurd (distG_neg.2 e) h
 show (if seenG n st E m t = true then distG n st E m t else _) = _
 rw [if_pos this]
theorem distG_step {m t : Nat} (h : distG n st E m t = -1) : distG n st E (m + 1) t = if ∃ s, s < n ∧ distG n st E m s = m ∧ E s t = true then (m : Int) + 1 else -1 := by
 have h0 := distG_neg.1 h
 show (if seenG n st E m t = true then distG n st E m t else if seenG n st E (m + 1) t = true then (m : Int) + 1 else -1) = _
 rw [if_neg (by rw [h0]; decide)]
 have key : seenG n st E (m + 1) t = true ↔ ∃ s, s < n ∧ distG n st E m s = m ∧ E s t = true := by
  constructor
  ·intro hs
   rcases seenG_succ.1 hs with q | ⟨s, hs1, hs2, hs3⟩
   ·rw [h0] at q; cases q
   ·refine ⟨s, hs1, ?_, hs3⟩
    cases m with
    |zero =>
     unfold distG
     rw [if_pos (show st s = true from hs2)]; rfl
    |succ m =>
     unfold distG
     by_cases q : seenG n st E m s = true
     ·have : seenG n st E (m + 1) t = true := seenG_succ.2 (.inr ⟨s, hs1, q, hs3⟩)
      rw [h0] at this; cases this
     ·rw [if_neg q, if_pos hs2]; omega
  ·rintro ⟨s, hs1, hs2, hs3⟩
   refine seenG_succ.2 (.inr ⟨s, hs1, ?_, hs3⟩)
   rcases distG_cases (n := n) (st := st) (E := E) m s with ⟨_, q⟩ | ⟨q, _⟩
   ·omega
   ·exact q
 by_cases q : seenG n st E (m + 1) t = true
 ·rw [if_pos q, if_pos (key.1 q)]
 ·rw [if_neg q, if_neg (fun h => q (key.2 h))]
theorem distG_still {m : Nat} (h : ∀ t, t < n → distG n st E m t ≠ m) : ∀ d t, distG n st E (m + d) t = distG n st E m t
 |0, _ => rfl
 |d + 1, t => by
  have ih := distG_still h d
  by_cases e : distG n st E (m + d) t = -1
  ·rw [← Nat.add_assoc, distG_step e, if_neg, ← ih, e]
   rintro ⟨s, hs, q, _⟩
   rw [ih] at q
   rcases distG_cases (n := n) (st := st) (E := E) m s with ⟨_, q2⟩ | ⟨_, _, q2⟩
   ·omega
   ·have := h s hs
    omega
  ·rw [← Nat.add_assoc, distG_keep e, ih]
theorem distG_le {m k t : Nat} (h : distG n st E m t ≠ -1) (hk : m ≤ k) : distG n st E k t = distG n st E m t := by
 obtain ⟨d, rfl⟩ : ∃ d, k = m + d := ⟨k - m, by omega⟩
 clear hk
 induction d with
 |zero => rfl
 |succ d ih => rw [← Nat.add_assoc, distG_keep (by rw [ih]; exact h), ih]
theorem distG_at {m k t : Nat} (h : distG n st E m t = k) (hk : k ≤ m) : distG n st E k t = k := by
 rcases distG_cases (n := n) (st := st) (E := E) k t with ⟨h1, h2⟩ | ⟨h1, h2, h3⟩
 ·exfalso
  obtain ⟨d, rfl⟩ : ∃ d, m = k + d := ⟨m - k, by omega⟩
  clear hk
  induction d with
  |zero => rw [Nat.add_zero] at h; omega
  |succ d ih =>
   by_cases e : distG n st E (k + d) t = -1
   ·rw [← Nat.add_assoc, distG_step e] at h
    split at h <;> omega
   ·rw [← Nat.add_assoc, distG_keep e] at h
    exact ih h
 ·have := distG_le (m := k) (k := m) (t := t) (n := n) (st := st) (E := E) (by omega) hk
  rw [← this, h]

theorem layers_cnt {m : Nat} (h : ∀ k, k ≤ m → ∃ t, t < n ∧ distG n st E m t = k) : m < n := by
 -- a place for each layer, all others
 have hex : ∀ k, ∃ t, k ≤ m → t < n ∧ distG n st E m t = k := fun k => by
  by_cases hk : k ≤ m
  ·obtain ⟨t, ht⟩ := h k hk; exact ⟨t, fun _ => ht⟩
  ·exact ⟨0, fun q => absurd q hk⟩
 have hf : ∃ f : Nat → Nat, ∀ k, k ≤ m → f k < n ∧ distG n st E m (f k) = k := ⟨fun k => (hex k).choose, fun k => (hex k).choose_spec⟩
 obtain ⟨f, hf⟩ := hf
 have inj : ∀ i j, i ≤ m → j ≤ m → f i = f j → i = j := fun i j hi hj e => by
  have h1 := (hf i hi).2
  have h2 := (hf j hj).2
  rw [e] at h1
  omega
 -- the list of places has no doubles
 have nd : ((List.range (m + 1)).map f).Nodup := by
  rw [List.nodup_iff_pairwise_ne, List.pairwise_map]
  refine List.Pairwise.imp_of_mem (fun {a b} ha hb hab => ?_) List.nodup_range
  intro e
  exact hab (inj a b (by have := List.mem_range.1 ha; omega) (by have := List.mem_range.1 hb; omega) e)
 have sub : (List.range (m + 1)).map f ⊆ List.range n := fun x hx => by
  obtain ⟨i, hi, rfl⟩ := List.mem_map.1 hx
  exact List.mem_range.2 (hf i (by have := List.mem_range.1 hi; omega)).1
 have := nd.length_le_of_subset sub
 simp at this
 omega
end

end Go.Proofs.YtnoknecfdnjomaaGreat

/-
  A graph of few states: paths, and how far it is from a first state to a bad one. No program in sight.
-/
namespace Go.Proofs.YtnoknecfdnjomaaGreat
open Go.RowKit

def PathG (n : Nat) (E : Nat → Nat → Bool) : Nat → Nat → Nat → Prop
  | 0, s, t => s = t
  | k + 1, s, t => ∃ u, u < n ∧ E s u = true ∧ PathG n E k u t
def exG (n : Nat) (st : Nat → Bool) (E : Nat → Nat → Bool) : Nat → Nat → Bool
  | 0, t => st t
  | k + 1, t => (List.range n).any (fun s => exG n st E k s && E s t)
def leastG (P : Nat → Bool) : Nat → Int
  | 0 => if P 0 = true then 0 else -1
  | m + 1 => if leastG P m ≠ -1 then leastG P m else if P (m + 1) = true then (m : Int) + 1 else -1

theorem leastG_cases {P : Nat → Bool} : ∀ m, (leastG P m = -1 ∧ ∀ k, k ≤ m → P k = false) ∨ (∃ k, k ≤ m ∧ leastG P m = (k : Int) ∧ P k = true ∧ ∀ j, j < k → P j = false)
 |0 => by
  unfold leastG
  cases h : P 0 with
  |true => exact .inr ⟨0, Nat.le_refl _, by simp, h, fun j hj => absurd hj (Nat.not_lt_zero j)⟩
  |false => exact .inl ⟨by simp, fun k hk => by rw [Nat.le_zero.1 hk]; exact h⟩
 |m + 1 => by
  unfold leastG
  rcases leastG_cases (P := P) m with ⟨h1, h2⟩ | ⟨k, hk, h1, h2, h3⟩
  ·rw [if_neg (fun h => h h1)]
   cases h : P (m + 1) with
   |true =>
    refine .inr ⟨m + 1, Nat.le_refl _, ?_, h, fun j hj => h2 j (by omega)⟩
    rw [if_pos rfl]; omega
   |false =>
    refine .inl ⟨by rw [if_neg (by decide)], fun k hk => ?_⟩
    by_cases e : k = m + 1
    ·rw [e]; exact h
    ·exact h2 k (by omega)
  ·rw [if_pos (by omega)]
   exact .inr ⟨k, by omega, h1, h2, h3⟩
theorem leastG_eq {P : Nat → Bool} {m k : Nat} (hk : k ≤ m) (h : P k = true) (hl : ∀ j, j < k → P j = false) : leastG P m = k := by
 rcases leastG_cases (P := P) m with ⟨_, h2⟩ | ⟨i, hi, h1, h2, h3⟩
 ·rw [h2 k hk] at h; cases h
 ·have : i = k := by
   by_cases e : i < k
   ·rw [hl i e] at h2; cases h2
   ·by_cases e2 : k < i
    ·rw [h3 k e2] at h; cases h
    ·omega
  rw [h1, this]
theorem leastG_none {P : Nat → Bool} {m : Nat} (h : ∀ k, k ≤ m → P k = false) : leastG P m = -1 := by
 rcases leastG_cases (P := P) m with ⟨h1, _⟩ | ⟨i, hi, _, h2, _⟩
 ·exact h1
 ·rw [h i hi] at h2; cases h2

section
variable {n : Nat} {st : Nat → Bool} {E : Nat → Nat → Bool}

theorem PathG.snoc {k s t u : Nat} (ht : t < n) (h : PathG n E k s t) (hu : E t u = true) (hn : u < n) : PathG n E (k + 1) s u := by
 induction k generalizing s with
 |zero =>
  cases h
  exact ⟨u, hn, hu, rfl⟩
 |succ k ih =>
  obtain ⟨v, hv, h1, h2⟩ := h
  exact ⟨v, hv, h1, ih h2⟩
theorem exG_path : ∀ {k t : Nat}, t < n → (exG n st E k t = true ↔ ∃ s, s < n ∧ st s = true ∧ PathG n E k s t)
 |0, t, ht => ⟨fun h => ⟨t, ht, h, rfl⟩, fun ⟨s, _, h, e⟩ => by cases e; exact h⟩
 |k + 1, t, ht => by
  show (List.range n).any (fun s => exG n st E k s && E s t) = true ↔ _
  rw [List.any_eq_true]
  constructor
  ·rintro ⟨u, hu, h⟩
   rw [Bool.and_eq_true] at h
   have hun := List.mem_range.1 hu
   obtain ⟨s, hs, h1, h2⟩ := (exG_path hun).1 h.1
   exact ⟨s, hs, h1, h2.snoc hun h.2 ht⟩
  ·rintro ⟨s, hs, h1, h2⟩
   -- the last step
   have last : ∀ {k s : Nat}, s < n → PathG n E (k + 1) s t → ∃ u, u < n ∧ PathG n E k s u ∧ E u t = true := by
    intro k
    induction k with
    |zero =>
     rintro s hs ⟨v, hv, h3, h4⟩
     cases h4
     exact ⟨s, hs, rfl, h3⟩
    |succ k ih =>
     rintro s hs ⟨v, hv, h3, h4⟩
     obtain ⟨u, hu, h5, h6⟩ := ih hv h4
     exact ⟨u, hu, ⟨v, hv, h3, h5⟩, h6⟩
   obtain ⟨u, hu, h3, h4⟩ := last hs h2
   exact ⟨u, List.mem_range.2 hu, by rw [Bool.and_eq_true]; exact ⟨(exG_path hu).2 ⟨s, hs, h1, h3⟩, h4⟩⟩
theorem seenG_ex : ∀ {k t : Nat}, seenG n st E k t = true ↔ ∃ j, j ≤ k ∧ exG n st E j t = true
 |0, t => ⟨fun h => ⟨0, Nat.le_refl _, h⟩, fun ⟨j, hj, h⟩ => by rw [Nat.le_zero.1 hj] at h; exact h⟩
 |k + 1, t => by
  rw [seenG_succ]
  constructor
  ·rintro (h | ⟨s, hs, h1, h2⟩)
   ·obtain ⟨j, hj, h⟩ := seenG_ex.1 h
    exact ⟨j, by omega, h⟩
   ·obtain ⟨j, hj, h⟩ := seenG_ex.1 h1
    refine ⟨j + 1, by omega, ?_⟩
    show (List.range n).any (fun s => exG n st E j s && E s t) = true
    exact List.any_eq_true.2 ⟨s, List.mem_range.2 hs, by rw [Bool.and_eq_true]; exact ⟨h, h2⟩⟩
  ·rintro ⟨j, hj, h⟩
   cases j with
   |zero => exact .inl (seenG_ex.2 ⟨0, Nat.zero_le _, h⟩)
   |succ j =>
    obtain ⟨s, hs, h1⟩ := List.any_eq_true.1 (show (List.range n).any (fun s => exG n st E j s && E s t) = true from h)
    rw [Bool.and_eq_true] at h1
    exact .inr ⟨s, List.mem_range.1 hs, seenG_ex.2 ⟨j, by omega, h1.1⟩, h1.2⟩

def revG (E : Nat → Nat → Bool) (s t : Nat) : Bool := E t s
theorem PathG.rev : ∀ {k s t : Nat}, s < n → t < n → (PathG n (revG E) k s t ↔ PathG n E k t s)
 |0, s, t, _, _ => ⟨fun h => h.symm, fun h => h.symm⟩
 |k + 1, s, t, hs, ht => by
  constructor
  ·rintro ⟨u, hu, h1, h2⟩
   exact ((PathG.rev hu ht).1 h2).snoc hu h1 hs
  ·intro h
   have last : ∀ {k t : Nat}, t < n → PathG n E (k + 1) t s → ∃ u, u < n ∧ PathG n E k t u ∧ E u s = true := by
    intro k
    induction k with
    |zero =>
     rintro s hs ⟨v, hv, h3, h4⟩
     cases h4
     exact ⟨s, hs, rfl, h3⟩
    |succ k ih =>
     rintro s hs ⟨v, hv, h3, h4⟩
     obtain ⟨u, hu, h5, h6⟩ := ih hv h4
     exact ⟨u, hu, ⟨v, hv, h3, h5⟩, h6⟩
   obtain ⟨u, hu, h1, h2⟩ := last ht h
   exact ⟨u, hu, h2, (PathG.rev hu ht).2 h1⟩

theorem distR_path {bad : Nat → Bool} {m s k : Nat} (hs : s < n) (hk : k ≤ m) : distG n bad (revG E) m s = k ↔ (∃ t, t < n ∧ bad t = true ∧ PathG n E k s t) ∧ ∀ j, j < k → ¬ ∃ t, t < n ∧ bad t = true ∧ PathG n E j s t := by
 have ex : ∀ j, exG n bad (revG E) j s = true ↔ ∃ t, t < n ∧ bad t = true ∧ PathG n E j s t := fun j => by
  rw [exG_path hs]
  exact ⟨fun ⟨t, h1, h2, h3⟩ => ⟨t, h1, h2, (PathG.rev h1 hs).1 h3⟩, fun ⟨t, h1, h2, h3⟩ => ⟨t, h1, h2, (PathG.rev h1 hs).2 h3⟩⟩
 have seen : ∀ j, j ≤ m → (seenG n bad (revG E) j s = true ↔ distG n bad (revG E) m s ≠ -1 ∧ distG n bad (revG E) m s ≤ j) := fun j hj => by
  constructor
  ·intro h
   rcases distG_cases (n := n) (st := bad) (E := revG E) j s with ⟨q, _⟩ | ⟨_, q1, q2⟩
   ·rw [h] at q; cases q
   ·rw [distG_le (by omega) hj]
    exact ⟨by omega, q2⟩
  ·rintro ⟨h1, h2⟩
   rcases distG_cases (n := n) (st := bad) (E := revG E) m s with ⟨_, q⟩ | ⟨_, q1, q2⟩
   ·exact absurd q h1
   ·obtain ⟨i, hi⟩ : ∃ i : Nat, distG n bad (revG E) m s = i := ⟨(distG n bad (revG E) m s).toNat, by omega⟩
    have := distG_at hi (by omega)
    have : seenG n bad (revG E) i s = true := by
     rcases distG_cases (n := n) (st := bad) (E := revG E) i s with ⟨_, q3⟩ | ⟨q3, _⟩
     ·omega
     ·exact q3
    exact seenG_le this (by omega)
 constructor
 ·intro h
  have h1 := (seen k hk).2 ⟨by omega, by omega⟩
  obtain ⟨j, hj, h2⟩ := seenG_ex.1 h1
  have hno : ∀ j, j < k → ¬ exG n bad (revG E) j s = true := fun j hj hx => by
   have := (seen j (by omega)).1 (seenG_ex.2 ⟨j, Nat.le_refl _, hx⟩)
   omega
  have hjk : j = k := by
   by_cases e : j < k
   ·exact absurd h2 (hno j e)
   ·omega
  rw [hjk] at h2
  exact ⟨(ex k).1 h2, fun j hj hx => hno j hj ((ex j).2 hx)⟩
 ·rintro ⟨h1, h2⟩
  have h3 := (seen k hk).1 (seenG_ex.2 ⟨k, Nat.le_refl _, (ex k).2 h1⟩)
  rcases distG_cases (n := n) (st := bad) (E := revG E) m s with ⟨_, q⟩ | ⟨_, q1, q2⟩
  ·exact absurd q h3.1
  ·obtain ⟨i, hi⟩ : ∃ i : Nat, distG n bad (revG E) m s = i := ⟨(distG n bad (revG E) m s).toNat, by omega⟩
   by_cases e : i < k
   ·have h4 := (seen i (by omega)).2 ⟨by omega, by omega⟩
    obtain ⟨j, hj, h5⟩ := seenG_ex.1 h4
    exact absurd ((ex j).1 h5) (h2 j (by omega))
   ·omega
theorem distR_neg {bad : Nat → Bool} {m s : Nat} (hs : s < n) (h : distG n bad (revG E) m s = -1) : ∀ k, k ≤ m → ¬ ∃ t, t < n ∧ bad t = true ∧ PathG n E k s t := by
 rintro k hk ⟨t, ht, h1, h2⟩
 have h3 := distG_neg.1 h
 have : seenG n bad (revG E) m s = true := seenG_ex.2 ⟨k, hk, (exG_path hs).2 ⟨t, ht, h1, (PathG.rev ht hs).2 h2⟩⟩
 rw [h3] at this; cases this
end

end Go.Proofs.YtnoknecfdnjomaaGreat

/-
  The first state that is nearest to breaking, and when it breaks first. No program in sight.
-/
namespace Go.Proofs.YtnoknecfdnjomaaGreat
open Go.RowKit

def bestG (st : Nat → Bool) (d : Nat → Int) : Nat → Int
  | 0 => -1
  | k + 1 => if st k = true ∧ d k ≠ -1 ∧ (bestG st d k = -1 ∨ d k < d (bestG st d k).toNat) then (k : Int) else bestG st d k
theorem bestG_cases {st : Nat → Bool} {d : Nat → Int} : ∀ k, (bestG st d k = -1 ∧ ∀ s, s < k → st s = true → d s = -1) ∨ (∃ b, b < k ∧ bestG st d k = (b : Int) ∧ st b = true ∧ d b ≠ -1 ∧ ∀ s, s < k → st s = true → d s ≠ -1 → d b ≤ d s)
 |0 => .inl ⟨rfl, fun s hs => absurd hs (Nat.not_lt_zero s)⟩
 |k + 1 => by
  unfold bestG
  rcases bestG_cases (st := st) (d := d) k with ⟨h1, h2⟩ | ⟨b, hb, h1, h2, h3, h4⟩
  ·by_cases h : st k = true ∧ d k ≠ -1
   ·rw [if_pos ⟨h.1, h.2, .inl h1⟩]
    refine .inr ⟨k, Nat.lt_succ_self k, rfl, h.1, h.2, fun s hs h5 h6 => ?_⟩
    by_cases e : s = k
    ·rw [e]; exact Int.le_refl _
    ·exact absurd (h2 s (by omega) h5) h6
   ·rw [if_neg (fun q => h ⟨q.1, q.2.1⟩)]
    refine .inl ⟨h1, fun s hs h5 => ?_⟩
    by_cases e : s = k
    ·subst e
     exact Classical.byContradiction fun q => h ⟨h5, q⟩
    ·exact h2 s (by omega) h5
  ·have hbt : (bestG st d k).toNat = b := by rw [h1]; rfl
   by_cases h : st k = true ∧ d k ≠ -1 ∧ (bestG st d k = -1 ∨ d k < d (bestG st d k).toNat)
   ·rw [if_pos h]
    refine .inr ⟨k, Nat.lt_succ_self k, rfl, h.1, h.2.1, fun s hs h5 h6 => ?_⟩
    by_cases e : s = k
    ·rw [e]; exact Int.le_refl _
    ·have := h4 s (by omega) h5 h6
     rcases h.2.2 with q | q
     ·rw [h1] at q; omega
     ·rw [hbt] at q; omega
   ·rw [if_neg h]
    refine .inr ⟨b, by omega, h1, h2, h3, fun s hs h5 h6 => ?_⟩
    by_cases e : s = k
    ·subst e
     apply Classical.byContradiction
     intro q
     exact h ⟨h5, h6, .inr (by rw [hbt]; omega)⟩
    ·exact h4 s (by omega) h5 h6
section
variable {n m : Nat} {st bad : Nat → Bool} {E : Nat → Nat → Bool}

def canG (n : Nat) (st bad : Nat → Bool) (E : Nat → Nat → Bool) (k : Nat) : Bool := (List.range n).any (fun t => exG n st E k t && bad t)
theorem canG_path {k : Nat} : canG n st bad E k = true ↔ ∃ s, s < n ∧ st s = true ∧ ∃ t, t < n ∧ bad t = true ∧ PathG n E k s t := by
 unfold canG
 rw [List.any_eq_true]
 constructor
 ·rintro ⟨t, ht, h⟩
  rw [Bool.and_eq_true] at h
  have htn := List.mem_range.1 ht
  obtain ⟨s, hs, h1, h2⟩ := (exG_path htn).1 h.1
  exact ⟨s, hs, h1, t, htn, h.2, h2⟩
 ·rintro ⟨s, hs, h1, t, ht, h2, h3⟩
  exact ⟨t, List.mem_range.2 ht, by rw [Bool.and_eq_true]; exact ⟨(exG_path ht).2 ⟨s, hs, h1, h3⟩, h2⟩⟩

theorem first_least {b : Int} (hb : b = bestG st (distG n bad (revG E) m) n) : (if b = -1 then -1 else distG n bad (revG E) m b.toNat) = leastG (canG n st bad E) m := by
 rcases bestG_cases (st := st) (d := distG n bad (revG E) m) n with ⟨h1, h2⟩ | ⟨c, hc, h1, h2, h3, h4⟩
 ·rw [hb, h1, if_pos rfl]
  refine (leastG_none fun k hk => ?_).symm
  rw [← Bool.not_eq_true]
  intro h
  obtain ⟨s, hs, h3, h4⟩ := canG_path.1 h
  exact distR_neg hs (h2 s hs h3) k hk h4
 ·rw [hb, h1, if_neg (by omega), show ((c : Int)).toNat = c from rfl]
  rcases distG_cases (n := n) (st := bad) (E := revG E) m c with ⟨_, q⟩ | ⟨_, q1, q2⟩
  ·exact absurd q h3
  ·obtain ⟨k, hk⟩ : ∃ k : Nat, distG n bad (revG E) m c = k := ⟨(distG n bad (revG E) m c).toNat, by omega⟩
   have hkm : k ≤ m := by omega
   rw [hk]
   refine (leastG_eq hkm ?_ fun j hj => ?_).symm
   ·exact canG_path.2 ⟨c, hc, h2, ((distR_path hc hkm).1 hk).1⟩
   ·rw [← Bool.not_eq_true]
    intro h
    obtain ⟨s, hs, h5, h6⟩ := canG_path.1 h
    have hne : distG n bad (revG E) m s ≠ -1 := fun q => distR_neg hs q j (by omega) h6
    have h7 := h4 s hs h5 hne
    rcases distG_cases (n := n) (st := bad) (E := revG E) m s with ⟨_, q⟩ | ⟨_, q3, q4⟩
    ·exact hne q
    ·obtain ⟨i, hi⟩ : ∃ i : Nat, distG n bad (revG E) m s = i := ⟨(distG n bad (revG E) m s).toNat, by omega⟩
     exact ((distR_path hs (by omega)).1 hi).2 j (by omega) h6

end

end Go.Proofs.YtnoknecfdnjomaaGreat

/-
  explore: States, is, Reached, Distance, begin, First.
-/
namespace Go.Proofs.YtnoknecfdnjomaaGreat
open Go.RowKit

section
variable {sp g n cg : Nat} {w : World} {mb : Nat → Nat} {F : Nat → Int → Option Int} {BD R D : Nat → Int}

set_option maxRecDepth 100000 in
theorem ex_States (hs1 : w.cell? ⟨sp, 1, none⟩ = some (.slice (some ⟨g, 0, none⟩) n cg)) :
  Calls Tryz.prog 14 #[.pointer (some ⟨sp, 0, none⟩)] w fun e w' => e = .returned (.int .i64 (n : Int)) ∧ w = w' := by
 go_enter Tryz.func14, Tryz.ntmps14
 go_wp2_with fail
 go_ret
 exact ⟨rfl, rfl⟩
set_option maxRecDepth 100000 in
theorem ex_is (hs1 : w.cell? ⟨sp, 1, none⟩ = some (.slice (some ⟨g, 0, none⟩) n cg)) (t : Int) :
  Calls Tryz.prog 48 #[.pointer (some ⟨sp, 0, none⟩), .int .i64 t] w fun e w' => e = .returned (.bool (decide (0 ≤ t ∧ t < (n : Int)))) ∧ w = w' := by
 by_cases h0 : 0 ≤ t
 ·have q0 : t ≥ 0 := h0
  have e : decide (0 ≤ t ∧ t < (n : Int)) = decide (t < (n : Int)) := by simp [h0]
  rw [e]
  clear e
  go_enter Tryz.func48, Tryz.ntmps48
  go_wp2_with fail
  go_ret
  exact ⟨rfl, rfl⟩
 ·have q0 : ¬ t ≥ 0 := h0
  have e : decide (0 ≤ t ∧ t < (n : Int)) = false := by simp [h0]
  rw [e]
  clear e
  go_enter Tryz.func48, Tryz.ntmps48
  go_wp2_with fail
  go_ret
  exact ⟨rfl, rfl⟩
def atS (n : Nat) (R : Nat → Int) (t : Int) : Int := if 0 ≤ t ∧ t < (n : Int) then R t.toNat else -1
theorem atS_in {n : Nat} {R : Nat → Int} {t : Nat} (h : t < n) : atS n R (t : Int) = R t := by unfold atS; rw [if_pos ⟨by omega, by omega⟩]; rfl
theorem atS_out {n : Nat} {R : Nat → Int} {t : Int} (h : ¬ (0 ≤ t ∧ t < (n : Int))) : atS n R t = -1 := by unfold atS; rw [if_neg h]

set_option maxRecDepth 100000 in
theorem ex_Reached (hs1 : w.cell? ⟨sp, 1, none⟩ = some (.slice (some ⟨g, 0, none⟩) n cg)) (hR : RowsS w g n mb F BD R D) (t : Int) :
  Calls Tryz.prog 17 #[.pointer (some ⟨sp, 0, none⟩), .int .i64 t] w fun e w' => e = .returned (.int .i64 (atS n R t)) ∧ w = w' := by
 have HIs := Lib.hid (ex_is hs1 t)
 by_cases h : 0 ≤ t ∧ t < (n : Int)
 ·obtain ⟨v, rfl⟩ : ∃ v : Nat, t = (v : Int) := ⟨t.toNat, by omega⟩
  have hv : v < n := by omega
  rw [atS_in hv]
  rw [decide_eq_true h] at HIs
  have c2 := hR.cell2 hv
  obtain ⟨v0, v1⟩ := h
  clear hR
  go_enter Tryz.func17, Tryz.ntmps17
  go_wp2_with (go_at_call 48; refine Calls.mono HIs.out ?_; rintro e w2 ⟨rfl, rfl⟩)
  go_ret
  exact ⟨rfl, rfl⟩
 ·rw [atS_out h]
  rw [decide_eq_false h] at HIs
  clear hR
  go_enter Tryz.func17, Tryz.ntmps17
  go_wp2_with (go_at_call 48; refine Calls.mono HIs.out ?_; rintro e w2 ⟨rfl, rfl⟩)
  go_ret
  exact ⟨rfl, rfl⟩
set_option maxRecDepth 100000 in
theorem ex_Distance (hs1 : w.cell? ⟨sp, 1, none⟩ = some (.slice (some ⟨g, 0, none⟩) n cg)) (hR : RowsS w g n mb F BD R D) (t : Int) :
  Calls Tryz.prog 18 #[.pointer (some ⟨sp, 0, none⟩), .int .i64 t] w fun e w' => e = .returned (.int .i64 (atS n D t)) ∧ w = w' := by
 have HIs := Lib.hid (ex_is hs1 t)
 by_cases h : 0 ≤ t ∧ t < (n : Int)
 ·obtain ⟨v, rfl⟩ : ∃ v : Nat, t = (v : Int) := ⟨t.toNat, by omega⟩
  have hv : v < n := by omega
  rw [atS_in hv]
  rw [decide_eq_true h] at HIs
  have c2 := hR.cell3 hv
  obtain ⟨v0, v1⟩ := h
  clear hR
  go_enter Tryz.func18, Tryz.ntmps18
  go_wp2_with (go_at_call 48; refine Calls.mono HIs.out ?_; rintro e w2 ⟨rfl, rfl⟩)
  go_ret
  exact ⟨rfl, rfl⟩
 ·rw [atS_out h]
  rw [decide_eq_false h] at HIs
  clear hR
  go_enter Tryz.func18, Tryz.ntmps18
  go_wp2_with (go_at_call 48; refine Calls.mono HIs.out ?_; rintro e w2 ⟨rfl, rfl⟩)
  go_ret
  exact ⟨rfl, rfl⟩
def beg (n : Nat) (R D : Nat → Int) : Int := bestG (fun t => decide (R t = 0)) D n

set_option maxRecDepth 100000 in
set_option maxHeartbeats 4000000 in
theorem ex_begin (hs1 : w.cell? ⟨sp, 1, none⟩ = some (.slice (some ⟨g, 0, none⟩) n cg)) (hR : RowsS w g n mb F BD R D) (hn9 : n ≤ 1024) :
  Calls Tryz.prog 47 #[.pointer (some ⟨sp, 0, none⟩)] w fun e w' => e = .returned (.int .i64 (beg n R D)) ∧ Kp (fun _ => False) w w' := by
 have HSt := Lib.hid (fun (u : World) (hu : Kp (fun _ => False) w u) => ex_States (hu.cellAt2 hs1))
 have HSc := Lib.hid (fun (u : World) (hu : Kp (fun _ => False) w u) => hu.cellAt2 hs1)
 have HR := Lib.hid hR
 obtain ⟨bg, hbg⟩ : ∃ bg : Nat → Int, bestG (fun t => decide (R t = 0)) D = bg := ⟨_, rfl⟩
 have HBc := Lib.hid (fun k => hbg ▸ bestG_cases (st := fun t => decide (R t = 0)) (d := D) k)
 have HB0 := Lib.hid (show bg 0 = -1 from hbg ▸ rfl)
 have HBs := Lib.hid (fun k => show bg (k + 1) = if R k = 0 ∧ D k ≠ -1 ∧ (bg k = -1 ∨ D k < D (bg k).toNat) then (k : Int) else bg k by
  rw [← hbg]
  show (if decide (R k = 0) = true ∧ _ then _ else _) = _
  simp only [decide_eq_true_eq])
 have he : beg n R D = bg n := by unfold beg; rw [hbg]
 rw [he]
 have HSw := Lib.hid (HSt.out w (Kp.refl _ _))
 clear hs1 hR hbg he HSt
 go_enter Tryz.func47, Tryz.ntmps47
 go_wp2_with (go_at_call 14; refine Calls.mono HSw.out ?_; rintro e w2 ⟨rfl, rfl⟩)
 go_loopw [3, 4, 7] (fun v3 v4 v7 wr => ∃ k : Nat, v7 = .int .i64 (k : Int) ∧ k ≤ n ∧ v3 = .int .i64 (bg k) ∧ Kp (fun _ => False) w wr) (fun _ _ v7 _ => n - (intOf v7).toNat)
 case atStart => exact ⟨0, rfl, Nat.zero_le _, by rw [HB0.out], Kp.refl _ _⟩
 case round =>
  obtain ⟨k, rfl, hk, rfl, hK⟩ := hrel
  have HK := Lib.hid hK
  have c1 := HSc.out wr hK
  have HRw := Lib.hid (HR.out.kp hK)
  clear hK
  by_cases hlt : k < n
  ·have k0 : (0 : Int) ≤ (k : Int) := by omega
   have k1 : (k : Int) < (n : Int) := by omega
   have b2 := HRw.out.cell2 hlt
   have b3 := HRw.out.cell3 hlt
   have hs := HBs.out k
   have hc := HBc.out k
   obtain ⟨B, hB⟩ : ∃ B, bg k = B := ⟨_, rfl⟩
   rw [hB] at hs hc ⊢
   clear hB
   obtain ⟨rk, hrk⟩ : ∃ x, R k = x := ⟨_, rfl⟩
   obtain ⟨dk, hdk⟩ : ∃ x, D k = x := ⟨_, rfl⟩
   rw [hrk] at b2 hs
   rw [hdk] at b3 hs
   clear hrk hdk
   by_cases h1 : rk = 0
   ·by_cases h2 : dk = -1
    ·have HE := Lib.hid (show bg (k + 1) = B by rw [hs, if_neg (fun q => q.2.1 h2)])
     subst h1 h2
     clear hs hc
     go_wp2_with fail
     go_roundw
     case rel => exact ⟨k + 1, by go_num, by omega, by rw [HE.out], HK.out⟩
     case measure => simp [intOf]; omega
    ·by_cases h3 : B = -1
     ·have HE := Lib.hid (show bg (k + 1) = (k : Int) by rw [hs, if_pos ⟨h1, h2, .inl h3⟩])
      subst h1 h3
      clear hs hc
      go_upto_region 6 with fail
      go_quiet (fail)
      go_wp2_with fail
      go_roundw
      case rel => exact ⟨k + 1, by go_num, by omega, by rw [HE.out], by first | exact HK.out | exact HK.out.drewN _⟩
      case measure => simp [intOf]; omega
     ·obtain ⟨b, hb, hbe⟩ : ∃ b : Nat, b < n ∧ B = (b : Int) := by
       rcases hc with ⟨q, -⟩ | ⟨b, q1, q2, -⟩
       ·exact absurd q h3
       ·exact ⟨b, by omega, q2⟩
      subst hbe
      have b0 : (0 : Int) ≤ (b : Int) := by omega
      have b1 : (b : Int) < (n : Int) := by omega
      have c3 := HRw.out.cell3 hb
      rw [Int.toNat_natCast] at hs
      obtain ⟨db, hdb⟩ : ∃ x, D b = x := ⟨_, rfl⟩
      rw [hdb] at c3 hs
      clear hdb
      by_cases h4 : dk < db
      ·have HE := Lib.hid (show bg (k + 1) = (k : Int) by rw [hs, if_pos ⟨h1, h2, .inr h4⟩])
       subst h1
       clear hs hc
       go_upto_region 6 with fail
       go_quiet (fail)
       go_wp2_with fail
       go_roundw
       case rel => exact ⟨k + 1, by go_num, by omega, by rw [HE.out], by first | exact HK.out | exact HK.out.drewN _⟩
       case measure => simp [intOf]; omega
      ·have HE := Lib.hid (show bg (k + 1) = (b : Int) by rw [hs, if_neg (fun q => by rcases q.2.2 with q | q <;> omega)])
       subst h1
       clear hs hc
       go_upto_region 6 with fail
       go_quiet (fail)
       go_wp2_with fail
       go_roundw
       case rel => exact ⟨k + 1, by go_num, by omega, by rw [HE.out], by first | exact HK.out | exact HK.out.drewN _⟩
       case measure => simp [intOf]; omega
   ·have HE := Lib.hid (show bg (k + 1) = B by rw [hs, if_neg (fun q => h1 q.1)])
    clear hs hc
    go_wp2_with fail
    go_roundw
    case rel => exact ⟨k + 1, by go_num, by omega, by rw [HE.out], HK.out⟩
    case measure => simp [intOf]; omega
  ·obtain rfl : k = n := by omega
   go_wp2_with fail
   go_ret
   exact ⟨rfl, HK.out⟩

set_option maxRecDepth 100000 in
theorem ex_First (hs1 : w.cell? ⟨sp, 1, none⟩ = some (.slice (some ⟨g, 0, none⟩) n cg)) (hR : RowsS w g n mb F BD R D) (hn9 : n ≤ 1024) :
  Calls Tryz.prog 15 #[.pointer (some ⟨sp, 0, none⟩)] w fun e w' => e = .returned (.int .i64 (atS n D (beg n R D))) ∧ Kp (fun _ => False) w w' := by
 have HB := Lib.hid (ex_begin hs1 hR hn9)
 have HD := Lib.hid (fun u (hu : Kp (fun _ => False) w u) => ex_Distance (hu.cellAt2 hs1) (hR.kp hu) (beg n R D))
 clear hs1 hR
 go_enter Tryz.func15, Tryz.ntmps15
 go_wp2_with (first
  |(go_at_call 47; refine Calls.mono HB.out ?_; rintro e w2 ⟨rfl, hK⟩; have HK := Lib.hid hK; have HD2 := Lib.hid (HD.out w2 hK); clear hK)
  |(go_at_call 18; refine Calls.mono HD2.out ?_; rintro e w3 ⟨rfl, rfl⟩))
 go_ret
 exact ⟨rfl, HK.out⟩
end

end Go.Proofs.YtnoknecfdnjomaaGreat

/-
  The run that is told: from state to state, each nearer to what is bad. No program in sight.
-/
namespace Go.Proofs.YtnoknecfdnjomaaGreat
open Go.RowKit

def stepN (n : Nat) (F : Int → Option Int) : List Nat := (List.range n).filter (fun v => (F ((v : Nat) : Int)).isSome)
def stepL (n : Nat) (F : Int → Option Int) : List Int := (stepN n F).map (fun v => ((v : Nat) : Int))
theorem stepL_lt {n : Nat} {F : Int → Option Int} : (stepL n F).Pairwise (· < ·) := by
 unfold stepL stepN
 exact List.Pairwise.map _ (fun a b h => by omega) ((List.pairwise_lt_range).filter _)
theorem stepN_mem {n : Nat} {F : Int → Option Int} {v : Nat} : v ∈ stepN n F ↔ v < n ∧ (F (v : Int)).isSome = true := by
 unfold stepN; rw [List.mem_filter, List.mem_range]
theorem stepN_len {n : Nat} {F : Int → Option Int} : (stepN n F).length ≤ n := by
 unfold stepN
 have := List.length_filter_le (fun v => (F ((v : Nat) : Int)).isSome) (List.range n)
 rw [List.length_range] at this
 exact this

def hopG (n : Nat) (F : Nat → Int → Option Int) (D : Nat → Int) (s : Nat) : Nat := ((stepN n (F s)).find? (fun t => decide (D t = D s - 1))).getD 0
def chainG (n : Nat) (F : Nat → Int → Option Int) (D : Nat → Int) (s : Nat) : Nat → Nat
  | 0 => s
  | k + 1 => hopG n F D (chainG n F D s k)
section
variable {n m : Nat} {bad : Nat → Bool} {F : Nat → Int → Option Int} {D : Nat → Int}

structure NearG (n : Nat) (F : Nat → Int → Option Int) (bad : Nat → Bool) (D : Nat → Int) : Prop where
  low : ∀ s, s < n → -1 ≤ D s
  zero : ∀ s, s < n → D s = 0 → bad s = true
  one : ∀ s, s < n → ∀ k : Nat, D s = (k : Int) + 1 → ∃ t, t < n ∧ (F s (t : Int)).isSome = true ∧ D t = k

theorem NearG.hop (h : NearG n F bad D) {s k : Nat} (hs : s < n) (hd : D s = (k : Int) + 1) : hopG n F D s < n ∧ (F s (hopG n F D s : Int)).isSome = true ∧ D (hopG n F D s) = k := by
 obtain ⟨t, ht, h1, h2⟩ := h.one s hs k hd
 unfold hopG
 cases e : (stepN n (F s)).find? (fun t => decide (D t = D s - 1)) with
 |none =>
  have := List.find?_eq_none.1 e t (stepN_mem.2 ⟨ht, h1⟩)
  simp only [decide_eq_true_eq] at this
  omega
 |some u =>
  have h3 := List.find?_some e
  have h4 := stepN_mem.1 (List.mem_of_find?_eq_some e)
  simp only [decide_eq_true_eq] at h3
  exact ⟨h4.1, h4.2, by show D u = k; omega⟩
theorem NearG.chain (h : NearG n F bad D) {s d : Nat} (hs : s < n) (hd : D s = d) : ∀ k, k ≤ d → chainG n F D s k < n ∧ D (chainG n F D s k) = (d : Int) - k
 |0, _ => ⟨hs, by show D s = _; rw [hd]; omega⟩
 |k + 1, hk => by
  obtain ⟨h1, h2⟩ := h.chain hs hd k (by omega)
  obtain ⟨j, hj⟩ : ∃ j : Nat, d - k = j + 1 := ⟨d - k - 1, by omega⟩
  have := h.hop h1 (k := j) (by omega)
  refine ⟨this.1, ?_⟩
  show D (hopG n F D (chainG n F D s k)) = _
  rw [this.2.2]; omega
end

end Go.Proofs.YtnoknecfdnjomaaGreat

/-
  The library's contracts at this dump, as the kit's own tool lays them.
-/
namespace Go.Proofs
open Go.Shelf
def Tryz.lays189_ren : Go.Shelf.Ren := ⟨fun | 189 => 68 | 125 => 91 | 257 => 90 | 128 => 107 | 129 => 108 | 294 => 98 | 295 => 99 | 296 => 100 | 297 => 101 | 298 => 102 | 299 => 103 | 216 => 104 | 300 => 105 | 301 => 106 | 328 => 117 | 329 => 118 | 330 => 119 | 331 => 120 | 332 => 121 | 215 => 122 | 343 => 125 | n => n, fun | 28 => 22 | 3 => 3 | 46 => 126 | 0 => 0 | 51 => 140 | 53 => 142 | 4 => 4 | 183 => 133 | 182 => 132 | 131 => 100 | 5 => 5 | 9 => 9 | 218 => 152 | 222 => 156 | 228 => 159 | 229 => 160 | n => n, fun | n => n⟩
theorem Tryz.lays189 : Go.Proofs.Lays.n189 Tryz.prog Tryz.lays189_ren := {
 mixed := by kernel_rfl
 f125 := Tryz.func91.trans (congrArg some (by kernel_rfl))
 f128 := Tryz.func107.trans (congrArg some (by kernel_rfl))
 f129 := Tryz.func108.trans (congrArg some (by kernel_rfl))
 f189 := Tryz.func68.trans (congrArg some (by kernel_rfl))
 f215 := Tryz.func122.trans (congrArg some (by kernel_rfl))
 f216 := Tryz.func104.trans (congrArg some (by kernel_rfl))
 f257 := Tryz.func90.trans (congrArg some (by kernel_rfl))
 f294 := Tryz.func98.trans (congrArg some (by kernel_rfl))
 f295 := Tryz.func99.trans (congrArg some (by kernel_rfl))
 f296 := Tryz.func100.trans (congrArg some (by kernel_rfl))
 f297 := Tryz.func101.trans (congrArg some (by kernel_rfl))
 f298 := Tryz.func102.trans (congrArg some (by kernel_rfl))
 f299 := Tryz.func103.trans (congrArg some (by kernel_rfl))
 f300 := Tryz.func105.trans (congrArg some (by kernel_rfl))
 f301 := Tryz.func106.trans (congrArg some (by kernel_rfl))
 f328 := Tryz.func117.trans (congrArg some (by kernel_rfl))
 f329 := Tryz.func118.trans (congrArg some (by kernel_rfl))
 f330 := Tryz.func119.trans (congrArg some (by kernel_rfl))
 f331 := Tryz.func120.trans (congrArg some (by kernel_rfl))
 f332 := Tryz.func121.trans (congrArg some (by kernel_rfl))
 f343 := Tryz.func125.trans (congrArg some (by kernel_rfl))
 t0 := Tryz.underlying0
 a0 := Tryz.isAgg0
 z0 := Tryz.sizeOf0
 v0 := Tryz.zeroValue0
 t3 := Tryz.underlying3
 a3 := Tryz.isAgg3
 z3 := Tryz.sizeOf3
 v3 := Tryz.zeroValue3
 t4 := Tryz.underlying4
 a4 := Tryz.isAgg4
 z4 := Tryz.sizeOf4
 v4 := Tryz.zeroValue4
 t5 := Tryz.underlying5
 a5 := Tryz.isAgg5
 z5 := Tryz.sizeOf5
 v5 := Tryz.zeroValue5
 t9 := Tryz.underlying9
 a9 := Tryz.isAgg9
 z9 := Tryz.sizeOf9
 v9 := Tryz.zeroValue9
 t28 := Tryz.underlying22
 a28 := Tryz.isAgg22
 z28 := Tryz.sizeOf22
 v28 := Tryz.zeroValue22
 t46 := Tryz.underlying126
 a46 := Tryz.isAgg126
 z46 := Tryz.sizeOf126
 v46 := Tryz.zeroValue126
 t51 := Tryz.underlying140
 a51 := Tryz.isAgg140
 z51 := Tryz.sizeOf140
 v51 := Tryz.zeroValue140
 t53 := Tryz.underlying142
 a53 := Tryz.isAgg142
 z53 := Tryz.sizeOf142
 v53 := Tryz.zeroValue142
 t131 := Tryz.underlying100
 a131 := Tryz.isAgg100
 z131 := Tryz.sizeOf100
 v131 := Tryz.zeroValue100
 t182 := Tryz.underlying132
 a182 := Tryz.isAgg132
 z182 := Tryz.sizeOf132
 v182 := Tryz.zeroValue132
 t183 := Tryz.underlying133
 a183 := Tryz.isAgg133
 z183 := Tryz.sizeOf133
 v183 := Tryz.zeroValue133
 t218 := Tryz.underlying152
 a218 := Tryz.isAgg152
 z218 := Tryz.sizeOf152
 v218 := Tryz.zeroValue152
 t222 := Tryz.underlying156
 a222 := Tryz.isAgg156
 z222 := Tryz.sizeOf156
 v222 := Tryz.zeroValue156
 t228 := Tryz.underlying159
 a228 := Tryz.isAgg159
 z228 := Tryz.sizeOf159
 v228 := Tryz.zeroValue159
 t229 := Tryz.underlying160
 a229 := Tryz.isAgg160
 z229 := Tryz.sizeOf160
 v229 := Tryz.zeroValue160 }
open Go.Sort Go.RowKit in
theorem Tryz.slices_Sort_int (blk off cap : Nat) (zs : List Int) (w : World) (hH : Holds (Value.int .i64) w blk off zs.toArray) (hblk : blk < w.heap.size) (hsz : zs.length < 4611686018427387904) :
  Calls Tryz.prog 68 #[.slice (some ⟨blk, off, none⟩) zs.length cap] w fun e w' =>
   e = .returned (.tuple #[]) ∧ ∃ n os, w' = grow (putRow (Value.int .i64) (Sort.ahead w n) blk off (zs.mergeSort fun x y => decide (x ≤ y)).toArray) os := Any.slices_Sort_int Tryz.lays189 blk off cap zs w hH hblk hsz
open Go.RowKit Go.Sort in
theorem Tryz.slices_Sort_int_none (p : Option Addr) (cap : Nat) (w : World) :
  Calls Tryz.prog 68 #[.slice p 0 cap] w fun e w' => e = .returned (.tuple #[]) ∧ w' = w := Any.slices_Sort_int_none Tryz.lays189 p cap w
end Go.Proofs

/-
  The library's contracts at this dump, as the kit's own tool lays them: maps.Keys, slices.Sorted.
-/
namespace Go.Proofs
open Go.Shelf
def Tryz.keysA_ren : Go.Shelf.Ren := ⟨fun | 7 => 50 | 10 => 69 | n => n, fun | 23 => 73 | 26 => 3 | 3 => 3 | 28 => 90 | 0 => 0 | 27 => 89 | 33 => 87 | 4 => 4 | n => n, fun | n => n⟩
theorem Tryz.keysA : Go.Proofs.SlLaysZI.n7 Tryz.prog Tryz.keysA_ren := {
 mixed := by kernel_rfl
 f7 := ⟨Tryz.f50.name, by decide, Tryz.func50.trans (congrArg some (by kernel_rfl))⟩
 f10 := ⟨Tryz.f69.name, by decide, Tryz.func69.trans (congrArg some (by kernel_rfl))⟩
 t0 := Tryz.underlying0
 a0 := Tryz.isAgg0
 z0 := Tryz.sizeOf0
 v0 := Tryz.zeroValue0
 t4 := Tryz.underlying4
 a4 := Tryz.isAgg4
 z4 := Tryz.sizeOf4
 v4 := Tryz.zeroValue4
 t23 := Tryz.underlying73
 a23 := Tryz.isAgg73
 z23 := Tryz.sizeOf73
 v23 := Tryz.zeroValue73
 t26 := Tryz.underlying3
 a26 := Tryz.isAgg3
 z26 := Tryz.sizeOf3
 v26 := Tryz.zeroValue3
 t27 := Tryz.underlying89
 a27 := Tryz.isAgg89
 z27 := Tryz.sizeOf89
 v27 := Tryz.zeroValue89
 t28 := Tryz.underlying90
 a28 := Tryz.isAgg90
 z28 := Tryz.sizeOf90
 v28 := Tryz.zeroValue90
 t33 := Tryz.underlying87
 a33 := Tryz.isAgg87
 z33 := Tryz.sizeOf87
 v33 := Tryz.zeroValue87 }
def Tryz.sortedA_ren : Go.Shelf.Ren := ⟨fun | 6 => 49 | 8 => 67 | 9 => 68 | 11 => 89 | 13 => 91 | 12 => 90 | 23 => 107 | 24 => 108 | 14 => 98 | 15 => 99 | 16 => 100 | 17 => 101 | 18 => 102 | 19 => 103 | 20 => 104 | 21 => 105 | 22 => 106 | 25 => 117 | 26 => 118 | 27 => 119 | 28 => 120 | 29 => 121 | 30 => 122 | 31 => 125 | n => n, fun | 26 => 3 | 28 => 90 | 24 => 22 | 0 => 0 | 3 => 3 | 37 => 126 | 48 => 140 | 50 => 142 | 4 => 4 | 40 => 133 | 39 => 132 | 45 => 100 | 5 => 5 | 9 => 9 | 51 => 152 | 55 => 156 | 57 => 159 | 58 => 160 | 33 => 87 | n => n, fun | n => n⟩
theorem Tryz.sortedA : Go.Proofs.SlLaysZI.n6 Tryz.prog Tryz.sortedA_ren := {
 mixed := by kernel_rfl
 f6 := ⟨Tryz.f49.name, by decide, Tryz.func49.trans (congrArg some (by kernel_rfl))⟩
 f8 := ⟨Tryz.f67.name, by decide, Tryz.func67.trans (congrArg some (by kernel_rfl))⟩
 f11 := ⟨Tryz.f89.name, by decide, Tryz.func89.trans (congrArg some (by kernel_rfl))⟩
 t0 := Tryz.underlying0
 a0 := Tryz.isAgg0
 z0 := Tryz.sizeOf0
 v0 := Tryz.zeroValue0
 t24 := Tryz.underlying22
 a24 := Tryz.isAgg22
 z24 := Tryz.sizeOf22
 v24 := Tryz.zeroValue22
 t26 := Tryz.underlying3
 a26 := Tryz.isAgg3
 z26 := Tryz.sizeOf3
 v26 := Tryz.zeroValue3
 t28 := Tryz.underlying90
 a28 := Tryz.isAgg90
 z28 := Tryz.sizeOf90
 v28 := Tryz.zeroValue90
 i26 := by kernel_rfl }
end Go.Proofs
