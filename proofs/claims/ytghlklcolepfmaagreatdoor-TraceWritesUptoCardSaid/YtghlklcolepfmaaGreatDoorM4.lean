/-
  latchetref17.Lit.
-/
import Derived.Test.YtghlklcolepfmaaGreatDoorM3
import Derived.BigRegion
import Derived.Laws.CopyOwn
set_option linter.unusedVariables false
set_option linter.unusedSimpArgs false
namespace Go.Proofs.YtghlklcolepfmaaGreatDoor
open Go.RowKit

set_option maxRecDepth 100000 in
set_option maxHeartbeats 4000000 in
theorem ref17_Lit (V : CV) (C : Circ) (p : Nat) (a4 a5 : Option Addr) (c4 c5 : Nat) (sa : Option Addr) (sn sc : Nat) (ia : Option Addr) (in_ ic : Nat) (st ip : List Bool) (l : Int) (w : World) (hM : MAt w 101 V C p a4 c4 a5 c5) (hf : CFew C 1000000) (hg : GoodC C) (hs : RowAt w sa (bv st)) (hsn : st.length = sn) (hs1 : sn ≤ 100000000) (hi : RowAt w ia (bv ip)) (hin : ip.length = in_) (hi1 : in_ ≤ 100000000) (hl : l ∈ C.used) :
  Calls Tryz.prog 84 #[.pointer (some ⟨p, 0, none⟩), .slice sa sn sc, .slice ia in_ ic, .int .i64 l] w fun e w' => e = .returned (.bool (litM C st ip l)) ∧ Kp (fun _ => False) w w' := by
 have HIb := Lib.hid (show (Tryz.prog.info? 4).map (fun i => (i.zero, i.size, i.bytes)) = some (some (.bool false), 1, 1) by kernel_rfl)
 obtain ⟨l0, lq, ly0, ly1, ly2, -, -⟩ := lit_place hg hl
 have hnl := nodes_len C
 have hol := (ordO_at C.gates).len
 have hfi := hf.i
 have hfl := hf.l
 have hfg := hf.g
 have hN4 : (netOf C).1.length ≤ 3000000 := by omega
 have hN5 : (netOf C).2.length ≤ 20000000 := by
  have h1 := (netG_inv hg (ordO C.gates).length (Nat.le_refl _)).size
  have h2 := hg.mx
  have h3 := hg.rng.max1
  show (netG C _).2.length ≤ _
  omega
 obtain ⟨q, hq⟩ : ∃ q : Nat, (l / 2).toNat = q := ⟨_, rfl⟩
 have hld : l / 2 = (q : Int) := by omega
 have hsp := lit_split (vals := valsM C st ip) ly0 ly1
 rw [hq] at lq ly0 ly1 ly2 hsp
 obtain ⟨b5, o5, ha5, hY⟩ := hM.ats q _ (iv_at lq)
 obtain ⟨y, hy⟩ : ∃ y, gi (netOf C).2 q = y := ⟨_, rfl⟩
 rw [hy] at hY ly0 ly1 ly2 hsp
 have HY0 := Lib.hid hY
 have HPl := Lib.hid (show 0 ≤ y ∧ (y / 2).toNat < (netOf C).1.length + 1 from ⟨ly0, by omega⟩)
 have HLd := Lib.hid (show l.tdiv 2 = (q : Int) by rw [Int.tdiv_eq_ediv_of_nonneg l0]; exact hld)
 have HLm := Lib.hid (show l.tmod 2 = l % 2 from Int.tmod_eq_emod_of_nonneg l0)
 have HSp := Lib.hid (show (litN (valsM C st ip) y != (l % 2 == 1)) = litM C st ip l from by
  have e : (l % 2 == 1) = decide (l % 2 = 1) := by by_cases e : l % 2 = 1 <;> simp [e]
  rw [e]; exact hsp)
 have HM := Lib.hid hM
 have HF := Lib.hid hf
 have HG := Lib.hid hg
 have HS := Lib.hid hs
 have HSn := Lib.hid hsn
 have HI := Lib.hid hi
 have HIn := Lib.hid hin
 have q0 : (0 : Int) ≤ (q : Int) := by omega
 have q1 : (q : Int) < ((netOf C).2.length : Int) := by omega
 subst ha5
 clear hM hf hg hs hsn hi hin hl hq hY hy hsp hnl hol hfi hfl hfg ly0 ly1 ly2
 have HK0 := Lib.hid (Kp.refl (fun _ => False) w)
 have HB := Lib.hid HM.out.blk
 have HIn' := HIn
 go_enter Tryz.func84, Tryz.ntmps84
 go_upto_region 1 with fail
 refine wp_region_loose (p := upTo 16) (V := atV [EqV ((.slice ia in_ ic)), EqV ((.pointer (some ⟨p, 0, none⟩))), EqV (.pointer (some ⟨p, 0, none⟩)), EqV (.pointer (some ⟨p, 0, none⟩)), EqV (.pointer (some ⟨p, 1, none⟩)), EqV (.slice V.ai C.ins.length V.ci), EqV (.int .i64 (C.ins.length : Int)), (fun u v => Own u w.heap.size 4 v (bv (brought ip C.ins.length))), EqV ((.slice sa sn sc)), EqV ((.pointer (some ⟨p, 0, none⟩))), EqV (.pointer (some ⟨p, 0, none⟩)), EqV (.pointer (some ⟨p, 0, none⟩)), EqV (.pointer (some ⟨p, 2, none⟩)), EqV (.slice V.al C.lats.length V.cl), EqV (.int .i64 (C.lats.length : Int)), (fun u v => Own u w.heap.size 4 v (bv (brought st C.lats.length)))]) (LP := #[true, true, true, true, true, true, true, true, true, true, true, true, true, true, true, true, false, false]) (K := 2) (by kernel_rfl) (by kernel_rfl) (atV_st ?hstL1) ?hstepL1 (by kernel_rfl) ?hLPL1 (by kernel_rfl) ?hendL1
 case hstL1 =>
  intro W h
  simp only [List.mem_cons, List.not_mem_nil, or_false] at h
  rcases h with rfl | rfl | rfl | rfl | rfl | rfl | rfl | rfl | rfl | rfl | rfl | rfl | rfl | rfl | rfl | rfl <;> first | exact EqV.st _ | exact fun _ _ _ k h => Own.kp h k (fun _ _ h => h)
 case hLPL1 => exact upTo_spec (by kernel_rfl)
 case hstepL1 =>
  intro i o ho hp a u hk hoff hdep
  have e0 : a.tmps[0]?.getD undef = (.pointer (some ⟨p, 0, none⟩)) := slot_at (hoff 0 (noDst_spec (by kernel_rfl)))
  have e1 : a.tmps[1]?.getD undef = (.slice sa sn sc) := slot_at (hoff 1 (noDst_spec (by kernel_rfl)))
  have e2 : a.tmps[2]?.getD undef = (.slice ia in_ ic) := slot_at (hoff 2 (noDst_spec (by kernel_rfl)))
  clear hoff
  match i, ho with
  |0, ho =>
   obtain rfl := Option.some.inj ho
   refine lw_value (v := (.slice ia in_ ic)) (u' := u) ?_ (Kp.refl _ _) rfl
   go_simp
  |1, ho =>
   obtain rfl := Option.some.inj ho
   refine lw_value (v := (.pointer (some ⟨p, 0, none⟩))) (u' := u) ?_ (Kp.refl _ _) rfl
   go_simp
  |2, ho =>
   obtain rfl := Option.some.inj ho
   have e11 : a.tmps[11]?.getD undef = (.pointer (some ⟨p, 0, none⟩)) := slot_at (hdep ⟨1, .data⟩ (by simp) rfl _ 11 rfl rfl)
   refine lw_value (v := .pointer (some ⟨p, 0, none⟩)) (u' := u) ?_ (Kp.refl _ _) rfl
   go_simp
  |3, ho =>
   obtain rfl := Option.some.inj ho
   have e12 : a.tmps[12]?.getD undef = .pointer (some ⟨p, 0, none⟩) := slot_at (hdep ⟨2, .data⟩ (by simp) rfl _ 12 rfl rfl)
   refine lw_value (v := .pointer (some ⟨p, 0, none⟩)) (u' := u) ?_ (Kp.refl _ _) rfl
   go_simp
  |4, ho =>
   obtain rfl := Option.some.inj ho
   have e13 : a.tmps[13]?.getD undef = .pointer (some ⟨p, 0, none⟩) := slot_at (hdep ⟨3, .data⟩ (by simp) rfl _ 13 rfl rfl)
   refine lw_value (v := .pointer (some ⟨p, 1, none⟩)) (u' := u) ?_ (Kp.refl _ _) rfl
   go_simp
  |5, ho =>
   obtain rfl := Option.some.inj ho
   have e14 : a.tmps[14]?.getD undef = .pointer (some ⟨p, 1, none⟩) := slot_at (hdep ⟨4, .data⟩ (by simp) rfl _ 14 rfl rfl)
   have c1 := (HB.out.kp hk (fun h => h)).cell (i := 1) (v := .slice V.ai C.ins.length V.ci) rfl
   refine lw_value (v := .slice V.ai C.ins.length V.ci) (u' := u) ?_ (Kp.refl _ _) rfl
   go_simp
  |6, ho =>
   obtain rfl := Option.some.inj ho
   have e15 : a.tmps[15]?.getD undef = .slice V.ai C.ins.length V.ci := slot_at (hdep ⟨5, .data⟩ (by simp) rfl _ 15 rfl rfl)
   refine lw_value (v := .int .i64 (C.ins.length : Int)) (u' := u) ?_ (Kp.refl _ _) rfl
   go_simp
  |7, ho =>
   obtain rfl := Option.some.inj ho
   have e10 : a.tmps[10]?.getD undef = (.slice ia in_ ic) := slot_at (hdep ⟨0, .data⟩ (by simp) rfl _ 10 rfl rfl)
   have e16 : a.tmps[16]?.getD undef = .int .i64 (C.ins.length : Int) := slot_at (hdep ⟨6, .data⟩ (by simp) rfl _ 16 rfl rfl)
   refine lw_call (f := 59) (args := #[.slice ia in_ ic, .int .i64 (C.ins.length : Int)]) ?_ ?_
   ·go_simp
   ·exact (ref17_Brought ia in_ ic ip C.ins.length u (HI.out.kp (HK0.out.trans hk (fun _ _ h => h)) (fun _ _ h => h)) HIn.out (by omega) (by have := HF.out.i; omega)).mono (by
     rintro e u' ⟨v, rfl, hO, hK⟩
     exact ⟨v, rfl, hK, hO.mono (by have := hk.size; have := HK0.out.size; omega)⟩)
  |8, ho =>
   obtain rfl := Option.some.inj ho
   refine lw_value (v := (.slice sa sn sc)) (u' := u) ?_ (Kp.refl _ _) rfl
   go_simp
  |9, ho =>
   obtain rfl := Option.some.inj ho
   refine lw_value (v := (.pointer (some ⟨p, 0, none⟩))) (u' := u) ?_ (Kp.refl _ _) rfl
   go_simp
  |10, ho =>
   obtain rfl := Option.some.inj ho
   have e19 : a.tmps[19]?.getD undef = (.pointer (some ⟨p, 0, none⟩)) := slot_at (hdep ⟨9, .data⟩ (by simp) rfl _ 19 rfl rfl)
   refine lw_value (v := .pointer (some ⟨p, 0, none⟩)) (u' := u) ?_ (Kp.refl _ _) rfl
   go_simp
  |11, ho =>
   obtain rfl := Option.some.inj ho
   have e20 : a.tmps[20]?.getD undef = .pointer (some ⟨p, 0, none⟩) := slot_at (hdep ⟨10, .data⟩ (by simp) rfl _ 20 rfl rfl)
   refine lw_value (v := .pointer (some ⟨p, 0, none⟩)) (u' := u) ?_ (Kp.refl _ _) rfl
   go_simp
  |12, ho =>
   obtain rfl := Option.some.inj ho
   have e21 : a.tmps[21]?.getD undef = .pointer (some ⟨p, 0, none⟩) := slot_at (hdep ⟨11, .data⟩ (by simp) rfl _ 21 rfl rfl)
   refine lw_value (v := .pointer (some ⟨p, 2, none⟩)) (u' := u) ?_ (Kp.refl _ _) rfl
   go_simp
  |13, ho =>
   obtain rfl := Option.some.inj ho
   have e22 : a.tmps[22]?.getD undef = .pointer (some ⟨p, 2, none⟩) := slot_at (hdep ⟨12, .data⟩ (by simp) rfl _ 22 rfl rfl)
   have c1 := (HB.out.kp hk (fun h => h)).cell (i := 2) (v := .slice V.al C.lats.length V.cl) rfl
   refine lw_value (v := .slice V.al C.lats.length V.cl) (u' := u) ?_ (Kp.refl _ _) rfl
   go_simp
  |14, ho =>
   obtain rfl := Option.some.inj ho
   have e23 : a.tmps[23]?.getD undef = .slice V.al C.lats.length V.cl := slot_at (hdep ⟨13, .data⟩ (by simp) rfl _ 23 rfl rfl)
   refine lw_value (v := .int .i64 (C.lats.length : Int)) (u' := u) ?_ (Kp.refl _ _) rfl
   go_simp
  |15, ho =>
   obtain rfl := Option.some.inj ho
   have e18 : a.tmps[18]?.getD undef = (.slice sa sn sc) := slot_at (hdep ⟨8, .data⟩ (by simp) rfl _ 18 rfl rfl)
   have e24 : a.tmps[24]?.getD undef = .int .i64 (C.lats.length : Int) := slot_at (hdep ⟨14, .data⟩ (by simp) rfl _ 24 rfl rfl)
   refine lw_call (f := 59) (args := #[.slice sa sn sc, .int .i64 (C.lats.length : Int)]) ?_ ?_
   ·go_simp
   ·exact (ref17_Brought sa sn sc st C.lats.length u (HS.out.kp (HK0.out.trans hk (fun _ _ h => h)) (fun _ _ h => h)) HSn.out (by omega) (by have := HF.out.l; omega)).mono (by
     rintro e u' ⟨v, rfl, hO, hK⟩
     exact ⟨v, rfl, hK, hO.mono (by have := hk.size; have := HK0.out.size; omega)⟩)
  |n + 16, _ => exact absurd hp (by simp [upTo])
 intro a u hI
 have hsz : a.tmps.size = 46 := hI.size
 have hdf : a.defers = [] := hI.defers
 have f0 : a.tmps.getD 0 undef = _ := hI.off 0 (noDst_spec (p := upTo 16) (by kernel_rfl))
 have f1 : a.tmps.getD 1 undef = _ := hI.off 1 (noDst_spec (p := upTo 16) (by kernel_rfl))
 have f2 : a.tmps.getD 2 undef = _ := hI.off 2 (noDst_spec (p := upTo 16) (by kernel_rfl))
 have f3 : a.tmps.getD 3 undef = _ := hI.off 3 (noDst_spec (p := upTo 16) (by kernel_rfl))
 have f4 : a.tmps.getD 4 undef = _ := hI.off 4 (noDst_spec (p := upTo 16) (by kernel_rfl))
 have f5 : a.tmps.getD 5 undef = _ := hI.off 5 (noDst_spec (p := upTo 16) (by kernel_rfl))
 have f6 : a.tmps.getD 6 undef = _ := hI.off 6 (noDst_spec (p := upTo 16) (by kernel_rfl))
 have f7 : a.tmps.getD 7 undef = _ := hI.off 7 (noDst_spec (p := upTo 16) (by kernel_rfl))
 have f8 : a.tmps.getD 8 undef = _ := hI.off 8 (noDst_spec (p := upTo 16) (by kernel_rfl))
 have f9 : a.tmps.getD 9 undef = _ := hI.off 9 (noDst_spec (p := upTo 16) (by kernel_rfl))
 have f26 : a.tmps.getD 26 undef = _ := hI.off 26 (noDst_spec (p := upTo 16) (by kernel_rfl))
 have f27 : a.tmps.getD 27 undef = _ := hI.off 27 (noDst_spec (p := upTo 16) (by kernel_rfl))
 have f28 : a.tmps.getD 28 undef = _ := hI.off 28 (noDst_spec (p := upTo 16) (by kernel_rfl))
 have f29 : a.tmps.getD 29 undef = _ := hI.off 29 (noDst_spec (p := upTo 16) (by kernel_rfl))
 have f30 : a.tmps.getD 30 undef = _ := hI.off 30 (noDst_spec (p := upTo 16) (by kernel_rfl))
 have f31 : a.tmps.getD 31 undef = _ := hI.off 31 (noDst_spec (p := upTo 16) (by kernel_rfl))
 have f32 : a.tmps.getD 32 undef = _ := hI.off 32 (noDst_spec (p := upTo 16) (by kernel_rfl))
 have f33 : a.tmps.getD 33 undef = _ := hI.off 33 (noDst_spec (p := upTo 16) (by kernel_rfl))
 have f34 : a.tmps.getD 34 undef = _ := hI.off 34 (noDst_spec (p := upTo 16) (by kernel_rfl))
 have f35 : a.tmps.getD 35 undef = _ := hI.off 35 (noDst_spec (p := upTo 16) (by kernel_rfl))
 have f36 : a.tmps.getD 36 undef = _ := hI.off 36 (noDst_spec (p := upTo 16) (by kernel_rfl))
 have f37 : a.tmps.getD 37 undef = _ := hI.off 37 (noDst_spec (p := upTo 16) (by kernel_rfl))
 have f38 : a.tmps.getD 38 undef = _ := hI.off 38 (noDst_spec (p := upTo 16) (by kernel_rfl))
 have f39 : a.tmps.getD 39 undef = _ := hI.off 39 (noDst_spec (p := upTo 16) (by kernel_rfl))
 have f40 : a.tmps.getD 40 undef = _ := hI.off 40 (noDst_spec (p := upTo 16) (by kernel_rfl))
 have f41 : a.tmps.getD 41 undef = _ := hI.off 41 (noDst_spec (p := upTo 16) (by kernel_rfl))
 have f42 : a.tmps.getD 42 undef = _ := hI.off 42 (noDst_spec (p := upTo 16) (by kernel_rfl))
 have f43 : a.tmps.getD 43 undef = _ := hI.off 43 (noDst_spec (p := upTo 16) (by kernel_rfl))
 have f44 : a.tmps.getD 44 undef = _ := hI.off 44 (noDst_spec (p := upTo 16) (by kernel_rfl))
 have f45 : a.tmps.getD 45 undef = _ := hI.off 45 (noDst_spec (p := upTo 16) (by kernel_rfl))
 have f10 : a.tmps.getD 10 undef = (.slice ia in_ ic) := hI.val 0 _ 10 rfl rfl rfl
 have f11 : a.tmps.getD 11 undef = (.pointer (some ⟨p, 0, none⟩)) := hI.val 1 _ 11 rfl rfl rfl
 have f12 : a.tmps.getD 12 undef = .pointer (some ⟨p, 0, none⟩) := hI.val 2 _ 12 rfl rfl rfl
 have f13 : a.tmps.getD 13 undef = .pointer (some ⟨p, 0, none⟩) := hI.val 3 _ 13 rfl rfl rfl
 have f14 : a.tmps.getD 14 undef = .pointer (some ⟨p, 1, none⟩) := hI.val 4 _ 14 rfl rfl rfl
 have f15 : a.tmps.getD 15 undef = .slice V.ai C.ins.length V.ci := hI.val 5 _ 15 rfl rfl rfl
 have f16 : a.tmps.getD 16 undef = .int .i64 (C.ins.length : Int) := hI.val 6 _ 16 rfl rfl rfl
 have g17 : ((fun u v => Own u w.heap.size 4 v (bv (brought ip C.ins.length)))) u (a.tmps.getD 17 undef) := hI.val 7 _ 17 rfl rfl rfl
 have f18 : a.tmps.getD 18 undef = (.slice sa sn sc) := hI.val 8 _ 18 rfl rfl rfl
 have f19 : a.tmps.getD 19 undef = (.pointer (some ⟨p, 0, none⟩)) := hI.val 9 _ 19 rfl rfl rfl
 have f20 : a.tmps.getD 20 undef = .pointer (some ⟨p, 0, none⟩) := hI.val 10 _ 20 rfl rfl rfl
 have f21 : a.tmps.getD 21 undef = .pointer (some ⟨p, 0, none⟩) := hI.val 11 _ 21 rfl rfl rfl
 have f22 : a.tmps.getD 22 undef = .pointer (some ⟨p, 2, none⟩) := hI.val 12 _ 22 rfl rfl rfl
 have f23 : a.tmps.getD 23 undef = .slice V.al C.lats.length V.cl := hI.val 13 _ 23 rfl rfl rfl
 have f24 : a.tmps.getD 24 undef = .int .i64 (C.lats.length : Int) := hI.val 14 _ 24 rfl rfl rfl
 have g25 : ((fun u v => Own u w.heap.size 4 v (bv (brought st C.lats.length)))) u (a.tmps.getD 25 undef) := hI.val 15 _ 25 rfl rfl rfl
 have ha : a = ⟨#[a.tmps.getD 0 undef, a.tmps.getD 1 undef, a.tmps.getD 2 undef, a.tmps.getD 3 undef, a.tmps.getD 4 undef, a.tmps.getD 5 undef, a.tmps.getD 6 undef, a.tmps.getD 7 undef, a.tmps.getD 8 undef, a.tmps.getD 9 undef, a.tmps.getD 10 undef, a.tmps.getD 11 undef, a.tmps.getD 12 undef, a.tmps.getD 13 undef, a.tmps.getD 14 undef, a.tmps.getD 15 undef, a.tmps.getD 16 undef, a.tmps.getD 17 undef, a.tmps.getD 18 undef, a.tmps.getD 19 undef, a.tmps.getD 20 undef, a.tmps.getD 21 undef, a.tmps.getD 22 undef, a.tmps.getD 23 undef, a.tmps.getD 24 undef, a.tmps.getD 25 undef, a.tmps.getD 26 undef, a.tmps.getD 27 undef, a.tmps.getD 28 undef, a.tmps.getD 29 undef, a.tmps.getD 30 undef, a.tmps.getD 31 undef, a.tmps.getD 32 undef, a.tmps.getD 33 undef, a.tmps.getD 34 undef, a.tmps.getD 35 undef, a.tmps.getD 36 undef, a.tmps.getD 37 undef, a.tmps.getD 38 undef, a.tmps.getD 39 undef, a.tmps.getD 40 undef, a.tmps.getD 41 undef, a.tmps.getD 42 undef, a.tmps.getD 43 undef, a.tmps.getD 44 undef, a.tmps.getD 45 undef], a.defers⟩ := act_list a 46 hsz
 rw [hdf, f0, f1, f2, f3, f4, f5, f6, f7, f8, f9, f10, f11, f12, f13, f14, f15, f16, f18, f19, f20, f21, f22, f23, f24, f26, f27, f28, f29, f30, f31, f32, f33, f34, f35, f36, f37, f38, f39, f40, f41, f42, f43, f44, f45] at ha
 obtain ⟨x17, hx17⟩ : ∃ x, a.tmps.getD 17 undef = x := ⟨_, rfl⟩
 obtain ⟨x25, hx25⟩ : ∃ x, a.tmps.getD 25 undef = x := ⟨_, rfl⟩
 rw [hx17, hx25] at ha
 rw [hx17] at g17
 rw [hx25] at g25
 have hku := hI.kp
 clear hI hsz hdf f0 f1 f2 f3 f4 f5 f6 f7 f8 f9 f10 f11 f12 f13 f14 f15 f16 f18 f19 f20 f21 f22 f23 f24 f26 f27 f28 f29 f30 f31 f32 f33 f34 f35 f36 f37 f38 f39 f40 f41 f42 f43 f44 f45 hx17 hx25
 subst ha
 refine wpAny_tail 16 rfl (by kernel_rfl) ?_
 simp only [List.drop_succ_cons, List.drop_zero]
 obtain ⟨s2a, s2c, ev2, s2le, s2m, s2nil, -, hr2⟩ := ownForm g25
 have s2nil := s2nil
 rw [bv_length, brought_len] at ev2 s2le
 subst ev2
 have HO1 := Lib.hid g17
 have HR2 := Lib.hid hr2
 have HKu := Lib.hid hku
 have hlb := brought_len st C.lats.length
 clear g17 g25 hr2 hku
 go_wp2_with (at_builtin; refine wpList_append1s rfl _ _ 28 4 rfl Tryz.underlying28 HIb.out rfl HO1.out rfl s2a C.lats.length s2c (bv (brought st C.lats.length)) rfl (by rw [bv_length, brought_len]) HR2.out s2nil (bv_one _) ?k1 ?k2 ?k3 ?_)
 case k1 => have := HF.out.i; have := HF.out.l; rw [bv_length, brought_len]; omega
 case k2 => have := HF.out.i; have := HF.out.l; rw [bv_length, brought_len]; unfold maxLen; omega
 case k3 => have := HKu.out.size; simpa using this
 intro v9 w2 hO9 hg9 hat9
 have hO9' : Own w2 w.heap.size 4 v9 (bv (insOf C st ip)) := by unfold insOf; rw [bv_append]; exact hO9
 obtain ⟨n9, hn9⟩ : ∃ n, (insOf C st ip).length = n := ⟨_, rfl⟩
 obtain ⟨a9, c9, ev9, -, -, -, hr9⟩ := hO9'.form
 rw [bv_length, hn9] at ev9
 subst ev9
 have HK2 := Lib.hid (show Kp (fun _ => False) w w2 from ((Kp.refl (fun _ => False) w).trans HKu.out (fun _ _ h => h)).grown hg9 (fun j hj hl => by have := (HO1.out.lt j hj).1; omega))
 have HR9 := Lib.hid hr9
 have HN9 := Lib.hid hn9
 have hn91 : n9 ≤ 2000000 := by rw [← hn9, insOf_len]; have := HF.out.i; have := HF.out.l; omega
 have HY := Lib.hid (HK2.out.cellK HY0.out)
 have HB2 := Lib.hid (HB.out.kp HK2.out (fun h => h))
 clear hO9 hO9' hg9 hat9 hr9 hn9 hlb s2nil HB HO1 HR2 HKu
 have HB := HB2
 clear HB2
 go_upto_region 2 with fail
 refine wp_region_loose (p := upTo 19) (V := atV [EqV ((.pointer (some ⟨p, 0, none⟩))), EqV (.pointer (some ⟨p, 0, none⟩)), EqV (.pointer (some ⟨p, 9, none⟩)), EqV (.slice a4 (netOf C).1.length c4), EqV ((.slice a9 n9 c9)), (fun u v => Own u w.heap.size 4 v (bv (valsM C st ip))), EqV ((.pointer (some ⟨p, 0, none⟩))), EqV (.pointer (some ⟨p, 0, none⟩)), EqV (.pointer (some ⟨p, 10, none⟩)), EqV (.slice (some ⟨b5, o5, none⟩) (netOf C).2.length c5), EqV ((.int .i64 l)), EqV (.int .i64 (q : Int)), EqV (.pointer (some ⟨b5, o5 + q, none⟩)), EqV (.int .i64 y), EqV (.bool (litN (valsM C st ip) y)), EqV ((.int .i64 l)), EqV (.int .i64 (l % 2)), EqV (.bool (l % 2 == 1)), EqV (.bool (litN (valsM C st ip) y != (l % 2 == 1)))]) (LP := #[true, true, true, true, true, true, true, true, true, true, true, true, true, true, true, true, true, true, true, false]) (K := 1) (by kernel_rfl) (by kernel_rfl) (atV_st ?hstL2) ?hstepL2 (by kernel_rfl) ?hLPL2 (by kernel_rfl) ?hendL2
 case hstL2 =>
  intro W h
  simp only [List.mem_cons, List.not_mem_nil, or_false] at h
  rcases h with rfl | rfl | rfl | rfl | rfl | rfl | rfl | rfl | rfl | rfl | rfl | rfl | rfl | rfl | rfl | rfl | rfl | rfl | rfl <;> first | exact EqV.st _ | exact fun _ _ _ k h => Own.kp h k (fun _ _ h => h)
 case hLPL2 => exact upTo_spec (by kernel_rfl)
 case hstepL2 =>
  intro i o ho hp a u hk hoff hdep
  have e0 : a.tmps[0]?.getD undef = (.pointer (some ⟨p, 0, none⟩)) := slot_at (hoff 0 (noDst_spec (by kernel_rfl)))
  have e3 : a.tmps[3]?.getD undef = (.int .i64 l) := slot_at (hoff 3 (noDst_spec (by kernel_rfl)))
  have e9 : a.tmps[9]?.getD undef = (.slice a9 n9 c9) := slot_at (hoff 9 (noDst_spec (by kernel_rfl)))
  clear hoff
  match i, ho with
  |0, ho =>
   obtain rfl := Option.some.inj ho
   refine lw_value (v := (.pointer (some ⟨p, 0, none⟩))) (u' := u) ?_ (Kp.refl _ _) rfl
   go_simp
  |1, ho =>
   obtain rfl := Option.some.inj ho
   have e27 : a.tmps[27]?.getD undef = (.pointer (some ⟨p, 0, none⟩)) := slot_at (hdep ⟨0, .data⟩ (by simp) rfl _ 27 rfl rfl)
   refine lw_value (v := .pointer (some ⟨p, 0, none⟩)) (u' := u) ?_ (Kp.refl _ _) rfl
   go_simp
  |2, ho =>
   obtain rfl := Option.some.inj ho
   have e28 : a.tmps[28]?.getD undef = .pointer (some ⟨p, 0, none⟩) := slot_at (hdep ⟨1, .data⟩ (by simp) rfl _ 28 rfl rfl)
   refine lw_value (v := .pointer (some ⟨p, 9, none⟩)) (u' := u) ?_ (Kp.refl _ _) rfl
   go_simp
  |3, ho =>
   obtain rfl := Option.some.inj ho
   have e29 : a.tmps[29]?.getD undef = .pointer (some ⟨p, 9, none⟩) := slot_at (hdep ⟨2, .data⟩ (by simp) rfl _ 29 rfl rfl)
   have c1 := (HB.out.kp hk (fun h => h)).cell (i := 9) (v := .slice a4 (netOf C).1.length c4) rfl
   refine lw_value (v := .slice a4 (netOf C).1.length c4) (u' := u) ?_ (Kp.refl _ _) rfl
   go_simp
  |4, ho =>
   obtain rfl := Option.some.inj ho
   refine lw_value (v := (.slice a9 n9 c9)) (u' := u) ?_ (Kp.refl _ _) rfl
   go_simp
  |5, ho =>
   obtain rfl := Option.some.inj ho
   have e30 : a.tmps[30]?.getD undef = .slice a4 (netOf C).1.length c4 := slot_at (hdep ⟨3, .data⟩ (by simp) rfl _ 30 rfl rfl)
   have e31 : a.tmps[31]?.getD undef = (.slice a9 n9 c9) := slot_at (hdep ⟨4, .data⟩ (by simp) rfl _ 31 rfl rfl)
   refine lw_call (f := 104) (args := #[.slice a4 (netOf C).1.length c4, .slice a9 n9 c9]) ?_ ?_
   ·go_simp
   ·exact (ref07_Values a4 (netOf C).1.length c4 (netOf C).1 a9 n9 c9 (insOf C st ip) u (HM.out.net.kp (HK2.out.trans hk (fun _ _ h => h)) (fun _ _ h => h)) rfl (by omega) HG.out.net (HR9.out.kp hk (fun _ _ h => h)) HN9.out (by omega)).mono (by
     rintro e u' ⟨v, rfl, hO, hK⟩
     exact ⟨v, rfl, hK, hO.mono (by have := hk.size; have := HK2.out.size; omega)⟩)
  |6, ho =>
   obtain rfl := Option.some.inj ho
   refine lw_value (v := (.pointer (some ⟨p, 0, none⟩))) (u' := u) ?_ (Kp.refl _ _) rfl
   go_simp
  |7, ho =>
   obtain rfl := Option.some.inj ho
   have e33 : a.tmps[33]?.getD undef = (.pointer (some ⟨p, 0, none⟩)) := slot_at (hdep ⟨6, .data⟩ (by simp) rfl _ 33 rfl rfl)
   refine lw_value (v := .pointer (some ⟨p, 0, none⟩)) (u' := u) ?_ (Kp.refl _ _) rfl
   go_simp
  |8, ho =>
   obtain rfl := Option.some.inj ho
   have e34 : a.tmps[34]?.getD undef = .pointer (some ⟨p, 0, none⟩) := slot_at (hdep ⟨7, .data⟩ (by simp) rfl _ 34 rfl rfl)
   refine lw_value (v := .pointer (some ⟨p, 10, none⟩)) (u' := u) ?_ (Kp.refl _ _) rfl
   go_simp
  |9, ho =>
   obtain rfl := Option.some.inj ho
   have e35 : a.tmps[35]?.getD undef = .pointer (some ⟨p, 10, none⟩) := slot_at (hdep ⟨8, .data⟩ (by simp) rfl _ 35 rfl rfl)
   have c1 := (HB.out.kp hk (fun h => h)).cell (i := 10) (v := .slice (some ⟨b5, o5, none⟩) (netOf C).2.length c5) rfl
   refine lw_value (v := .slice (some ⟨b5, o5, none⟩) (netOf C).2.length c5) (u' := u) ?_ (Kp.refl _ _) rfl
   go_simp
  |10, ho =>
   obtain rfl := Option.some.inj ho
   refine lw_value (v := (.int .i64 l)) (u' := u) ?_ (Kp.refl _ _) rfl
   go_simp
  |11, ho =>
   obtain rfl := Option.some.inj ho
   have e37 : a.tmps[37]?.getD undef = (.int .i64 l) := slot_at (hdep ⟨10, .data⟩ (by simp) rfl _ 37 rfl rfl)
   have h2 := HLd.out
   have h3 : IntKind.i64.wrap (q : Int) = (q : Int) := by rw [IntKind.wrap_i64]; omega
   refine lw_value (v := .int .i64 (q : Int)) (u' := u) ?_ (Kp.refl _ _) rfl
   go_simp
  |12, ho =>
   obtain rfl := Option.some.inj ho
   have e36 : a.tmps[36]?.getD undef = .slice (some ⟨b5, o5, none⟩) (netOf C).2.length c5 := slot_at (hdep ⟨9, .data⟩ (by simp) rfl _ 36 rfl rfl)
   have e38 : a.tmps[38]?.getD undef = .int .i64 (q : Int) := slot_at (hdep ⟨11, .data⟩ (by simp) rfl _ 38 rfl rfl)
   refine lw_value (v := .pointer (some ⟨b5, o5 + q, none⟩)) (u' := u) ?_ (Kp.refl _ _) rfl
   go_simp
  |13, ho =>
   obtain rfl := Option.some.inj ho
   have e39 : a.tmps[39]?.getD undef = .pointer (some ⟨b5, o5 + q, none⟩) := slot_at (hdep ⟨12, .data⟩ (by simp) rfl _ 39 rfl rfl)
   have c1 := hk.cellK HY.out
   refine lw_value (v := .int .i64 y) (u' := u) ?_ (Kp.refl _ _) rfl
   go_simp
  |14, ho =>
   obtain rfl := Option.some.inj ho
   have e40 : a.tmps[40]?.getD undef = .int .i64 y := slot_at (hdep ⟨13, .data⟩ (by simp) rfl _ 40 rfl rfl)
   have hV : Own u w.heap.size 4 (a.tmps.getD 32 undef) (bv (valsM C st ip)) := hdep ⟨5, .data⟩ (by simp) rfl _ 32 rfl rfl
   obtain ⟨vA, vC, ev, -, -, -, hvr⟩ := hV.form
   rw [bv_length, show (valsM C st ip).length = (netOf C).1.length + 1 from valsOf_len _ _] at ev
   have e32 := slot_at ev
   refine lw_call (f := 103) (args := #[.slice vA ((netOf C).1.length + 1) vC, .int .i64 y]) ?_ ?_
   ·go_simp
   ·exact (ref07_Of vA ((netOf C).1.length + 1) vC (valsM C st ip) y u hvr (valsOf_len _ _) (by omega) HPl.out.1 HPl.out.2).mono (by
     rintro e u' ⟨rfl, rfl⟩
     exact ⟨_, rfl, Kp.refl _ _, rfl⟩)
  |15, ho =>
   obtain rfl := Option.some.inj ho
   refine lw_value (v := (.int .i64 l)) (u' := u) ?_ (Kp.refl _ _) rfl
   go_simp
  |16, ho =>
   obtain rfl := Option.some.inj ho
   have e42 : a.tmps[42]?.getD undef = (.int .i64 l) := slot_at (hdep ⟨15, .data⟩ (by simp) rfl _ 42 rfl rfl)
   have h2 := HLm.out
   refine lw_value (v := .int .i64 (l % 2)) (u' := u) ?_ (Kp.refl _ _) rfl
   go_simp
  |17, ho =>
   obtain rfl := Option.some.inj ho
   have e43 : a.tmps[43]?.getD undef = .int .i64 (l % 2) := slot_at (hdep ⟨16, .data⟩ (by simp) rfl _ 43 rfl rfl)
   refine lw_value (v := .bool (l % 2 == 1)) (u' := u) ?_ (Kp.refl _ _) rfl
   go_simp
  |18, ho =>
   obtain rfl := Option.some.inj ho
   have e41 : a.tmps[41]?.getD undef = .bool (litN (valsM C st ip) y) := slot_at (hdep ⟨14, .data⟩ (by simp) rfl _ 41 rfl rfl)
   have e44 : a.tmps[44]?.getD undef = .bool (l % 2 == 1) := slot_at (hdep ⟨17, .data⟩ (by simp) rfl _ 44 rfl rfl)
   refine lw_value (v := .bool (litN (valsM C st ip) y != (l % 2 == 1))) (u' := u) ?_ (Kp.refl _ _) rfl
   go_simp
   generalize litN (valsM C st ip) y = A
   generalize (l % 2 == 1) = B
   cases A <;> cases B <;> rfl
  |n + 19, _ => exact absurd hp (by simp [upTo])
 intro a u hI
 have hsz : a.tmps.size = 46 := hI.size
 have hdf : a.defers = [] := hI.defers
 have f0 : a.tmps.getD 0 undef = _ := hI.off 0 (noDst_spec (p := upTo 19) (by kernel_rfl))
 have f1 : a.tmps.getD 1 undef = _ := hI.off 1 (noDst_spec (p := upTo 19) (by kernel_rfl))
 have f2 : a.tmps.getD 2 undef = _ := hI.off 2 (noDst_spec (p := upTo 19) (by kernel_rfl))
 have f3 : a.tmps.getD 3 undef = _ := hI.off 3 (noDst_spec (p := upTo 19) (by kernel_rfl))
 have f4 : a.tmps.getD 4 undef = _ := hI.off 4 (noDst_spec (p := upTo 19) (by kernel_rfl))
 have f5 : a.tmps.getD 5 undef = _ := hI.off 5 (noDst_spec (p := upTo 19) (by kernel_rfl))
 have f6 : a.tmps.getD 6 undef = _ := hI.off 6 (noDst_spec (p := upTo 19) (by kernel_rfl))
 have f7 : a.tmps.getD 7 undef = _ := hI.off 7 (noDst_spec (p := upTo 19) (by kernel_rfl))
 have f8 : a.tmps.getD 8 undef = _ := hI.off 8 (noDst_spec (p := upTo 19) (by kernel_rfl))
 have f9 : a.tmps.getD 9 undef = _ := hI.off 9 (noDst_spec (p := upTo 19) (by kernel_rfl))
 have f10 : a.tmps.getD 10 undef = _ := hI.off 10 (noDst_spec (p := upTo 19) (by kernel_rfl))
 have f11 : a.tmps.getD 11 undef = _ := hI.off 11 (noDst_spec (p := upTo 19) (by kernel_rfl))
 have f12 : a.tmps.getD 12 undef = _ := hI.off 12 (noDst_spec (p := upTo 19) (by kernel_rfl))
 have f13 : a.tmps.getD 13 undef = _ := hI.off 13 (noDst_spec (p := upTo 19) (by kernel_rfl))
 have f14 : a.tmps.getD 14 undef = _ := hI.off 14 (noDst_spec (p := upTo 19) (by kernel_rfl))
 have f15 : a.tmps.getD 15 undef = _ := hI.off 15 (noDst_spec (p := upTo 19) (by kernel_rfl))
 have f16 : a.tmps.getD 16 undef = _ := hI.off 16 (noDst_spec (p := upTo 19) (by kernel_rfl))
 have f17 : a.tmps.getD 17 undef = _ := hI.off 17 (noDst_spec (p := upTo 19) (by kernel_rfl))
 have f18 : a.tmps.getD 18 undef = _ := hI.off 18 (noDst_spec (p := upTo 19) (by kernel_rfl))
 have f19 : a.tmps.getD 19 undef = _ := hI.off 19 (noDst_spec (p := upTo 19) (by kernel_rfl))
 have f20 : a.tmps.getD 20 undef = _ := hI.off 20 (noDst_spec (p := upTo 19) (by kernel_rfl))
 have f21 : a.tmps.getD 21 undef = _ := hI.off 21 (noDst_spec (p := upTo 19) (by kernel_rfl))
 have f22 : a.tmps.getD 22 undef = _ := hI.off 22 (noDst_spec (p := upTo 19) (by kernel_rfl))
 have f23 : a.tmps.getD 23 undef = _ := hI.off 23 (noDst_spec (p := upTo 19) (by kernel_rfl))
 have f24 : a.tmps.getD 24 undef = _ := hI.off 24 (noDst_spec (p := upTo 19) (by kernel_rfl))
 have f25 : a.tmps.getD 25 undef = _ := hI.off 25 (noDst_spec (p := upTo 19) (by kernel_rfl))
 have f26 : a.tmps.getD 26 undef = _ := hI.off 26 (noDst_spec (p := upTo 19) (by kernel_rfl))
 have f27 : a.tmps.getD 27 undef = (.pointer (some ⟨p, 0, none⟩)) := hI.val 0 _ 27 rfl rfl rfl
 have f28 : a.tmps.getD 28 undef = .pointer (some ⟨p, 0, none⟩) := hI.val 1 _ 28 rfl rfl rfl
 have f29 : a.tmps.getD 29 undef = .pointer (some ⟨p, 9, none⟩) := hI.val 2 _ 29 rfl rfl rfl
 have f30 : a.tmps.getD 30 undef = .slice a4 (netOf C).1.length c4 := hI.val 3 _ 30 rfl rfl rfl
 have f31 : a.tmps.getD 31 undef = (.slice a9 n9 c9) := hI.val 4 _ 31 rfl rfl rfl
 have g32 : ((fun u v => Own u w.heap.size 4 v (bv (valsM C st ip)))) u (a.tmps.getD 32 undef) := hI.val 5 _ 32 rfl rfl rfl
 have f33 : a.tmps.getD 33 undef = (.pointer (some ⟨p, 0, none⟩)) := hI.val 6 _ 33 rfl rfl rfl
 have f34 : a.tmps.getD 34 undef = .pointer (some ⟨p, 0, none⟩) := hI.val 7 _ 34 rfl rfl rfl
 have f35 : a.tmps.getD 35 undef = .pointer (some ⟨p, 10, none⟩) := hI.val 8 _ 35 rfl rfl rfl
 have f36 : a.tmps.getD 36 undef = .slice (some ⟨b5, o5, none⟩) (netOf C).2.length c5 := hI.val 9 _ 36 rfl rfl rfl
 have f37 : a.tmps.getD 37 undef = (.int .i64 l) := hI.val 10 _ 37 rfl rfl rfl
 have f38 : a.tmps.getD 38 undef = .int .i64 (q : Int) := hI.val 11 _ 38 rfl rfl rfl
 have f39 : a.tmps.getD 39 undef = .pointer (some ⟨b5, o5 + q, none⟩) := hI.val 12 _ 39 rfl rfl rfl
 have f40 : a.tmps.getD 40 undef = .int .i64 y := hI.val 13 _ 40 rfl rfl rfl
 have f41 : a.tmps.getD 41 undef = .bool (litN (valsM C st ip) y) := hI.val 14 _ 41 rfl rfl rfl
 have f42 : a.tmps.getD 42 undef = (.int .i64 l) := hI.val 15 _ 42 rfl rfl rfl
 have f43 : a.tmps.getD 43 undef = .int .i64 (l % 2) := hI.val 16 _ 43 rfl rfl rfl
 have f44 : a.tmps.getD 44 undef = .bool (l % 2 == 1) := hI.val 17 _ 44 rfl rfl rfl
 have f45 : a.tmps.getD 45 undef = .bool (litN (valsM C st ip) y != (l % 2 == 1)) := hI.val 18 _ 45 rfl rfl rfl
 have ha : a = ⟨#[a.tmps.getD 0 undef, a.tmps.getD 1 undef, a.tmps.getD 2 undef, a.tmps.getD 3 undef, a.tmps.getD 4 undef, a.tmps.getD 5 undef, a.tmps.getD 6 undef, a.tmps.getD 7 undef, a.tmps.getD 8 undef, a.tmps.getD 9 undef, a.tmps.getD 10 undef, a.tmps.getD 11 undef, a.tmps.getD 12 undef, a.tmps.getD 13 undef, a.tmps.getD 14 undef, a.tmps.getD 15 undef, a.tmps.getD 16 undef, a.tmps.getD 17 undef, a.tmps.getD 18 undef, a.tmps.getD 19 undef, a.tmps.getD 20 undef, a.tmps.getD 21 undef, a.tmps.getD 22 undef, a.tmps.getD 23 undef, a.tmps.getD 24 undef, a.tmps.getD 25 undef, a.tmps.getD 26 undef, a.tmps.getD 27 undef, a.tmps.getD 28 undef, a.tmps.getD 29 undef, a.tmps.getD 30 undef, a.tmps.getD 31 undef, a.tmps.getD 32 undef, a.tmps.getD 33 undef, a.tmps.getD 34 undef, a.tmps.getD 35 undef, a.tmps.getD 36 undef, a.tmps.getD 37 undef, a.tmps.getD 38 undef, a.tmps.getD 39 undef, a.tmps.getD 40 undef, a.tmps.getD 41 undef, a.tmps.getD 42 undef, a.tmps.getD 43 undef, a.tmps.getD 44 undef, a.tmps.getD 45 undef], a.defers⟩ := act_list a 46 hsz
 rw [hdf, f0, f1, f2, f3, f4, f5, f6, f7, f8, f9, f10, f11, f12, f13, f14, f15, f16, f17, f18, f19, f20, f21, f22, f23, f24, f25, f26, f27, f28, f29, f30, f31, f33, f34, f35, f36, f37, f38, f39, f40, f41, f42, f43, f44, f45] at ha
 obtain ⟨x32, hx32⟩ : ∃ x, a.tmps.getD 32 undef = x := ⟨_, rfl⟩
 rw [hx32] at ha
 rw [hx32] at g32
 have hku := hI.kp
 clear hI hsz hdf f0 f1 f2 f3 f4 f5 f6 f7 f8 f9 f10 f11 f12 f13 f14 f15 f16 f17 f18 f19 f20 f21 f22 f23 f24 f25 f26 f27 f28 f29 f30 f31 f33 f34 f35 f36 f37 f38 f39 f40 f41 f42 f43 f44 f45 hx32
 subst ha
 refine wpAny_tail 19 rfl (by kernel_rfl) ?_
 simp only [List.drop_succ_cons, List.drop_zero]
 have HE := Lib.hid (show Kp (fun _ => False) w u from HK2.out.trans hku (fun _ _ h => h))
 clear hku g32
 go_wp2_with fail
 go_ret
 exact ⟨by rw [← HSp.out]; rfl, HE.out⟩

end Go.Proofs.YtghlklcolepfmaaGreatDoor

/-
  latchetref17: Next, Holds, Bad.
-/
namespace Go.Proofs.YtghlklcolepfmaaGreatDoor
open Go.RowKit

structure BS (w : World) (a : Option Addr) (n : Nat) (l : List Bool) : Prop where
  row : RowAt w a (bv l)
  len : l.length = n
  most : n ≤ 100000000
theorem BS.kp {w w' : World} {a : Option Addr} {n : Nat} {l : List Bool} (h : BS w a n l) (k : Kp (fun _ => False) w w') : BS w' a n l := ⟨h.row.kp k (fun _ _ h => h), h.len, h.most⟩

theorem lat_used {C : Circ} {k : Nat} (h : k < C.lats.length) : (g3 C.lats k).2.1 ∈ C.used := by
 have hm : (g3 C.lats k).2.1 ∈ C.lats.map (fun x => x.2.1) := List.mem_map.2 ⟨_, g3_mem h, rfl⟩
 unfold Circ.used
 simp only [List.mem_append]
 exact .inl (.inr hm)
theorem gi_mem {l : List Int} {k : Nat} (h : k < l.length) : gi l k ∈ l := by unfold gi; rw [List.getElem?_eq_getElem h]; exact List.getElem_mem _
theorem ref17_lit (V : CV) (C : Circ) (p : Nat) (a4 a5 : Option Addr) (c4 c5 : Nat) (sa : Option Addr) (sn sc : Nat) (ia : Option Addr) (in_ ic : Nat) (st ip : List Bool) (w : World) (hM : MAt w 101 V C p a4 c4 a5 c5) (hf : CFew C 1000000) (hg : GoodC C) (hs : BS w sa sn st) (hi : BS w ia in_ ip) :
  ∀ u, Kp (fun _ => False) w u → ∀ l, l ∈ C.used → Calls Tryz.prog 84 #[.pointer (some ⟨p, 0, none⟩), .slice sa sn sc, .slice ia in_ ic, .int .i64 l] u fun e w' => e = .returned (.bool (litM C st ip l)) ∧ Kp (fun _ => False) u w' :=
 fun u hu l hl => ref17_Lit V C p a4 a5 c4 c5 sa sn sc ia in_ ic st ip l u (hM.kp hu) hf hg (hs.kp hu).row hs.len hs.most (hi.kp hu).row hi.len hi.most hl

def nextK (C : Circ) (st ip : List Bool) (k : Nat) : List Bool := (C.lats.take k).map (fun x => litM C st ip x.2.1)
theorem nextK_succ {C : Circ} {st ip : List Bool} {k : Nat} (h : k < C.lats.length) : nextK C st ip (k + 1) = nextK C st ip k ++ [litM C st ip (g3 C.lats k).2.1] := by
 unfold nextK; rw [take_g3 h, List.map_append]; rfl
theorem nextK_full (C : Circ) (st ip : List Bool) : nextK C st ip C.lats.length = nextM C st ip := by unfold nextK nextM; rw [List.take_length]
theorem nextK_len {C : Circ} {st ip : List Bool} {k : Nat} (h : k ≤ C.lats.length) : (nextK C st ip k).length = k := by unfold nextK; simp; omega
theorem nextM_len (C : Circ) (st ip : List Bool) : (nextM C st ip).length = C.lats.length := by unfold nextM; simp

set_option maxRecDepth 100000 in
set_option maxHeartbeats 2000000 in
theorem ref17_Next (V : CV) (C : Circ) (p : Nat) (a4 a5 : Option Addr) (c4 c5 : Nat) (sa : Option Addr) (sn sc : Nat) (ia : Option Addr) (in_ ic : Nat) (st ip : List Bool) (w : World) (hM : MAt w 101 V C p a4 c4 a5 c5) (hf : CFew C 1000000) (hg : GoodC C) (hs : BS w sa sn st) (hi : BS w ia in_ ip) :
  Calls Tryz.prog 60 #[.pointer (some ⟨p, 0, none⟩), .slice sa sn sc, .slice ia in_ ic] w fun e w' => ∃ v, e = .returned v ∧ Own w' w.heap.size 4 v (bv (nextM C st ip)) ∧ Kp (fun _ => False) w w' := by
 have HIb := Lib.hid (show (Tryz.prog.info? 4).map (fun i => (i.zero, i.size, i.bytes)) = some (some (.bool false), 1, 1) by kernel_rfl)
 have HL := Lib.hid (ref17_lit V C p a4 a5 c4 c5 sa sn sc ia in_ ic st ip w hM hf hg hs hi)
 have HM := Lib.hid hM
 obtain ⟨nl, hnl⟩ : ∃ n, C.lats.length = n := ⟨_, rfl⟩
 have hnl1 : nl ≤ 1000000 := by have := hf.l; omega
 have HNl := Lib.hid hnl
 have HB := Lib.hid (show ∀ u, Kp (fun _ => False) w u → u.cell? ⟨p, 2, none⟩ = some (.slice V.al nl V.cl) from fun u hu => (hM.blk.kp hu (fun h => h)).cell (i := 2) (by rw [← hnl]; rfl))
 obtain ⟨wz, hwz⟩ : ∃ wz : World, wz = w.alloc (.cells #[] 4) := ⟨_, rfl⟩
 have HK0 := Lib.hid (show Kp (fun _ => False) w wz by rw [hwz]; exact (Kp.refl _ w).alloc _)
 have HO0 : Hid (Own wz w.heap.size 4 (.slice (some ⟨w.heap.size, 0, none⟩) 0 0) (bv (nextK C st ip 0))) := Lib.hid (by rw [hwz]; exact Own.lit (cs := []) (Blk.new w _ _) (Nat.le_refl _) (by decide))
 have HZ := Lib.hid hwz
 clear hM hf hg hs hi hnl hwz
 go_enter Tryz.func60, Tryz.ntmps60
 go_upto_region 2 with fail
 rw [← HZ.out]
 clear HZ
 go_wp2_with fail
 go_loopw [7, 8] (fun v7 v8 wr => ∃ k : Nat, v8 = .int .i64 k ∧ k ≤ nl ∧ Own wr w.heap.size 4 v7 (bv (nextK C st ip k)) ∧ Kp (fun _ => False) w wr) (fun _ v8 _ => nl - (intOf v8).toNat)
 case atStart => exact ⟨0, rfl, by omega, HO0.out, HK0.out⟩
 case round =>
  obtain ⟨k, rfl, hk, hO, hK⟩ := hrel
  clear HO0 HK0
  obtain ⟨wp, rfl⟩ : ∃ wp : World, wp = wr := ⟨_, rfl⟩
  have HO := Lib.hid hO
  have HK := Lib.hid hK
  have c2 := HB.out _ hK
  clear hO hK
  by_cases hlt : k < nl
  ·have hkl : k < C.lats.length := by rw [HNl.out]; exact hlt
   obtain ⟨b, off, ea, hE⟩ := HM.out.circ.latCell hkl
   have hc := HL.out _ HK.out _ (lat_used hkl)
   have hS := nextK_succ (st := st) (ip := ip) hkl
   have hln := nextK_len (C := C) (st := st) (ip := ip) (k := k) (by omega)
   obtain ⟨x, hx⟩ : ∃ x, (g3 C.lats k).2.1 = x := ⟨_, rfl⟩
   rw [hx] at hE hc hS
   obtain ⟨y, hy⟩ : ∃ y, litM C st ip x = y := ⟨_, rfl⟩
   rw [hy] at hc hS
   obtain ⟨-, e1, -⟩ := hE _ HK.out
   rw [ea] at c2
   have HC := Lib.hid hc
   have HS := Lib.hid hS
   have HLn := Lib.hid hln
   have i0 : (0 : Int) ≤ (k : Int) := by omega
   have i2 : (k : Int) < (nl : Int) := by omega
   clear hx hy hE hc hS hln ea hkl
   go_wp2_with (first
    |(go_at_call 84; with_reducible refine Calls.mono HC.out ?_; rintro e w1 ⟨rfl, hK1⟩; have HK1 := Lib.hid (HK.out.trans hK1 (fun _ _ h => h)); have HOw := Lib.hid ((HO.out.kp hK1 (fun _ _ h => h)).alloc (.cells #[.bool y] 4)); have HNew := Lib.hid (Blk.new w1 #[.bool y] 4); clear hK1)
    |(at_builtin; refine wpList_append1_at rfl _ _ 28 4 rfl Tryz.underlying28 HIb.out rfl HOw.out rfl ⟨w1.heap.size, 0, none⟩ (.bool y) rfl (HNew.out.cell rfl) rfl ?d1 ?d2 ?d3 ?_))
   case d1 => rw [bv_length, HLn.out]; omega
   case d2 => rw [bv_length, HLn.out]; unfold maxLen; omega
   case d3 => have := HK1.out.size; simp; omega
   intro v' w2 hO3 hg2 hat2
   have HR2 := Lib.hid (show Own w2 w.heap.size 4 v' (bv (nextK C st ip (k + 1))) ∧ Kp (fun _ => False) w w2 from ⟨by rw [HS.out, bv_append]; exact hO3, (HK1.out.alloc _).grown hg2 (fun j hj hl => by have := (HO.out.lt j hj).1; omega)⟩)
   clear hO3 hg2 hat2 HNew HOw
   go_wp2_with fail
   go_roundw
   case rel => exact ⟨k + 1, by go_num, by omega, HR2.out⟩
   case measure => simp [intOf]; omega
  ·obtain rfl : k = nl := by omega
   have HE := Lib.hid (show Own wp w.heap.size 4 u7 (bv (nextM C st ip)) from by rw [← nextK_full, HNl.out]; exact HO.out)
   go_wp2_with fail
   go_ret
   exact ⟨_, rfl, HE.out, HK.out⟩

end Go.Proofs.YtghlklcolepfmaaGreatDoor

/-
  latchetref17.States.
-/
namespace Go.Proofs.YtghlklcolepfmaaGreatDoor
open Go.RowKit

structure GS (w : World) (a : Option Addr) (n c : Nat) (L : List (List Bool)) : Prop where
  row : ∃ vs : List Value, RowAt w a vs ∧ vs.length = n ∧ ∀ k, k < n → ∃ b m d, vs[k]? = some (.slice b m d) ∧ BS w b m (L[k]?.getD [])
  len : L.length = n
  most : n ≤ 1000000

structure SL (C : Circ) (st : List Bool) (rows : List (List Bool)) (B : Nat) (k : Nat) (v5 v6 : Value) (wr : World) : Prop where
  own : ∃ vs : List Value, Own wr B 28 v5 vs ∧ vs.length = k ∧ ∀ j, j < k → ∃ x, vs[j]? = some x ∧ Own wr B 4 x (bv (stateM C st rows j))
  now : Own wr B 4 v6 (bv (stateM C st rows k))

theorem SL.kp {C : Circ} {st : List Bool} {rows : List (List Bool)} {B k : Nat} {v5 v6 : Value} {wr w' : World} (h : SL C st rows B k v5 v6 wr) (hk : Kp (fun _ => False) wr w') : SL C st rows B k v5 v6 w' := by
 obtain ⟨⟨vs, h1, h2, h3⟩, h4⟩ := h
 exact ⟨⟨vs, h1.kp hk (fun _ _ h => h), h2, fun j hj => by obtain ⟨x, e, hx⟩ := h3 j hj; exact ⟨x, e, hx.kp hk (fun _ _ h => h)⟩⟩, h4.kp hk (fun _ _ h => h)⟩

theorem stateM_len (C : Circ) (st : List Bool) (rows : List (List Bool)) : ∀ k, (stateM C st rows k).length = C.lats.length
 |0 => brought_len _ _
 |k + 1 => nextM_len _ _ _

set_option maxRecDepth 100000 in
set_option maxHeartbeats 4000000 in
theorem ref17_States (V : CV) (C : Circ) (p : Nat) (a4 a5 : Option Addr) (c4 c5 : Nat) (sa : Option Addr) (sn sc : Nat) (ga : Option Addr) (gn_ gc : Nat) (st : List Bool) (rows : List (List Bool)) (w : World) (hM : MAt w 101 V C p a4 c4 a5 c5) (hf : CFew C 1000000) (hg : GoodC C) (hs : BS w sa sn st) (hi : GS w ga gn_ gc rows) :
  Calls Tryz.prog 25 #[.pointer (some ⟨p, 0, none⟩), .agg #[.slice sa sn sc, .slice ga gn_ gc]] w fun e w' => ∃ v, e = .returned v ∧ (∃ v6, SL C st rows w.heap.size gn_ v v6 w') ∧ Kp (fun _ => False) w w' := by
 have HIs := Lib.hid (show (Tryz.prog.info? 28).map (fun i => (i.zero, i.size, i.bytes)) = some (some (.slice none 0 0), 1, 24) by kernel_rfl)
 obtain ⟨nl, hnl⟩ : ∃ n, C.lats.length = n := ⟨_, rfl⟩
 have hnl1 : nl ≤ 1000000 := by have := hf.l; omega
 have HNl := Lib.hid hnl
 have HB := Lib.hid (show ∀ u, Kp (fun _ => False) w u → u.cell? ⟨p, 2, none⟩ = some (.slice V.al nl V.cl) from fun u hu => (hM.blk.kp hu (fun h => h)).cell (i := 2) (by rw [← hnl]; rfl))
 obtain ⟨wz, hwz⟩ : ∃ wz : World, wz = w.alloc (.cells #[.slice sa sn sc, .slice ga gn_ gc] 31) := ⟨_, rfl⟩
 have HK0 := Lib.hid (show Kp (fun _ => False) w wz by rw [hwz]; exact (Kp.refl _ w).alloc _)
 have HRb := Lib.hid (show Blk wz w.heap.size #[.slice sa sn sc, .slice ga gn_ gc] 31 by rw [hwz]; exact Blk.new _ _ _)
 have HZ := Lib.hid hwz
 have HM := Lib.hid hM
 have HF := Lib.hid hf
 have HG := Lib.hid hg
 have HS := Lib.hid hs
 have HGs := Lib.hid hi
 have HLt := Lib.hid (show wz.heap.size = w.heap.size + 1 by rw [hwz]; simp)
 have hgn := hi.most
 clear hM hf hg hs hi hnl hwz
 go_enter Tryz.func25, Tryz.ntmps25
 go_upto_region 1 with fail
 rw [← HZ.out]
 clear HZ
 refine wp_region_loose (p := upTo 10) (V := atV [(LitC wz.heap.size #[] 0 28), EqV (.pointer (some ⟨w.heap.size, 0, none⟩)), EqV (.slice sa sn sc), EqV ((.pointer (some ⟨p, 0, none⟩))), EqV (.pointer (some ⟨p, 0, none⟩)), EqV (.pointer (some ⟨p, 0, none⟩)), EqV (.pointer (some ⟨p, 2, none⟩)), EqV (.slice V.al nl V.cl), EqV (.int .i64 (nl : Int)), (fun u v => Own u wz.heap.size 4 v (bv (stateM C st rows 0)))]) (LP := #[true, true, true, true, true, true, true, true, true, true, false, false]) (K := 2) (by kernel_rfl) (by kernel_rfl) (atV_st ?hstL1) ?hstepL1 (by kernel_rfl) ?hLPL1 (by kernel_rfl) ?hendL1
 case hstL1 =>
  intro W h
  simp only [List.mem_cons, List.not_mem_nil, or_false] at h
  rcases h with rfl | rfl | rfl | rfl | rfl | rfl | rfl | rfl | rfl | rfl <;> first | exact EqV.st _ | exact LitC.st _ _ _ _ | exact fun _ _ _ k h => Own.kp h k (fun _ _ h => h)
 case hLPL1 => exact upTo_spec (by kernel_rfl)
 case hstepL1 =>
  intro i o ho hp a u hk hoff hdep
  have e0 : a.tmps[0]?.getD undef = (.pointer (some ⟨p, 0, none⟩)) := slot_at (hoff 0 (noDst_spec (by kernel_rfl)))
  have e3 : a.tmps[3]?.getD undef = (.pointer (some ⟨w.heap.size, 0, none⟩)) := slot_at (hoff 3 (noDst_spec (by kernel_rfl)))
  clear hoff
  match i, ho with
  |0, ho =>
   obtain rfl := Option.some.inj ho
   refine lw_value (v := .slice (some ⟨u.heap.size, 0, none⟩) 0 0) (u' := u.alloc (.cells #[] 28)) ?_ ((Kp.refl _ _).alloc _) ⟨_, rfl, Blk.new _ _ _, hk.size⟩
   go_simp
  |1, ho =>
   obtain rfl := Option.some.inj ho
   refine lw_value (v := .pointer (some ⟨w.heap.size, 0, none⟩)) (u' := u) ?_ (Kp.refl _ _) rfl
   go_simp
  |2, ho =>
   obtain rfl := Option.some.inj ho
   have e9 : a.tmps[9]?.getD undef = .pointer (some ⟨w.heap.size, 0, none⟩) := slot_at (hdep ⟨1, .data⟩ (by simp) rfl _ 9 rfl rfl)
   have c1 := (HRb.out.kp hk (fun h => h)).cell (i := 0) (v := .slice sa sn sc) rfl
   refine lw_value (v := .slice sa sn sc) (u' := u) ?_ (Kp.refl _ _) rfl
   go_simp
  |3, ho =>
   obtain rfl := Option.some.inj ho
   refine lw_value (v := (.pointer (some ⟨p, 0, none⟩))) (u' := u) ?_ (Kp.refl _ _) rfl
   go_simp
  |4, ho =>
   obtain rfl := Option.some.inj ho
   have e11 : a.tmps[11]?.getD undef = (.pointer (some ⟨p, 0, none⟩)) := slot_at (hdep ⟨3, .data⟩ (by simp) rfl _ 11 rfl rfl)
   refine lw_value (v := .pointer (some ⟨p, 0, none⟩)) (u' := u) ?_ (Kp.refl _ _) rfl
   go_simp
  |5, ho =>
   obtain rfl := Option.some.inj ho
   have e12 : a.tmps[12]?.getD undef = .pointer (some ⟨p, 0, none⟩) := slot_at (hdep ⟨4, .data⟩ (by simp) rfl _ 12 rfl rfl)
   refine lw_value (v := .pointer (some ⟨p, 0, none⟩)) (u' := u) ?_ (Kp.refl _ _) rfl
   go_simp
  |6, ho =>
   obtain rfl := Option.some.inj ho
   have e13 : a.tmps[13]?.getD undef = .pointer (some ⟨p, 0, none⟩) := slot_at (hdep ⟨5, .data⟩ (by simp) rfl _ 13 rfl rfl)
   refine lw_value (v := .pointer (some ⟨p, 2, none⟩)) (u' := u) ?_ (Kp.refl _ _) rfl
   go_simp
  |7, ho =>
   obtain rfl := Option.some.inj ho
   have e14 : a.tmps[14]?.getD undef = .pointer (some ⟨p, 2, none⟩) := slot_at (hdep ⟨6, .data⟩ (by simp) rfl _ 14 rfl rfl)
   have c1 := HB.out _ (HK0.out.trans hk (fun _ _ h => h))
   refine lw_value (v := .slice V.al nl V.cl) (u' := u) ?_ (Kp.refl _ _) rfl
   go_simp
  |8, ho =>
   obtain rfl := Option.some.inj ho
   have e15 : a.tmps[15]?.getD undef = .slice V.al nl V.cl := slot_at (hdep ⟨7, .data⟩ (by simp) rfl _ 15 rfl rfl)
   refine lw_value (v := .int .i64 (nl : Int)) (u' := u) ?_ (Kp.refl _ _) rfl
   go_simp
  |9, ho =>
   obtain rfl := Option.some.inj ho
   have e10 : a.tmps[10]?.getD undef = .slice sa sn sc := slot_at (hdep ⟨2, .data⟩ (by simp) rfl _ 10 rfl rfl)
   have e16 : a.tmps[16]?.getD undef = .int .i64 (nl : Int) := slot_at (hdep ⟨8, .data⟩ (by simp) rfl _ 16 rfl rfl)
   refine lw_call (f := 59) (args := #[.slice sa sn sc, .int .i64 (nl : Int)]) ?_ ?_
   ·go_simp
   ·exact (ref17_Brought sa sn sc st nl u ((HS.out.kp (HK0.out.trans hk (fun _ _ h => h))).row) HS.out.len HS.out.most (by omega)).mono (by
     rintro e u' ⟨v, rfl, hO, hK⟩
     rw [← HNl.out] at hO
     exact ⟨v, rfl, hK, hO.mono hk.size⟩)
  |n + 10, _ => exact absurd hp (by simp [upTo])
 intro a u hI
 have hsz : a.tmps.size = 38 := hI.size
 have hdf : a.defers = [] := hI.defers
 have f0 : a.tmps.getD 0 undef = _ := hI.off 0 (noDst_spec (p := upTo 10) (by kernel_rfl))
 have f1 : a.tmps.getD 1 undef = _ := hI.off 1 (noDst_spec (p := upTo 10) (by kernel_rfl))
 have f2 : a.tmps.getD 2 undef = _ := hI.off 2 (noDst_spec (p := upTo 10) (by kernel_rfl))
 have f3 : a.tmps.getD 3 undef = _ := hI.off 3 (noDst_spec (p := upTo 10) (by kernel_rfl))
 have f4 : a.tmps.getD 4 undef = _ := hI.off 4 (noDst_spec (p := upTo 10) (by kernel_rfl))
 have f5 : a.tmps.getD 5 undef = _ := hI.off 5 (noDst_spec (p := upTo 10) (by kernel_rfl))
 have f6 : a.tmps.getD 6 undef = _ := hI.off 6 (noDst_spec (p := upTo 10) (by kernel_rfl))
 have f7 : a.tmps.getD 7 undef = _ := hI.off 7 (noDst_spec (p := upTo 10) (by kernel_rfl))
 have f18 : a.tmps.getD 18 undef = _ := hI.off 18 (noDst_spec (p := upTo 10) (by kernel_rfl))
 have f19 : a.tmps.getD 19 undef = _ := hI.off 19 (noDst_spec (p := upTo 10) (by kernel_rfl))
 have f20 : a.tmps.getD 20 undef = _ := hI.off 20 (noDst_spec (p := upTo 10) (by kernel_rfl))
 have f21 : a.tmps.getD 21 undef = _ := hI.off 21 (noDst_spec (p := upTo 10) (by kernel_rfl))
 have f22 : a.tmps.getD 22 undef = _ := hI.off 22 (noDst_spec (p := upTo 10) (by kernel_rfl))
 have f23 : a.tmps.getD 23 undef = _ := hI.off 23 (noDst_spec (p := upTo 10) (by kernel_rfl))
 have f24 : a.tmps.getD 24 undef = _ := hI.off 24 (noDst_spec (p := upTo 10) (by kernel_rfl))
 have f25 : a.tmps.getD 25 undef = _ := hI.off 25 (noDst_spec (p := upTo 10) (by kernel_rfl))
 have f26 : a.tmps.getD 26 undef = _ := hI.off 26 (noDst_spec (p := upTo 10) (by kernel_rfl))
 have f27 : a.tmps.getD 27 undef = _ := hI.off 27 (noDst_spec (p := upTo 10) (by kernel_rfl))
 have f28 : a.tmps.getD 28 undef = _ := hI.off 28 (noDst_spec (p := upTo 10) (by kernel_rfl))
 have f29 : a.tmps.getD 29 undef = _ := hI.off 29 (noDst_spec (p := upTo 10) (by kernel_rfl))
 have f30 : a.tmps.getD 30 undef = _ := hI.off 30 (noDst_spec (p := upTo 10) (by kernel_rfl))
 have f31 : a.tmps.getD 31 undef = _ := hI.off 31 (noDst_spec (p := upTo 10) (by kernel_rfl))
 have f32 : a.tmps.getD 32 undef = _ := hI.off 32 (noDst_spec (p := upTo 10) (by kernel_rfl))
 have f33 : a.tmps.getD 33 undef = _ := hI.off 33 (noDst_spec (p := upTo 10) (by kernel_rfl))
 have f34 : a.tmps.getD 34 undef = _ := hI.off 34 (noDst_spec (p := upTo 10) (by kernel_rfl))
 have f35 : a.tmps.getD 35 undef = _ := hI.off 35 (noDst_spec (p := upTo 10) (by kernel_rfl))
 have f36 : a.tmps.getD 36 undef = _ := hI.off 36 (noDst_spec (p := upTo 10) (by kernel_rfl))
 have f37 : a.tmps.getD 37 undef = _ := hI.off 37 (noDst_spec (p := upTo 10) (by kernel_rfl))
 have g8 : ((LitC wz.heap.size #[] 0 28)) u (a.tmps.getD 8 undef) := hI.val 0 _ 8 rfl rfl rfl
 have f9 : a.tmps.getD 9 undef = .pointer (some ⟨w.heap.size, 0, none⟩) := hI.val 1 _ 9 rfl rfl rfl
 have f10 : a.tmps.getD 10 undef = .slice sa sn sc := hI.val 2 _ 10 rfl rfl rfl
 have f11 : a.tmps.getD 11 undef = (.pointer (some ⟨p, 0, none⟩)) := hI.val 3 _ 11 rfl rfl rfl
 have f12 : a.tmps.getD 12 undef = .pointer (some ⟨p, 0, none⟩) := hI.val 4 _ 12 rfl rfl rfl
 have f13 : a.tmps.getD 13 undef = .pointer (some ⟨p, 0, none⟩) := hI.val 5 _ 13 rfl rfl rfl
 have f14 : a.tmps.getD 14 undef = .pointer (some ⟨p, 2, none⟩) := hI.val 6 _ 14 rfl rfl rfl
 have f15 : a.tmps.getD 15 undef = .slice V.al nl V.cl := hI.val 7 _ 15 rfl rfl rfl
 have f16 : a.tmps.getD 16 undef = .int .i64 (nl : Int) := hI.val 8 _ 16 rfl rfl rfl
 have g17 : ((fun u v => Own u wz.heap.size 4 v (bv (stateM C st rows 0)))) u (a.tmps.getD 17 undef) := hI.val 9 _ 17 rfl rfl rfl
 have ha : a = ⟨#[a.tmps.getD 0 undef, a.tmps.getD 1 undef, a.tmps.getD 2 undef, a.tmps.getD 3 undef, a.tmps.getD 4 undef, a.tmps.getD 5 undef, a.tmps.getD 6 undef, a.tmps.getD 7 undef, a.tmps.getD 8 undef, a.tmps.getD 9 undef, a.tmps.getD 10 undef, a.tmps.getD 11 undef, a.tmps.getD 12 undef, a.tmps.getD 13 undef, a.tmps.getD 14 undef, a.tmps.getD 15 undef, a.tmps.getD 16 undef, a.tmps.getD 17 undef, a.tmps.getD 18 undef, a.tmps.getD 19 undef, a.tmps.getD 20 undef, a.tmps.getD 21 undef, a.tmps.getD 22 undef, a.tmps.getD 23 undef, a.tmps.getD 24 undef, a.tmps.getD 25 undef, a.tmps.getD 26 undef, a.tmps.getD 27 undef, a.tmps.getD 28 undef, a.tmps.getD 29 undef, a.tmps.getD 30 undef, a.tmps.getD 31 undef, a.tmps.getD 32 undef, a.tmps.getD 33 undef, a.tmps.getD 34 undef, a.tmps.getD 35 undef, a.tmps.getD 36 undef, a.tmps.getD 37 undef], a.defers⟩ := act_list a 38 hsz
 rw [hdf, f0, f1, f2, f3, f4, f5, f6, f7, f9, f10, f11, f12, f13, f14, f15, f16, f18, f19, f20, f21, f22, f23, f24, f25, f26, f27, f28, f29, f30, f31, f32, f33, f34, f35, f36, f37] at ha
 obtain ⟨x8, hx8⟩ : ∃ x, a.tmps.getD 8 undef = x := ⟨_, rfl⟩
 obtain ⟨x17, hx17⟩ : ∃ x, a.tmps.getD 17 undef = x := ⟨_, rfl⟩
 rw [hx8, hx17] at ha
 rw [hx8] at g8
 rw [hx17] at g17
 have hku := hI.kp
 clear hI hsz hdf f0 f1 f2 f3 f4 f5 f6 f7 f9 f10 f11 f12 f13 f14 f15 f16 f18 f19 f20 f21 f22 f23 f24 f25 f26 f27 f28 f29 f30 f31 f32 f33 f34 f35 f36 f37 hx8 hx17
 subst ha
 refine wpAny_tail 10 rfl (by kernel_rfl) ?_
 simp only [List.drop_succ_cons, List.drop_zero]
 simp only [Array.getD_eq_getD_getElem?, List.getElem?_toArray, List.getElem?_cons_zero, List.getElem?_cons_succ, Option.getD_some]
 obtain ⟨g8_, rfl, hB8, hg8⟩ := g8
 have HKu := Lib.hid (HK0.out.trans hku (fun _ _ h => h))
 have HRu := Lib.hid (HRb.out.kp hku (fun h => h))
 have HSL := Lib.hid (show SL C st rows wz.heap.size 0 (.slice (some ⟨g8_, 0, none⟩) 0 0) x17 u from ⟨⟨[], Own.lit (cs := []) hB8 hg8 (Nat.zero_le _), rfl, fun j hj => by omega⟩, g17⟩)
 clear hB8 hg8 g17 hku HRb
 go_wp2_with fail
 go_loopw [5, 6, 7] (fun v5 v6 v7 wr => ∃ k : Nat, v7 = .int .i64 k ∧ k ≤ gn_ ∧ SL C st rows wz.heap.size k v5 v6 wr ∧ Kp (fun _ => False) w wr ∧ Blk wr w.heap.size #[.slice sa sn sc, .slice ga gn_ gc] 31) (fun _ _ v7 _ => gn_ - (intOf v7).toNat)
 case atStart => exact ⟨0, rfl, by omega, HSL.out, HKu.out, HRu.out⟩
 case round =>
  obtain ⟨k, rfl, hk, hL, hK, hR⟩ := hrel
  clear HSL HKu HRu
  obtain ⟨wp, rfl⟩ : ∃ wp : World, wp = wr := ⟨_, rfl⟩
  have HL := Lib.hid hL
  have HK := Lib.hid hK
  have HR := Lib.hid hR
  have r1 : wp.cell? ⟨w.heap.size, 1, none⟩ = some (.slice ga gn_ gc) := hR.cell rfl
  clear hL hK hR
  by_cases hlt : k < gn_
  ·obtain ⟨⟨vs, h1, h2, h3⟩, h4⟩ := HL.out
   obtain ⟨a6, c6, e6, l6, m6, -, r6⟩ := h4.form
   rw [bv_length, stateM_len, HNl.out] at e6
   subst e6
   obtain ⟨gvs, hgr, hgl, hgk⟩ := HGs.out.row
   obtain ⟨b, m, d, eg, hbs⟩ := hgk k hlt
   obtain ⟨bg, og, ega, eg2⟩ := hgr k _ eg
   subst ega
   have i0 : (0 : Int) ≤ (k : Int) := by omega
   have i2 : (k : Int) < (gn_ : Int) := by omega
   have H1 := Lib.hid h1
   have H2 := Lib.hid h2
   have H3 := Lib.hid h3
   have H4 := Lib.hid h4
   have HEg := Lib.hid (fun u (hu : Kp (fun _ => False) w u) => hu.cellK eg2)
   have HBs := Lib.hid hbs
   have HNew := Lib.hid (Blk.new wp #[.slice a6 nl c6] 28)
   have HOw := Lib.hid (h1.alloc (.cells #[.slice a6 nl c6] 28))
   have hwzp : wz.heap.size ≤ wp.heap.size := by have := HR.out.lt; have := HLt.out; omega
   have HWz := Lib.hid hwzp
   clear h1 h2 h3 h4 hgr hgl hgk eg eg2 hbs hwzp r6
   go_wp2_with (at_builtin; refine wpList_append1_at rfl _ _ 29 28 rfl Tryz.underlying29 HIs.out rfl HOw.out rfl ⟨wp.heap.size, 0, none⟩ (.slice a6 nl c6) rfl (HNew.out.cell rfl) rfl ?d1 ?d2 ?d3 ?_)
   case d1 => rw [H2.out]; omega
   case d2 => rw [H2.out]; unfold maxLen; omega
   case d3 => have := HWz.out; simp; omega
   intro v' w2 hO3 hg2 hat2
   have hkg : Kp (fun j => u5.ownBlock = some j) (wp.alloc (.cells #[.slice a6 nl c6] 28)) w2 := (Kp.refl _ _).grown hg2 (fun j hj _ => hj)
   have hap : ∀ x cs, Own (wp.alloc (.cells #[.slice a6 nl c6] 28)) wz.heap.size 4 x cs → Own w2 wz.heap.size 4 x cs := fun x cs hx => hx.kp hkg (fun j hj h5 => by
    obtain ⟨c, hc⟩ := hx.rows.blkN hj
    obtain ⟨c', hc'⟩ := HOw.out.rows.blkN h5
    exact absurd (blkN_type hc hc') (by decide))
   have hK2 : Kp (fun _ => False) w w2 := (HK.out.alloc _).grown hg2 (fun j hj hl => by have := (H1.out.lt j hj).1; have := HLt.out; omega)
   have hR2 : Blk w2 w.heap.size #[.slice sa sn sc, .slice (some ⟨bg, og, none⟩) gn_ gc] 31 := (HR.out.alloc _).kp hkg (fun e => by have := (H1.out.lt _ e).1; have := HLt.out; omega)
   have h42 := hap _ _ (H4.out.alloc _)
   obtain ⟨a6', c6', e6', -, -, -, r62⟩ := h42.form
   simp only [Value.slice.injEq] at e6'
   obtain ⟨rfl, -, rfl⟩ := e6'
   have HNx := Lib.hid (ref17_Next V C p a4 a5 c4 c5 a6 nl c6 b m d (stateM C st rows k) (rows[k]?.getD []) w2 (HM.out.kp hK2) HF.out HG.out ⟨r62, by rw [stateM_len]; exact HNl.out, by omega⟩ (HBs.out.kp hK2))
   have HS2 := Lib.hid (show Own w2 wz.heap.size 28 v' (vs ++ [.slice a6 nl c6]) ∧ (∀ j, j < k → ∃ x, vs[j]? = some x ∧ Own w2 wz.heap.size 4 x (bv (stateM C st rows j))) ∧ Own w2 wz.heap.size 4 (.slice a6 nl c6) (bv (stateM C st rows k)) from
    ⟨hO3, fun j hj => by obtain ⟨x, e, hx⟩ := H3.out j hj; exact ⟨x, e, hap _ _ (hx.alloc _)⟩, h42⟩)
   have HK2 := Lib.hid hK2
   have HR2 := Lib.hid hR2
   have r1 := hR2.cell (i := 1) (v := .slice (some ⟨bg, og, none⟩) gn_ gc) rfl
   have eg := HEg.out _ hK2
   have HWz2 := Lib.hid (show wz.heap.size ≤ w2.heap.size by have := hkg.size; have := HWz.out; simp at *; omega)
   clear hO3 hg2 hat2 hkg hap hK2 hR2 h42 r62 HNew HOw
   go_wp2_with (go_at_call 60; with_reducible refine Calls.mono HNx.out ?_; rintro e w3 ⟨v3, rfl, hO3, hK3⟩)
   have HS3 := Lib.hid (show SL C st rows wz.heap.size (k + 1) v' v3 w3 ∧ Kp (fun _ => False) w w3 ∧ Blk w3 w.heap.size #[.slice sa sn sc, .slice (some ⟨bg, og, none⟩) gn_ gc] 31 from by
    obtain ⟨q1, q2, q3⟩ := HS2.out
    refine ⟨⟨⟨vs ++ [.slice a6 nl c6], q1.kp hK3 (fun _ _ h => h), by rw [List.length_append, H2.out]; rfl, fun j hj => ?_⟩, hO3.mono HWz2.out⟩, HK2.out.trans hK3 (fun _ _ h => h), HR2.out.kp hK3 (fun h => h)⟩
    by_cases e : j < k
    ·obtain ⟨x, ex, hx⟩ := q2 j e
     exact ⟨x, by rw [List.getElem?_append_left (by rw [H2.out]; exact e)]; exact ex, hx.kp hK3 (fun _ _ h => h)⟩
    ·obtain rfl : j = k := by omega
     exact ⟨_, by rw [List.getElem?_append_right (by rw [H2.out]; exact Nat.le_refl _), H2.out, Nat.sub_self]; rfl, q3.kp hK3 (fun _ _ h => h)⟩)
   clear hO3 hK3
   go_wp2_with fail
   go_roundw
   case rel => exact ⟨k + 1, by go_num, by omega, HS3.out⟩
   case measure => simp [intOf]; omega
  ·obtain rfl : k = gn_ := by omega
   have HE := Lib.hid (show SL C st rows w.heap.size k u5 u6 wp from by
    obtain ⟨⟨vs, h1, h2, h3⟩, h4⟩ := HL.out
    have hle := HLt.out
    exact ⟨⟨vs, h1.mono (by omega), h2, fun j hj => by obtain ⟨x, e, hx⟩ := h3 j hj; exact ⟨x, e, hx.mono (by omega)⟩⟩, h4.mono (by omega)⟩)
   go_wp2_with fail
   go_ret
   exact ⟨_, rfl, ⟨_, HE.out⟩, HK.out⟩

end Go.Proofs.YtghlklcolepfmaaGreatDoor

/-
  circ.Net.
-/
namespace Go.Proofs.YtghlklcolepfmaaGreatDoor
open Go.RowKit

def blank (m k : Nat) : List Int := 0 :: (List.replicate k (-1) ++ List.replicate (m - k) 0)
theorem blank_zero (m : Nat) : blank m 0 = List.replicate (m + 1) 0 := by unfold blank; simp [List.replicate_succ]
theorem blank_step {m k : Nat} (h : k < m) : (blank m k).set (k + 1) (-1) = blank m (k + 1) := by
 unfold blank
 rw [List.set_cons_succ, List.set_append_right _ _ (by simp)]
 simp only [List.length_replicate, Nat.sub_self]
 rw [show m - k = (m - (k + 1)) + 1 by omega, List.replicate_succ, List.set_cons_zero, List.replicate_succ']
 simp
theorem blank_full (m : Nat) : blank m m = 0 :: List.replicate m (-1) := by unfold blank; simp
theorem iv_rep (n : Nat) : iv (List.replicate n 0) = rowF (fun _ => .int .i64 0) n := by
 unfold iv rowF
 rw [List.map_replicate]
 apply List.ext_getElem
 ·simp
 ·intro i h1 h2; simp

set_option maxRecDepth 100000 in
set_option maxHeartbeats 4000000 in
theorem circ_Net (V : CV) (C : Circ) (w : World) (h : CAt w V C) (hf : CFew C 1000000) (hg : GoodC C) :
  Calls Tryz.prog 50 #[.agg (cvals V C)] w fun e w' => ∃ v4 v5, e = .returned (.tuple #[v4, v5]) ∧ OwnK w' w.heap.size 124 2 v4 ((netOf C).1.map pr2) ∧ Own w' w.heap.size 3 v5 (iv (netOf C).2) ∧ Kp (fun _ => False) w w' := by
 obtain ⟨m, hm⟩ : ∃ m, MX C = m := ⟨_, rfl⟩
 obtain ⟨ni, hni⟩ : ∃ n, C.ins.length = n := ⟨_, rfl⟩
 obtain ⟨nl, hnl⟩ : ∃ n, C.lats.length = n := ⟨_, rfl⟩
 obtain ⟨ng, hng⟩ : ∃ n, C.gates.length = n := ⟨_, rfl⟩
 have hmi : C.max = (m : Int) := by rw [← hm]; exact hg.mx.symm
 have hm1 : m ≤ 16777216 := by have := hg.rng.max1; omega
 have hi1 : ni ≤ 1000000 := by have := hf.i; omega
 have hl1 : nl ≤ 1000000 := by have := hf.l; omega
 have hg1 : ng ≤ 1000000 := by have := hf.g; omega
 obtain ⟨i0, hi, hz0, hz1, hz2⟩ := info_parts (show (Tryz.prog.info? 3).map (fun i => (i.zero, i.size, i.bytes)) = some (some (.int .i64 0), 1, 8) by kernel_rfl)
 have hmk : ∀ u : World, (Instr.makeSlice 22 (.int .i64 ((m : Int) + 1)) (.int .i64 ((m : Int) + 1))).run Tryz.prog u =
   .ok (.slice (some ⟨u.heap.size, 0, none⟩) (m + 1) (m + 1)) (u.alloc (.cells (madeCells #[.int .i64 0] (m + 1)) 3)) := fun u => by
  have h := run_make (P := Tryz.prog) u 22 3 i0 (.int .i64 0) Tryz.underlying22 hi hz0 .i64 .i64 ((m + 1 : Nat) : Int) ((m + 1 : Nat) : Int) (by omega) (Int.le_refl _) (by rw [hz2]; omega) (by omega)
  simpa [hz1, Value.cells] using h
 clear hi hz0 hz1 hz2 i0
 have HU : Hid (cvals V C = #[.int .i64 (m : Int), .slice V.ai ni V.ci, .slice V.al nl V.cl, .slice V.ao C.outs.length V.co, .slice V.ab C.bads.length V.cb, .slice V.ac C.cons.length V.cc, .slice V.ag ng V.cg, .slice V.ay V.ny V.cy, .string V.cm]) := Lib.hid (by unfold cvals; rw [hmi, hni, hnl, hng])
 have HA := Lib.hid h
 have HF := Lib.hid hf
 have HG := Lib.hid hg
 have HMi := Lib.hid hmi
 have HNi := Lib.hid hni
 have HNl := Lib.hid hnl
 have HNg := Lib.hid hng
 obtain ⟨wa, hwa⟩ : ∃ wa : World, wa = w.alloc (.cells (cvals V C) 27) := ⟨_, rfl⟩
 obtain ⟨wz, hwz⟩ : ∃ wz : World, wz = ((wa.alloc (.cells #[.slice none 0 0] 52)).alloc (.cells (madeCells #[.int .i64 0] (m + 1)) 3)).alloc (.cells #[.slice (some ⟨wa.heap.size + 1, 0, none⟩) (m + 1) (m + 1)] 22) := ⟨_, rfl⟩
 have hws : wa.heap.size = w.heap.size + 1 := by rw [hwa]; simp
 have hCa : Blk wa w.heap.size (cvals V C) 27 := by rw [hwa]; exact Blk.new _ _ _
 have hKa : Kp (fun _ => False) w wa := by rw [hwa]; exact (Kp.refl _ w).alloc _
 have c0 : (wa.alloc (.cells #[.slice none 0 0] 52)).cell? ⟨w.heap.size, 0, none⟩ = some (.int .i64 (m : Int)) := (hCa.alloc _).cell (by rw [HU.out]; rfl)
 have HM0 : Hid (NP V C w (w.heap.size + 1) (wa.heap.size + 1 + 1) (wa.heap.size + 1) (m + 1) (m + 1) ([], blank m 0) (.slice none 0 0) wz) := Lib.hid (by
  rw [hwz, ← hws]
  have hB2 : Blk ((wa.alloc (.cells #[.slice none 0 0] 52)).alloc (.cells (madeCells #[.int .i64 0] (m + 1)) 3)) (wa.heap.size + 1) (madeCells #[.int .i64 0] (m + 1)) 3 := two_blk _ _ _ _ _
  refine ⟨OwnK.nil _ _ _ _, ?_, ((Blk.new wa _ _).alloc _).alloc _, ?_, ((hCa.alloc _).alloc _).alloc _, ((hKa.alloc _).alloc _).alloc _, by omega, by omega⟩
  ·show Own _ _ _ _ (iv (blank m 0))
   rw [blank_zero, iv_rep]
   have hl : (rowF (fun _ => Value.int .i64 0) (m + 1)).length = m + 1 := rowF_length _ _
   have := Own.lit (base := w.heap.size + 1) (cs := rowF (fun _ => Value.int .i64 0) (m + 1)) (by rw [← made_row]; exact hB2.alloc (.cells #[.slice (some ⟨wa.heap.size + 1, 0, none⟩) (m + 1) (m + 1)] 22)) (by omega) (by rw [hl]; unfold maxLen; omega)
   rw [hl] at this
   exact this
  ·have := Blk.new ((wa.alloc (.cells #[.slice none 0 0] 52)).alloc (.cells (madeCells #[.int .i64 0] (m + 1)) 3)) #[.slice (some ⟨wa.heap.size + 1, 0, none⟩) (m + 1) (m + 1)] 22
   simpa using this)
 have HZa := Lib.hid hwa
 have HZ := Lib.hid hwz
 clear h hf hg hm hmi hni hnl hng hwz hwa hws hCa hKa
 go_enter Tryz.func50, Tryz.ntmps50
 go_upto_region 2 with fail
 rw [← HZa.out]
 go_upto_region 3 with fail
 rw [← HZ.out]
 generalize wa.heap.size + 1 + 1 = ba at HM0 ⊢
 generalize wa.heap.size + 1 = g at HM0 ⊢
 generalize w.heap.size + 1 = bn at HM0 ⊢
 clear HZ HZa c0 hmk
 go_wp2_with fail
 go_loopw [6] (fun v6 wr => ∃ k : Nat, v6 = .int .i64 ((k : Int) + 1) ∧ k ≤ m ∧ NP V C w bn ba g (m + 1) (m + 1) ([], blank m k) (.slice none 0 0) wr) (fun v6 _ => m + 1 - (intOf v6).toNat)
 case atStart => exact ⟨0, rfl, by omega, HM0.out⟩
 case round =>
  obtain ⟨k, rfl, hk, hM⟩ := hrel
  clear HM0
  obtain ⟨wp, rfl⟩ : ∃ wp : World, wp = wr := ⟨_, rfl⟩
  have HM := Lib.hid hM
  have ca := hM.cells.2.2.2
  by_cases hlt : k < m
  ·have i0 : (k : Int) + 1 < ((m + 1 : Nat) : Int) := by omega
   have i1 : (0 : Int) ≤ (k : Int) + 1 := by omega
   have ck := hM.cells.1 (k + 1) (by omega)
   have fk := hM.cells.2.1 (k + 1)
   have HM2 := Lib.hid (hM.put (k + 1) (-1))
   clear hM
   go_wp2_with fail
   go_roundw
   case rel => exact ⟨k + 1, by go_num, by omega, by have := HM2.out; rw [blank_step hlt] at this; exact this⟩
   case measure => simp [intOf]; omega
  ·obtain rfl : k = m := by omega
   have i0 : ¬ (k : Int) + 1 < ((k + 1 : Nat) : Int) := by omega
   have hM1 : NP V C w bn ba g (k + 1) (k + 1) (netI C 0) (.slice none 0 0) wp := by
    have := HM.out
    have e : netI C 0 = ([], blank k k) := by unfold netI net0; rw [HMi.out, blank_full]; rfl
    rw [e]; exact this
   have HM1 := Lib.hid hM1
   have c1 := hM1.circ.cell (i := 1) (v := .slice V.ai ni V.ci) (by rw [HU.out]; rfl)
   clear hM hM1 HM
   have hmf : ∀ (fn : Fn) (first cap : Array Value) (w : World), (Instr.makeFunc fn first cap).run Tryz.prog w = .ok (.func fn first cap) w := fun _ _ _ _ => rfl
   go_wp2_with fail
   clear ca
   go_loopw [33] (fun v33 wr => ∃ q : Nat, v33 = .int .i64 (q : Int) ∧ q ≤ ni ∧ ∃ v4, NP V C w bn ba g (k + 1) (k + 1) (netI C q) v4 wr) (fun v33 _ => ni - (intOf v33).toNat)
   case atStart => exact ⟨0, rfl, by omega, _, HM1.out⟩
   case round =>
    obtain ⟨q, rfl, hq, v4, hM⟩ := hrel
    clear HM1 hlt i0 c1
    obtain ⟨wq, rfl⟩ : ∃ wp : World, wp = wr := ⟨_, rfl⟩
    have HM := Lib.hid hM
    clear hM
    by_cases hlt : q < ni
    ·have hql : q < C.ins.length := by rw [HNi.out]; exact hlt
     obtain ⟨b, off, ea, hE⟩ := HA.out.inCell hql
     have hr := HG.out.rng.own (gi C.ins q) (in_own hql)
     rw [HMi.out] at hr
     have HS := Lib.hid (netI_succ hql)
     have HL := Lib.hid (netI_len C q (by omega))
     obtain ⟨x0, hx0⟩ : ∃ x, gi C.ins q = x := ⟨_, rfl⟩
     rw [hx0] at hE hr HS
     have e0 := hE _ HM.out.kp
     have HR := Lib.hid hr
     have i0 : (0 : Int) ≤ (q : Int) := by omega
     have i2 : (q : Int) < (ni : Int) := by omega
     rw [ea]
     clear hx0 ea hr hE hql
     go_wp2_with (go_at_call 75; refine (net_f1 V C w bn ba g (k + 1) (k + 1) q (netI C q) v4 x0 (-1) 0 _ HM.out HL.out (by omega) (by have := HR.out; omega) (by have := HR.out; omega) (by omega)).mono ?_; rintro e w2 ⟨rfl, ⟨v', hP⟩, -⟩)
     have HP := Lib.hid hP
     clear hP e0
     go_wp2_with fail
     go_roundw
     case rel => exact ⟨q + 1, by go_num, by omega, v', by rw [HS.out]; exact HP.out⟩
     case measure => simp [intOf]; omega
    ·obtain rfl : q = ni := by omega
     obtain ⟨w3, rfl⟩ : ∃ w3 : World, w3 = wq := ⟨_, rfl⟩
     have HM1 := Lib.hid (show NP V C w bn ba g (k + 1) (k + 1) (netL C 0) v4 w3 by rw [netL_zero, HNi.out]; exact HM.out)
     have c2 := HM1.out.circ.cell (i := 2) (v := .slice V.al nl V.cl) (by rw [HU.out]; rfl)
     clear HM
     go_wp2_with fail
     go_loopw [45] (fun v45 wr => ∃ p : Nat, v45 = .int .i64 (p : Int) ∧ p ≤ nl ∧ ∃ v4, NP V C w bn ba g (k + 1) (k + 1) (netL C p) v4 wr) (fun v45 _ => nl - (intOf v45).toNat)
     case atStart => exact ⟨0, rfl, by omega, _, HM1.out⟩
     case round =>
      obtain ⟨p, rfl, hp, v4, hM⟩ := hrel
      clear HM1 hlt c2
      obtain ⟨wx, rfl⟩ : ∃ wp : World, wp = wr := ⟨_, rfl⟩
      have HM := Lib.hid hM
      clear hM
      by_cases hlt : p < nl
      ·have hql : p < C.lats.length := by rw [HNl.out]; exact hlt
       obtain ⟨b, off, ea, hE⟩ := HA.out.latCell hql
       have hr := HG.out.rng.own _ (lat_own hql)
       rw [HMi.out] at hr
       have HS := Lib.hid (netL_succ hql)
       have HL := Lib.hid (show (netL C p).1.length = q + p by rw [netL_len C p (by omega), HNi.out])
       obtain ⟨x0, hx0⟩ : ∃ x, (g3 C.lats p).1 = x := ⟨_, rfl⟩
       obtain ⟨x1, hx1⟩ : ∃ x, (g3 C.lats p).2.1 = x := ⟨_, rfl⟩
       obtain ⟨x2, hx2⟩ : ∃ x, (g3 C.lats p).2.2 = x := ⟨_, rfl⟩
       rw [hx0, hx1, hx2] at hE
       rw [hx0] at hr HS
       obtain ⟨e0, e1, e2⟩ := hE _ HM.out.kp
       have HR := Lib.hid hr
       have i0 : (0 : Int) ≤ (p : Int) := by omega
       have i2 : (p : Int) < (nl : Int) := by omega
       have hnb := (Blk.new wx #[.int .i64 x0, .int .i64 x1, .int .i64 x2] 50).cell (i := 0) (v := .int .i64 x0) rfl
       have HMa := Lib.hid (HM.out.fr ((Kp.refl _ wx).alloc (.cells #[.int .i64 x0, .int .i64 x1, .int .i64 x2] 50)))
       rw [ea]
       clear hx0 hx1 hx2 ea hr hE hql
       go_wp2_with (go_at_call 75; refine (net_f1 V C w bn ba g (k + 1) (k + 1) (q + p) (netL C p) v4 x0 (-1) 0 _ HMa.out HL.out (by omega) (by have := HR.out; omega) (by have := HR.out; omega) (by omega)).mono ?_; rintro e w2 ⟨rfl, ⟨v', hP⟩, -⟩)
       have HP := Lib.hid hP
       clear hP e0 e1 e2 hnb
       go_wp2_with fail
       go_roundw
       case rel => exact ⟨p + 1, by go_num, by omega, v', by rw [HS.out]; exact HP.out⟩
       case measure => simp [intOf]; omega
      ·obtain rfl : p = nl := by omega
       have HM1 := Lib.hid (show NP V C w bn ba g (k + 1) (k + 1) (netG C 0) v4 wx by rw [netG_zero, HNl.out]; exact HM.out)
       obtain ⟨no, hno⟩ : ∃ g, (ordO C.gates).length = g := ⟨_, rfl⟩
       have hno1 : no ≤ ng := by rw [← HNg.out, ← hno]; exact (ordO_at C.gates).len
       have HO := Lib.hid (show ∀ u, Kp (fun _ => False) w u → Calls Tryz.prog 77 #[.agg #[.int .i64 (k : Int), .slice V.ai q V.ci, .slice V.al p V.cl, .slice V.ao C.outs.length V.co, .slice V.ab C.bads.length V.cb, .slice V.ac C.cons.length V.cc, .slice V.ag ng V.cg, .slice V.ay V.ny V.cy, .string V.cm]] u fun e u' => (∃ a c, e = .returned (.slice a no c) ∧ Own u' u.heap.size 3 (.slice a no c) (nv (ordO C.gates))) ∧ Kp (fun _ => False) u u' from fun u hu => by
        have hor := (circ_Order V C u (HA.out.kp hu) HF.out.g (HG.out.rng.good HG.out.nd) (fun i hi => by
         have h1 := HG.out.rng.own _ (gate_own hi)
         have h2 := HG.out.rng.use _ (gate_useA hi)
         have h3 := HG.out.rng.use _ (gate_useB hi)
         have h4 := HMi.out
         omega)).mono (R' := fun e u' => (∃ a c, e = .returned (.slice a no c) ∧ Own u' u.heap.size 3 (.slice a no c) (nv (ordO C.gates))) ∧ Kp (fun _ => False) u u') (by
          rintro e u' ⟨v, rfl, hO, hK⟩
          obtain ⟨a, c, e, -⟩ := hO.form
          rw [nv_length, hno] at e
          subst e
          exact ⟨⟨a, c, rfl, hO⟩, hK⟩)
        rw [HU.out] at hor
        exact hor)
       have HNo := Lib.hid hno
       obtain ⟨d0, d1, d2, d3, d4, d5, d6, d7, d8⟩ := Blk.cells9 (show Blk wx w.heap.size #[.int .i64 (k : Int), .slice V.ai q V.ci, .slice V.al p V.cl, .slice V.ao C.outs.length V.co, .slice V.ab C.bads.length V.cb, .slice V.ac C.cons.length V.cc, .slice V.ag ng V.cg, .slice V.ay V.ny V.cy, .string V.cm] 27 by have := HM.out.circ; rw [HU.out] at this; exact this)
       clear HM hno
       go_wp2_with (go_at_call 77; refine (HO.out _ HM1.out.kp).mono ?_; rintro e w9 ⟨⟨a9, c9, rfl, hO9⟩, hK9⟩)
       have HM9 := Lib.hid (HM1.out.fr hK9)
       have HO9 := Lib.hid (show Own w9 wx.heap.size 3 (.slice a9 no c9) (nv (ordO C.gates)) from hO9)
       have HG5 := Lib.hid (show g < wx.heap.size ∧ bn < wx.heap.size from ⟨(HM1.out.a.lt g rfl).2, HM1.out.xn.lt⟩)
       clear hO9 hK9 d0 d1 d2 d3 d4 d5 d6 d7 d8 HM1 HO
       go_wp2_with fail
       go_loopw [59] (fun v59 wr => ∃ r : Nat, v59 = .int .i64 (r : Int) ∧ r ≤ no ∧ (∃ v4, NP V C w bn ba g (k + 1) (k + 1) (netG C r) v4 wr) ∧ Own wr wx.heap.size 3 (.slice a9 no c9) (nv (ordO C.gates))) (fun v59 _ => no - (intOf v59).toNat)
       case atStart => exact ⟨0, rfl, by omega, ⟨_, HM9.out⟩, HO9.out⟩
       case round =>
        obtain ⟨r, rfl, hrk, ⟨v5, hM⟩, hO⟩ := hrel
        clear HM9 HO9 hlt
        obtain ⟨wy, rfl⟩ : ∃ wp : World, wp = wr := ⟨_, rfl⟩
        have HM := Lib.hid hM
        have HO := Lib.hid hO
        have c6 := hM.circ.cell (i := 6) (v := .slice V.ag ng V.cg) (by rw [HU.out]; rfl)
        clear hM hO
        by_cases hlt : r < no
        ·have hol : r < (ordO C.gates).length := by rw [HNo.out]; exact hlt
         obtain ⟨t, ht⟩ : ∃ t, gno (ordO C.gates) r = t := ⟨_, rfl⟩
         have htn := turn_ok HG.out hol
         rw [ht] at htn
         obtain ⟨htg, hdA, hdB⟩ := htn
         have hinv := netG_inv HG.out r (by omega)
         have rA := HG.out.rng.use _ (gate_useA htg)
         have rB := HG.out.rng.use _ (gate_useB htg)
         have rO := HG.out.rng.own _ (gate_own htg)
         rw [HMi.out] at rA rB rO
         have hmx := HG.out.mx
         rw [HMi.out] at hmx
         have hmk : MX C = k := by omega
         rw [hmk] at hinv
         have hLn := netG_len C r (by omega)
         rw [HNi.out, HNl.out] at hLn
         have hS := netG_succ hol
         rw [ht] at hS
         have hno9 : (nv (ordO C.gates))[r]? = some (.int .i64 (t : Int)) := by
          have h1 := nv_at hol
          have h2 : gn (ordO C.gates) r = t := ht
          rw [h2] at h1; exact h1
         obtain ⟨a9', c9', ev9, -, -, -, hrow9⟩ := HO.out.form
         simp only [Value.slice.injEq] at ev9
         obtain ⟨rfl, -, rfl⟩ := ev9
         obtain ⟨bo, offo, ea9, eo⟩ := hrow9 r _ hno9
         obtain ⟨b, off, ea, hE⟩ := HA.out.gateCell htg
         have hAx := ofL_ok hinv rA.1 (by omega) hdA
         have hBx := ofL_ok hinv rB.1 (by omega) hdB
         have hvA := hinv.val ((g3 C.gates t).2.1 / 2).toNat (by omega)
         have hvB := hinv.val ((g3 C.gates t).2.2 / 2).toNat (by omega)
         obtain ⟨x0, hx0⟩ : ∃ x, (g3 C.gates t).1 = x := ⟨_, rfl⟩
         obtain ⟨x1, hx1⟩ : ∃ x, (g3 C.gates t).2.1 = x := ⟨_, rfl⟩
         obtain ⟨x2, hx2⟩ : ∃ x, (g3 C.gates t).2.2 = x := ⟨_, rfl⟩
         rw [hx0] at rO hE
         rw [hx1] at rA hE hAx hvA
         rw [hx2] at rB hE hBx hvB
         have HS := Lib.hid (show netG C (r + 1) = putN (netG C r) x0 (ofN (netG C r).2 x1, ofN (netG C r).2 x2) by rw [hS]; unfold gateN; rw [hx0, hx1, hx2])
         have HA1 := Lib.hid (show 0 ≤ x1 ∧ (x1 / 2).toNat < k + 1 ∧ 0 ≤ gi (netG C r).2 (x1 / 2).toNat ∧ gi (netG C r).2 (x1 / 2).toNat % 2 = 0 ∧ gi (netG C r).2 (x1 / 2).toNat ≤ 1000000000 from ⟨rA.1, by omega, hAx.1, hAx.2.1, by omega⟩)
         have HB1 := Lib.hid (show 0 ≤ x2 ∧ (x2 / 2).toNat < k + 1 ∧ 0 ≤ gi (netG C r).2 (x2 / 2).toNat ∧ gi (netG C r).2 (x2 / 2).toNat % 2 = 0 ∧ gi (netG C r).2 (x2 / 2).toNat ≤ 1000000000 from ⟨rB.1, by omega, hBx.1, hBx.2.1, by omega⟩)
         have HLn := Lib.hid hLn
         have HR := Lib.hid (show 0 ≤ x0 ∧ (x0 / 2).toNat < k + 1 from ⟨by omega, by omega⟩)
         obtain ⟨e0, e1, e2⟩ := hE _ HM.out.kp
         have t0 : (0 : Int) ≤ (t : Int) := by omega
         have t1 : (t : Int) < (ng : Int) := by have := HNg.out; omega
         have r0 : (0 : Int) ≤ (r : Int) := by omega
         have r1 : (r : Int) < (no : Int) := by omega
         rw [ea] at c6
         subst ea9
         have HEA := Lib.hid ea
         clear ea hE hrow9 hno9 hS hx0 hx1 hx2 hAx hBx hvA hvB rA rB rO hLn hinv hmx hmk hdA hdB htg ht hol
         go_upto_region 23 with fail
         have HGb := Lib.hid (Blk.new wy #[.int .i64 x0, .int .i64 x1, .int .i64 x2] 120)
         have HM2 := Lib.hid (HM.out.fr ((Kp.refl _ wy).alloc (.cells #[.int .i64 x0, .int .i64 x1, .int .i64 x2] 120)))
         have HO2 := Lib.hid (HO.out.alloc (.cells #[.int .i64 x0, .int .i64 x1, .int .i64 x2] 120))
         clear HM HO e0 e1 e2 eo c6
         have HM := HM2
         clear HM2
         generalize hwv : wy.alloc (.cells #[.int .i64 x0, .int .i64 x1, .int .i64 x2] 120) = wv at HGb HM HO2 ⊢
         generalize hgb : wy.heap.size = gb at HGb ⊢
         refine wp_region_loose (p := upTo 12) (V := atV [EqV ((.func (.func 75) #[] #[.pointer (some ⟨bn, 0, none⟩), .pointer (some ⟨ba, 0, none⟩)])), EqV (.pointer (some ⟨gb, 0, none⟩)), EqV (.int .i64 x0), EqV ((.func (.func 76) #[] #[.pointer (some ⟨ba, 0, none⟩)])), EqV (.pointer (some ⟨gb, 1, none⟩)), EqV (.int .i64 x1), EqV (.int .i64 (ofN (netG C r).2 x1)), EqV ((.func (.func 76) #[] #[.pointer (some ⟨ba, 0, none⟩)])), EqV (.pointer (some ⟨gb, 2, none⟩)), EqV (.int .i64 x2), EqV (.int .i64 (ofN (netG C r).2 x2)), EqV (.agg #[.int .i64 (ofN (netG C r).2 x1), .int .i64 (ofN (netG C r).2 x2)])]) (LP := #[true, true, true, true, true, true, true, true, true, true, true, true, false]) (K := 1) (by kernel_rfl) (by kernel_rfl) (atV_st ?hstL23) ?hstepL23 (by kernel_rfl) ?hLPL23 (by kernel_rfl) ?hendL23
         case hstL23 =>
          intro W h
          simp only [List.mem_cons, List.not_mem_nil, or_false] at h
          rcases h with rfl | rfl | rfl | rfl | rfl | rfl | rfl | rfl | rfl | rfl | rfl | rfl <;> first | exact EqV.st _ | exact EqV.st _
         case hLPL23 => exact upTo_spec (by kernel_rfl)
         case hstepL23 =>
          intro i o ho hp a u hk hoff hdep
          have e7 : a.tmps[7]?.getD undef = (.func (.func 75) #[] #[.pointer (some ⟨bn, 0, none⟩), .pointer (some ⟨ba, 0, none⟩)]) := slot_at (hoff 7 (noDst_spec (by kernel_rfl)))
          have e12 : a.tmps[12]?.getD undef = (.func (.func 76) #[] #[.pointer (some ⟨ba, 0, none⟩)]) := slot_at (hoff 12 (noDst_spec (by kernel_rfl)))
          have e15 : a.tmps[15]?.getD undef = (.pointer (some ⟨gb, 0, none⟩)) := slot_at (hoff 15 (noDst_spec (by kernel_rfl)))
          clear hoff
          match i, ho with
          |0, ho =>
           obtain rfl := Option.some.inj ho
           refine lw_value (v := (.func (.func 75) #[] #[.pointer (some ⟨bn, 0, none⟩), .pointer (some ⟨ba, 0, none⟩)])) (u' := u) ?_ (Kp.refl _ _) rfl
           go_simp
          |1, ho =>
           obtain rfl := Option.some.inj ho
           refine lw_value (v := .pointer (some ⟨gb, 0, none⟩)) (u' := u) ?_ (Kp.refl _ _) rfl
           go_simp
          |2, ho =>
           obtain rfl := Option.some.inj ho
           have e69 : a.tmps[69]?.getD undef = .pointer (some ⟨gb, 0, none⟩) := slot_at (hdep ⟨1, .data⟩ (by simp) rfl _ 69 rfl rfl)
           have c1 := (HGb.out.kp hk (fun h => h)).cell (i := 0) (v := .int .i64 x0) rfl
           refine lw_value (v := .int .i64 x0) (u' := u) ?_ (Kp.refl _ _) rfl
           go_simp
          |3, ho =>
           obtain rfl := Option.some.inj ho
           refine lw_value (v := (.func (.func 76) #[] #[.pointer (some ⟨ba, 0, none⟩)])) (u' := u) ?_ (Kp.refl _ _) rfl
           go_simp
          |4, ho =>
           obtain rfl := Option.some.inj ho
           refine lw_value (v := .pointer (some ⟨gb, 1, none⟩)) (u' := u) ?_ (Kp.refl _ _) rfl
           go_simp
          |5, ho =>
           obtain rfl := Option.some.inj ho
           have e72 : a.tmps[72]?.getD undef = .pointer (some ⟨gb, 1, none⟩) := slot_at (hdep ⟨4, .data⟩ (by simp) rfl _ 72 rfl rfl)
           have c1 := (HGb.out.kp hk (fun h => h)).cell (i := 1) (v := .int .i64 x1) rfl
           refine lw_value (v := .int .i64 x1) (u' := u) ?_ (Kp.refl _ _) rfl
           go_simp
          |6, ho =>
           obtain rfl := Option.some.inj ho
           have e71 : a.tmps[71]?.getD undef = (.func (.func 76) #[] #[.pointer (some ⟨ba, 0, none⟩)]) := slot_at (hdep ⟨3, .data⟩ (by simp) rfl _ 71 rfl rfl)
           have e73 : a.tmps[73]?.getD undef = .int .i64 x1 := slot_at (hdep ⟨5, .data⟩ (by simp) rfl _ 73 rfl rfl)
           refine lw_call (f := 76) (args := #[.int .i64 x1, .pointer (some ⟨ba, 0, none⟩)]) ?_ ?_
           ·go_simp
           ·exact (net_f2 ba g (k + 1) (k + 1) (netG C r).2 x1 u (hk.cellK HM.out.cells.2.2.2) (by omega) (fun j hj => hk.cellK (HM.out.cells.1 j hj)) HA1.out.1 HA1.out.2.1 HA1.out.2.2).mono (by
             rintro e u' ⟨rfl, rfl⟩
             exact ⟨_, rfl, Kp.refl _ _, rfl⟩)
          |7, ho =>
           obtain rfl := Option.some.inj ho
           refine lw_value (v := (.func (.func 76) #[] #[.pointer (some ⟨ba, 0, none⟩)])) (u' := u) ?_ (Kp.refl _ _) rfl
           go_simp
          |8, ho =>
           obtain rfl := Option.some.inj ho
           refine lw_value (v := .pointer (some ⟨gb, 2, none⟩)) (u' := u) ?_ (Kp.refl _ _) rfl
           go_simp
          |9, ho =>
           obtain rfl := Option.some.inj ho
           have e76 : a.tmps[76]?.getD undef = .pointer (some ⟨gb, 2, none⟩) := slot_at (hdep ⟨8, .data⟩ (by simp) rfl _ 76 rfl rfl)
           have c1 := (HGb.out.kp hk (fun h => h)).cell (i := 2) (v := .int .i64 x2) rfl
           refine lw_value (v := .int .i64 x2) (u' := u) ?_ (Kp.refl _ _) rfl
           go_simp
          |10, ho =>
           obtain rfl := Option.some.inj ho
           have e75 : a.tmps[75]?.getD undef = (.func (.func 76) #[] #[.pointer (some ⟨ba, 0, none⟩)]) := slot_at (hdep ⟨7, .data⟩ (by simp) rfl _ 75 rfl rfl)
           have e77 : a.tmps[77]?.getD undef = .int .i64 x2 := slot_at (hdep ⟨9, .data⟩ (by simp) rfl _ 77 rfl rfl)
           refine lw_call (f := 76) (args := #[.int .i64 x2, .pointer (some ⟨ba, 0, none⟩)]) ?_ ?_
           ·go_simp
           ·exact (net_f2 ba g (k + 1) (k + 1) (netG C r).2 x2 u (hk.cellK HM.out.cells.2.2.2) (by omega) (fun j hj => hk.cellK (HM.out.cells.1 j hj)) HB1.out.1 HB1.out.2.1 HB1.out.2.2).mono (by
             rintro e u' ⟨rfl, rfl⟩
             exact ⟨_, rfl, Kp.refl _ _, rfl⟩)
          |11, ho =>
           obtain rfl := Option.some.inj ho
           have e74 : a.tmps[74]?.getD undef = .int .i64 (ofN (netG C r).2 x1) := slot_at (hdep ⟨6, .data⟩ (by simp) rfl _ 74 rfl rfl)
           have e78 : a.tmps[78]?.getD undef = .int .i64 (ofN (netG C r).2 x2) := slot_at (hdep ⟨10, .data⟩ (by simp) rfl _ 78 rfl rfl)
           refine lw_value (v := .agg #[.int .i64 (ofN (netG C r).2 x1), .int .i64 (ofN (netG C r).2 x2)]) (u' := u) ?_ (Kp.refl _ _) rfl
           go_simp
          |n + 12, _ => exact absurd hp (by simp [upTo])
         intro a u hI
         have hsz : a.tmps.size = 84 := hI.size
         have hdf : a.defers = [] := hI.defers
         have f0 : a.tmps.getD 0 undef = _ := hI.off 0 (noDst_spec (p := upTo 12) (by kernel_rfl))
         have f1 : a.tmps.getD 1 undef = _ := hI.off 1 (noDst_spec (p := upTo 12) (by kernel_rfl))
         have f2 : a.tmps.getD 2 undef = _ := hI.off 2 (noDst_spec (p := upTo 12) (by kernel_rfl))
         have f3 : a.tmps.getD 3 undef = _ := hI.off 3 (noDst_spec (p := upTo 12) (by kernel_rfl))
         have f4 : a.tmps.getD 4 undef = _ := hI.off 4 (noDst_spec (p := upTo 12) (by kernel_rfl))
         have f5 : a.tmps.getD 5 undef = _ := hI.off 5 (noDst_spec (p := upTo 12) (by kernel_rfl))
         have f6 : a.tmps.getD 6 undef = _ := hI.off 6 (noDst_spec (p := upTo 12) (by kernel_rfl))
         have f7 : a.tmps.getD 7 undef = _ := hI.off 7 (noDst_spec (p := upTo 12) (by kernel_rfl))
         have f8 : a.tmps.getD 8 undef = _ := hI.off 8 (noDst_spec (p := upTo 12) (by kernel_rfl))
         have f9 : a.tmps.getD 9 undef = _ := hI.off 9 (noDst_spec (p := upTo 12) (by kernel_rfl))
         have f10 : a.tmps.getD 10 undef = _ := hI.off 10 (noDst_spec (p := upTo 12) (by kernel_rfl))
         have f11 : a.tmps.getD 11 undef = _ := hI.off 11 (noDst_spec (p := upTo 12) (by kernel_rfl))
         have f12 : a.tmps.getD 12 undef = _ := hI.off 12 (noDst_spec (p := upTo 12) (by kernel_rfl))
         have f13 : a.tmps.getD 13 undef = _ := hI.off 13 (noDst_spec (p := upTo 12) (by kernel_rfl))
         have f14 : a.tmps.getD 14 undef = _ := hI.off 14 (noDst_spec (p := upTo 12) (by kernel_rfl))
         have f15 : a.tmps.getD 15 undef = _ := hI.off 15 (noDst_spec (p := upTo 12) (by kernel_rfl))
         have f16 : a.tmps.getD 16 undef = _ := hI.off 16 (noDst_spec (p := upTo 12) (by kernel_rfl))
         have f17 : a.tmps.getD 17 undef = _ := hI.off 17 (noDst_spec (p := upTo 12) (by kernel_rfl))
         have f18 : a.tmps.getD 18 undef = _ := hI.off 18 (noDst_spec (p := upTo 12) (by kernel_rfl))
         have f19 : a.tmps.getD 19 undef = _ := hI.off 19 (noDst_spec (p := upTo 12) (by kernel_rfl))
         have f20 : a.tmps.getD 20 undef = _ := hI.off 20 (noDst_spec (p := upTo 12) (by kernel_rfl))
         have f21 : a.tmps.getD 21 undef = _ := hI.off 21 (noDst_spec (p := upTo 12) (by kernel_rfl))
         have f22 : a.tmps.getD 22 undef = _ := hI.off 22 (noDst_spec (p := upTo 12) (by kernel_rfl))
         have f23 : a.tmps.getD 23 undef = _ := hI.off 23 (noDst_spec (p := upTo 12) (by kernel_rfl))
         have f24 : a.tmps.getD 24 undef = _ := hI.off 24 (noDst_spec (p := upTo 12) (by kernel_rfl))
         have f25 : a.tmps.getD 25 undef = _ := hI.off 25 (noDst_spec (p := upTo 12) (by kernel_rfl))
         have f26 : a.tmps.getD 26 undef = _ := hI.off 26 (noDst_spec (p := upTo 12) (by kernel_rfl))
         have f27 : a.tmps.getD 27 undef = _ := hI.off 27 (noDst_spec (p := upTo 12) (by kernel_rfl))
         have f28 : a.tmps.getD 28 undef = _ := hI.off 28 (noDst_spec (p := upTo 12) (by kernel_rfl))
         have f29 : a.tmps.getD 29 undef = _ := hI.off 29 (noDst_spec (p := upTo 12) (by kernel_rfl))
         have f30 : a.tmps.getD 30 undef = _ := hI.off 30 (noDst_spec (p := upTo 12) (by kernel_rfl))
         have f31 : a.tmps.getD 31 undef = _ := hI.off 31 (noDst_spec (p := upTo 12) (by kernel_rfl))
         have f32 : a.tmps.getD 32 undef = _ := hI.off 32 (noDst_spec (p := upTo 12) (by kernel_rfl))
         have f33 : a.tmps.getD 33 undef = _ := hI.off 33 (noDst_spec (p := upTo 12) (by kernel_rfl))
         have f34 : a.tmps.getD 34 undef = _ := hI.off 34 (noDst_spec (p := upTo 12) (by kernel_rfl))
         have f35 : a.tmps.getD 35 undef = _ := hI.off 35 (noDst_spec (p := upTo 12) (by kernel_rfl))
         have f36 : a.tmps.getD 36 undef = _ := hI.off 36 (noDst_spec (p := upTo 12) (by kernel_rfl))
         have f37 : a.tmps.getD 37 undef = _ := hI.off 37 (noDst_spec (p := upTo 12) (by kernel_rfl))
         have f38 : a.tmps.getD 38 undef = _ := hI.off 38 (noDst_spec (p := upTo 12) (by kernel_rfl))
         have f39 : a.tmps.getD 39 undef = _ := hI.off 39 (noDst_spec (p := upTo 12) (by kernel_rfl))
         have f40 : a.tmps.getD 40 undef = _ := hI.off 40 (noDst_spec (p := upTo 12) (by kernel_rfl))
         have f41 : a.tmps.getD 41 undef = _ := hI.off 41 (noDst_spec (p := upTo 12) (by kernel_rfl))
         have f42 : a.tmps.getD 42 undef = _ := hI.off 42 (noDst_spec (p := upTo 12) (by kernel_rfl))
         have f43 : a.tmps.getD 43 undef = _ := hI.off 43 (noDst_spec (p := upTo 12) (by kernel_rfl))
         have f44 : a.tmps.getD 44 undef = _ := hI.off 44 (noDst_spec (p := upTo 12) (by kernel_rfl))
         have f45 : a.tmps.getD 45 undef = _ := hI.off 45 (noDst_spec (p := upTo 12) (by kernel_rfl))
         have f46 : a.tmps.getD 46 undef = _ := hI.off 46 (noDst_spec (p := upTo 12) (by kernel_rfl))
         have f47 : a.tmps.getD 47 undef = _ := hI.off 47 (noDst_spec (p := upTo 12) (by kernel_rfl))
         have f48 : a.tmps.getD 48 undef = _ := hI.off 48 (noDst_spec (p := upTo 12) (by kernel_rfl))
         have f49 : a.tmps.getD 49 undef = _ := hI.off 49 (noDst_spec (p := upTo 12) (by kernel_rfl))
         have f50 : a.tmps.getD 50 undef = _ := hI.off 50 (noDst_spec (p := upTo 12) (by kernel_rfl))
         have f51 : a.tmps.getD 51 undef = _ := hI.off 51 (noDst_spec (p := upTo 12) (by kernel_rfl))
         have f52 : a.tmps.getD 52 undef = _ := hI.off 52 (noDst_spec (p := upTo 12) (by kernel_rfl))
         have f53 : a.tmps.getD 53 undef = _ := hI.off 53 (noDst_spec (p := upTo 12) (by kernel_rfl))
         have f54 : a.tmps.getD 54 undef = _ := hI.off 54 (noDst_spec (p := upTo 12) (by kernel_rfl))
         have f55 : a.tmps.getD 55 undef = _ := hI.off 55 (noDst_spec (p := upTo 12) (by kernel_rfl))
         have f56 : a.tmps.getD 56 undef = _ := hI.off 56 (noDst_spec (p := upTo 12) (by kernel_rfl))
         have f57 : a.tmps.getD 57 undef = _ := hI.off 57 (noDst_spec (p := upTo 12) (by kernel_rfl))
         have f58 : a.tmps.getD 58 undef = _ := hI.off 58 (noDst_spec (p := upTo 12) (by kernel_rfl))
         have f59 : a.tmps.getD 59 undef = _ := hI.off 59 (noDst_spec (p := upTo 12) (by kernel_rfl))
         have f60 : a.tmps.getD 60 undef = _ := hI.off 60 (noDst_spec (p := upTo 12) (by kernel_rfl))
         have f61 : a.tmps.getD 61 undef = _ := hI.off 61 (noDst_spec (p := upTo 12) (by kernel_rfl))
         have f62 : a.tmps.getD 62 undef = _ := hI.off 62 (noDst_spec (p := upTo 12) (by kernel_rfl))
         have f63 : a.tmps.getD 63 undef = _ := hI.off 63 (noDst_spec (p := upTo 12) (by kernel_rfl))
         have f64 : a.tmps.getD 64 undef = _ := hI.off 64 (noDst_spec (p := upTo 12) (by kernel_rfl))
         have f65 : a.tmps.getD 65 undef = _ := hI.off 65 (noDst_spec (p := upTo 12) (by kernel_rfl))
         have f66 : a.tmps.getD 66 undef = _ := hI.off 66 (noDst_spec (p := upTo 12) (by kernel_rfl))
         have f67 : a.tmps.getD 67 undef = _ := hI.off 67 (noDst_spec (p := upTo 12) (by kernel_rfl))
         have f80 : a.tmps.getD 80 undef = _ := hI.off 80 (noDst_spec (p := upTo 12) (by kernel_rfl))
         have f81 : a.tmps.getD 81 undef = _ := hI.off 81 (noDst_spec (p := upTo 12) (by kernel_rfl))
         have f82 : a.tmps.getD 82 undef = _ := hI.off 82 (noDst_spec (p := upTo 12) (by kernel_rfl))
         have f83 : a.tmps.getD 83 undef = _ := hI.off 83 (noDst_spec (p := upTo 12) (by kernel_rfl))
         have f68 : a.tmps.getD 68 undef = (.func (.func 75) #[] #[.pointer (some ⟨bn, 0, none⟩), .pointer (some ⟨ba, 0, none⟩)]) := hI.val 0 _ 68 rfl rfl rfl
         have f69 : a.tmps.getD 69 undef = .pointer (some ⟨gb, 0, none⟩) := hI.val 1 _ 69 rfl rfl rfl
         have f70 : a.tmps.getD 70 undef = .int .i64 x0 := hI.val 2 _ 70 rfl rfl rfl
         have f71 : a.tmps.getD 71 undef = (.func (.func 76) #[] #[.pointer (some ⟨ba, 0, none⟩)]) := hI.val 3 _ 71 rfl rfl rfl
         have f72 : a.tmps.getD 72 undef = .pointer (some ⟨gb, 1, none⟩) := hI.val 4 _ 72 rfl rfl rfl
         have f73 : a.tmps.getD 73 undef = .int .i64 x1 := hI.val 5 _ 73 rfl rfl rfl
         have f74 : a.tmps.getD 74 undef = .int .i64 (ofN (netG C r).2 x1) := hI.val 6 _ 74 rfl rfl rfl
         have f75 : a.tmps.getD 75 undef = (.func (.func 76) #[] #[.pointer (some ⟨ba, 0, none⟩)]) := hI.val 7 _ 75 rfl rfl rfl
         have f76 : a.tmps.getD 76 undef = .pointer (some ⟨gb, 2, none⟩) := hI.val 8 _ 76 rfl rfl rfl
         have f77 : a.tmps.getD 77 undef = .int .i64 x2 := hI.val 9 _ 77 rfl rfl rfl
         have f78 : a.tmps.getD 78 undef = .int .i64 (ofN (netG C r).2 x2) := hI.val 10 _ 78 rfl rfl rfl
         have f79 : a.tmps.getD 79 undef = .agg #[.int .i64 (ofN (netG C r).2 x1), .int .i64 (ofN (netG C r).2 x2)] := hI.val 11 _ 79 rfl rfl rfl
         have ha : a = ⟨#[a.tmps.getD 0 undef, a.tmps.getD 1 undef, a.tmps.getD 2 undef, a.tmps.getD 3 undef, a.tmps.getD 4 undef, a.tmps.getD 5 undef, a.tmps.getD 6 undef, a.tmps.getD 7 undef, a.tmps.getD 8 undef, a.tmps.getD 9 undef, a.tmps.getD 10 undef, a.tmps.getD 11 undef, a.tmps.getD 12 undef, a.tmps.getD 13 undef, a.tmps.getD 14 undef, a.tmps.getD 15 undef, a.tmps.getD 16 undef, a.tmps.getD 17 undef, a.tmps.getD 18 undef, a.tmps.getD 19 undef, a.tmps.getD 20 undef, a.tmps.getD 21 undef, a.tmps.getD 22 undef, a.tmps.getD 23 undef, a.tmps.getD 24 undef, a.tmps.getD 25 undef, a.tmps.getD 26 undef, a.tmps.getD 27 undef, a.tmps.getD 28 undef, a.tmps.getD 29 undef, a.tmps.getD 30 undef, a.tmps.getD 31 undef, a.tmps.getD 32 undef, a.tmps.getD 33 undef, a.tmps.getD 34 undef, a.tmps.getD 35 undef, a.tmps.getD 36 undef, a.tmps.getD 37 undef, a.tmps.getD 38 undef, a.tmps.getD 39 undef, a.tmps.getD 40 undef, a.tmps.getD 41 undef, a.tmps.getD 42 undef, a.tmps.getD 43 undef, a.tmps.getD 44 undef, a.tmps.getD 45 undef, a.tmps.getD 46 undef, a.tmps.getD 47 undef, a.tmps.getD 48 undef, a.tmps.getD 49 undef, a.tmps.getD 50 undef, a.tmps.getD 51 undef, a.tmps.getD 52 undef, a.tmps.getD 53 undef, a.tmps.getD 54 undef, a.tmps.getD 55 undef, a.tmps.getD 56 undef, a.tmps.getD 57 undef, a.tmps.getD 58 undef, a.tmps.getD 59 undef, a.tmps.getD 60 undef, a.tmps.getD 61 undef, a.tmps.getD 62 undef, a.tmps.getD 63 undef, a.tmps.getD 64 undef, a.tmps.getD 65 undef, a.tmps.getD 66 undef, a.tmps.getD 67 undef, a.tmps.getD 68 undef, a.tmps.getD 69 undef, a.tmps.getD 70 undef, a.tmps.getD 71 undef, a.tmps.getD 72 undef, a.tmps.getD 73 undef, a.tmps.getD 74 undef, a.tmps.getD 75 undef, a.tmps.getD 76 undef, a.tmps.getD 77 undef, a.tmps.getD 78 undef, a.tmps.getD 79 undef, a.tmps.getD 80 undef, a.tmps.getD 81 undef, a.tmps.getD 82 undef, a.tmps.getD 83 undef], a.defers⟩ := act_list a 84 hsz
         rw [hdf, f0, f1, f2, f3, f4, f5, f6, f7, f8, f9, f10, f11, f12, f13, f14, f15, f16, f17, f18, f19, f20, f21, f22, f23, f24, f25, f26, f27, f28, f29, f30, f31, f32, f33, f34, f35, f36, f37, f38, f39, f40, f41, f42, f43, f44, f45, f46, f47, f48, f49, f50, f51, f52, f53, f54, f55, f56, f57, f58, f59, f60, f61, f62, f63, f64, f65, f66, f67, f68, f69, f70, f71, f72, f73, f74, f75, f76, f77, f78, f79, f80, f81, f82, f83] at ha
         have hku := hI.kp
         clear hI hsz hdf f0 f1 f2 f3 f4 f5 f6 f7 f8 f9 f10 f11 f12 f13 f14 f15 f16 f17 f18 f19 f20 f21 f22 f23 f24 f25 f26 f27 f28 f29 f30 f31 f32 f33 f34 f35 f36 f37 f38 f39 f40 f41 f42 f43 f44 f45 f46 f47 f48 f49 f50 f51 f52 f53 f54 f55 f56 f57 f58 f59 f60 f61 f62 f63 f64 f65 f66 f67 f68 f69 f70 f71 f72 f73 f74 f75 f76 f77 f78 f79 f80 f81 f82 f83 
         subst ha
         refine wpAny_tail 12 rfl (by kernel_rfl) ?_
         simp only [List.drop_succ_cons, List.drop_zero]
         have HMu := Lib.hid (HM.out.fr hku)
         have HOu := Lib.hid (HO2.out.kp hku (fun _ _ h => h))
         clear hku
         go_wp2_with (go_at_call 75; refine (net_f1 V C w bn ba g (k + 1) (k + 1) (q + p + r) (netG C r) v5 x0 (ofN (netG C r).2 x1) (ofN (netG C r).2 x2) _ HMu.out HLn.out (by omega) (by have := HR.out; omega) (by have := HR.out; omega) (by omega)).mono ?_; rintro e w2 ⟨rfl, ⟨v', hP⟩, hK⟩)
         have HP := Lib.hid hP
         have HO3 := Lib.hid (HOu.out.kp hK (fun j hj hs => by
          have h1 := (HOu.out.lt j hj).1
          have h2 := HG5.out
          rcases hs with h4 | h4 | h4
          ·obtain ⟨c, hc⟩ := HMu.out.n.blkN h4
           obtain ⟨c', hc'⟩ := HOu.out.rows.blkN hj
           exact absurd (blkN_type hc hc') (by decide)
          ·omega
          ·omega))
         clear hP hK
         go_wp2_with fail
         go_roundw
         case rel => exact ⟨r + 1, by go_num, by omega, ⟨v', by rw [HS.out]; exact HP.out⟩, HO3.out⟩
         case measure => simp [intOf]; omega
        ·obtain rfl : r = no := by omega
         have HE := Lib.hid (show OwnK wy w.heap.size 124 2 v5 ((netOf C).1.map pr2) ∧ Own wy w.heap.size 3 (.slice (some ⟨g, 0, none⟩) (k + 1) (k + 1)) (iv (netOf C).2) ∧ Kp (fun _ => False) w wy from by
          have h1 := HM.out
          rw [← HNo.out] at h1
          exact ⟨h1.n.mono (by omega), h1.a.mono (by omega), h1.kp⟩)
         have cn := HM.out.cells.2.2.1
         have ca := HM.out.cells.2.2.2
         go_upto_region 25 with fail
         go_quiet (fail)
         go_wp2_with fail
         go_ret2
         exact ⟨_, _, rfl, HE.out.1.drewN _, HE.out.2.1.drewN _, HE.out.2.2.drewN _⟩

end Go.Proofs.YtghlklcolepfmaaGreatDoor

/-
  step: Inputs, Latches, values.is, values.all.
-/
namespace Go.Proofs.YtghlklcolepfmaaGreatDoor
open Go.RowKit

theorem step_Inputs (V : CV) (C : Circ) (p : Nat) (a4 a5 : Option Addr) (c4 c5 : Nat) (w : World) (hM : MAt w 112 V C p a4 c4 a5 c5) (hf : CFew C 1000000) :
  Calls Tryz.prog 42 #[.pointer (some ⟨p, 0, none⟩)] w fun e w' => e = .returned (.int .i64 (C.ins.length : Int)) ∧ w = w' := by
 obtain ⟨n, hn⟩ : ∃ n, C.ins.length = n := ⟨_, rfl⟩
 have hn1 : n ≤ 1000000 := by have := hf.i; omega
 have hB : w.cell? ⟨p, 1, none⟩ = some (.slice V.ai n V.ci) := hM.blk.cell (i := 1) (by rw [← hn]; rfl)
 rw [hn]
 clear hM hf hn
 go_enter Tryz.func42, Tryz.ntmps42
 go_wp2_with fail
 go_ret
 exact ⟨rfl, rfl⟩

theorem step_Latches (V : CV) (C : Circ) (p : Nat) (a4 a5 : Option Addr) (c4 c5 : Nat) (w : World) (hM : MAt w 112 V C p a4 c4 a5 c5) (hf : CFew C 1000000) :
  Calls Tryz.prog 41 #[.pointer (some ⟨p, 0, none⟩)] w fun e w' => e = .returned (.int .i64 (C.lats.length : Int)) ∧ w = w' := by
 obtain ⟨n, hn⟩ : ∃ n, C.lats.length = n := ⟨_, rfl⟩
 have hn1 : n ≤ 1000000 := by have := hf.l; omega
 have hB : w.cell? ⟨p, 2, none⟩ = some (.slice V.al n V.cl) := hM.blk.cell (i := 2) (by rw [← hn]; rfl)
 rw [hn]
 clear hM hf hn
 go_enter Tryz.func41, Tryz.ntmps41
 go_wp2_with fail
 go_ret
 exact ⟨rfl, rfl⟩

set_option maxRecDepth 100000 in
set_option maxHeartbeats 1000000 in
theorem step_is (va : Option Addr) (vn vc : Nat) (vals : List Bool) (a5 : Option Addr) (n5 c5 : Nat) (at_ : List Int) (l : Int) (w : World) (hv : RowAt w va (bv vals)) (hvn : vals.length = vn) (hv1 : vn ≤ 100000000) (h0 : vb vals 0 = false) (ha : RowAt w a5 (iv at_)) (han : at_.length = n5) (ha1 : n5 ≤ 100000000) (l0 : 0 ≤ l) (lq : (l / 2).toNat < n5) (hx : 0 ≤ gi at_ (l / 2).toNat ∧ gi at_ (l / 2).toNat % 2 = 0 ∧ gi at_ (l / 2).toNat ≤ 1000000000) (hp : 0 ≤ ofN at_ l) (hq : (ofN at_ l / 2).toNat < vn) :
  Calls Tryz.prog 90 #[.agg #[.slice va vn vc, .slice a5 n5 c5], .int .i64 l] w fun e w' => e = .returned (.bool (litN vals (ofN at_ l))) ∧ Kp (fun _ => False) w w' := by
 obtain ⟨wz, hwz⟩ : ∃ wz : World, wz = w.alloc (.cells #[.slice va vn vc, .slice a5 n5 c5] 114) := ⟨_, rfl⟩
 have HK0 := Lib.hid (show Kp (fun _ => False) w wz by rw [hwz]; exact (Kp.refl _ w).alloc _)
 have HBk := Lib.hid (show Blk wz w.heap.size #[.slice va vn vc, .slice a5 n5 c5] 114 by rw [hwz]; exact Blk.new _ _ _)
 obtain ⟨q, hqq⟩ : ∃ q : Nat, (l / 2).toNat = q := ⟨_, rfl⟩
 have hd : l / 2 = (q : Int) := by omega
 have hld : l.tdiv 2 = (q : Int) := by rw [Int.tdiv_eq_ediv_of_nonneg l0]; exact hd
 have hl9 : l ≤ 200000002 := by omega
 have hand : bits .and .i64 l 1 = l % 2 := i64_and1 l l0 (by omega)
 have hz : ofN at_ l = gi at_ q + l % 2 := by unfold ofN; rw [hqq]; rw [hqq] at hx; split <;> omega
 rw [hqq] at lq hx
 obtain ⟨b, off, rfl, e0⟩ := ha q _ (iv_at (by omega))
 obtain ⟨y, hy⟩ : ∃ y, gi at_ q = y := ⟨_, rfl⟩
 rw [hy] at e0 hx hz
 have hxor : bits .xor .i64 y (l % 2) = ofN at_ l := by rw [i64_xor1 y l hx.1 hx.2.1 hx.2.2, hz]
 obtain ⟨z, hzz⟩ : ∃ z, ofN at_ l = z := ⟨_, rfl⟩
 rw [hzz] at hp hq hxor ⊢
 have HL := Lib.hid (fun u (hu : Kp (fun _ => False) w u) => sim_Lit va vn vc vals z u (hv.kp hu (fun _ _ h => h)) hvn hv1 h0 hp hq)
 have q0 : (0 : Int) ≤ (q : Int) := by omega
 have q1 : (q : Int) < (n5 : Int) := by omega
 have y0 := hx.1
 have y2 := hx.2.2
 have HZ := Lib.hid hwz
 have HE0 := Lib.hid e0
 clear hv hvn ha han hqq hx hy hz hzz hwz e0
 obtain ⟨F, hF1, hF2⟩ := still_class wz
 have HF1 := Lib.hid hF1
 have HF2 := Lib.hid hF2
 clear hF1 hF2
 have m0 : ∀ y, (F y).cell? ⟨w.heap.size, 0, none⟩ = some (.slice va vn vc) := fun y => (HBk.out.kp (HF1.out y) (fun h => h)).cell rfl
 have m1 : ∀ y, (F y).cell? ⟨w.heap.size, 1, none⟩ = some (.slice (some ⟨b, off, none⟩) n5 c5) := fun y => (HBk.out.kp (HF1.out y) (fun h => h)).cell rfl
 have m2 := fun y => (HF1.out y).cellK (HK0.out.cellK HE0.out)
 have HW := Lib.hid (fun y => (HL.out (F y) (HK0.out.trans (HF1.out y) (fun _ _ h => h))).mono (R' := fun e w' => e = .returned (.bool (litN vals z)) ∧ Kp (fun _ => False) (F y) w') (fun e w' ⟨h1, h2⟩ => ⟨h1, h2 ▸ Kp.refl _ _⟩))
 go_enter Tryz.func90, Tryz.ntmps90
 go_upto_region 1 with fail
 rw [← HZ.out]
 clear HZ
 refine wp_region_kept (by kernel_rfl) (by kernel_rfl) HF2.out ?_
 repeat (go_big_quiet_step (with_reducible first | exact Calls.still_of HF1.out HF2.out (HW.out _)))
 refine wpQuiet_nil ?_
 rintro wB ⟨y, rfl⟩
 have HE := Lib.hid (HK0.out.trans (HF1.out y) (fun _ _ h => h))
 clear m0 m1 m2
 go_wp2_with fail
 go_ret
 exact ⟨rfl, HE.out⟩

end Go.Proofs.YtghlklcolepfmaaGreatDoor

/-
  step: values.all; the literals of a moment.
-/
namespace Go.Proofs.YtghlklcolepfmaaGreatDoor
open Go.RowKit

theorem valsK_head {N : List (Int × Int)} {ins : List Bool} : ∀ k, k ≤ N.length → vb (valsK N ins k).1 0 = false
 |0, _ => rfl
 |k + 1, h => by
  have ih := valsK_head (N := N) (ins := ins) k (by omega)
  have hl := valsK_len (N := N) (ins := ins) k (by omega)
  rw [valsK_succ (by omega)]
  unfold vb at ih ⊢
  unfold stepV
  split
  ·show ((valsK N ins k).1 ++ _)[0]?.getD false = false
   rw [List.getElem?_append_left (by omega)]; exact ih
  ·show ((valsK N ins k).1 ++ _)[0]?.getD false = false
   rw [List.getElem?_append_left (by omega)]; exact ih

theorem net_few {C : Circ} (hf : CFew C 1000000) (hg : GoodC C) : (netOf C).1.length ≤ 3000000 ∧ (netOf C).2.length ≤ 20000000 := by
 have hnl := nodes_len C
 have hol := (ordO_at C.gates).len
 have hfi := hf.i
 have hfl := hf.l
 have hfg := hf.g
 refine ⟨by omega, ?_⟩
 have h1 := (netG_inv hg (ordO C.gates).length (Nat.le_refl _)).size
 have h2 := hg.mx
 have h3 := hg.rng.max1
 show (netG C _).2.length ≤ _
 omega

theorem step_lit {C : Circ} {a5 : Option Addr} {c5 : Nat} {va : Option Addr} {vc : Nat} {st ip : List Bool} {w : World} (hf : CFew C 1000000) (hg : GoodC C) (ha : RowAt w a5 (iv (netOf C).2)) (hv : RowAt w va (bv (valsM C st ip))) :
  ∀ u, Kp (fun _ => False) w u → ∀ l, l ∈ C.used → Calls Tryz.prog 90 #[.agg #[.slice va ((netOf C).1.length + 1) vc, .slice a5 (netOf C).2.length c5], .int .i64 l] u fun e w' => e = .returned (.bool (litM C st ip l)) ∧ Kp (fun _ => False) u w' := fun u hu l hl => by
 obtain ⟨l0, lq, ly0, ly1, ly2, lo0, lo1⟩ := lit_place hg hl
 obtain ⟨h4, h5⟩ := net_few hf hg
 exact step_is va _ vc (valsM C st ip) a5 _ c5 (netOf C).2 l u (hv.kp hu (fun _ _ h => h)) (valsOf_len _ _) (by omega) (valsK_head _ (Nat.le_refl _)) (ha.kp hu (fun _ _ h => h)) rfl (by omega) l0 lq ⟨ly0, ly1, by omega⟩ lo0 (by omega)

end Go.Proofs.YtghlklcolepfmaaGreatDoor

/-
  step.brought.
-/
namespace Go.Proofs.YtghlklcolepfmaaGreatDoor
open Go.RowKit

theorem brought_take (l : List Bool) (m : Nat) : brought l m = l.take (Nat.min l.length m) ++ List.replicate (m - Nat.min l.length m) false := by
 have hmin : Nat.min l.length m ≤ l.length ∧ Nat.min l.length m ≤ m ∧ (Nat.min l.length m = l.length ∨ Nat.min l.length m = m) := by
  simp only [Nat.min_def]; split <;> omega
 apply List.ext_getElem?
 intro i
 unfold brought
 rw [List.getElem?_map]
 by_cases hi : i < m
 ·rw [List.getElem?_range hi]
  show some (vb l i) = _
  by_cases h2 : i < Nat.min l.length m
  ·rw [List.getElem?_append_left (by simp; omega), List.getElem?_take, if_pos h2]
   unfold vb
   rw [List.getElem?_eq_getElem (by omega)]; rfl
  ·have hlen : (l.take (Nat.min l.length m)).length = Nat.min l.length m := by rw [List.length_take]; omega
   rw [List.getElem?_append_right (by omega), hlen, List.getElem?_replicate, if_pos (by omega)]
   rw [vb_far (by omega)]
 ·rw [List.getElem?_eq_none (by simp; omega)]
  rw [List.getElem?_eq_none (by simp; omega)]; rfl

theorem splice_bools (l : List Bool) (m : Nat) : splice (bv (List.replicate m false)) 0 (bv (l.take (Nat.min l.length m))) = bv (brought l m) := by
 have hmin : Nat.min l.length m ≤ l.length ∧ Nat.min l.length m ≤ m := by
  simp only [Nat.min_def]; split <;> omega
 rw [brought_take]
 unfold splice
 have hlen : (bv (l.take (Nat.min l.length m))).length = Nat.min l.length m := by rw [bv_length, List.length_take]; omega
 rw [List.take_zero, List.nil_append, hlen, Nat.zero_add, bv_append]
 congr 1
 unfold bv
 rw [← List.map_drop, List.drop_replicate]

set_option maxRecDepth 100000 in
theorem step_brought (a : Option Addr) (n c : Nat) (l : List Bool) (m : Nat) (w : World) (hr : RowAt w a (bv l)) (hn : l.length = n) (hm : n ≤ 100000000) (hmm : m ≤ 10000000) :
  Calls Tryz.prog 51 #[.slice a n c, .int .i64 m] w fun e w' => ∃ v, e = .returned v ∧ Own w' w.heap.size 4 v (bv (brought l m)) ∧ Kp (fun _ => False) w w' := by
 obtain ⟨i0, hi0, hz0, hz1, hz2⟩ := info_parts (show (Tryz.prog.info? 4).map (fun i => (i.zero, i.size, i.bytes)) = some (some (.bool false), 1, 1) by kernel_rfl)
 have hsz := Lib.hid (show (Tryz.prog.info? 4).map (·.size) = some 1 by kernel_rfl)
 have hmk : ∀ u : World, (Instr.makeSlice 28 (.int .i64 (m : Int)) (.int .i64 (m : Int))).run Tryz.prog u =
   .ok (.slice (some ⟨u.heap.size, 0, none⟩) m m) (u.alloc (.cells (madeCells #[.bool false] m) 4)) := fun u => by
  have h := run_make (P := Tryz.prog) u 28 4 i0 (.bool false) Tryz.underlying28 hi0 hz0 .i64 .i64 (m : Int) (m : Int) (by omega) (Int.le_refl _) (by rw [hz2]; omega) (by omega)
  simpa [hz1, Value.cells] using h
 clear hi0 hz0 hz1 hz2 i0
 obtain ⟨wz, hwz⟩ : ∃ wz : World, wz = w.alloc (.cells (madeCells #[.bool false] m) 4) := ⟨_, rfl⟩
 have HK0 := Lib.hid (show Kp (fun _ => False) w wz by rw [hwz]; exact (Kp.refl _ w).alloc _)
 have HB := Lib.hid (show Blk wz w.heap.size (bv (List.replicate m false)).toArray 4 by rw [hwz, bv_rep, ← made_row]; exact Blk.new _ _ _)
 have HBw := Lib.hid (show Below w.heap.size w wz by rw [hwz]; exact ⟨rfl, rfl, rfl, by simp, fun j hj => Below.heap_alloc w _ j hj⟩)
 obtain ⟨cs, hcs⟩ : ∃ cs, cs = bv (l.take (Nat.min l.length m)) := ⟨_, rfl⟩
 have hmin : Nat.min l.length m ≤ l.length ∧ Nat.min l.length m ≤ m := by
  simp only [Nat.min_def]; split <;> omega
 have hcl : cs.length = Nat.min n m := by rw [hcs, bv_length, ← hn, List.length_take]; omega
 have HCs := Lib.hid hcs
 have HCl := Lib.hid hcl
 have HR := Lib.hid (show RowAt wz a cs from by
  rw [hcs]
  unfold bv
  rw [List.map_take]
  exact (hr.kp HK0.out (fun _ _ h => h)).take _)
 have HOne := Lib.hid (show ∀ v ∈ cs, v.oneCell' = true from by rw [hcs]; exact bv_one _)
 have HLe := Lib.hid (show cs.length ≤ m by rw [hcl, ← hn]; exact hmin.2)
 have HZ := Lib.hid hwz
 clear hr hwz hcs hcl hmin
 go_enter Tryz.func51, Tryz.ntmps51
 go_upto_region 2 with fail
 rw [← HZ.out]
 clear HZ hmk
 go_wp2_with (refine wpList_copy_splice rfl (.tmp 8) (.tmp 9) 28 28 rfl 4 Tryz.underlying28 hsz.out (some ⟨w.heap.size, 0, none⟩) a m m n c rfl rfl w.heap.size 0 (bv (List.replicate m false)) 4 HB.out cs HCl.out ?p1 ?p2 HOne.out w.heap.size w HBw.out (Nat.le_refl _) ?_)
 case p1 =>
  intro h0
  try refine ⟨rfl, ?_⟩
  obtain ⟨b, off, ea, -⟩ := HR.out 0 cs[0] (List.getElem?_eq_getElem h0)
  refine ⟨⟨b, off, none⟩, ea, fun j v hj => ?_⟩
  obtain ⟨b', off', ea', e⟩ := HR.out j v hj
  rw [ea] at ea'
  simp only [Option.some.injEq, Addr.mk.injEq, and_true] at ea'
  obtain ⟨rfl, rfl⟩ := ea'
  rw [add_plain']
  exact e
 case p2 => rw [bv_length]; simp; exact HLe.out
 intro w2 hB2 hBe
 have HE := Lib.hid (show Own w2 w.heap.size 4 (.slice (some ⟨w.heap.size, 0, none⟩) m m) (bv (brought l m)) ∧ Kp (fun _ => False) w w2 from by
  refine ⟨?_, Kp.of_below hBe _⟩
  have h1 : Blk w2 w.heap.size (splice (bv (List.replicate m false)) 0 cs).toArray 4 := hB2.out
  rw [HCs.out, splice_bools] at h1
  have hl : (bv (brought l m)).length = m := by rw [bv_length, brought_len]
  have := Own.lit (base := w.heap.size) h1 (Nat.le_refl _) (by rw [hl]; unfold maxLen; omega)
  rw [hl] at this
  exact this)
 clear hB2 hBe
 go_wp2_with fail
 go_ret
 exact ⟨_, rfl, HE.out⟩

end Go.Proofs.YtghlklcolepfmaaGreatDoor

/-
  step.Machine.in.
-/
namespace Go.Proofs.YtghlklcolepfmaaGreatDoor
open Go.RowKit

set_option maxRecDepth 100000 in
set_option maxHeartbeats 4000000 in
theorem step_in (V : CV) (C : Circ) (p : Nat) (a4 a5 : Option Addr) (c4 c5 : Nat) (sa : Option Addr) (sn sc : Nat) (ia : Option Addr) (in_ ic : Nat) (st ip : List Bool) (w : World) (hM : MAt w 112 V C p a4 c4 a5 c5) (hf : CFew C 1000000) (hg : GoodC C) (hs : BS w sa sn st) (hi : BS w ia in_ ip) :
  Calls Tryz.prog 70 #[.pointer (some ⟨p, 0, none⟩), .slice sa sn sc, .slice ia in_ ic] w fun e w' => (∃ va vc, e = .returned (.agg #[.pointer (some ⟨p, 0, none⟩), .slice va ((netOf C).1.length + 1) vc, .slice a5 (netOf C).2.length c5]) ∧ RowAt w' va (bv (valsM C st ip))) ∧ Kp (fun _ => False) w w' := by
 have HIb := Lib.hid (show (Tryz.prog.info? 4).map (fun i => (i.zero, i.size, i.bytes)) = some (some (.bool false), 1, 1) by kernel_rfl)
 have HNf := Lib.hid (net_few hf hg)
 have HM := Lib.hid hM
 have HF := Lib.hid hf
 have HG := Lib.hid hg
 have HS := Lib.hid hs
 have HI := Lib.hid hi
 have hfi := hf.i
 have hfl := hf.l
 obtain ⟨wz, hwz⟩ : ∃ wz : World, wz = w.alloc (.cells #[.pointer none, .slice none 0 0, .slice none 0 0] 116) := ⟨_, rfl⟩
 have HK0 := Lib.hid (show Kp (fun _ => False) w wz by rw [hwz]; exact (Kp.refl _ w).alloc _)
 have HMb := Lib.hid (show Blk wz w.heap.size #[.pointer none, .slice none 0 0, .slice none 0 0] 116 by rw [hwz]; exact Blk.new _ _ _)
 have HIn := Lib.hid (step_Inputs V C p a4 a5 c4 c5 wz (hM.kp HK0.out) hf)
 have HBi := Lib.hid (step_brought ia in_ ic ip C.ins.length wz (hi.kp HK0.out).row hi.len hi.most (by omega))
 have HLa := Lib.hid (fun u (hu : Kp (fun _ => False) wz u) => step_Latches V C p a4 a5 c4 c5 u (hM.kp (HK0.out.trans hu (fun _ _ h => h))) hf)
 have HBs := Lib.hid (fun u (hu : Kp (fun _ => False) wz u) => step_brought sa sn sc st C.lats.length u (hs.kp (HK0.out.trans hu (fun _ _ h => h))).row hs.len hs.most (by omega))
 have HSz := Lib.hid (show wz.heap.size = w.heap.size + 1 by rw [hwz]; simp)
 have HZ := Lib.hid hwz
 clear hM hf hg hs hi hwz
 go_enter Tryz.func70, Tryz.ntmps70
 go_upto_region 1 with fail
 rw [← HZ.out]
 clear HZ
 go_wp2_with (first
  |(go_at_call 42; with_reducible refine Calls.mono HIn.out ?_; rintro e w1 ⟨rfl, rfl⟩)
  |(go_at_call 41; with_reducible refine Calls.mono (HLa.out _ hKi) ?_; rintro e w1 ⟨rfl, rfl⟩)
  |(go_at_call 51; with_reducible refine Calls.mono HBi.out ?_; rintro e wi ⟨v1, rfl, hOi, hKi⟩)
  |(go_at_call 51; with_reducible refine Calls.mono (HBs.out _ hKi) ?_; rintro e ws ⟨v2, rfl, hOs, hKs⟩; obtain ⟨s2a, s2c, ev2, s2le, s2m, s2nil, -, hr2⟩ := ownForm hOs; rw [bv_length, brought_len] at ev2 s2le; subst ev2; have HO1 := Lib.hid (hOi.kp hKs (fun _ _ h => h)); have HR2 := Lib.hid hr2; have HKz := Lib.hid (hKi.trans hKs (fun _ _ h => h)); clear hOs hKs hOi hKi hr2)
  |(at_builtin; refine wpList_append1s rfl _ _ 28 4 rfl Tryz.underlying28 HIb.out rfl HO1.out rfl s2a C.lats.length s2c (bv (brought st C.lats.length)) rfl ?k0 HR2.out s2nil (bv_one _) ?k1 ?k2 ?k3 ?_))
 case k0 => rw [bv_length, brought_len]
 case k1 => rw [bv_length, brought_len]; omega
 case k2 => rw [bv_length, brought_len]; unfold maxLen; omega
 case k3 => exact HKz.out.size
 intro v9 w2 hO9 hg9 hat9
 have hO9' : Own w2 wz.heap.size 4 v9 (bv (insOf C st ip)) := by unfold insOf; rw [bv_append]; exact hO9
 obtain ⟨n9, hn9⟩ : ∃ n, (insOf C st ip).length = n := ⟨_, rfl⟩
 obtain ⟨a9, c9, ev9, -, -, -, hr9⟩ := hO9'.form
 rw [bv_length, hn9] at ev9
 subst ev9
 have HKy := Lib.hid (show Kp (fun _ => False) wz w2 from HKz.out.grown hg9 (fun j hj hl => by have := (HO1.out.lt j hj).1; omega))
 have HK2 := Lib.hid (HK0.out.trans HKy.out (fun _ _ h => h))
 have HMb2 := Lib.hid (HMb.out.kp HKy.out (fun h => h))
 have HR9 := Lib.hid hr9
 have HN9 := Lib.hid hn9
 have hn91 : n9 ≤ 2000000 := by rw [← hn9, insOf_len]; omega
 have HB := Lib.hid (HM.out.blk.kp HK2.out (fun h => h))
 clear hO9 hO9' hg9 hat9 hr9 hn9 s2nil HO1 HR2 HIn HBi HLa HBs HMb
 go_upto_region 2 with fail
 refine wp_region_loose (p := upTo 13) (V := atV [EqV ((.pointer (some ⟨p, 0, none⟩))), EqV ((.pointer (some ⟨p, 0, none⟩))), EqV (.pointer (some ⟨p, 0, none⟩)), EqV (.pointer (some ⟨p, 9, none⟩)), EqV (.slice a4 (netOf C).1.length c4), EqV ((.slice a9 n9 c9)), (fun u v => Own u (w.heap.size + 1) 4 v (bv (valsM C st ip))), EqV ((.pointer (some ⟨p, 0, none⟩))), EqV (.pointer (some ⟨p, 0, none⟩)), EqV (.pointer (some ⟨p, 10, none⟩)), EqV (.slice a5 (netOf C).2.length c5), (fun u v => ∃ va vc, v = .agg #[.slice va ((netOf C).1.length + 1) vc, .slice a5 (netOf C).2.length c5] ∧ RowAt u va (bv (valsM C st ip)) ∧ ∀ q, va = some q → w.heap.size < q.block), (fun u v => ∃ va vc, v = .agg #[.pointer (some ⟨p, 0, none⟩), .slice va ((netOf C).1.length + 1) vc, .slice a5 (netOf C).2.length c5] ∧ RowAt u va (bv (valsM C st ip)) ∧ ∀ q, va = some q → w.heap.size < q.block)]) (LP := #[true, true, true, true, true, true, true, true, true, true, true, true, true, false]) (K := 1) (by kernel_rfl) (by kernel_rfl) (atV_st ?hstL2) ?hstepL2 (by kernel_rfl) ?hLPL2 (by kernel_rfl) ?hendL2
 case hstL2 =>
  intro W h
  simp only [List.mem_cons, List.not_mem_nil, or_false] at h
  rcases h with rfl | rfl | rfl | rfl | rfl | rfl | rfl | rfl | rfl | rfl | rfl | rfl | rfl <;> first | exact EqV.st _ | exact fun _ _ _ k h => Own.kp h k (fun _ _ h => h) | exact fun _ _ _ k ⟨va, vc, h1, h2, h3⟩ => ⟨va, vc, h1, h2.kp k (fun _ _ h => h), h3⟩
 case hLPL2 => exact upTo_spec (by kernel_rfl)
 case hstepL2 =>
  intro i o ho hp a u hk hoff hdep
  have e0 : a.tmps[0]?.getD undef = (.pointer (some ⟨p, 0, none⟩)) := slot_at (hoff 0 (noDst_spec (by kernel_rfl)))
  have e7 : a.tmps[7]?.getD undef = (.slice a9 n9 c9) := slot_at (hoff 7 (noDst_spec (by kernel_rfl)))
  clear hoff
  match i, ho with
  |0, ho =>
   obtain rfl := Option.some.inj ho
   refine lw_value (v := (.pointer (some ⟨p, 0, none⟩))) (u' := u) ?_ (Kp.refl _ _) rfl
   go_simp
  |1, ho =>
   obtain rfl := Option.some.inj ho
   refine lw_value (v := (.pointer (some ⟨p, 0, none⟩))) (u' := u) ?_ (Kp.refl _ _) rfl
   go_simp
  |2, ho =>
   obtain rfl := Option.some.inj ho
   have e18 : a.tmps[18]?.getD undef = (.pointer (some ⟨p, 0, none⟩)) := slot_at (hdep ⟨1, .data⟩ (by simp) rfl _ 18 rfl rfl)
   refine lw_value (v := .pointer (some ⟨p, 0, none⟩)) (u' := u) ?_ (Kp.refl _ _) rfl
   go_simp
  |3, ho =>
   obtain rfl := Option.some.inj ho
   have e19 : a.tmps[19]?.getD undef = .pointer (some ⟨p, 0, none⟩) := slot_at (hdep ⟨2, .data⟩ (by simp) rfl _ 19 rfl rfl)
   refine lw_value (v := .pointer (some ⟨p, 9, none⟩)) (u' := u) ?_ (Kp.refl _ _) rfl
   go_simp
  |4, ho =>
   obtain rfl := Option.some.inj ho
   have e20 : a.tmps[20]?.getD undef = .pointer (some ⟨p, 9, none⟩) := slot_at (hdep ⟨3, .data⟩ (by simp) rfl _ 20 rfl rfl)
   have c1 := (HB.out.kp hk (fun h => h)).cell (i := 9) (v := .slice a4 (netOf C).1.length c4) rfl
   refine lw_value (v := .slice a4 (netOf C).1.length c4) (u' := u) ?_ (Kp.refl _ _) rfl
   go_simp
  |5, ho =>
   obtain rfl := Option.some.inj ho
   refine lw_value (v := (.slice a9 n9 c9)) (u' := u) ?_ (Kp.refl _ _) rfl
   go_simp
  |6, ho =>
   obtain rfl := Option.some.inj ho
   have e21 : a.tmps[21]?.getD undef = .slice a4 (netOf C).1.length c4 := slot_at (hdep ⟨4, .data⟩ (by simp) rfl _ 21 rfl rfl)
   have e22 : a.tmps[22]?.getD undef = (.slice a9 n9 c9) := slot_at (hdep ⟨5, .data⟩ (by simp) rfl _ 22 rfl rfl)
   refine lw_call (f := 53) (args := #[.slice a4 (netOf C).1.length c4, .slice a9 n9 c9]) ?_ ?_
   ·go_simp
   ·exact (sim_Eval a4 (netOf C).1.length c4 (netOf C).1 a9 n9 c9 (insOf C st ip) u (HM.out.net.kp (HK2.out.trans hk (fun _ _ h => h)) (fun _ _ h => h)) rfl (by have := HNf.out.1; omega) HG.out.net (HR9.out.kp hk (fun _ _ h => h)) HN9.out (by omega)).mono (by
     rintro e u' ⟨v, rfl, hO, hK⟩
     exact ⟨v, rfl, hK, hO.mono (by have := hk.size; have := HKy.out.size; have := HSz.out; omega)⟩)
  |7, ho =>
   obtain rfl := Option.some.inj ho
   refine lw_value (v := (.pointer (some ⟨p, 0, none⟩))) (u' := u) ?_ (Kp.refl _ _) rfl
   go_simp
  |8, ho =>
   obtain rfl := Option.some.inj ho
   have e24 : a.tmps[24]?.getD undef = (.pointer (some ⟨p, 0, none⟩)) := slot_at (hdep ⟨7, .data⟩ (by simp) rfl _ 24 rfl rfl)
   refine lw_value (v := .pointer (some ⟨p, 0, none⟩)) (u' := u) ?_ (Kp.refl _ _) rfl
   go_simp
  |9, ho =>
   obtain rfl := Option.some.inj ho
   have e25 : a.tmps[25]?.getD undef = .pointer (some ⟨p, 0, none⟩) := slot_at (hdep ⟨8, .data⟩ (by simp) rfl _ 25 rfl rfl)
   refine lw_value (v := .pointer (some ⟨p, 10, none⟩)) (u' := u) ?_ (Kp.refl _ _) rfl
   go_simp
  |10, ho =>
   obtain rfl := Option.some.inj ho
   have e26 : a.tmps[26]?.getD undef = .pointer (some ⟨p, 10, none⟩) := slot_at (hdep ⟨9, .data⟩ (by simp) rfl _ 26 rfl rfl)
   have c1 := (HB.out.kp hk (fun h => h)).cell (i := 10) (v := .slice a5 (netOf C).2.length c5) rfl
   refine lw_value (v := .slice a5 (netOf C).2.length c5) (u' := u) ?_ (Kp.refl _ _) rfl
   go_simp
  |11, ho =>
   obtain rfl := Option.some.inj ho
   have e27 : a.tmps[27]?.getD undef = .slice a5 (netOf C).2.length c5 := slot_at (hdep ⟨10, .data⟩ (by simp) rfl _ 27 rfl rfl)
   have hV : Own u (w.heap.size + 1) 4 (a.tmps.getD 23 undef) (bv (valsM C st ip)) := hdep ⟨6, .data⟩ (by simp) rfl _ 23 rfl rfl
   obtain ⟨va, vc, ev, -, -, hfar, hvr⟩ := hV.form
   rw [bv_length, show (valsM C st ip).length = (netOf C).1.length + 1 from valsOf_len _ _] at ev
   have e23 := slot_at ev
   refine lw_value (v := .agg #[.slice va ((netOf C).1.length + 1) vc, .slice a5 (netOf C).2.length c5]) (u' := u) ?_ (Kp.refl _ _) ⟨va, vc, rfl, hvr, fun q hq => by obtain ⟨g, rfl, hb, -⟩ := hfar q hq; exact hb⟩
   go_simp
  |12, ho =>
   obtain rfl := Option.some.inj ho
   have e17 : a.tmps[17]?.getD undef = (.pointer (some ⟨p, 0, none⟩)) := slot_at (hdep ⟨0, .data⟩ (by simp) rfl _ 17 rfl rfl)
   obtain ⟨va, vc, ev, hvr, hfar⟩ : ∃ va vc, (a.tmps.getD 28 undef) = .agg #[.slice va ((netOf C).1.length + 1) vc, .slice a5 (netOf C).2.length c5] ∧ RowAt u va (bv (valsM C st ip)) ∧ ∀ q, va = some q → w.heap.size < q.block := hdep ⟨11, .data⟩ (by simp) rfl _ 28 rfl rfl
   have e28 := slot_at ev
   refine lw_value (v := .agg #[.pointer (some ⟨p, 0, none⟩), .slice va ((netOf C).1.length + 1) vc, .slice a5 (netOf C).2.length c5]) (u' := u) ?_ (Kp.refl _ _) ⟨va, vc, rfl, hvr, hfar⟩
   go_simp
  |n + 13, _ => exact absurd hp (by simp [upTo])
 intro a u hI
 have hsz : a.tmps.size = 30 := hI.size
 have hdf : a.defers = [] := hI.defers
 have f0 : a.tmps.getD 0 undef = _ := hI.off 0 (noDst_spec (p := upTo 13) (by kernel_rfl))
 have f1 : a.tmps.getD 1 undef = _ := hI.off 1 (noDst_spec (p := upTo 13) (by kernel_rfl))
 have f2 : a.tmps.getD 2 undef = _ := hI.off 2 (noDst_spec (p := upTo 13) (by kernel_rfl))
 have f3 : a.tmps.getD 3 undef = _ := hI.off 3 (noDst_spec (p := upTo 13) (by kernel_rfl))
 have f4 : a.tmps.getD 4 undef = _ := hI.off 4 (noDst_spec (p := upTo 13) (by kernel_rfl))
 have f5 : a.tmps.getD 5 undef = _ := hI.off 5 (noDst_spec (p := upTo 13) (by kernel_rfl))
 have f6 : a.tmps.getD 6 undef = _ := hI.off 6 (noDst_spec (p := upTo 13) (by kernel_rfl))
 have f7 : a.tmps.getD 7 undef = _ := hI.off 7 (noDst_spec (p := upTo 13) (by kernel_rfl))
 have f8 : a.tmps.getD 8 undef = _ := hI.off 8 (noDst_spec (p := upTo 13) (by kernel_rfl))
 have f9 : a.tmps.getD 9 undef = _ := hI.off 9 (noDst_spec (p := upTo 13) (by kernel_rfl))
 have f10 : a.tmps.getD 10 undef = _ := hI.off 10 (noDst_spec (p := upTo 13) (by kernel_rfl))
 have f11 : a.tmps.getD 11 undef = _ := hI.off 11 (noDst_spec (p := upTo 13) (by kernel_rfl))
 have f12 : a.tmps.getD 12 undef = _ := hI.off 12 (noDst_spec (p := upTo 13) (by kernel_rfl))
 have f13 : a.tmps.getD 13 undef = _ := hI.off 13 (noDst_spec (p := upTo 13) (by kernel_rfl))
 have f14 : a.tmps.getD 14 undef = _ := hI.off 14 (noDst_spec (p := upTo 13) (by kernel_rfl))
 have f15 : a.tmps.getD 15 undef = _ := hI.off 15 (noDst_spec (p := upTo 13) (by kernel_rfl))
 have f16 : a.tmps.getD 16 undef = _ := hI.off 16 (noDst_spec (p := upTo 13) (by kernel_rfl))
 have f17 : a.tmps.getD 17 undef = (.pointer (some ⟨p, 0, none⟩)) := hI.val 0 _ 17 rfl rfl rfl
 have f18 : a.tmps.getD 18 undef = (.pointer (some ⟨p, 0, none⟩)) := hI.val 1 _ 18 rfl rfl rfl
 have f19 : a.tmps.getD 19 undef = .pointer (some ⟨p, 0, none⟩) := hI.val 2 _ 19 rfl rfl rfl
 have f20 : a.tmps.getD 20 undef = .pointer (some ⟨p, 9, none⟩) := hI.val 3 _ 20 rfl rfl rfl
 have f21 : a.tmps.getD 21 undef = .slice a4 (netOf C).1.length c4 := hI.val 4 _ 21 rfl rfl rfl
 have f22 : a.tmps.getD 22 undef = (.slice a9 n9 c9) := hI.val 5 _ 22 rfl rfl rfl
 have g23 : ((fun u v => Own u (w.heap.size + 1) 4 v (bv (valsM C st ip)))) u (a.tmps.getD 23 undef) := hI.val 6 _ 23 rfl rfl rfl
 have f24 : a.tmps.getD 24 undef = (.pointer (some ⟨p, 0, none⟩)) := hI.val 7 _ 24 rfl rfl rfl
 have f25 : a.tmps.getD 25 undef = .pointer (some ⟨p, 0, none⟩) := hI.val 8 _ 25 rfl rfl rfl
 have f26 : a.tmps.getD 26 undef = .pointer (some ⟨p, 10, none⟩) := hI.val 9 _ 26 rfl rfl rfl
 have f27 : a.tmps.getD 27 undef = .slice a5 (netOf C).2.length c5 := hI.val 10 _ 27 rfl rfl rfl
 have g28 : ((fun u v => ∃ va vc, v = .agg #[.slice va ((netOf C).1.length + 1) vc, .slice a5 (netOf C).2.length c5] ∧ RowAt u va (bv (valsM C st ip)) ∧ ∀ q, va = some q → w.heap.size < q.block)) u (a.tmps.getD 28 undef) := hI.val 11 _ 28 rfl rfl rfl
 have g29 : ((fun u v => ∃ va vc, v = .agg #[.pointer (some ⟨p, 0, none⟩), .slice va ((netOf C).1.length + 1) vc, .slice a5 (netOf C).2.length c5] ∧ RowAt u va (bv (valsM C st ip)) ∧ ∀ q, va = some q → w.heap.size < q.block)) u (a.tmps.getD 29 undef) := hI.val 12 _ 29 rfl rfl rfl
 have ha : a = ⟨#[a.tmps.getD 0 undef, a.tmps.getD 1 undef, a.tmps.getD 2 undef, a.tmps.getD 3 undef, a.tmps.getD 4 undef, a.tmps.getD 5 undef, a.tmps.getD 6 undef, a.tmps.getD 7 undef, a.tmps.getD 8 undef, a.tmps.getD 9 undef, a.tmps.getD 10 undef, a.tmps.getD 11 undef, a.tmps.getD 12 undef, a.tmps.getD 13 undef, a.tmps.getD 14 undef, a.tmps.getD 15 undef, a.tmps.getD 16 undef, a.tmps.getD 17 undef, a.tmps.getD 18 undef, a.tmps.getD 19 undef, a.tmps.getD 20 undef, a.tmps.getD 21 undef, a.tmps.getD 22 undef, a.tmps.getD 23 undef, a.tmps.getD 24 undef, a.tmps.getD 25 undef, a.tmps.getD 26 undef, a.tmps.getD 27 undef, a.tmps.getD 28 undef, a.tmps.getD 29 undef], a.defers⟩ := act_list a 30 hsz
 rw [hdf, f0, f1, f2, f3, f4, f5, f6, f7, f8, f9, f10, f11, f12, f13, f14, f15, f16, f17, f18, f19, f20, f21, f22, f24, f25, f26, f27] at ha
 obtain ⟨x23, hx23⟩ : ∃ x, a.tmps.getD 23 undef = x := ⟨_, rfl⟩
 obtain ⟨x28, hx28⟩ : ∃ x, a.tmps.getD 28 undef = x := ⟨_, rfl⟩
 obtain ⟨x29, hx29⟩ : ∃ x, a.tmps.getD 29 undef = x := ⟨_, rfl⟩
 rw [hx23, hx28, hx29] at ha
 rw [hx23] at g23
 rw [hx28] at g28
 rw [hx29] at g29
 have hku := hI.kp
 clear hI hsz hdf f0 f1 f2 f3 f4 f5 f6 f7 f8 f9 f10 f11 f12 f13 f14 f15 f16 f17 f18 f19 f20 f21 f22 f24 f25 f26 f27 hx23 hx28 hx29
 subst ha
 refine wpAny_tail 13 rfl (by kernel_rfl) ?_
 simp only [List.drop_succ_cons, List.drop_zero]
 obtain ⟨va, vc, rfl, hvr, hfar⟩ := g29
 have HFar := Lib.hid hfar
 clear hfar
 have HMu := HMb2.out.kp hku (fun h => h)
 obtain ⟨t0, t1, t2⟩ : u.cell? ⟨w.heap.size, 0, none⟩ = some (.pointer none) ∧ u.cell? ⟨w.heap.size, 1, none⟩ = some (.slice none 0 0) ∧ u.cell? ⟨w.heap.size, 2, none⟩ = some (.slice none 0 0) := ⟨HMu.cell rfl, HMu.cell rfl, HMu.cell rfl⟩
 have z0 := HMu.free 0
 have z1 := HMu.free 1
 have z2 := HMu.free 2
 have HV := Lib.hid hvr
 have HKu := Lib.hid (HK2.out.trans hku (fun _ _ h => h))
 have HMw := Lib.hid HMu
 clear hvr hku HMu g23 g28
 go_wp2_with fail
 have h3 := ((HMw.out.set_same 0 (.pointer (some ⟨p, 0, none⟩))).set_same 1 (.slice va ((netOf C).1.length + 1) vc)).set_same 2 (.slice a5 (netOf C).2.length c5)
 have s0 := h3.cell (i := 0) (v := .pointer (some ⟨p, 0, none⟩)) rfl
 have s1 := h3.cell (i := 1) (v := .slice va ((netOf C).1.length + 1) vc) rfl
 have s2 := h3.cell (i := 2) (v := .slice a5 (netOf C).2.length c5) rfl
 have hkS := (((Kp.refl (fun j => j = w.heap.size) u).setCell (p := ⟨w.heap.size, 0, none⟩) (fun _ => rfl) (.pointer (some ⟨p, 0, none⟩))).setCell (p := ⟨w.heap.size, 1, none⟩) (fun _ => rfl) (.slice va ((netOf C).1.length + 1) vc)).setCell (p := ⟨w.heap.size, 2, none⟩) (fun _ => rfl) (.slice a5 (netOf C).2.length c5)
 have HE := HV.out.kp hkS (fun q hq e => by have := HFar.out q hq; have e2 : q.block = w.heap.size := e; omega)
 have HKe := HKu.out.trans hkS (fun j hj e => by have e2 : j = w.heap.size := e; omega)
 exact bodyPost_ret (v := .agg #[.pointer (some ⟨p, 0, none⟩), .slice va ((netOf C).1.length + 1) vc, .slice a5 (netOf C).2.length c5]) (by simp [results, Tryz.results70, go_sem, s0, s1, s2]) rfl ⟨⟨va, vc, rfl, HE⟩, HKe⟩
end Go.Proofs.YtghlklcolepfmaaGreatDoor

/-
  step: moment.next, Machine.Next.
-/
namespace Go.Proofs.YtghlklcolepfmaaGreatDoor
open Go.RowKit

set_option maxRecDepth 100000 in
set_option maxHeartbeats 2000000 in
theorem step_next (V : CV) (C : Circ) (p : Nat) (a4 a5 : Option Addr) (c4 c5 : Nat) (va : Option Addr) (vc : Nat) (st ip : List Bool) (w : World) (hM : MAt w 112 V C p a4 c4 a5 c5) (hf : CFew C 1000000) (hg : GoodC C) (hv : RowAt w va (bv (valsM C st ip))) :
  Calls Tryz.prog 71 #[.agg #[.pointer (some ⟨p, 0, none⟩), .slice va ((netOf C).1.length + 1) vc, .slice a5 (netOf C).2.length c5]] w fun e w' => ∃ v, e = .returned v ∧ Own w' w.heap.size 4 v (bv (nextM C st ip)) ∧ Kp (fun _ => False) w w' := by
 obtain ⟨nl, hnl⟩ : ∃ n, C.lats.length = n := ⟨_, rfl⟩
 have hnl1 : nl ≤ 1000000 := by have := hf.l; omega
 obtain ⟨i0, hi0, hz0, hz1, hz2⟩ := info_parts (show (Tryz.prog.info? 4).map (fun i => (i.zero, i.size, i.bytes)) = some (some (.bool false), 1, 1) by kernel_rfl)
 have hmk : ∀ u : World, (Instr.makeSlice 28 (.int .i64 (nl : Int)) (.int .i64 (nl : Int))).run Tryz.prog u =
   .ok (.slice (some ⟨u.heap.size, 0, none⟩) nl nl) (u.alloc (.cells (madeCells #[.bool false] nl) 4)) := fun u => by
  have h := run_make (P := Tryz.prog) u 28 4 i0 (.bool false) Tryz.underlying28 hi0 hz0 .i64 .i64 (nl : Int) (nl : Int) (by omega) (Int.le_refl _) (by rw [hz2]; omega) (by omega)
  simpa [hz1, Value.cells] using h
 clear hi0 hz0 hz1 hz2 i0
 have HNl := Lib.hid hnl
 have HL := Lib.hid (step_lit (c5 := c5) (vc := vc) hf hg hM.ats hv)
 have HM := Lib.hid hM
 have HNx := Lib.hid (show (nextM C st ip).length = nl by rw [nextM_len]; exact hnl)
 have HVx := Lib.hid (show ∀ k, k < nl → vb (nextM C st ip) k = litM C st ip (g3 C.lats k).2.1 from fun k hk => by
  unfold vb nextM
  rw [List.getElem?_map, g3_at (by omega)]; rfl)
 obtain ⟨n4, hn4⟩ : ∃ n, (netOf C).1.length + 1 = n := ⟨_, rfl⟩
 obtain ⟨n5, hn5⟩ : ∃ n, (netOf C).2.length = n := ⟨_, rfl⟩
 rw [hn4, hn5] at HL ⊢
 obtain ⟨wa, hwa⟩ : ∃ wa : World, wa = w.alloc (.cells #[.pointer (some ⟨p, 0, none⟩), .slice va n4 vc, .slice a5 n5 c5] 116) := ⟨_, rfl⟩
 obtain ⟨wz, hwz⟩ : ∃ wz : World, wz = wa.alloc (.cells (madeCells #[.bool false] nl) 4) := ⟨_, rfl⟩
 have hwas : wa.heap.size = w.heap.size + 1 := by rw [hwa]; simp
 have hKa : Kp (fun _ => False) w wa := by rw [hwa]; exact (Kp.refl _ w).alloc _
 have hBa : Blk wa w.heap.size #[.pointer (some ⟨p, 0, none⟩), .slice va n4 vc, .slice a5 n5 c5] 116 := by rw [hwa]; exact Blk.new _ _ _
 have HLa := Lib.hid (step_Latches V C p a4 a5 c4 c5 wa (hM.kp hKa) hf)
 rw [hnl] at HLa
 have HK0 := Lib.hid (show Kp (fun _ => False) w wz by rw [hwz]; exact hKa.alloc _)
 have HB0 := Lib.hid (show Blk wz w.heap.size #[.pointer (some ⟨p, 0, none⟩), .slice va n4 vc, .slice a5 n5 c5] 116 by rw [hwz]; exact hBa.alloc _)
 have HO0 : Hid (Own wz (w.heap.size + 1) 4 (.slice (some ⟨wa.heap.size, 0, none⟩) nl nl) (bv (laid (nextM C st ip) nl 0))) := Lib.hid (by rw [hwz, laid_zero]; exact made_bools0 (by unfold maxLen; omega) (by omega))
 have HWs := Lib.hid hwas
 have HZa := Lib.hid hwa
 have HZ := Lib.hid hwz
 have m0 := hBa.cell (i := 0) (v := .pointer (some ⟨p, 0, none⟩)) rfl
 have m1 := HB0.out.cell (i := 0) (v := .pointer (some ⟨p, 0, none⟩)) rfl
 have m2 : wz.cell? ⟨p, 2, none⟩ = some (.slice V.al nl V.cl) := (HM.out.blk.kp HK0.out (fun h => h)).cell (i := 2) (by rw [← hnl]; rfl)
 clear hM hf hg hv hnl hn4 hn5 hwa hwz hwas hKa hBa
 go_enter Tryz.func71, Tryz.ntmps71
 go_upto_region 1 with fail
 rw [← HZa.out]
 go_upto_region 2 with (go_at_call 41; with_reducible refine Calls.mono HLa.out ?_; rintro e w1 ⟨rfl, rfl⟩)
 rw [← HZ.out]
 generalize hgr : wa.heap.size = gr at HO0 HWs ⊢
 clear HZ HZa hmk HLa m0 hgr
 go_wp2_with fail
 clear m1 m2
 go_loopw [17] (fun v17 wr => ∃ k : Nat, v17 = .int .i64 k ∧ k ≤ nl ∧ Own wr (w.heap.size + 1) 4 (.slice (some ⟨gr, 0, none⟩) nl nl) (bv (laid (nextM C st ip) nl k)) ∧ Blk wr w.heap.size #[.pointer (some ⟨p, 0, none⟩), .slice va n4 vc, .slice a5 n5 c5] 116 ∧ Kp (fun _ => False) w wr) (fun v17 _ => nl - (intOf v17).toNat)
 case atStart => exact ⟨0, rfl, by omega, HO0.out, HB0.out, HK0.out⟩
 case round =>
  obtain ⟨k, rfl, hk, hO, hB, hK⟩ := hrel
  clear HO0 HB0 HK0
  obtain ⟨wp, rfl⟩ : ∃ wp : World, wp = wr := ⟨_, rfl⟩
  have HO := Lib.hid hO
  have HB := Lib.hid hB
  have HK := Lib.hid hK
  clear hO hB hK
  by_cases hlt : k < nl
  ·have hkl : k < C.lats.length := by rw [HNl.out]; exact hlt
   obtain ⟨b, off, ea, hE⟩ := HM.out.circ.latCell hkl
   obtain ⟨e0, e1, e2⟩ := hE _ HK.out
   obtain ⟨x0, hx0⟩ : ∃ x, (g3 C.lats k).1 = x := ⟨_, rfl⟩
   obtain ⟨x1, hx1⟩ : ∃ x, (g3 C.lats k).2.1 = x := ⟨_, rfl⟩
   obtain ⟨x2, hx2⟩ : ∃ x, (g3 C.lats k).2.2 = x := ⟨_, rfl⟩
   have hvx := HVx.out k hlt
   obtain ⟨wv, hwv⟩ : ∃ wv : World, wv = wp.alloc (.cells #[.int .i64 x0, .int .i64 x1, .int .i64 x2] 50) := ⟨_, rfl⟩
   have hKv : Kp (fun _ => False) wp wv := by rw [hwv]; exact (Kp.refl _ wp).alloc _
   have hc := HL.out wv (HK.out.trans hKv (fun _ _ h => h)) _ (lat_used hkl)
   rw [hx1] at hc hvx e1
   rw [hx0] at e0
   rw [hx2] at e2
   obtain ⟨y, hy⟩ : ∃ y, litM C st ip x1 = y := ⟨_, rfl⟩
   rw [hy] at hc hvx
   have HC := Lib.hid hc
   have HVk := Lib.hid hvx
   have i0 : (0 : Int) ≤ (k : Int) := by omega
   have i2 : (k : Int) < (nl : Int) := by omega
   have nb : wv.cell? ⟨wp.heap.size, 1, none⟩ = some (.int .i64 x1) := by rw [hwv]; exact (Blk.new wp _ _).cell rfl
   have b1 := (HB.out.kp hKv (fun h => h)).cell (i := 1) (v := .slice va n4 vc) rfl
   have b2 := (HB.out.kp hKv (fun h => h)).cell (i := 2) (v := .slice a5 n5 c5) rfl
   have HKv := Lib.hid hKv
   have HZv := Lib.hid hwv
   rw [ea]
   clear hx0 hx1 hx2 hy hc hvx hE ea hkl hwv hKv
   go_upto_region 5 with fail
   rw [← HZv.out]
   clear HZv e0 e1 e2
   go_wp2_with (go_at_call 90; with_reducible refine Calls.mono HC.out ?_; rintro e w1 ⟨rfl, hK1⟩; have HK1 := Lib.hid (HKv.out.trans hK1 (fun _ _ h => h)); have ck := (HO.out.kp HK1.out (fun _ _ h => h)).cell (j := k) (bv_at (by rw [laid_len HNx.out hk]; exact hlt)); have fk := (HO.out.kp HK1.out (fun _ _ h => h)).free k; clear hK1)
   have h1 := (HO.out.kp HK1.out (fun _ _ h => h)).set k (.bool y)
   have h2 := laid_step HNx.out hlt
   rw [HVk.out] at h2
   rw [bv_set, h2] at h1
   have h3 := (HB.out.kp HK1.out (fun h => h)).kp (Kp.set w1 ⟨gr, k, none⟩ (.bool y)) (fun e => by have e2 : w.heap.size = gr := e; have := HWs.out; omega)
   have h4 := (HK.out.trans HK1.out (fun _ _ h => h)).setCell (p := ⟨gr, k, none⟩) (fun hl => by have h5 : gr < w.heap.size := hl; have := HWs.out; omega) (.bool y)
   exact ⟨⟨k + 1, by go_num, by omega, h1, h3, h4⟩, by simp [intOf]; omega⟩
  ·obtain rfl : k = nl := by omega
   have HE := Lib.hid (show Own wp w.heap.size 4 (.slice (some ⟨gr, 0, none⟩) k k) (bv (nextM C st ip)) from by have := HO.out; rw [laid_full HNx.out] at this; exact this.mono (by omega))
   go_wp2_with fail
   go_ret
   exact ⟨_, rfl, HE.out, HK.out⟩

set_option maxRecDepth 100000 in
theorem step_Next (V : CV) (C : Circ) (p : Nat) (a4 a5 : Option Addr) (c4 c5 : Nat) (sa : Option Addr) (sn sc : Nat) (ia : Option Addr) (in_ ic : Nat) (st ip : List Bool) (w : World) (hM : MAt w 112 V C p a4 c4 a5 c5) (hf : CFew C 1000000) (hg : GoodC C) (hs : BS w sa sn st) (hi : BS w ia in_ ip) :
  Calls Tryz.prog 43 #[.pointer (some ⟨p, 0, none⟩), .slice sa sn sc, .slice ia in_ ic] w fun e w' => ∃ v, e = .returned v ∧ Own w' w.heap.size 4 v (bv (nextM C st ip)) ∧ Kp (fun _ => False) w w' := by
 have H1 := Lib.hid (step_in V C p a4 a5 c4 c5 sa sn sc ia in_ ic st ip w hM hf hg hs hi)
 have H2 := Lib.hid (fun w1 va vc (hk : Kp (fun _ => False) w w1) hv => step_next V C p a4 a5 c4 c5 va vc st ip w1 (hM.kp hk) hf hg hv)
 clear hM hf hg hs hi
 go_enter Tryz.func43, Tryz.ntmps43
 go_wp2_with (first
  |(go_at_call 70; with_reducible refine Calls.mono H1.out ?_; rintro e w1 ⟨⟨va, vc, rfl, hv1⟩, hK1⟩)
  |(go_at_call 71; with_reducible refine Calls.mono (H2.out _ _ _ hK1 hv1) ?_; rintro e w2 ⟨v2, rfl, hO2, hK2⟩))
 have HE := Lib.hid (And.intro (hO2.mono hK1.size) (hK1.trans hK2 (fun _ _ h => h)))
 clear hO2 hK2 hK1 hv1
 try go_wp2_with fail
 go_ret
 exact ⟨_, rfl, HE.out⟩

end Go.Proofs.YtghlklcolepfmaaGreatDoor

/-
  step.Starts.
-/
namespace Go.Proofs.YtghlklcolepfmaaGreatDoor
open Go.RowKit

end Go.Proofs.YtghlklcolepfmaaGreatDoor

/-
  step.States.
-/
namespace Go.Proofs.YtghlklcolepfmaaGreatDoor
open Go.RowKit

set_option maxRecDepth 100000 in
set_option maxHeartbeats 4000000 in
theorem step_States (V : CV) (C : Circ) (p : Nat) (a4 a5 : Option Addr) (c4 c5 : Nat) (sa : Option Addr) (sn sc : Nat) (ga : Option Addr) (gn_ gc : Nat) (st : List Bool) (rows : List (List Bool)) (w : World) (hM : MAt w 112 V C p a4 c4 a5 c5) (hf : CFew C 1000000) (hg : GoodC C) (hs : BS w sa sn st) (hi : GS w ga gn_ gc rows) :
  Calls Tryz.prog 20 #[.pointer (some ⟨p, 0, none⟩), .agg #[.slice sa sn sc, .slice ga gn_ gc]] w fun e w' => ∃ v, e = .returned v ∧ (∃ v6, SL C st rows w.heap.size gn_ v v6 w') ∧ Kp (fun _ => False) w w' := by
 have HIs := Lib.hid (show (Tryz.prog.info? 28).map (fun i => (i.zero, i.size, i.bytes)) = some (some (.slice none 0 0), 1, 24) by kernel_rfl)
 obtain ⟨nl, hnl⟩ : ∃ n, C.lats.length = n := ⟨_, rfl⟩
 have hnl1 : nl ≤ 1000000 := by have := hf.l; omega
 have HNl := Lib.hid hnl
 have HB := Lib.hid (show ∀ u, Kp (fun _ => False) w u → u.cell? ⟨p, 2, none⟩ = some (.slice V.al nl V.cl) from fun u hu => (hM.blk.kp hu (fun h => h)).cell (i := 2) (by rw [← hnl]; rfl))
 obtain ⟨wz, hwz⟩ : ∃ wz : World, wz = w.alloc (.cells #[.slice sa sn sc, .slice ga gn_ gc] 31) := ⟨_, rfl⟩
 have HK0 := Lib.hid (show Kp (fun _ => False) w wz by rw [hwz]; exact (Kp.refl _ w).alloc _)
 have HRb := Lib.hid (show Blk wz w.heap.size #[.slice sa sn sc, .slice ga gn_ gc] 31 by rw [hwz]; exact Blk.new _ _ _)
 have HZ := Lib.hid hwz
 have HM := Lib.hid hM
 have HF := Lib.hid hf
 have HG := Lib.hid hg
 have HS := Lib.hid hs
 have HGs := Lib.hid hi
 have HLt := Lib.hid (show wz.heap.size = w.heap.size + 1 by rw [hwz]; simp)
 have hgn := hi.most
 clear hM hf hg hs hi hnl hwz
 go_enter Tryz.func20, Tryz.ntmps20
 go_upto_region 1 with fail
 rw [← HZ.out]
 clear HZ
 go_upto_region 4 with fail
 refine wp_region_loose (p := upTo 5) (V := atV [EqV (.pointer (some ⟨w.heap.size, 0, none⟩)), EqV (.slice sa sn sc), EqV ((.pointer (some ⟨p, 0, none⟩))), EqV (.int .i64 (nl : Int)), (fun u v => Own u wz.heap.size 4 v (bv (stateM C st rows 0)))]) (LP := #[true, true, true, true, true, false]) (K := 1) (by kernel_rfl) (by kernel_rfl) (atV_st ?hstL1) ?hstepL1 (by kernel_rfl) ?hLPL1 (by kernel_rfl) ?hendL1
 case hstL1 =>
  intro W h
  simp only [List.mem_cons, List.not_mem_nil, or_false] at h
  rcases h with rfl | rfl | rfl | rfl | rfl <;> first | exact EqV.st _ | exact fun _ _ _ k h => Own.kp h k (fun _ _ h => h)
 case hLPL1 => exact upTo_spec (by kernel_rfl)
 case hstepL1 =>
  intro i o ho hp a u hk hoff hdep
  have e0 : a.tmps[0]?.getD undef = (.pointer (some ⟨p, 0, none⟩)) := slot_at (hoff 0 (noDst_spec (by kernel_rfl)))
  have e3 : a.tmps[3]?.getD undef = (.pointer (some ⟨w.heap.size, 0, none⟩)) := slot_at (hoff 3 (noDst_spec (by kernel_rfl)))
  clear hoff
  match i, ho with
  |0, ho =>
   obtain rfl := Option.some.inj ho
   refine lw_value (v := .pointer (some ⟨w.heap.size, 0, none⟩)) (u' := u) ?_ (Kp.refl _ _) rfl
   go_simp
  |1, ho =>
   obtain rfl := Option.some.inj ho
   have e11 : a.tmps[11]?.getD undef = .pointer (some ⟨w.heap.size, 0, none⟩) := slot_at (hdep ⟨0, .data⟩ (by simp) rfl _ 11 rfl rfl)
   have c1 := (HRb.out.kp hk (fun h => h)).cell (i := 0) (v := .slice sa sn sc) rfl
   refine lw_value (v := .slice sa sn sc) (u' := u) ?_ (Kp.refl _ _) rfl
   go_simp
  |2, ho =>
   obtain rfl := Option.some.inj ho
   refine lw_value (v := (.pointer (some ⟨p, 0, none⟩))) (u' := u) ?_ (Kp.refl _ _) rfl
   go_simp
  |3, ho =>
   obtain rfl := Option.some.inj ho
   have e13 : a.tmps[13]?.getD undef = (.pointer (some ⟨p, 0, none⟩)) := slot_at (hdep ⟨2, .data⟩ (by simp) rfl _ 13 rfl rfl)
   refine lw_call (f := 41) (args := #[.pointer (some ⟨p, 0, none⟩)]) ?_ ?_
   ·go_simp
   ·exact (step_Latches V C p a4 a5 c4 c5 u (HM.out.kp (HK0.out.trans hk (fun _ _ h => h))) HF.out).mono (by
     rintro e u' ⟨rfl, rfl⟩
     rw [HNl.out]
     exact ⟨_, rfl, Kp.refl _ _, rfl⟩)
  |4, ho =>
   obtain rfl := Option.some.inj ho
   have e12 : a.tmps[12]?.getD undef = .slice sa sn sc := slot_at (hdep ⟨1, .data⟩ (by simp) rfl _ 12 rfl rfl)
   have e14 : a.tmps[14]?.getD undef = .int .i64 (nl : Int) := slot_at (hdep ⟨3, .data⟩ (by simp) rfl _ 14 rfl rfl)
   refine lw_call (f := 51) (args := #[.slice sa sn sc, .int .i64 (nl : Int)]) ?_ ?_
   ·go_simp
   ·exact (step_brought sa sn sc st nl u ((HS.out.kp (HK0.out.trans hk (fun _ _ h => h))).row) HS.out.len HS.out.most (by omega)).mono (by
     rintro e u' ⟨v, rfl, hO, hK⟩
     rw [← HNl.out] at hO
     exact ⟨v, rfl, hK, hO.mono hk.size⟩)
  |n + 5, _ => exact absurd hp (by simp [upTo])
 intro a u hI
 have hsz : a.tmps.size = 33 := hI.size
 have hdf : a.defers = [] := hI.defers
 have f0 : a.tmps.getD 0 undef = _ := hI.off 0 (noDst_spec (p := upTo 5) (by kernel_rfl))
 have f1 : a.tmps.getD 1 undef = _ := hI.off 1 (noDst_spec (p := upTo 5) (by kernel_rfl))
 have f2 : a.tmps.getD 2 undef = _ := hI.off 2 (noDst_spec (p := upTo 5) (by kernel_rfl))
 have f3 : a.tmps.getD 3 undef = _ := hI.off 3 (noDst_spec (p := upTo 5) (by kernel_rfl))
 have f4 : a.tmps.getD 4 undef = _ := hI.off 4 (noDst_spec (p := upTo 5) (by kernel_rfl))
 have f5 : a.tmps.getD 5 undef = _ := hI.off 5 (noDst_spec (p := upTo 5) (by kernel_rfl))
 have f6 : a.tmps.getD 6 undef = _ := hI.off 6 (noDst_spec (p := upTo 5) (by kernel_rfl))
 have f7 : a.tmps.getD 7 undef = _ := hI.off 7 (noDst_spec (p := upTo 5) (by kernel_rfl))
 have f8 : a.tmps.getD 8 undef = _ := hI.off 8 (noDst_spec (p := upTo 5) (by kernel_rfl))
 have f9 : a.tmps.getD 9 undef = _ := hI.off 9 (noDst_spec (p := upTo 5) (by kernel_rfl))
 have f10 : a.tmps.getD 10 undef = _ := hI.off 10 (noDst_spec (p := upTo 5) (by kernel_rfl))
 have f16 : a.tmps.getD 16 undef = _ := hI.off 16 (noDst_spec (p := upTo 5) (by kernel_rfl))
 have f17 : a.tmps.getD 17 undef = _ := hI.off 17 (noDst_spec (p := upTo 5) (by kernel_rfl))
 have f18 : a.tmps.getD 18 undef = _ := hI.off 18 (noDst_spec (p := upTo 5) (by kernel_rfl))
 have f19 : a.tmps.getD 19 undef = _ := hI.off 19 (noDst_spec (p := upTo 5) (by kernel_rfl))
 have f20 : a.tmps.getD 20 undef = _ := hI.off 20 (noDst_spec (p := upTo 5) (by kernel_rfl))
 have f21 : a.tmps.getD 21 undef = _ := hI.off 21 (noDst_spec (p := upTo 5) (by kernel_rfl))
 have f22 : a.tmps.getD 22 undef = _ := hI.off 22 (noDst_spec (p := upTo 5) (by kernel_rfl))
 have f23 : a.tmps.getD 23 undef = _ := hI.off 23 (noDst_spec (p := upTo 5) (by kernel_rfl))
 have f24 : a.tmps.getD 24 undef = _ := hI.off 24 (noDst_spec (p := upTo 5) (by kernel_rfl))
 have f25 : a.tmps.getD 25 undef = _ := hI.off 25 (noDst_spec (p := upTo 5) (by kernel_rfl))
 have f26 : a.tmps.getD 26 undef = _ := hI.off 26 (noDst_spec (p := upTo 5) (by kernel_rfl))
 have f27 : a.tmps.getD 27 undef = _ := hI.off 27 (noDst_spec (p := upTo 5) (by kernel_rfl))
 have f28 : a.tmps.getD 28 undef = _ := hI.off 28 (noDst_spec (p := upTo 5) (by kernel_rfl))
 have f29 : a.tmps.getD 29 undef = _ := hI.off 29 (noDst_spec (p := upTo 5) (by kernel_rfl))
 have f30 : a.tmps.getD 30 undef = _ := hI.off 30 (noDst_spec (p := upTo 5) (by kernel_rfl))
 have f31 : a.tmps.getD 31 undef = _ := hI.off 31 (noDst_spec (p := upTo 5) (by kernel_rfl))
 have f32 : a.tmps.getD 32 undef = _ := hI.off 32 (noDst_spec (p := upTo 5) (by kernel_rfl))
 have f11 : a.tmps.getD 11 undef = .pointer (some ⟨w.heap.size, 0, none⟩) := hI.val 0 _ 11 rfl rfl rfl
 have f12 : a.tmps.getD 12 undef = .slice sa sn sc := hI.val 1 _ 12 rfl rfl rfl
 have f13 : a.tmps.getD 13 undef = (.pointer (some ⟨p, 0, none⟩)) := hI.val 2 _ 13 rfl rfl rfl
 have f14 : a.tmps.getD 14 undef = .int .i64 (nl : Int) := hI.val 3 _ 14 rfl rfl rfl
 have g15 : ((fun u v => Own u wz.heap.size 4 v (bv (stateM C st rows 0)))) u (a.tmps.getD 15 undef) := hI.val 4 _ 15 rfl rfl rfl
 have ha : a = ⟨#[a.tmps.getD 0 undef, a.tmps.getD 1 undef, a.tmps.getD 2 undef, a.tmps.getD 3 undef, a.tmps.getD 4 undef, a.tmps.getD 5 undef, a.tmps.getD 6 undef, a.tmps.getD 7 undef, a.tmps.getD 8 undef, a.tmps.getD 9 undef, a.tmps.getD 10 undef, a.tmps.getD 11 undef, a.tmps.getD 12 undef, a.tmps.getD 13 undef, a.tmps.getD 14 undef, a.tmps.getD 15 undef, a.tmps.getD 16 undef, a.tmps.getD 17 undef, a.tmps.getD 18 undef, a.tmps.getD 19 undef, a.tmps.getD 20 undef, a.tmps.getD 21 undef, a.tmps.getD 22 undef, a.tmps.getD 23 undef, a.tmps.getD 24 undef, a.tmps.getD 25 undef, a.tmps.getD 26 undef, a.tmps.getD 27 undef, a.tmps.getD 28 undef, a.tmps.getD 29 undef, a.tmps.getD 30 undef, a.tmps.getD 31 undef, a.tmps.getD 32 undef], a.defers⟩ := act_list a 33 hsz
 rw [hdf, f0, f1, f2, f3, f4, f5, f6, f7, f8, f9, f10, f11, f12, f13, f14, f16, f17, f18, f19, f20, f21, f22, f23, f24, f25, f26, f27, f28, f29, f30, f31, f32] at ha
 obtain ⟨x15, hx15⟩ : ∃ x, a.tmps.getD 15 undef = x := ⟨_, rfl⟩
 rw [hx15] at ha
 rw [hx15] at g15
 have hku := hI.kp
 clear hI hsz hdf f0 f1 f2 f3 f4 f5 f6 f7 f8 f9 f10 f11 f12 f13 f14 f16 f17 f18 f19 f20 f21 f22 f23 f24 f25 f26 f27 f28 f29 f30 f31 f32 hx15
 subst ha
 refine wpAny_tail 5 rfl (by kernel_rfl) ?_
 simp only [List.drop_succ_cons, List.drop_zero]
 simp only [Array.getD_eq_getD_getElem?, List.getElem?_toArray, List.getElem?_cons_zero, List.getElem?_cons_succ, Option.getD_some]
 have HKu := Lib.hid (HK0.out.trans hku (fun _ _ h => h))
 have HRu := Lib.hid (HRb.out.kp hku (fun h => h))
 have HSL := Lib.hid (show SL C st rows wz.heap.size 0 (.slice none 0 0) x15 u from ⟨⟨[], Own.nil _ _ _, rfl, fun j hj => by omega⟩, g15⟩)
 have r1 : u.cell? ⟨w.heap.size, 1, none⟩ = some (.slice ga gn_ gc) := HRu.out.cell rfl
 clear g15 hku HRb
 go_wp2_with fail
 go_loopw [5, 6, 19] (fun v5 v6 v7 wr => ∃ k : Nat, v7 = .int .i64 k ∧ k ≤ gn_ ∧ SL C st rows wz.heap.size k v5 v6 wr ∧ Kp (fun _ => False) w wr ∧ Blk wr w.heap.size #[.slice sa sn sc, .slice ga gn_ gc] 31) (fun _ _ v7 _ => gn_ - (intOf v7).toNat)
 case atStart => exact ⟨0, rfl, by omega, HSL.out, HKu.out, HRu.out⟩
 case round =>
  obtain ⟨k, rfl, hk, hL, hK, hR⟩ := hrel
  clear HSL HKu HRu
  obtain ⟨wp, rfl⟩ : ∃ wp : World, wp = wr := ⟨_, rfl⟩
  have HL := Lib.hid hL
  have HK := Lib.hid hK
  have HR := Lib.hid hR
  have r1 : wp.cell? ⟨w.heap.size, 1, none⟩ = some (.slice ga gn_ gc) := hR.cell rfl
  clear hL hK hR
  by_cases hlt : k < gn_
  ·obtain ⟨⟨vs, h1, h2, h3⟩, h4⟩ := HL.out
   obtain ⟨a6, c6, e6, l6, m6, -, r6⟩ := h4.form
   rw [bv_length, stateM_len, HNl.out] at e6
   subst e6
   obtain ⟨gvs, hgr, hgl, hgk⟩ := HGs.out.row
   obtain ⟨b, m, d, eg, hbs⟩ := hgk k hlt
   obtain ⟨bg, og, ega, eg2⟩ := hgr k _ eg
   subst ega
   have i0 : (0 : Int) ≤ (k : Int) := by omega
   have i2 : (k : Int) < (gn_ : Int) := by omega
   have H1 := Lib.hid h1
   have H2 := Lib.hid h2
   have H3 := Lib.hid h3
   have H4 := Lib.hid h4
   have HEg := Lib.hid (fun u (hu : Kp (fun _ => False) w u) => hu.cellK eg2)
   have HBs := Lib.hid hbs
   have eg0 := HEg.out _ HK.out
   have HNew := Lib.hid (Blk.new wp #[.slice a6 nl c6] 28)
   have HOw := Lib.hid (h1.alloc (.cells #[.slice a6 nl c6] 28))
   have hwzp : wz.heap.size ≤ wp.heap.size := by have := HR.out.lt; have := HLt.out; omega
   have HWz := Lib.hid hwzp
   clear h1 h2 h3 h4 hgr hgl hgk eg eg2 hbs hwzp r6
   go_wp2_with (at_builtin; refine wpList_append1_at rfl _ _ 29 28 rfl Tryz.underlying29 HIs.out rfl HOw.out rfl ⟨wp.heap.size, 0, none⟩ (.slice a6 nl c6) rfl (HNew.out.cell rfl) rfl ?d1 ?d2 ?d3 ?_)
   case d1 => rw [H2.out]; omega
   case d2 => rw [H2.out]; unfold maxLen; omega
   case d3 => have := HWz.out; simp; omega
   intro v' w2 hO3 hg2 hat2
   have hkg : Kp (fun j => u5.ownBlock = some j) (wp.alloc (.cells #[.slice a6 nl c6] 28)) w2 := (Kp.refl _ _).grown hg2 (fun j hj _ => hj)
   have hap : ∀ x cs, Own (wp.alloc (.cells #[.slice a6 nl c6] 28)) wz.heap.size 4 x cs → Own w2 wz.heap.size 4 x cs := fun x cs hx => hx.kp hkg (fun j hj h5 => by
    obtain ⟨c, hc⟩ := hx.rows.blkN hj
    obtain ⟨c', hc'⟩ := HOw.out.rows.blkN h5
    exact absurd (blkN_type hc hc') (by decide))
   have hK2 : Kp (fun _ => False) w w2 := (HK.out.alloc _).grown hg2 (fun j hj hl => by have := (H1.out.lt j hj).1; have := HLt.out; omega)
   have hR2 : Blk w2 w.heap.size #[.slice sa sn sc, .slice (some ⟨bg, og, none⟩) gn_ gc] 31 := (HR.out.alloc _).kp hkg (fun e => by have := (H1.out.lt _ e).1; have := HLt.out; omega)
   have h42 := hap _ _ (H4.out.alloc _)
   obtain ⟨a6', c6', e6', -, -, -, r62⟩ := h42.form
   simp only [Value.slice.injEq] at e6'
   obtain ⟨rfl, -, rfl⟩ := e6'
   have HNx := Lib.hid (step_Next V C p a4 a5 c4 c5 a6 nl c6 b m d (stateM C st rows k) (rows[k]?.getD []) w2 (HM.out.kp hK2) HF.out HG.out ⟨r62, by rw [stateM_len]; exact HNl.out, by omega⟩ (HBs.out.kp hK2))
   have HS2 := Lib.hid (show Own w2 wz.heap.size 28 v' (vs ++ [.slice a6 nl c6]) ∧ (∀ j, j < k → ∃ x, vs[j]? = some x ∧ Own w2 wz.heap.size 4 x (bv (stateM C st rows j))) ∧ Own w2 wz.heap.size 4 (.slice a6 nl c6) (bv (stateM C st rows k)) from
    ⟨hO3, fun j hj => by obtain ⟨x, e, hx⟩ := H3.out j hj; exact ⟨x, e, hap _ _ (hx.alloc _)⟩, h42⟩)
   have HK2 := Lib.hid hK2
   have HR2 := Lib.hid hR2
   have r1 := hR2.cell (i := 1) (v := .slice (some ⟨bg, og, none⟩) gn_ gc) rfl
   have eg := HEg.out _ hK2
   have HWz2 := Lib.hid (show wz.heap.size ≤ w2.heap.size by have := hkg.size; have := HWz.out; simp at *; omega)
   clear hO3 hg2 hat2 hkg hap hK2 hR2 h42 r62 HNew HOw
   go_wp2_with (go_at_call 43; with_reducible refine Calls.mono HNx.out ?_; rintro e w3 ⟨v3, rfl, hO3, hK3⟩)
   have HS3 := Lib.hid (show SL C st rows wz.heap.size (k + 1) v' v3 w3 ∧ Kp (fun _ => False) w w3 ∧ Blk w3 w.heap.size #[.slice sa sn sc, .slice (some ⟨bg, og, none⟩) gn_ gc] 31 from by
    obtain ⟨q1, q2, q3⟩ := HS2.out
    refine ⟨⟨⟨vs ++ [.slice a6 nl c6], q1.kp hK3 (fun _ _ h => h), by rw [List.length_append, H2.out]; rfl, fun j hj => ?_⟩, hO3.mono HWz2.out⟩, HK2.out.trans hK3 (fun _ _ h => h), HR2.out.kp hK3 (fun h => h)⟩
    by_cases e : j < k
    ·obtain ⟨x, ex, hx⟩ := q2 j e
     exact ⟨x, by rw [List.getElem?_append_left (by rw [H2.out]; exact e)]; exact ex, hx.kp hK3 (fun _ _ h => h)⟩
    ·obtain rfl : j = k := by omega
     exact ⟨_, by rw [List.getElem?_append_right (by rw [H2.out]; exact Nat.le_refl _), H2.out, Nat.sub_self]; rfl, q3.kp hK3 (fun _ _ h => h)⟩)
   clear hO3 hK3
   go_wp2_with fail
   go_roundw
   case rel => exact ⟨k + 1, by go_num, by omega, HS3.out⟩
   case measure => simp [intOf]; omega
  ·obtain rfl : k = gn_ := by omega
   have HE := Lib.hid (show SL C st rows w.heap.size k u5 u6 wp from by
    obtain ⟨⟨vs, h1, h2, h3⟩, h4⟩ := HL.out
    have hle := HLt.out
    exact ⟨⟨vs, h1.mono (by omega), h2, fun j hj => by obtain ⟨x, e, hx⟩ := h3 j hj; exact ⟨x, e, hx.mono (by omega)⟩⟩, h4.mono (by omega)⟩)
   go_wp2_with fail
   go_ret
   exact ⟨_, rfl, ⟨_, HE.out⟩, HK.out⟩

end Go.Proofs.YtghlklcolepfmaaGreatDoor
