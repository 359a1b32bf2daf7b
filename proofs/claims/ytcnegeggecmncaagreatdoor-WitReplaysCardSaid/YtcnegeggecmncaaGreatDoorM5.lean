/-
  circ.Net.
-/
import Derived.Test.YtcnegeggecmncaaGreatDoorM3
import Derived.BigRegion
import Derived.Test.YtcnegeggecmncaaGreatDoorM4
import Derived.Laws.CopyOwn
import Derived.Test.YtcnegeggecmncaaGreatDoorM1
set_option linter.unusedVariables false
set_option linter.unusedSimpArgs false
namespace Go.Proofs.YtcnegeggecmncaaGreatDoor
open Go.RowKit

/-- the places before anything is put: the first k are none -/
def blank (m k : Nat) : List Int := 0 :: (List.replicate k (-1) ++ List.replicate (m - k) 0)
theorem blank_zero (m : Nat) : blank m 0 = List.replicate (m + 1) 0 := by unfold blank; simp [List.replicate_succ]
theorem blank_len {m k : Nat} (h : k ≤ m) : (blank m k).length = m + 1 := by unfold blank; simp; omega
theorem blank_step {m k : Nat} (h : k < m) : (blank m k).set (k + 1) (-1) = blank m (k + 1) := by
  unfold blank
  rw [List.set_cons_succ, List.set_append_right _ _ (by simp)]
  simp only [List.length_replicate, Nat.sub_self]
  rw [show m - k = (m - (k + 1)) + 1 by omega, List.replicate_succ, List.set_cons_zero, List.replicate_succ']
  simp
theorem blank_full (m : Nat) : blank m m = 0 :: List.replicate m (-1) := by unfold blank; simp
theorem iv_rep (n : Nat) : iv (List.replicate n 0) = rowF (fun _ => .int .i64 0) n := by
  unfold iv rowF
  rw [List.map_replicate]
  apply List.ext_getElem
  · simp
  · intro i h1 h2; simp

set_option maxRecDepth 100000 in
set_option maxHeartbeats 4000000 in
theorem circ_Net (V : CV) (C : Circ) (w : World) (h : CAt w V C) (hf : CFew C 1000000) (hg : GoodC C) :
    Calls Tryz.prog 37 #[.agg (cvals V C)] w fun e w' => ∃ v4 v5, e = .returned (.tuple #[v4, v5]) ∧ OwnK w' w.heap.size 76 2 v4 ((netOf C).1.map pr2) ∧ Own w' w.heap.size 3 v5 (iv (netOf C).2) ∧ Kp (fun _ => False) w w' := by
  obtain ⟨m, hm⟩ : ∃ m, MX C = m := ⟨_, rfl⟩
  obtain ⟨ni, hni⟩ : ∃ n, C.ins.length = n := ⟨_, rfl⟩
  obtain ⟨nl, hnl⟩ : ∃ n, C.lats.length = n := ⟨_, rfl⟩
  obtain ⟨ng, hng⟩ : ∃ n, C.gates.length = n := ⟨_, rfl⟩
  have hmi : C.max = (m : Int) := by rw [← hm]; exact hg.mx.symm
  have hm1 : m ≤ 16777216 := by have := hg.rng.max1; omega
  have hi1 : ni ≤ 1000000 := by have := hf.i; omega
  have hl1 : nl ≤ 1000000 := by have := hf.l; omega
  have hg1 : ng ≤ 1000000 := by have := hf.g; omega
  obtain ⟨i0, hi, hz0, hz1, hz2⟩ := info_parts (show (Tryz.prog.info? 3).map (fun i => (i.zero, i.size, i.bytes)) = some (some (.int .i64 0), 1, 8) by kernel_rfl)
  have hmk : ∀ u : World, (Instr.makeSlice 22 (.int .i64 ((m : Int) + 1)) (.int .i64 ((m : Int) + 1))).run Tryz.prog u =
      .ok (.slice (some ⟨u.heap.size, 0, none⟩) (m + 1) (m + 1)) (u.alloc (.cells (madeCells #[.int .i64 0] (m + 1)) 3)) := fun u => by
    have h := run_make (P := Tryz.prog) u 22 3 i0 (.int .i64 0) Tryz.underlying22 hi hz0 .i64 .i64 ((m + 1 : Nat) : Int) ((m + 1 : Nat) : Int) (by omega) (Int.le_refl _) (by rw [hz2]; omega) (by omega)
    simpa [hz1, Value.cells] using h
  clear hi hz0 hz1 hz2 i0
  have HU : Hid (cvals V C = #[.int .i64 (m : Int), .slice V.ai ni V.ci, .slice V.al nl V.cl, .slice V.ao C.outs.length V.co, .slice V.ab C.bads.length V.cb, .slice V.ac C.cons.length V.cc, .slice V.ag ng V.cg, .slice V.ay V.ny V.cy, .string V.cm]) := Lib.hid (by unfold cvals; rw [hmi, hni, hnl, hng])
  have HA := Lib.hid h
  have HF := Lib.hid hf
  have HG := Lib.hid hg
  have HMi := Lib.hid hmi
  have HNi := Lib.hid hni
  have HNl := Lib.hid hnl
  have HNg := Lib.hid hng
  obtain ⟨wa, hwa⟩ : ∃ wa : World, wa = w.alloc (.cells (cvals V C) 27) := ⟨_, rfl⟩
  obtain ⟨wz, hwz⟩ : ∃ wz : World, wz = ((wa.alloc (.cells #[.slice none 0 0] 50)).alloc (.cells (madeCells #[.int .i64 0] (m + 1)) 3)).alloc (.cells #[.slice (some ⟨wa.heap.size + 1, 0, none⟩) (m + 1) (m + 1)] 22) := ⟨_, rfl⟩
  have hws : wa.heap.size = w.heap.size + 1 := by rw [hwa]; simp
  have hCa : Blk wa w.heap.size (cvals V C) 27 := by rw [hwa]; exact Blk.new _ _ _
  have hKa : Kp (fun _ => False) w wa := by rw [hwa]; exact (Kp.refl _ w).alloc _
  have c0 : (wa.alloc (.cells #[.slice none 0 0] 50)).cell? ⟨w.heap.size, 0, none⟩ = some (.int .i64 (m : Int)) := (hCa.alloc _).cell (by rw [HU.out]; rfl)
  have HM0 : Hid (NP V C w (w.heap.size + 1) (wa.heap.size + 1 + 1) (wa.heap.size + 1) (m + 1) (m + 1) ([], blank m 0) (.slice none 0 0) wz) := Lib.hid (by
    rw [hwz, ← hws]
    have hB2 : Blk ((wa.alloc (.cells #[.slice none 0 0] 50)).alloc (.cells (madeCells #[.int .i64 0] (m + 1)) 3)) (wa.heap.size + 1) (madeCells #[.int .i64 0] (m + 1)) 3 := two_blk _ _ _ _ _
    refine ⟨OwnK.nil _ _ _ _, ?_, ((Blk.new wa _ _).alloc _).alloc _, ?_, ((hCa.alloc _).alloc _).alloc _, ((hKa.alloc _).alloc _).alloc _, by omega, by omega⟩
    · show Own _ _ _ _ (iv (blank m 0))
      rw [blank_zero, iv_rep]
      have hl : (rowF (fun _ => Value.int .i64 0) (m + 1)).length = m + 1 := rowF_length _ _
      have := Own.lit (base := w.heap.size + 1) (cs := rowF (fun _ => Value.int .i64 0) (m + 1)) (by rw [← made_row]; exact hB2.alloc (.cells #[.slice (some ⟨wa.heap.size + 1, 0, none⟩) (m + 1) (m + 1)] 22)) (by omega) (by rw [hl]; unfold maxLen; omega)
      rw [hl] at this
      exact this
    · have := Blk.new ((wa.alloc (.cells #[.slice none 0 0] 50)).alloc (.cells (madeCells #[.int .i64 0] (m + 1)) 3)) #[.slice (some ⟨wa.heap.size + 1, 0, none⟩) (m + 1) (m + 1)] 22
      simpa using this)
  have HZa := Lib.hid hwa
  have HZ := Lib.hid hwz
  clear h hf hg hm hmi hni hnl hng hwz hwa hws hCa hKa
  go_enter Tryz.func37, Tryz.ntmps37
  go_upto_region 2 with fail
  rw [← HZa.out]
  go_upto_region 3 with fail
  rw [← HZ.out]
  generalize wa.heap.size + 1 + 1 = ba at HM0 ⊢
  generalize wa.heap.size + 1 = g at HM0 ⊢
  generalize w.heap.size + 1 = bn at HM0 ⊢
  clear HZ HZa c0 hmk
  go_wp2_with fail
  go_loopw [6] (fun v6 wr => ∃ k : Nat, v6 = .int .i64 ((k : Int) + 1) ∧ k ≤ m ∧ NP V C w bn ba g (m + 1) (m + 1) ([], blank m k) (.slice none 0 0) wr) (fun v6 _ => m + 1 - (intOf v6).toNat)
  case atStart => exact ⟨0, rfl, by omega, HM0.out⟩
  case round =>
    obtain ⟨k, rfl, hk, hM⟩ := hrel
    clear HM0
    obtain ⟨wp, rfl⟩ : ∃ wp : World, wp = wr := ⟨_, rfl⟩
    have HM := Lib.hid hM
    have ca := hM.cells.2.2.2
    by_cases hlt : k < m
    · have i0 : (k : Int) + 1 < ((m + 1 : Nat) : Int) := by omega
      have i1 : (0 : Int) ≤ (k : Int) + 1 := by omega
      have ck := hM.cells.1 (k + 1) (by omega)
      have fk := hM.cells.2.1 (k + 1)
      have HM2 := Lib.hid (hM.put (k + 1) (-1))
      clear hM
      go_wp2_with fail
      go_roundw
      case rel => exact ⟨k + 1, by go_num, by omega, by have := HM2.out; rw [blank_step hlt] at this; exact this⟩
      case measure => simp [intOf]; omega
    · obtain rfl : k = m := by omega
      have i0 : ¬ (k : Int) + 1 < ((k + 1 : Nat) : Int) := by omega
      have hM1 : NP V C w bn ba g (k + 1) (k + 1) (netI C 0) (.slice none 0 0) wp := by
        have := HM.out
        have e : netI C 0 = ([], blank k k) := by unfold netI net0; rw [HMi.out, blank_full]; rfl
        rw [e]; exact this
      have HM1 := Lib.hid hM1
      have c1 := hM1.circ.cell (i := 1) (v := .slice V.ai ni V.ci) (by rw [HU.out]; rfl)
      clear hM hM1 HM
      have hmf : ∀ (fn : Fn) (first cap : Array Value) (w : World), (Instr.makeFunc fn first cap).run Tryz.prog w = .ok (.func fn first cap) w := fun _ _ _ _ => rfl
      go_wp2_with fail
      clear ca
      go_loopw [33] (fun v33 wr => ∃ q : Nat, v33 = .int .i64 (q : Int) ∧ q ≤ ni ∧ ∃ v4, NP V C w bn ba g (k + 1) (k + 1) (netI C q) v4 wr) (fun v33 _ => ni - (intOf v33).toNat)
      case atStart => exact ⟨0, rfl, by omega, _, HM1.out⟩
      case round =>
        obtain ⟨q, rfl, hq, v4, hM⟩ := hrel
        clear HM1 hlt i0 c1
        obtain ⟨wq, rfl⟩ : ∃ wp : World, wp = wr := ⟨_, rfl⟩
        have HM := Lib.hid hM
        clear hM
        by_cases hlt : q < ni
        · have hql : q < C.ins.length := by rw [HNi.out]; exact hlt
          obtain ⟨b, off, ea, hE⟩ := HA.out.inCell hql
          have hr := HG.out.rng.own (gi C.ins q) (in_own hql)
          rw [HMi.out] at hr
          have HS := Lib.hid (netI_succ hql)
          have HL := Lib.hid (netI_len C q (by omega))
          obtain ⟨x0, hx0⟩ : ∃ x, gi C.ins q = x := ⟨_, rfl⟩
          rw [hx0] at hE hr HS
          have e0 := hE _ HM.out.kp
          have HR := Lib.hid hr
          have i0 : (0 : Int) ≤ (q : Int) := by omega
          have i2 : (q : Int) < (ni : Int) := by omega
          rw [ea]
          clear hx0 ea hr hE hql
          go_wp2_with (go_at_call 60; refine (net_f1 V C w bn ba g (k + 1) (k + 1) q (netI C q) v4 x0 (-1) 0 _ HM.out HL.out (by omega) (by have := HR.out; omega) (by have := HR.out; omega) (by omega)).mono ?_; rintro e w2 ⟨rfl, ⟨v', hP⟩, -⟩)
          have HP := Lib.hid hP
          clear hP e0
          go_wp2_with fail
          go_roundw
          case rel => exact ⟨q + 1, by go_num, by omega, v', by rw [HS.out]; exact HP.out⟩
          case measure => simp [intOf]; omega
        · obtain rfl : q = ni := by omega
          obtain ⟨w3, rfl⟩ : ∃ w3 : World, w3 = wq := ⟨_, rfl⟩
          have HM1 := Lib.hid (show NP V C w bn ba g (k + 1) (k + 1) (netL C 0) v4 w3 by rw [netL_zero, HNi.out]; exact HM.out)
          have c2 := HM1.out.circ.cell (i := 2) (v := .slice V.al nl V.cl) (by rw [HU.out]; rfl)
          clear HM
          go_wp2_with fail
          go_loopw [45] (fun v45 wr => ∃ p : Nat, v45 = .int .i64 (p : Int) ∧ p ≤ nl ∧ ∃ v4, NP V C w bn ba g (k + 1) (k + 1) (netL C p) v4 wr) (fun v45 _ => nl - (intOf v45).toNat)
          case atStart => exact ⟨0, rfl, by omega, _, HM1.out⟩
          case round =>
            obtain ⟨p, rfl, hp, v4, hM⟩ := hrel
            clear HM1 hlt c2
            obtain ⟨wx, rfl⟩ : ∃ wp : World, wp = wr := ⟨_, rfl⟩
            have HM := Lib.hid hM
            clear hM
            by_cases hlt : p < nl
            · have hql : p < C.lats.length := by rw [HNl.out]; exact hlt
              obtain ⟨b, off, ea, hE⟩ := HA.out.latCell hql
              have hr := HG.out.rng.own _ (lat_own hql)
              rw [HMi.out] at hr
              have HS := Lib.hid (netL_succ hql)
              have HL := Lib.hid (show (netL C p).1.length = q + p by rw [netL_len C p (by omega), HNi.out])
              obtain ⟨x0, hx0⟩ : ∃ x, (g3 C.lats p).1 = x := ⟨_, rfl⟩
              obtain ⟨x1, hx1⟩ : ∃ x, (g3 C.lats p).2.1 = x := ⟨_, rfl⟩
              obtain ⟨x2, hx2⟩ : ∃ x, (g3 C.lats p).2.2 = x := ⟨_, rfl⟩
              rw [hx0, hx1, hx2] at hE
              rw [hx0] at hr HS
              obtain ⟨e0, e1, e2⟩ := hE _ HM.out.kp
              have HR := Lib.hid hr
              have i0 : (0 : Int) ≤ (p : Int) := by omega
              have i2 : (p : Int) < (nl : Int) := by omega
              have hnb := (Blk.new wx #[.int .i64 x0, .int .i64 x1, .int .i64 x2] 48).cell (i := 0) (v := .int .i64 x0) rfl
              have HMa := Lib.hid (HM.out.fr ((Kp.refl _ wx).alloc (.cells #[.int .i64 x0, .int .i64 x1, .int .i64 x2] 48)))
              rw [ea]
              clear hx0 hx1 hx2 ea hr hE hql
              go_wp2_with (go_at_call 60; refine (net_f1 V C w bn ba g (k + 1) (k + 1) (q + p) (netL C p) v4 x0 (-1) 0 _ HMa.out HL.out (by omega) (by have := HR.out; omega) (by have := HR.out; omega) (by omega)).mono ?_; rintro e w2 ⟨rfl, ⟨v', hP⟩, -⟩)
              have HP := Lib.hid hP
              clear hP e0 e1 e2 hnb
              go_wp2_with fail
              go_roundw
              case rel => exact ⟨p + 1, by go_num, by omega, v', by rw [HS.out]; exact HP.out⟩
              case measure => simp [intOf]; omega
            · obtain rfl : p = nl := by omega
              have HM1 := Lib.hid (show NP V C w bn ba g (k + 1) (k + 1) (netG C 0) v4 wx by rw [netG_zero, HNl.out]; exact HM.out)
              obtain ⟨no, hno⟩ : ∃ g, (ordO C.gates).length = g := ⟨_, rfl⟩
              have hno1 : no ≤ ng := by rw [← HNg.out, ← hno]; exact (ordO_at C.gates).len
              have HO := Lib.hid (show ∀ u, Kp (fun _ => False) w u → Calls Tryz.prog 55 #[.agg #[.int .i64 (k : Int), .slice V.ai q V.ci, .slice V.al p V.cl, .slice V.ao C.outs.length V.co, .slice V.ab C.bads.length V.cb, .slice V.ac C.cons.length V.cc, .slice V.ag ng V.cg, .slice V.ay V.ny V.cy, .string V.cm]] u fun e u' => (∃ a c, e = .returned (.slice a no c) ∧ Own u' u.heap.size 3 (.slice a no c) (nv (ordO C.gates))) ∧ Kp (fun _ => False) u u' from fun u hu => by
                have hor := (circ_Order V C u (HA.out.kp hu) HF.out.g (HG.out.rng.good HG.out.nd) (fun i hi => by
                  have h1 := HG.out.rng.own _ (gate_own hi)
                  have h2 := HG.out.rng.use _ (gate_useA hi)
                  have h3 := HG.out.rng.use _ (gate_useB hi)
                  have h4 := HMi.out
                  omega)).mono (R' := fun e u' => (∃ a c, e = .returned (.slice a no c) ∧ Own u' u.heap.size 3 (.slice a no c) (nv (ordO C.gates))) ∧ Kp (fun _ => False) u u') (by
                    rintro e u' ⟨v, rfl, hO, hK⟩
                    obtain ⟨a, c, e, -⟩ := hO.form
                    rw [nv_length, hno] at e
                    subst e
                    exact ⟨⟨a, c, rfl, hO⟩, hK⟩)
                rw [HU.out] at hor
                exact hor)
              have HNo := Lib.hid hno
              obtain ⟨d0, d1, d2, d3, d4, d5, d6, d7, d8⟩ := Blk.cells9 (show Blk wx w.heap.size #[.int .i64 (k : Int), .slice V.ai q V.ci, .slice V.al p V.cl, .slice V.ao C.outs.length V.co, .slice V.ab C.bads.length V.cb, .slice V.ac C.cons.length V.cc, .slice V.ag ng V.cg, .slice V.ay V.ny V.cy, .string V.cm] 27 by have := HM.out.circ; rw [HU.out] at this; exact this)
              clear HM hno
              go_wp2_with (go_at_call 55; refine (HO.out _ HM1.out.kp).mono ?_; rintro e w9 ⟨⟨a9, c9, rfl, hO9⟩, hK9⟩)
              have HM9 := Lib.hid (HM1.out.fr hK9)
              have HO9 := Lib.hid (show Own w9 wx.heap.size 3 (.slice a9 no c9) (nv (ordO C.gates)) from hO9)
              have HG5 := Lib.hid (show g < wx.heap.size ∧ bn < wx.heap.size from ⟨(HM1.out.a.lt g rfl).2, HM1.out.xn.lt⟩)
              clear hO9 hK9 d0 d1 d2 d3 d4 d5 d6 d7 d8 HM1 HO
              go_wp2_with fail
              go_loopw [59] (fun v59 wr => ∃ r : Nat, v59 = .int .i64 (r : Int) ∧ r ≤ no ∧ (∃ v4, NP V C w bn ba g (k + 1) (k + 1) (netG C r) v4 wr) ∧ Own wr wx.heap.size 3 (.slice a9 no c9) (nv (ordO C.gates))) (fun v59 _ => no - (intOf v59).toNat)
              case atStart => exact ⟨0, rfl, by omega, ⟨_, HM9.out⟩, HO9.out⟩
              case round =>
                obtain ⟨r, rfl, hrk, ⟨v5, hM⟩, hO⟩ := hrel
                clear HM9 HO9 hlt
                obtain ⟨wy, rfl⟩ : ∃ wp : World, wp = wr := ⟨_, rfl⟩
                have HM := Lib.hid hM
                have HO := Lib.hid hO
                have c6 := hM.circ.cell (i := 6) (v := .slice V.ag ng V.cg) (by rw [HU.out]; rfl)
                clear hM hO
                by_cases hlt : r < no
                · have hol : r < (ordO C.gates).length := by rw [HNo.out]; exact hlt
                  obtain ⟨t, ht⟩ : ∃ t, gno (ordO C.gates) r = t := ⟨_, rfl⟩
                  have htn := turn_ok HG.out hol
                  rw [ht] at htn
                  obtain ⟨htg, hdA, hdB⟩ := htn
                  have hinv := netG_inv HG.out r (by omega)
                  have rA := HG.out.rng.use _ (gate_useA htg)
                  have rB := HG.out.rng.use _ (gate_useB htg)
                  have rO := HG.out.rng.own _ (gate_own htg)
                  rw [HMi.out] at rA rB rO
                  have hmx := HG.out.mx
                  rw [HMi.out] at hmx
                  have hmk : MX C = k := by omega
                  rw [hmk] at hinv
                  have hLn := netG_len C r (by omega)
                  rw [HNi.out, HNl.out] at hLn
                  have hS := netG_succ hol
                  rw [ht] at hS
                  have hno9 : (nv (ordO C.gates))[r]? = some (.int .i64 (t : Int)) := by
                    have h1 := nv_at hol
                    have h2 : gn (ordO C.gates) r = t := ht
                    rw [h2] at h1; exact h1
                  obtain ⟨a9', c9', ev9, -, -, -, hrow9⟩ := HO.out.form
                  simp only [Value.slice.injEq] at ev9
                  obtain ⟨rfl, -, rfl⟩ := ev9
                  obtain ⟨bo, offo, ea9, eo⟩ := hrow9 r _ hno9
                  obtain ⟨b, off, ea, hE⟩ := HA.out.gateCell htg
                  have hAx := ofL_ok hinv rA.1 (by omega) hdA
                  have hBx := ofL_ok hinv rB.1 (by omega) hdB
                  have hvA := hinv.val ((g3 C.gates t).2.1 / 2).toNat (by omega)
                  have hvB := hinv.val ((g3 C.gates t).2.2 / 2).toNat (by omega)
                  obtain ⟨x0, hx0⟩ : ∃ x, (g3 C.gates t).1 = x := ⟨_, rfl⟩
                  obtain ⟨x1, hx1⟩ : ∃ x, (g3 C.gates t).2.1 = x := ⟨_, rfl⟩
                  obtain ⟨x2, hx2⟩ : ∃ x, (g3 C.gates t).2.2 = x := ⟨_, rfl⟩
                  rw [hx0] at rO hE
                  rw [hx1] at rA hE hAx hvA
                  rw [hx2] at rB hE hBx hvB
                  have HS := Lib.hid (show netG C (r + 1) = putN (netG C r) x0 (ofN (netG C r).2 x1, ofN (netG C r).2 x2) by rw [hS]; unfold gateN; rw [hx0, hx1, hx2])
                  have HA1 := Lib.hid (show 0 ≤ x1 ∧ (x1 / 2).toNat < k + 1 ∧ 0 ≤ gi (netG C r).2 (x1 / 2).toNat ∧ gi (netG C r).2 (x1 / 2).toNat % 2 = 0 ∧ gi (netG C r).2 (x1 / 2).toNat ≤ 1000000000 from ⟨rA.1, by omega, hAx.1, hAx.2.1, by omega⟩)
                  have HB1 := Lib.hid (show 0 ≤ x2 ∧ (x2 / 2).toNat < k + 1 ∧ 0 ≤ gi (netG C r).2 (x2 / 2).toNat ∧ gi (netG C r).2 (x2 / 2).toNat % 2 = 0 ∧ gi (netG C r).2 (x2 / 2).toNat ≤ 1000000000 from ⟨rB.1, by omega, hBx.1, hBx.2.1, by omega⟩)
                  have HLn := Lib.hid hLn
                  have HR := Lib.hid (show 0 ≤ x0 ∧ (x0 / 2).toNat < k + 1 from ⟨by omega, by omega⟩)
                  obtain ⟨e0, e1, e2⟩ := hE _ HM.out.kp
                  have t0 : (0 : Int) ≤ (t : Int) := by omega
                  have t1 : (t : Int) < (ng : Int) := by have := HNg.out; omega
                  have r0 : (0 : Int) ≤ (r : Int) := by omega
                  have r1 : (r : Int) < (no : Int) := by omega
                  rw [ea] at c6
                  subst ea9
                  have HEA := Lib.hid ea
                  clear ea hE hrow9 hno9 hS hx0 hx1 hx2 hAx hBx hvA hvB rA rB rO hLn hinv hmx hmk hdA hdB htg ht hol
                  go_upto_region 23 with fail
                  have HGb := Lib.hid (Blk.new wy #[.int .i64 x0, .int .i64 x1, .int .i64 x2] 73)
                  have HM2 := Lib.hid (HM.out.fr ((Kp.refl _ wy).alloc (.cells #[.int .i64 x0, .int .i64 x1, .int .i64 x2] 73)))
                  have HO2 := Lib.hid (HO.out.alloc (.cells #[.int .i64 x0, .int .i64 x1, .int .i64 x2] 73))
                  clear HM HO e0 e1 e2 eo c6
                  have HM := HM2
                  clear HM2
                  generalize hwv : wy.alloc (.cells #[.int .i64 x0, .int .i64 x1, .int .i64 x2] 73) = wv at HGb HM HO2 ⊢
                  generalize hgb : wy.heap.size = gb at HGb ⊢
                  refine wp_region_loose (p := upTo 12) (V := atV [EqV ((.func (.func 60) #[] #[.pointer (some ⟨bn, 0, none⟩), .pointer (some ⟨ba, 0, none⟩)])), EqV (.pointer (some ⟨gb, 0, none⟩)), EqV (.int .i64 x0), EqV ((.func (.func 61) #[] #[.pointer (some ⟨ba, 0, none⟩)])), EqV (.pointer (some ⟨gb, 1, none⟩)), EqV (.int .i64 x1), EqV (.int .i64 (ofN (netG C r).2 x1)), EqV ((.func (.func 61) #[] #[.pointer (some ⟨ba, 0, none⟩)])), EqV (.pointer (some ⟨gb, 2, none⟩)), EqV (.int .i64 x2), EqV (.int .i64 (ofN (netG C r).2 x2)), EqV (.agg #[.int .i64 (ofN (netG C r).2 x1), .int .i64 (ofN (netG C r).2 x2)])]) (LP := #[true, true, true, true, true, true, true, true, true, true, true, true, false]) (K := 1) (by kernel_rfl) (by kernel_rfl) (atV_st ?hstL23) ?hstepL23 (by kernel_rfl) ?hLPL23 (by kernel_rfl) ?hendL23
                  case hstL23 =>
                    intro W h
                    simp only [List.mem_cons, List.not_mem_nil, or_false] at h
                    rcases h with rfl | rfl | rfl | rfl | rfl | rfl | rfl | rfl | rfl | rfl | rfl | rfl <;> first | exact EqV.st _ | exact EqV.st _
                  case hLPL23 => exact upTo_spec (by kernel_rfl)
                  case hstepL23 =>
                    intro i o ho hp a u hk hoff hdep
                    have e7 : a.tmps[7]?.getD undef = (.func (.func 60) #[] #[.pointer (some ⟨bn, 0, none⟩), .pointer (some ⟨ba, 0, none⟩)]) := slot_at (hoff 7 (noDst_spec (by kernel_rfl)))
                    have e12 : a.tmps[12]?.getD undef = (.func (.func 61) #[] #[.pointer (some ⟨ba, 0, none⟩)]) := slot_at (hoff 12 (noDst_spec (by kernel_rfl)))
                    have e15 : a.tmps[15]?.getD undef = (.pointer (some ⟨gb, 0, none⟩)) := slot_at (hoff 15 (noDst_spec (by kernel_rfl)))
                    clear hoff
                    match i, ho with
                    | 0, ho =>
                      obtain rfl := Option.some.inj ho
                      refine lw_value (v := (.func (.func 60) #[] #[.pointer (some ⟨bn, 0, none⟩), .pointer (some ⟨ba, 0, none⟩)])) (u' := u) ?_ (Kp.refl _ _) rfl
                      go_simp
                    | 1, ho =>
                      obtain rfl := Option.some.inj ho
                      refine lw_value (v := .pointer (some ⟨gb, 0, none⟩)) (u' := u) ?_ (Kp.refl _ _) rfl
                      go_simp
                    | 2, ho =>
                      obtain rfl := Option.some.inj ho
                      have e69 : a.tmps[69]?.getD undef = .pointer (some ⟨gb, 0, none⟩) := slot_at (hdep ⟨1, .data⟩ (by simp) rfl _ 69 rfl rfl)
                      have c1 := (HGb.out.kp hk (fun h => h)).cell (i := 0) (v := .int .i64 x0) rfl
                      refine lw_value (v := .int .i64 x0) (u' := u) ?_ (Kp.refl _ _) rfl
                      go_simp
                    | 3, ho =>
                      obtain rfl := Option.some.inj ho
                      refine lw_value (v := (.func (.func 61) #[] #[.pointer (some ⟨ba, 0, none⟩)])) (u' := u) ?_ (Kp.refl _ _) rfl
                      go_simp
                    | 4, ho =>
                      obtain rfl := Option.some.inj ho
                      refine lw_value (v := .pointer (some ⟨gb, 1, none⟩)) (u' := u) ?_ (Kp.refl _ _) rfl
                      go_simp
                    | 5, ho =>
                      obtain rfl := Option.some.inj ho
                      have e72 : a.tmps[72]?.getD undef = .pointer (some ⟨gb, 1, none⟩) := slot_at (hdep ⟨4, .data⟩ (by simp) rfl _ 72 rfl rfl)
                      have c1 := (HGb.out.kp hk (fun h => h)).cell (i := 1) (v := .int .i64 x1) rfl
                      refine lw_value (v := .int .i64 x1) (u' := u) ?_ (Kp.refl _ _) rfl
                      go_simp
                    | 6, ho =>
                      obtain rfl := Option.some.inj ho
                      have e71 : a.tmps[71]?.getD undef = (.func (.func 61) #[] #[.pointer (some ⟨ba, 0, none⟩)]) := slot_at (hdep ⟨3, .data⟩ (by simp) rfl _ 71 rfl rfl)
                      have e73 : a.tmps[73]?.getD undef = .int .i64 x1 := slot_at (hdep ⟨5, .data⟩ (by simp) rfl _ 73 rfl rfl)
                      refine lw_call (f := 61) (args := #[.int .i64 x1, .pointer (some ⟨ba, 0, none⟩)]) ?_ ?_
                      · go_simp
                      · exact (net_f2 ba g (k + 1) (k + 1) (netG C r).2 x1 u (hk.cellK HM.out.cells.2.2.2) (by omega) (fun j hj => hk.cellK (HM.out.cells.1 j hj)) HA1.out.1 HA1.out.2.1 HA1.out.2.2).mono (by
                          rintro e u' ⟨rfl, rfl⟩
                          exact ⟨_, rfl, Kp.refl _ _, rfl⟩)
                    | 7, ho =>
                      obtain rfl := Option.some.inj ho
                      refine lw_value (v := (.func (.func 61) #[] #[.pointer (some ⟨ba, 0, none⟩)])) (u' := u) ?_ (Kp.refl _ _) rfl
                      go_simp
                    | 8, ho =>
                      obtain rfl := Option.some.inj ho
                      refine lw_value (v := .pointer (some ⟨gb, 2, none⟩)) (u' := u) ?_ (Kp.refl _ _) rfl
                      go_simp
                    | 9, ho =>
                      obtain rfl := Option.some.inj ho
                      have e76 : a.tmps[76]?.getD undef = .pointer (some ⟨gb, 2, none⟩) := slot_at (hdep ⟨8, .data⟩ (by simp) rfl _ 76 rfl rfl)
                      have c1 := (HGb.out.kp hk (fun h => h)).cell (i := 2) (v := .int .i64 x2) rfl
                      refine lw_value (v := .int .i64 x2) (u' := u) ?_ (Kp.refl _ _) rfl
                      go_simp
                    | 10, ho =>
                      obtain rfl := Option.some.inj ho
                      have e75 : a.tmps[75]?.getD undef = (.func (.func 61) #[] #[.pointer (some ⟨ba, 0, none⟩)]) := slot_at (hdep ⟨7, .data⟩ (by simp) rfl _ 75 rfl rfl)
                      have e77 : a.tmps[77]?.getD undef = .int .i64 x2 := slot_at (hdep ⟨9, .data⟩ (by simp) rfl _ 77 rfl rfl)
                      refine lw_call (f := 61) (args := #[.int .i64 x2, .pointer (some ⟨ba, 0, none⟩)]) ?_ ?_
                      · go_simp
                      · exact (net_f2 ba g (k + 1) (k + 1) (netG C r).2 x2 u (hk.cellK HM.out.cells.2.2.2) (by omega) (fun j hj => hk.cellK (HM.out.cells.1 j hj)) HB1.out.1 HB1.out.2.1 HB1.out.2.2).mono (by
                          rintro e u' ⟨rfl, rfl⟩
                          exact ⟨_, rfl, Kp.refl _ _, rfl⟩)
                    | 11, ho =>
                      obtain rfl := Option.some.inj ho
                      have e74 : a.tmps[74]?.getD undef = .int .i64 (ofN (netG C r).2 x1) := slot_at (hdep ⟨6, .data⟩ (by simp) rfl _ 74 rfl rfl)
                      have e78 : a.tmps[78]?.getD undef = .int .i64 (ofN (netG C r).2 x2) := slot_at (hdep ⟨10, .data⟩ (by simp) rfl _ 78 rfl rfl)
                      refine lw_value (v := .agg #[.int .i64 (ofN (netG C r).2 x1), .int .i64 (ofN (netG C r).2 x2)]) (u' := u) ?_ (Kp.refl _ _) rfl
                      go_simp
                    | n + 12, _ => exact absurd hp (by simp [upTo])
                  intro a u hI
                  have hsz : a.tmps.size = 84 := hI.size
                  have hdf : a.defers = [] := hI.defers
                  have f0 : a.tmps.getD 0 undef = _ := hI.off 0 (noDst_spec (p := upTo 12) (by kernel_rfl))
                  have f1 : a.tmps.getD 1 undef = _ := hI.off 1 (noDst_spec (p := upTo 12) (by kernel_rfl))
                  have f2 : a.tmps.getD 2 undef = _ := hI.off 2 (noDst_spec (p := upTo 12) (by kernel_rfl))
                  have f3 : a.tmps.getD 3 undef = _ := hI.off 3 (noDst_spec (p := upTo 12) (by kernel_rfl))
                  have f4 : a.tmps.getD 4 undef = _ := hI.off 4 (noDst_spec (p := upTo 12) (by kernel_rfl))
                  have f5 : a.tmps.getD 5 undef = _ := hI.off 5 (noDst_spec (p := upTo 12) (by kernel_rfl))
                  have f6 : a.tmps.getD 6 undef = _ := hI.off 6 (noDst_spec (p := upTo 12) (by kernel_rfl))
                  have f7 : a.tmps.getD 7 undef = _ := hI.off 7 (noDst_spec (p := upTo 12) (by kernel_rfl))
                  have f8 : a.tmps.getD 8 undef = _ := hI.off 8 (noDst_spec (p := upTo 12) (by kernel_rfl))
                  have f9 : a.tmps.getD 9 undef = _ := hI.off 9 (noDst_spec (p := upTo 12) (by kernel_rfl))
                  have f10 : a.tmps.getD 10 undef = _ := hI.off 10 (noDst_spec (p := upTo 12) (by kernel_rfl))
                  have f11 : a.tmps.getD 11 undef = _ := hI.off 11 (noDst_spec (p := upTo 12) (by kernel_rfl))
                  have f12 : a.tmps.getD 12 undef = _ := hI.off 12 (noDst_spec (p := upTo 12) (by kernel_rfl))
                  have f13 : a.tmps.getD 13 undef = _ := hI.off 13 (noDst_spec (p := upTo 12) (by kernel_rfl))
                  have f14 : a.tmps.getD 14 undef = _ := hI.off 14 (noDst_spec (p := upTo 12) (by kernel_rfl))
                  have f15 : a.tmps.getD 15 undef = _ := hI.off 15 (noDst_spec (p := upTo 12) (by kernel_rfl))
                  have f16 : a.tmps.getD 16 undef = _ := hI.off 16 (noDst_spec (p := upTo 12) (by kernel_rfl))
                  have f17 : a.tmps.getD 17 undef = _ := hI.off 17 (noDst_spec (p := upTo 12) (by kernel_rfl))
                  have f18 : a.tmps.getD 18 undef = _ := hI.off 18 (noDst_spec (p := upTo 12) (by kernel_rfl))
                  have f19 : a.tmps.getD 19 undef = _ := hI.off 19 (noDst_spec (p := upTo 12) (by kernel_rfl))
                  have f20 : a.tmps.getD 20 undef = _ := hI.off 20 (noDst_spec (p := upTo 12) (by kernel_rfl))
                  have f21 : a.tmps.getD 21 undef = _ := hI.off 21 (noDst_spec (p := upTo 12) (by kernel_rfl))
                  have f22 : a.tmps.getD 22 undef = _ := hI.off 22 (noDst_spec (p := upTo 12) (by kernel_rfl))
                  have f23 : a.tmps.getD 23 undef = _ := hI.off 23 (noDst_spec (p := upTo 12) (by kernel_rfl))
                  have f24 : a.tmps.getD 24 undef = _ := hI.off 24 (noDst_spec (p := upTo 12) (by kernel_rfl))
                  have f25 : a.tmps.getD 25 undef = _ := hI.off 25 (noDst_spec (p := upTo 12) (by kernel_rfl))
                  have f26 : a.tmps.getD 26 undef = _ := hI.off 26 (noDst_spec (p := upTo 12) (by kernel_rfl))
                  have f27 : a.tmps.getD 27 undef = _ := hI.off 27 (noDst_spec (p := upTo 12) (by kernel_rfl))
                  have f28 : a.tmps.getD 28 undef = _ := hI.off 28 (noDst_spec (p := upTo 12) (by kernel_rfl))
                  have f29 : a.tmps.getD 29 undef = _ := hI.off 29 (noDst_spec (p := upTo 12) (by kernel_rfl))
                  have f30 : a.tmps.getD 30 undef = _ := hI.off 30 (noDst_spec (p := upTo 12) (by kernel_rfl))
                  have f31 : a.tmps.getD 31 undef = _ := hI.off 31 (noDst_spec (p := upTo 12) (by kernel_rfl))
                  have f32 : a.tmps.getD 32 undef = _ := hI.off 32 (noDst_spec (p := upTo 12) (by kernel_rfl))
                  have f33 : a.tmps.getD 33 undef = _ := hI.off 33 (noDst_spec (p := upTo 12) (by kernel_rfl))
                  have f34 : a.tmps.getD 34 undef = _ := hI.off 34 (noDst_spec (p := upTo 12) (by kernel_rfl))
                  have f35 : a.tmps.getD 35 undef = _ := hI.off 35 (noDst_spec (p := upTo 12) (by kernel_rfl))
                  have f36 : a.tmps.getD 36 undef = _ := hI.off 36 (noDst_spec (p := upTo 12) (by kernel_rfl))
                  have f37 : a.tmps.getD 37 undef = _ := hI.off 37 (noDst_spec (p := upTo 12) (by kernel_rfl))
                  have f38 : a.tmps.getD 38 undef = _ := hI.off 38 (noDst_spec (p := upTo 12) (by kernel_rfl))
                  have f39 : a.tmps.getD 39 undef = _ := hI.off 39 (noDst_spec (p := upTo 12) (by kernel_rfl))
                  have f40 : a.tmps.getD 40 undef = _ := hI.off 40 (noDst_spec (p := upTo 12) (by kernel_rfl))
                  have f41 : a.tmps.getD 41 undef = _ := hI.off 41 (noDst_spec (p := upTo 12) (by kernel_rfl))
                  have f42 : a.tmps.getD 42 undef = _ := hI.off 42 (noDst_spec (p := upTo 12) (by kernel_rfl))
                  have f43 : a.tmps.getD 43 undef = _ := hI.off 43 (noDst_spec (p := upTo 12) (by kernel_rfl))
                  have f44 : a.tmps.getD 44 undef = _ := hI.off 44 (noDst_spec (p := upTo 12) (by kernel_rfl))
                  have f45 : a.tmps.getD 45 undef = _ := hI.off 45 (noDst_spec (p := upTo 12) (by kernel_rfl))
                  have f46 : a.tmps.getD 46 undef = _ := hI.off 46 (noDst_spec (p := upTo 12) (by kernel_rfl))
                  have f47 : a.tmps.getD 47 undef = _ := hI.off 47 (noDst_spec (p := upTo 12) (by kernel_rfl))
                  have f48 : a.tmps.getD 48 undef = _ := hI.off 48 (noDst_spec (p := upTo 12) (by kernel_rfl))
                  have f49 : a.tmps.getD 49 undef = _ := hI.off 49 (noDst_spec (p := upTo 12) (by kernel_rfl))
                  have f50 : a.tmps.getD 50 undef = _ := hI.off 50 (noDst_spec (p := upTo 12) (by kernel_rfl))
                  have f51 : a.tmps.getD 51 undef = _ := hI.off 51 (noDst_spec (p := upTo 12) (by kernel_rfl))
                  have f52 : a.tmps.getD 52 undef = _ := hI.off 52 (noDst_spec (p := upTo 12) (by kernel_rfl))
                  have f53 : a.tmps.getD 53 undef = _ := hI.off 53 (noDst_spec (p := upTo 12) (by kernel_rfl))
                  have f54 : a.tmps.getD 54 undef = _ := hI.off 54 (noDst_spec (p := upTo 12) (by kernel_rfl))
                  have f55 : a.tmps.getD 55 undef = _ := hI.off 55 (noDst_spec (p := upTo 12) (by kernel_rfl))
                  have f56 : a.tmps.getD 56 undef = _ := hI.off 56 (noDst_spec (p := upTo 12) (by kernel_rfl))
                  have f57 : a.tmps.getD 57 undef = _ := hI.off 57 (noDst_spec (p := upTo 12) (by kernel_rfl))
                  have f58 : a.tmps.getD 58 undef = _ := hI.off 58 (noDst_spec (p := upTo 12) (by kernel_rfl))
                  have f59 : a.tmps.getD 59 undef = _ := hI.off 59 (noDst_spec (p := upTo 12) (by kernel_rfl))
                  have f60 : a.tmps.getD 60 undef = _ := hI.off 60 (noDst_spec (p := upTo 12) (by kernel_rfl))
                  have f61 : a.tmps.getD 61 undef = _ := hI.off 61 (noDst_spec (p := upTo 12) (by kernel_rfl))
                  have f62 : a.tmps.getD 62 undef = _ := hI.off 62 (noDst_spec (p := upTo 12) (by kernel_rfl))
                  have f63 : a.tmps.getD 63 undef = _ := hI.off 63 (noDst_spec (p := upTo 12) (by kernel_rfl))
                  have f64 : a.tmps.getD 64 undef = _ := hI.off 64 (noDst_spec (p := upTo 12) (by kernel_rfl))
                  have f65 : a.tmps.getD 65 undef = _ := hI.off 65 (noDst_spec (p := upTo 12) (by kernel_rfl))
                  have f66 : a.tmps.getD 66 undef = _ := hI.off 66 (noDst_spec (p := upTo 12) (by kernel_rfl))
                  have f67 : a.tmps.getD 67 undef = _ := hI.off 67 (noDst_spec (p := upTo 12) (by kernel_rfl))
                  have f80 : a.tmps.getD 80 undef = _ := hI.off 80 (noDst_spec (p := upTo 12) (by kernel_rfl))
                  have f81 : a.tmps.getD 81 undef = _ := hI.off 81 (noDst_spec (p := upTo 12) (by kernel_rfl))
                  have f82 : a.tmps.getD 82 undef = _ := hI.off 82 (noDst_spec (p := upTo 12) (by kernel_rfl))
                  have f83 : a.tmps.getD 83 undef = _ := hI.off 83 (noDst_spec (p := upTo 12) (by kernel_rfl))
                  have f68 : a.tmps.getD 68 undef = (.func (.func 60) #[] #[.pointer (some ⟨bn, 0, none⟩), .pointer (some ⟨ba, 0, none⟩)]) := hI.val 0 _ 68 rfl rfl rfl
                  have f69 : a.tmps.getD 69 undef = .pointer (some ⟨gb, 0, none⟩) := hI.val 1 _ 69 rfl rfl rfl
                  have f70 : a.tmps.getD 70 undef = .int .i64 x0 := hI.val 2 _ 70 rfl rfl rfl
                  have f71 : a.tmps.getD 71 undef = (.func (.func 61) #[] #[.pointer (some ⟨ba, 0, none⟩)]) := hI.val 3 _ 71 rfl rfl rfl
                  have f72 : a.tmps.getD 72 undef = .pointer (some ⟨gb, 1, none⟩) := hI.val 4 _ 72 rfl rfl rfl
                  have f73 : a.tmps.getD 73 undef = .int .i64 x1 := hI.val 5 _ 73 rfl rfl rfl
                  have f74 : a.tmps.getD 74 undef = .int .i64 (ofN (netG C r).2 x1) := hI.val 6 _ 74 rfl rfl rfl
                  have f75 : a.tmps.getD 75 undef = (.func (.func 61) #[] #[.pointer (some ⟨ba, 0, none⟩)]) := hI.val 7 _ 75 rfl rfl rfl
                  have f76 : a.tmps.getD 76 undef = .pointer (some ⟨gb, 2, none⟩) := hI.val 8 _ 76 rfl rfl rfl
                  have f77 : a.tmps.getD 77 undef = .int .i64 x2 := hI.val 9 _ 77 rfl rfl rfl
                  have f78 : a.tmps.getD 78 undef = .int .i64 (ofN (netG C r).2 x2) := hI.val 10 _ 78 rfl rfl rfl
                  have f79 : a.tmps.getD 79 undef = .agg #[.int .i64 (ofN (netG C r).2 x1), .int .i64 (ofN (netG C r).2 x2)] := hI.val 11 _ 79 rfl rfl rfl
                  have ha : a = ⟨#[a.tmps.getD 0 undef, a.tmps.getD 1 undef, a.tmps.getD 2 undef, a.tmps.getD 3 undef, a.tmps.getD 4 undef, a.tmps.getD 5 undef, a.tmps.getD 6 undef, a.tmps.getD 7 undef, a.tmps.getD 8 undef, a.tmps.getD 9 undef, a.tmps.getD 10 undef, a.tmps.getD 11 undef, a.tmps.getD 12 undef, a.tmps.getD 13 undef, a.tmps.getD 14 undef, a.tmps.getD 15 undef, a.tmps.getD 16 undef, a.tmps.getD 17 undef, a.tmps.getD 18 undef, a.tmps.getD 19 undef, a.tmps.getD 20 undef, a.tmps.getD 21 undef, a.tmps.getD 22 undef, a.tmps.getD 23 undef, a.tmps.getD 24 undef, a.tmps.getD 25 undef, a.tmps.getD 26 undef, a.tmps.getD 27 undef, a.tmps.getD 28 undef, a.tmps.getD 29 undef, a.tmps.getD 30 undef, a.tmps.getD 31 undef, a.tmps.getD 32 undef, a.tmps.getD 33 undef, a.tmps.getD 34 undef, a.tmps.getD 35 undef, a.tmps.getD 36 undef, a.tmps.getD 37 undef, a.tmps.getD 38 undef, a.tmps.getD 39 undef, a.tmps.getD 40 undef, a.tmps.getD 41 undef, a.tmps.getD 42 undef, a.tmps.getD 43 undef, a.tmps.getD 44 undef, a.tmps.getD 45 undef, a.tmps.getD 46 undef, a.tmps.getD 47 undef, a.tmps.getD 48 undef, a.tmps.getD 49 undef, a.tmps.getD 50 undef, a.tmps.getD 51 undef, a.tmps.getD 52 undef, a.tmps.getD 53 undef, a.tmps.getD 54 undef, a.tmps.getD 55 undef, a.tmps.getD 56 undef, a.tmps.getD 57 undef, a.tmps.getD 58 undef, a.tmps.getD 59 undef, a.tmps.getD 60 undef, a.tmps.getD 61 undef, a.tmps.getD 62 undef, a.tmps.getD 63 undef, a.tmps.getD 64 undef, a.tmps.getD 65 undef, a.tmps.getD 66 undef, a.tmps.getD 67 undef, a.tmps.getD 68 undef, a.tmps.getD 69 undef, a.tmps.getD 70 undef, a.tmps.getD 71 undef, a.tmps.getD 72 undef, a.tmps.getD 73 undef, a.tmps.getD 74 undef, a.tmps.getD 75 undef, a.tmps.getD 76 undef, a.tmps.getD 77 undef, a.tmps.getD 78 undef, a.tmps.getD 79 undef, a.tmps.getD 80 undef, a.tmps.getD 81 undef, a.tmps.getD 82 undef, a.tmps.getD 83 undef], a.defers⟩ := act_list a 84 hsz
                  rw [hdf, f0, f1, f2, f3, f4, f5, f6, f7, f8, f9, f10, f11, f12, f13, f14, f15, f16, f17, f18, f19, f20, f21, f22, f23, f24, f25, f26, f27, f28, f29, f30, f31, f32, f33, f34, f35, f36, f37, f38, f39, f40, f41, f42, f43, f44, f45, f46, f47, f48, f49, f50, f51, f52, f53, f54, f55, f56, f57, f58, f59, f60, f61, f62, f63, f64, f65, f66, f67, f68, f69, f70, f71, f72, f73, f74, f75, f76, f77, f78, f79, f80, f81, f82, f83] at ha
                  have hku := hI.kp
                  clear hI hsz hdf f0 f1 f2 f3 f4 f5 f6 f7 f8 f9 f10 f11 f12 f13 f14 f15 f16 f17 f18 f19 f20 f21 f22 f23 f24 f25 f26 f27 f28 f29 f30 f31 f32 f33 f34 f35 f36 f37 f38 f39 f40 f41 f42 f43 f44 f45 f46 f47 f48 f49 f50 f51 f52 f53 f54 f55 f56 f57 f58 f59 f60 f61 f62 f63 f64 f65 f66 f67 f68 f69 f70 f71 f72 f73 f74 f75 f76 f77 f78 f79 f80 f81 f82 f83 
                  subst ha
                  refine wpAny_tail 12 rfl (by kernel_rfl) ?_
                  simp only [List.drop_succ_cons, List.drop_zero]
                  have HMu := Lib.hid (HM.out.fr hku)
                  have HOu := Lib.hid (HO2.out.kp hku (fun _ _ h => h))
                  clear hku
                  go_wp2_with (go_at_call 60; refine (net_f1 V C w bn ba g (k + 1) (k + 1) (q + p + r) (netG C r) v5 x0 (ofN (netG C r).2 x1) (ofN (netG C r).2 x2) _ HMu.out HLn.out (by omega) (by have := HR.out; omega) (by have := HR.out; omega) (by omega)).mono ?_; rintro e w2 ⟨rfl, ⟨v', hP⟩, hK⟩)
                  have HP := Lib.hid hP
                  have HO3 := Lib.hid (HOu.out.kp hK (fun j hj hs => by
                    have h1 := (HOu.out.lt j hj).1
                    have h2 := HG5.out
                    rcases hs with h4 | h4 | h4
                    · obtain ⟨c, hc⟩ := HMu.out.n.blkN h4
                      obtain ⟨c', hc'⟩ := HOu.out.rows.blkN hj
                      exact absurd (blkN_type hc hc') (by decide)
                    · omega
                    · omega))
                  clear hP hK
                  go_wp2_with fail
                  go_roundw
                  case rel => exact ⟨r + 1, by go_num, by omega, ⟨v', by rw [HS.out]; exact HP.out⟩, HO3.out⟩
                  case measure => simp [intOf]; omega
                · obtain rfl : r = no := by omega
                  have HE := Lib.hid (show OwnK wy w.heap.size 76 2 v5 ((netOf C).1.map pr2) ∧ Own wy w.heap.size 3 (.slice (some ⟨g, 0, none⟩) (k + 1) (k + 1)) (iv (netOf C).2) ∧ Kp (fun _ => False) w wy from by
                    have h1 := HM.out
                    rw [← HNo.out] at h1
                    exact ⟨h1.n.mono (by omega), h1.a.mono (by omega), h1.kp⟩)
                  have cn := HM.out.cells.2.2.1
                  have ca := HM.out.cells.2.2.2
                  go_upto_region 25 with fail
                  go_quiet (fail)
                  go_wp2_with fail
                  go_ret2
                  exact ⟨_, _, rfl, HE.out.1.drewN _, HE.out.2.1.drewN _, HE.out.2.2.drewN _⟩

end Go.Proofs.YtcnegeggecmncaaGreatDoor

/-
  step: Inputs, Latches, values.is, values.all.
-/
namespace Go.Proofs.YtcnegeggecmncaaGreatDoor
open Go.RowKit

theorem step_Inputs (V : CV) (C : Circ) (p : Nat) (a4 a5 : Option Addr) (c4 c5 : Nat) (w : World) (hM : MAt w 82 V C p a4 c4 a5 c5) (hf : CFew C 1000000) :
    Calls Tryz.prog 40 #[.pointer (some ⟨p, 0, none⟩)] w fun e w' => e = .returned (.int .i64 (C.ins.length : Int)) ∧ w = w' := by
  obtain ⟨n, hn⟩ : ∃ n, C.ins.length = n := ⟨_, rfl⟩
  have hn1 : n ≤ 1000000 := by have := hf.i; omega
  have hB : w.cell? ⟨p, 1, none⟩ = some (.slice V.ai n V.ci) := hM.blk.cell (i := 1) (by rw [← hn]; rfl)
  rw [hn]
  clear hM hf hn
  go_enter Tryz.func40, Tryz.ntmps40
  go_wp2_with fail
  go_ret
  exact ⟨rfl, rfl⟩

theorem step_Latches (V : CV) (C : Circ) (p : Nat) (a4 a5 : Option Addr) (c4 c5 : Nat) (w : World) (hM : MAt w 82 V C p a4 c4 a5 c5) (hf : CFew C 1000000) :
    Calls Tryz.prog 62 #[.pointer (some ⟨p, 0, none⟩)] w fun e w' => e = .returned (.int .i64 (C.lats.length : Int)) ∧ w = w' := by
  obtain ⟨n, hn⟩ : ∃ n, C.lats.length = n := ⟨_, rfl⟩
  have hn1 : n ≤ 1000000 := by have := hf.l; omega
  have hB : w.cell? ⟨p, 2, none⟩ = some (.slice V.al n V.cl) := hM.blk.cell (i := 2) (by rw [← hn]; rfl)
  rw [hn]
  clear hM hf hn
  go_enter Tryz.func62, Tryz.ntmps62
  go_wp2_with fail
  go_ret
  exact ⟨rfl, rfl⟩

set_option maxRecDepth 100000 in
set_option maxHeartbeats 1000000 in
theorem step_is (va : Option Addr) (vn vc : Nat) (vals : List Bool) (a5 : Option Addr) (n5 c5 : Nat) (at_ : List Int) (l : Int) (w : World) (hv : RowAt w va (bv vals)) (hvn : vals.length = vn) (hv1 : vn ≤ 100000000) (h0 : vb vals 0 = false) (ha : RowAt w a5 (iv at_)) (han : at_.length = n5) (ha1 : n5 ≤ 100000000) (l0 : 0 ≤ l) (lq : (l / 2).toNat < n5) (hx : 0 ≤ gi at_ (l / 2).toNat ∧ gi at_ (l / 2).toNat % 2 = 0 ∧ gi at_ (l / 2).toNat ≤ 1000000000) (hp : 0 ≤ ofN at_ l) (hq : (ofN at_ l / 2).toNat < vn) :
    Calls Tryz.prog 67 #[.agg #[.slice va vn vc, .slice a5 n5 c5], .int .i64 l] w fun e w' => e = .returned (.bool (litN vals (ofN at_ l))) ∧ Kp (fun _ => False) w w' := by
  obtain ⟨wz, hwz⟩ : ∃ wz : World, wz = w.alloc (.cells #[.slice va vn vc, .slice a5 n5 c5] 107) := ⟨_, rfl⟩
  have HK0 := Lib.hid (show Kp (fun _ => False) w wz by rw [hwz]; exact (Kp.refl _ w).alloc _)
  have HBk := Lib.hid (show Blk wz w.heap.size #[.slice va vn vc, .slice a5 n5 c5] 107 by rw [hwz]; exact Blk.new _ _ _)
  obtain ⟨q, hqq⟩ : ∃ q : Nat, (l / 2).toNat = q := ⟨_, rfl⟩
  have hd : l / 2 = (q : Int) := by omega
  have hld : l.tdiv 2 = (q : Int) := by rw [Int.tdiv_eq_ediv_of_nonneg l0]; exact hd
  have hl9 : l ≤ 200000002 := by omega
  have hand : bits .and .i64 l 1 = l % 2 := i64_and1 l l0 (by omega)
  have hz : ofN at_ l = gi at_ q + l % 2 := by unfold ofN; rw [hqq]; rw [hqq] at hx; split <;> omega
  rw [hqq] at lq hx
  obtain ⟨b, off, rfl, e0⟩ := ha q _ (iv_at (by omega))
  obtain ⟨y, hy⟩ : ∃ y, gi at_ q = y := ⟨_, rfl⟩
  rw [hy] at e0 hx hz
  have hxor : bits .xor .i64 y (l % 2) = ofN at_ l := by rw [i64_xor1 y l hx.1 hx.2.1 hx.2.2, hz]
  obtain ⟨z, hzz⟩ : ∃ z, ofN at_ l = z := ⟨_, rfl⟩
  rw [hzz] at hp hq hxor ⊢
  have HL := Lib.hid (fun u (hu : Kp (fun _ => False) w u) => sim_Lit va vn vc vals z u (hv.kp hu (fun _ _ h => h)) hvn hv1 h0 hp hq)
  have q0 : (0 : Int) ≤ (q : Int) := by omega
  have q1 : (q : Int) < (n5 : Int) := by omega
  have y0 := hx.1
  have y2 := hx.2.2
  have HZ := Lib.hid hwz
  have HE0 := Lib.hid e0
  clear hv hvn ha han hqq hx hy hz hzz hwz e0
  obtain ⟨F, hF1, hF2⟩ := still_class wz
  have HF1 := Lib.hid hF1
  have HF2 := Lib.hid hF2
  clear hF1 hF2
  have m0 : ∀ y, (F y).cell? ⟨w.heap.size, 0, none⟩ = some (.slice va vn vc) := fun y => (HBk.out.kp (HF1.out y) (fun h => h)).cell rfl
  have m1 : ∀ y, (F y).cell? ⟨w.heap.size, 1, none⟩ = some (.slice (some ⟨b, off, none⟩) n5 c5) := fun y => (HBk.out.kp (HF1.out y) (fun h => h)).cell rfl
  have m2 := fun y => (HF1.out y).cellK (HK0.out.cellK HE0.out)
  have HW := Lib.hid (fun y => (HL.out (F y) (HK0.out.trans (HF1.out y) (fun _ _ h => h))).mono (R' := fun e w' => e = .returned (.bool (litN vals z)) ∧ Kp (fun _ => False) (F y) w') (fun e w' ⟨h1, h2⟩ => ⟨h1, h2 ▸ Kp.refl _ _⟩))
  go_enter Tryz.func67, Tryz.ntmps67
  go_upto_region 1 with fail
  rw [← HZ.out]
  clear HZ
  refine wp_region_kept (by kernel_rfl) (by kernel_rfl) HF2.out ?_
  repeat (go_big_quiet_step (with_reducible first | exact Calls.still_of HF1.out HF2.out (HW.out _)))
  refine wpQuiet_nil ?_
  rintro wB ⟨y, rfl⟩
  have HE := Lib.hid (HK0.out.trans (HF1.out y) (fun _ _ h => h))
  clear m0 m1 m2
  go_wp2_with fail
  go_ret
  exact ⟨rfl, HE.out⟩

end Go.Proofs.YtcnegeggecmncaaGreatDoor

/-
  step: values.all; the literals of a moment.
-/
namespace Go.Proofs.YtcnegeggecmncaaGreatDoor
open Go.RowKit

theorem valsK_head {N : List (Int × Int)} {ins : List Bool} : ∀ k, k ≤ N.length → vb (valsK N ins k).1 0 = false
  | 0, _ => rfl
  | k + 1, h => by
    have ih := valsK_head (N := N) (ins := ins) k (by omega)
    have hl := valsK_len (N := N) (ins := ins) k (by omega)
    rw [valsK_succ (by omega)]
    unfold vb at ih ⊢
    unfold stepV
    split
    · show ((valsK N ins k).1 ++ _)[0]?.getD false = false
      rw [List.getElem?_append_left (by omega)]; exact ih
    · show ((valsK N ins k).1 ++ _)[0]?.getD false = false
      rw [List.getElem?_append_left (by omega)]; exact ih

theorem net_few {C : Circ} (hf : CFew C 1000000) (hg : GoodC C) : (netOf C).1.length ≤ 3000000 ∧ (netOf C).2.length ≤ 20000000 := by
  have hnl := nodes_len C
  have hol := (ordO_at C.gates).len
  have hfi := hf.i
  have hfl := hf.l
  have hfg := hf.g
  refine ⟨by omega, ?_⟩
  have h1 := (netG_inv hg (ordO C.gates).length (Nat.le_refl _)).size
  have h2 := hg.mx
  have h3 := hg.rng.max1
  show (netG C _).2.length ≤ _
  omega

/-- a literal of a moment -/
theorem step_lit {C : Circ} {a5 : Option Addr} {c5 : Nat} {va : Option Addr} {vc : Nat} {st ip : List Bool} {w : World} (hf : CFew C 1000000) (hg : GoodC C) (ha : RowAt w a5 (iv (netOf C).2)) (hv : RowAt w va (bv (valsM C st ip))) :
    ∀ u, Kp (fun _ => False) w u → ∀ l, l ∈ C.used → Calls Tryz.prog 67 #[.agg #[.slice va ((netOf C).1.length + 1) vc, .slice a5 (netOf C).2.length c5], .int .i64 l] u fun e w' => e = .returned (.bool (litM C st ip l)) ∧ Kp (fun _ => False) u w' := fun u hu l hl => by
  obtain ⟨l0, lq, ly0, ly1, ly2, lo0, lo1⟩ := lit_place hg hl
  obtain ⟨h4, h5⟩ := net_few hf hg
  exact step_is va _ vc (valsM C st ip) a5 _ c5 (netOf C).2 l u (hv.kp hu (fun _ _ h => h)) (valsOf_len _ _) (by omega) (valsK_head _ (Nat.le_refl _)) (ha.kp hu (fun _ _ h => h)) rfl (by omega) l0 lq ⟨ly0, ly1, by omega⟩ lo0 (by omega)

set_option maxRecDepth 100000 in
set_option maxHeartbeats 2000000 in
theorem step_all (vs : Array Value) (x0 x1 : Value) (hvs : vs = #[x0, x1]) (la : Option Addr) (ln lc : Nat) (L : List Int) (f : Int → Bool) (w : World) (hL : IntsAt w la L) (hln : L.length = ln) (hl1 : ln ≤ 1000000) (hx0 : x0.oneCell' = true) (hx1 : x1.oneCell' = true)
    (his : ∀ u, Kp (fun _ => False) w u → ∀ l, l ∈ L → Calls Tryz.prog 67 #[.agg vs, .int .i64 l] u fun e w' => e = .returned (.bool (f l)) ∧ Kp (fun _ => False) u w') (sa sb : Option Addr) (m0 d0 m1 d1 : Nat) (e0 : x0 = .slice sa m0 d0) (e1 : x1 = .slice sb m1 d1) :
    Calls Tryz.prog 66 #[.agg vs, .slice la ln lc] w fun e w' => e = .returned (.bool (L.all f)) ∧ Kp (fun _ => False) w w' := by
  subst hvs e0 e1
  obtain ⟨wz, hwz⟩ : ∃ wz : World, wz = w.alloc (.cells #[.slice sa m0 d0, .slice sb m1 d1] 107) := ⟨_, rfl⟩
  have HK0 := Lib.hid (show Kp (fun _ => False) w wz by rw [hwz]; exact (Kp.refl _ w).alloc _)
  have HBk := Lib.hid (show Blk wz w.heap.size #[.slice sa m0 d0, .slice sb m1 d1] 107 by rw [hwz]; exact Blk.new _ _ _)
  have HZ := Lib.hid hwz
  have HL := Lib.hid hL
  have HLn := Lib.hid hln
  have HIs := Lib.hid his
  clear hL hln his hwz hx0 hx1
  go_enter Tryz.func66, Tryz.ntmps66
  go_upto_region 1 with fail
  rw [← HZ.out]
  clear HZ
  go_wp2_with fail
  go_loopw [9] (fun v9 wr => ∃ k : Nat, v9 = .int .i64 k ∧ k ≤ ln ∧ (L.take k).all f = true ∧ Kp (fun _ => False) wz wr) (fun v9 _ => ln - (intOf v9).toNat)
  case atStart => exact ⟨0, rfl, by omega, rfl, Kp.refl _ _⟩
  case round =>
    obtain ⟨k, rfl, hk, hall, hK⟩ := hrel
    obtain ⟨wp, rfl⟩ : ∃ wp : World, wp = wr := ⟨_, rfl⟩
    have HK := Lib.hid hK
    have HKw := Lib.hid (HK0.out.trans hK (fun _ _ h => h))
    have b0 := (HBk.out.kp hK (fun h => h)).cell (i := 0) (v := .slice sa m0 d0) rfl
    have b1 := (HBk.out.kp hK (fun h => h)).cell (i := 1) (v := .slice sb m1 d1) rfl
    clear hK
    by_cases hlt : k < ln
    · have hkl : k < L.length := by rw [HLn.out]; exact hlt
      obtain ⟨b, off, rfl, e0⟩ := IntsAt.get (RowAt.kp HL.out HKw.out (fun _ _ h => h)) hkl
      have hc := HIs.out _ HKw.out _ (gi_mem hkl)
      have hS : (L.take (k + 1)).all f = f (gi L k) := by rw [take_gi hkl, List.all_append, hall]; simp
      have hF : f (gi L k) = false → L.all f = false := fun h => by
        rw [List.all_eq_false]
        exact ⟨_, gi_mem hkl, by rw [h]; simp⟩
      obtain ⟨x, hx⟩ : ∃ x, gi L k = x := ⟨_, rfl⟩
      rw [hx] at e0 hc hS hF
      obtain ⟨y, hy⟩ : ∃ y, f x = y := ⟨_, rfl⟩
      rw [hy] at hc hS hF
      have HC := Lib.hid hc
      have HS := Lib.hid hS
      have HFl := Lib.hid hF
      have i0 : (0 : Int) ≤ (k : Int) := by omega
      have i2 : (k : Int) < (ln : Int) := by omega
      clear hx hy hc hS hF hkl hall
      cases y with
      | true =>
        go_wp2_with (go_at_call 67; with_reducible refine Calls.mono HC.out ?_; rintro e w1 ⟨rfl, hK1⟩; have HK1 := Lib.hid (HK.out.trans hK1 (fun _ _ h => h)); clear hK1)
        go_roundw
        case rel => exact ⟨k + 1, by go_num, by omega, HS.out, HK1.out⟩
        case measure => simp [intOf]; omega
      | false =>
        go_wp2_with (go_at_call 67; with_reducible refine Calls.mono HC.out ?_; rintro e w1 ⟨rfl, hK1⟩; have HK1 := Lib.hid (HK.out.trans hK1 (fun _ _ h => h)); clear hK1)
        go_ret
        exact ⟨by rw [HFl.out (by simp)]; rfl, HK0.out.trans HK1.out (fun _ _ h => h)⟩
    · obtain rfl : k = ln := by omega
      have HE := Lib.hid (show L.all f = true from by rw [List.take_of_length_le (by rw [HLn.out]; exact Nat.le_refl _)] at hall; exact hall)
      clear hall
      go_wp2_with fail
      go_ret
      exact ⟨by rw [HE.out]; rfl, HKw.out⟩

end Go.Proofs.YtcnegeggecmncaaGreatDoor

/-
  step.brought.
-/
namespace Go.Proofs.YtcnegeggecmncaaGreatDoor
open Go.RowKit

theorem brought_take (l : List Bool) (m : Nat) : brought l m = l.take (Nat.min l.length m) ++ List.replicate (m - Nat.min l.length m) false := by
  have hmin : Nat.min l.length m ≤ l.length ∧ Nat.min l.length m ≤ m ∧ (Nat.min l.length m = l.length ∨ Nat.min l.length m = m) := by
    simp only [Nat.min_def]; split <;> omega
  apply List.ext_getElem?
  intro i
  unfold brought
  rw [List.getElem?_map]
  by_cases hi : i < m
  · rw [List.getElem?_range hi]
    show some (vb l i) = _
    by_cases h2 : i < Nat.min l.length m
    · rw [List.getElem?_append_left (by simp; omega), List.getElem?_take, if_pos h2]
      unfold vb
      rw [List.getElem?_eq_getElem (by omega)]; rfl
    · have hlen : (l.take (Nat.min l.length m)).length = Nat.min l.length m := by rw [List.length_take]; omega
      rw [List.getElem?_append_right (by omega), hlen, List.getElem?_replicate, if_pos (by omega)]
      rw [vb_far (by omega)]
  · rw [List.getElem?_eq_none (by simp; omega)]
    rw [List.getElem?_eq_none (by simp; omega)]; rfl

theorem splice_bools (l : List Bool) (m : Nat) : splice (bv (List.replicate m false)) 0 (bv (l.take (Nat.min l.length m))) = bv (brought l m) := by
  have hmin : Nat.min l.length m ≤ l.length ∧ Nat.min l.length m ≤ m := by
    simp only [Nat.min_def]; split <;> omega
  rw [brought_take]
  unfold splice
  have hlen : (bv (l.take (Nat.min l.length m))).length = Nat.min l.length m := by rw [bv_length, List.length_take]; omega
  rw [List.take_zero, List.nil_append, hlen, Nat.zero_add, bv_append]
  congr 1
  unfold bv
  rw [← List.map_drop, List.drop_replicate]

set_option maxRecDepth 100000 in
theorem step_brought (a : Option Addr) (n c : Nat) (l : List Bool) (m : Nat) (w : World) (hr : RowAt w a (bv l)) (hn : l.length = n) (hm : n ≤ 100000000) (hmm : m ≤ 10000000) :
    Calls Tryz.prog 63 #[.slice a n c, .int .i64 m] w fun e w' => ∃ v, e = .returned v ∧ Own w' w.heap.size 4 v (bv (brought l m)) ∧ Kp (fun _ => False) w w' := by
  obtain ⟨i0, hi0, hz0, hz1, hz2⟩ := info_parts (show (Tryz.prog.info? 4).map (fun i => (i.zero, i.size, i.bytes)) = some (some (.bool false), 1, 1) by kernel_rfl)
  have hsz := Lib.hid (show (Tryz.prog.info? 4).map (·.size) = some 1 by kernel_rfl)
  have hmk : ∀ u : World, (Instr.makeSlice 28 (.int .i64 (m : Int)) (.int .i64 (m : Int))).run Tryz.prog u =
      .ok (.slice (some ⟨u.heap.size, 0, none⟩) m m) (u.alloc (.cells (madeCells #[.bool false] m) 4)) := fun u => by
    have h := run_make (P := Tryz.prog) u 28 4 i0 (.bool false) Tryz.underlying28 hi0 hz0 .i64 .i64 (m : Int) (m : Int) (by omega) (Int.le_refl _) (by rw [hz2]; omega) (by omega)
    simpa [hz1, Value.cells] using h
  clear hi0 hz0 hz1 hz2 i0
  obtain ⟨wz, hwz⟩ : ∃ wz : World, wz = w.alloc (.cells (madeCells #[.bool false] m) 4) := ⟨_, rfl⟩
  have HK0 := Lib.hid (show Kp (fun _ => False) w wz by rw [hwz]; exact (Kp.refl _ w).alloc _)
  have HB := Lib.hid (show Blk wz w.heap.size (bv (List.replicate m false)).toArray 4 by rw [hwz, bv_rep, ← made_row]; exact Blk.new _ _ _)
  have HBw := Lib.hid (show Below w.heap.size w wz by rw [hwz]; exact ⟨rfl, rfl, rfl, by simp, fun j hj => Below.heap_alloc w _ j hj⟩)
  obtain ⟨cs, hcs⟩ : ∃ cs, cs = bv (l.take (Nat.min l.length m)) := ⟨_, rfl⟩
  have hmin : Nat.min l.length m ≤ l.length ∧ Nat.min l.length m ≤ m := by
    simp only [Nat.min_def]; split <;> omega
  have hcl : cs.length = Nat.min n m := by rw [hcs, bv_length, ← hn, List.length_take]; omega
  have HCs := Lib.hid hcs
  have HCl := Lib.hid hcl
  have HR := Lib.hid (show RowAt wz a cs from by
    rw [hcs]
    unfold bv
    rw [List.map_take]
    exact (hr.kp HK0.out (fun _ _ h => h)).take _)
  have HOne := Lib.hid (show ∀ v ∈ cs, v.oneCell' = true from by rw [hcs]; exact bv_one _)
  have HLe := Lib.hid (show cs.length ≤ m by rw [hcl, ← hn]; exact hmin.2)
  have HZ := Lib.hid hwz
  clear hr hwz hcs hcl hmin
  go_enter Tryz.func63, Tryz.ntmps63
  go_upto_region 2 with fail
  rw [← HZ.out]
  clear HZ hmk
  go_wp2_with (refine wpList_copy_splice rfl (.tmp 8) (.tmp 9) 28 28 rfl 4 Tryz.underlying28 hsz.out (some ⟨w.heap.size, 0, none⟩) a m m n c rfl rfl w.heap.size 0 (bv (List.replicate m false)) 4 HB.out cs HCl.out ?p1 ?p2 HOne.out w.heap.size w HBw.out (Nat.le_refl _) ?_)
  case p1 =>
    intro h0
    try refine ⟨rfl, ?_⟩
    obtain ⟨b, off, ea, -⟩ := HR.out 0 cs[0] (List.getElem?_eq_getElem h0)
    refine ⟨⟨b, off, none⟩, ea, fun j v hj => ?_⟩
    obtain ⟨b', off', ea', e⟩ := HR.out j v hj
    rw [ea] at ea'
    simp only [Option.some.injEq, Addr.mk.injEq, and_true] at ea'
    obtain ⟨rfl, rfl⟩ := ea'
    rw [add_plain']
    exact e
  case p2 => rw [bv_length]; simp; exact HLe.out
  intro w2 hB2 hBe
  have HE := Lib.hid (show Own w2 w.heap.size 4 (.slice (some ⟨w.heap.size, 0, none⟩) m m) (bv (brought l m)) ∧ Kp (fun _ => False) w w2 from by
    refine ⟨?_, Kp.of_below hBe _⟩
    have h1 : Blk w2 w.heap.size (splice (bv (List.replicate m false)) 0 cs).toArray 4 := hB2.out
    rw [HCs.out, splice_bools] at h1
    have hl : (bv (brought l m)).length = m := by rw [bv_length, brought_len]
    have := Own.lit (base := w.heap.size) h1 (Nat.le_refl _) (by rw [hl]; unfold maxLen; omega)
    rw [hl] at this
    exact this)
  clear hB2 hBe
  go_wp2_with fail
  go_ret
  exact ⟨_, rfl, HE.out⟩

end Go.Proofs.YtcnegeggecmncaaGreatDoor

/-
  step.Machine.in.
-/
namespace Go.Proofs.YtcnegeggecmncaaGreatDoor
open Go.RowKit

set_option maxRecDepth 100000 in
set_option maxHeartbeats 4000000 in
theorem step_in (V : CV) (C : Circ) (p : Nat) (a4 a5 : Option Addr) (c4 c5 : Nat) (sa : Option Addr) (sn sc : Nat) (ia : Option Addr) (in_ ic : Nat) (st ip : List Bool) (w : World) (hM : MAt w 82 V C p a4 c4 a5 c5) (hf : CFew C 1000000) (hg : GoodC C) (hs : BS w sa sn st) (hi : BS w ia in_ ip) :
    Calls Tryz.prog 65 #[.pointer (some ⟨p, 0, none⟩), .slice sa sn sc, .slice ia in_ ic] w fun e w' => (∃ va vc, e = .returned (.agg #[.pointer (some ⟨p, 0, none⟩), .slice va ((netOf C).1.length + 1) vc, .slice a5 (netOf C).2.length c5]) ∧ RowAt w' va (bv (valsM C st ip))) ∧ Kp (fun _ => False) w w' := by
  have HIb := Lib.hid (show (Tryz.prog.info? 4).map (fun i => (i.zero, i.size, i.bytes)) = some (some (.bool false), 1, 1) by kernel_rfl)
  have HNf := Lib.hid (net_few hf hg)
  have HM := Lib.hid hM
  have HF := Lib.hid hf
  have HG := Lib.hid hg
  have HS := Lib.hid hs
  have HI := Lib.hid hi
  have hfi := hf.i
  have hfl := hf.l
  obtain ⟨wz, hwz⟩ : ∃ wz : World, wz = w.alloc (.cells #[.pointer none, .slice none 0 0, .slice none 0 0] 109) := ⟨_, rfl⟩
  have HK0 := Lib.hid (show Kp (fun _ => False) w wz by rw [hwz]; exact (Kp.refl _ w).alloc _)
  have HMb := Lib.hid (show Blk wz w.heap.size #[.pointer none, .slice none 0 0, .slice none 0 0] 109 by rw [hwz]; exact Blk.new _ _ _)
  have HIn := Lib.hid (step_Inputs V C p a4 a5 c4 c5 wz (hM.kp HK0.out) hf)
  have HBi := Lib.hid (step_brought ia in_ ic ip C.ins.length wz (hi.kp HK0.out).row hi.len hi.most (by omega))
  have HLa := Lib.hid (fun u (hu : Kp (fun _ => False) wz u) => step_Latches V C p a4 a5 c4 c5 u (hM.kp (HK0.out.trans hu (fun _ _ h => h))) hf)
  have HBs := Lib.hid (fun u (hu : Kp (fun _ => False) wz u) => step_brought sa sn sc st C.lats.length u (hs.kp (HK0.out.trans hu (fun _ _ h => h))).row hs.len hs.most (by omega))
  have HSz := Lib.hid (show wz.heap.size = w.heap.size + 1 by rw [hwz]; simp)
  have HZ := Lib.hid hwz
  clear hM hf hg hs hi hwz
  go_enter Tryz.func65, Tryz.ntmps65
  go_upto_region 1 with fail
  rw [← HZ.out]
  clear HZ
  go_wp2_with (first
    | (go_at_call 40; with_reducible refine Calls.mono HIn.out ?_; rintro e w1 ⟨rfl, rfl⟩)
    | (go_at_call 62; with_reducible refine Calls.mono (HLa.out _ hKi) ?_; rintro e w1 ⟨rfl, rfl⟩)
    | (go_at_call 63; with_reducible refine Calls.mono HBi.out ?_; rintro e wi ⟨v1, rfl, hOi, hKi⟩)
    | (go_at_call 63; with_reducible refine Calls.mono (HBs.out _ hKi) ?_; rintro e ws ⟨v2, rfl, hOs, hKs⟩; obtain ⟨s2a, s2c, ev2, s2le, s2m, s2nil, -, hr2⟩ := ownForm hOs; rw [bv_length, brought_len] at ev2 s2le; subst ev2; have HO1 := Lib.hid (hOi.kp hKs (fun _ _ h => h)); have HR2 := Lib.hid hr2; have HKz := Lib.hid (hKi.trans hKs (fun _ _ h => h)); clear hOs hKs hOi hKi hr2)
    | (at_builtin; refine wpList_append1s rfl _ _ 28 4 rfl Tryz.underlying28 HIb.out rfl HO1.out rfl s2a C.lats.length s2c (bv (brought st C.lats.length)) rfl ?k0 HR2.out s2nil (bv_one _) ?k1 ?k2 ?k3 ?_))
  case k0 => rw [bv_length, brought_len]
  case k1 => rw [bv_length, brought_len]; omega
  case k2 => rw [bv_length, brought_len]; unfold maxLen; omega
  case k3 => exact HKz.out.size
  intro v9 w2 hO9 hg9 hat9
  have hO9' : Own w2 wz.heap.size 4 v9 (bv (insOf C st ip)) := by unfold insOf; rw [bv_append]; exact hO9
  obtain ⟨n9, hn9⟩ : ∃ n, (insOf C st ip).length = n := ⟨_, rfl⟩
  obtain ⟨a9, c9, ev9, -, -, -, hr9⟩ := hO9'.form
  rw [bv_length, hn9] at ev9
  subst ev9
  have HKy := Lib.hid (show Kp (fun _ => False) wz w2 from HKz.out.grown hg9 (fun j hj hl => by have := (HO1.out.lt j hj).1; omega))
  have HK2 := Lib.hid (HK0.out.trans HKy.out (fun _ _ h => h))
  have HMb2 := Lib.hid (HMb.out.kp HKy.out (fun h => h))
  have HR9 := Lib.hid hr9
  have HN9 := Lib.hid hn9
  have hn91 : n9 ≤ 2000000 := by rw [← hn9, insOf_len]; omega
  have HB := Lib.hid (HM.out.blk.kp HK2.out (fun h => h))
  clear hO9 hO9' hg9 hat9 hr9 hn9 s2nil HO1 HR2 HIn HBi HLa HBs HMb
  go_upto_region 2 with fail
  refine wp_region_loose (p := upTo 13) (V := atV [EqV ((.pointer (some ⟨p, 0, none⟩))), EqV ((.pointer (some ⟨p, 0, none⟩))), EqV (.pointer (some ⟨p, 0, none⟩)), EqV (.pointer (some ⟨p, 9, none⟩)), EqV (.slice a4 (netOf C).1.length c4), EqV ((.slice a9 n9 c9)), (fun u v => Own u (w.heap.size + 1) 4 v (bv (valsM C st ip))), EqV ((.pointer (some ⟨p, 0, none⟩))), EqV (.pointer (some ⟨p, 0, none⟩)), EqV (.pointer (some ⟨p, 10, none⟩)), EqV (.slice a5 (netOf C).2.length c5), (fun u v => ∃ va vc, v = .agg #[.slice va ((netOf C).1.length + 1) vc, .slice a5 (netOf C).2.length c5] ∧ RowAt u va (bv (valsM C st ip)) ∧ ∀ q, va = some q → w.heap.size < q.block), (fun u v => ∃ va vc, v = .agg #[.pointer (some ⟨p, 0, none⟩), .slice va ((netOf C).1.length + 1) vc, .slice a5 (netOf C).2.length c5] ∧ RowAt u va (bv (valsM C st ip)) ∧ ∀ q, va = some q → w.heap.size < q.block)]) (LP := #[true, true, true, true, true, true, true, true, true, true, true, true, true, false]) (K := 1) (by kernel_rfl) (by kernel_rfl) (atV_st ?hstL2) ?hstepL2 (by kernel_rfl) ?hLPL2 (by kernel_rfl) ?hendL2
  case hstL2 =>
    intro W h
    simp only [List.mem_cons, List.not_mem_nil, or_false] at h
    rcases h with rfl | rfl | rfl | rfl | rfl | rfl | rfl | rfl | rfl | rfl | rfl | rfl | rfl <;> first | exact EqV.st _ | exact fun _ _ _ k h => Own.kp h k (fun _ _ h => h) | exact fun _ _ _ k ⟨va, vc, h1, h2, h3⟩ => ⟨va, vc, h1, h2.kp k (fun _ _ h => h), h3⟩
  case hLPL2 => exact upTo_spec (by kernel_rfl)
  case hstepL2 =>
    intro i o ho hp a u hk hoff hdep
    have e0 : a.tmps[0]?.getD undef = (.pointer (some ⟨p, 0, none⟩)) := slot_at (hoff 0 (noDst_spec (by kernel_rfl)))
    have e7 : a.tmps[7]?.getD undef = (.slice a9 n9 c9) := slot_at (hoff 7 (noDst_spec (by kernel_rfl)))
    clear hoff
    match i, ho with
    | 0, ho =>
      obtain rfl := Option.some.inj ho
      refine lw_value (v := (.pointer (some ⟨p, 0, none⟩))) (u' := u) ?_ (Kp.refl _ _) rfl
      go_simp
    | 1, ho =>
      obtain rfl := Option.some.inj ho
      refine lw_value (v := (.pointer (some ⟨p, 0, none⟩))) (u' := u) ?_ (Kp.refl _ _) rfl
      go_simp
    | 2, ho =>
      obtain rfl := Option.some.inj ho
      have e18 : a.tmps[18]?.getD undef = (.pointer (some ⟨p, 0, none⟩)) := slot_at (hdep ⟨1, .data⟩ (by simp) rfl _ 18 rfl rfl)
      refine lw_value (v := .pointer (some ⟨p, 0, none⟩)) (u' := u) ?_ (Kp.refl _ _) rfl
      go_simp
    | 3, ho =>
      obtain rfl := Option.some.inj ho
      have e19 : a.tmps[19]?.getD undef = .pointer (some ⟨p, 0, none⟩) := slot_at (hdep ⟨2, .data⟩ (by simp) rfl _ 19 rfl rfl)
      refine lw_value (v := .pointer (some ⟨p, 9, none⟩)) (u' := u) ?_ (Kp.refl _ _) rfl
      go_simp
    | 4, ho =>
      obtain rfl := Option.some.inj ho
      have e20 : a.tmps[20]?.getD undef = .pointer (some ⟨p, 9, none⟩) := slot_at (hdep ⟨3, .data⟩ (by simp) rfl _ 20 rfl rfl)
      have c1 := (HB.out.kp hk (fun h => h)).cell (i := 9) (v := .slice a4 (netOf C).1.length c4) rfl
      refine lw_value (v := .slice a4 (netOf C).1.length c4) (u' := u) ?_ (Kp.refl _ _) rfl
      go_simp
    | 5, ho =>
      obtain rfl := Option.some.inj ho
      refine lw_value (v := (.slice a9 n9 c9)) (u' := u) ?_ (Kp.refl _ _) rfl
      go_simp
    | 6, ho =>
      obtain rfl := Option.some.inj ho
      have e21 : a.tmps[21]?.getD undef = .slice a4 (netOf C).1.length c4 := slot_at (hdep ⟨4, .data⟩ (by simp) rfl _ 21 rfl rfl)
      have e22 : a.tmps[22]?.getD undef = (.slice a9 n9 c9) := slot_at (hdep ⟨5, .data⟩ (by simp) rfl _ 22 rfl rfl)
      refine lw_call (f := 81) (args := #[.slice a4 (netOf C).1.length c4, .slice a9 n9 c9]) ?_ ?_
      · go_simp
      · exact (sim_Eval a4 (netOf C).1.length c4 (netOf C).1 a9 n9 c9 (insOf C st ip) u (HM.out.net.kp (HK2.out.trans hk (fun _ _ h => h)) (fun _ _ h => h)) rfl (by have := HNf.out.1; omega) HG.out.net (HR9.out.kp hk (fun _ _ h => h)) HN9.out (by omega)).mono (by
          rintro e u' ⟨v, rfl, hO, hK⟩
          exact ⟨v, rfl, hK, hO.mono (by have := hk.size; have := HKy.out.size; have := HSz.out; omega)⟩)
    | 7, ho =>
      obtain rfl := Option.some.inj ho
      refine lw_value (v := (.pointer (some ⟨p, 0, none⟩))) (u' := u) ?_ (Kp.refl _ _) rfl
      go_simp
    | 8, ho =>
      obtain rfl := Option.some.inj ho
      have e24 : a.tmps[24]?.getD undef = (.pointer (some ⟨p, 0, none⟩)) := slot_at (hdep ⟨7, .data⟩ (by simp) rfl _ 24 rfl rfl)
      refine lw_value (v := .pointer (some ⟨p, 0, none⟩)) (u' := u) ?_ (Kp.refl _ _) rfl
      go_simp
    | 9, ho =>
      obtain rfl := Option.some.inj ho
      have e25 : a.tmps[25]?.getD undef = .pointer (some ⟨p, 0, none⟩) := slot_at (hdep ⟨8, .data⟩ (by simp) rfl _ 25 rfl rfl)
      refine lw_value (v := .pointer (some ⟨p, 10, none⟩)) (u' := u) ?_ (Kp.refl _ _) rfl
      go_simp
    | 10, ho =>
      obtain rfl := Option.some.inj ho
      have e26 : a.tmps[26]?.getD undef = .pointer (some ⟨p, 10, none⟩) := slot_at (hdep ⟨9, .data⟩ (by simp) rfl _ 26 rfl rfl)
      have c1 := (HB.out.kp hk (fun h => h)).cell (i := 10) (v := .slice a5 (netOf C).2.length c5) rfl
      refine lw_value (v := .slice a5 (netOf C).2.length c5) (u' := u) ?_ (Kp.refl _ _) rfl
      go_simp
    | 11, ho =>
      obtain rfl := Option.some.inj ho
      have e27 : a.tmps[27]?.getD undef = .slice a5 (netOf C).2.length c5 := slot_at (hdep ⟨10, .data⟩ (by simp) rfl _ 27 rfl rfl)
      have hV : Own u (w.heap.size + 1) 4 (a.tmps.getD 23 undef) (bv (valsM C st ip)) := hdep ⟨6, .data⟩ (by simp) rfl _ 23 rfl rfl
      obtain ⟨va, vc, ev, -, -, hfar, hvr⟩ := hV.form
      rw [bv_length, show (valsM C st ip).length = (netOf C).1.length + 1 from valsOf_len _ _] at ev
      have e23 := slot_at ev
      refine lw_value (v := .agg #[.slice va ((netOf C).1.length + 1) vc, .slice a5 (netOf C).2.length c5]) (u' := u) ?_ (Kp.refl _ _) ⟨va, vc, rfl, hvr, fun q hq => by obtain ⟨g, rfl, hb, -⟩ := hfar q hq; exact hb⟩
      go_simp
    | 12, ho =>
      obtain rfl := Option.some.inj ho
      have e17 : a.tmps[17]?.getD undef = (.pointer (some ⟨p, 0, none⟩)) := slot_at (hdep ⟨0, .data⟩ (by simp) rfl _ 17 rfl rfl)
      obtain ⟨va, vc, ev, hvr, hfar⟩ : ∃ va vc, (a.tmps.getD 28 undef) = .agg #[.slice va ((netOf C).1.length + 1) vc, .slice a5 (netOf C).2.length c5] ∧ RowAt u va (bv (valsM C st ip)) ∧ ∀ q, va = some q → w.heap.size < q.block := hdep ⟨11, .data⟩ (by simp) rfl _ 28 rfl rfl
      have e28 := slot_at ev
      refine lw_value (v := .agg #[.pointer (some ⟨p, 0, none⟩), .slice va ((netOf C).1.length + 1) vc, .slice a5 (netOf C).2.length c5]) (u' := u) ?_ (Kp.refl _ _) ⟨va, vc, rfl, hvr, hfar⟩
      go_simp
    | n + 13, _ => exact absurd hp (by simp [upTo])
  intro a u hI
  have hsz : a.tmps.size = 30 := hI.size
  have hdf : a.defers = [] := hI.defers
  have f0 : a.tmps.getD 0 undef = _ := hI.off 0 (noDst_spec (p := upTo 13) (by kernel_rfl))
  have f1 : a.tmps.getD 1 undef = _ := hI.off 1 (noDst_spec (p := upTo 13) (by kernel_rfl))
  have f2 : a.tmps.getD 2 undef = _ := hI.off 2 (noDst_spec (p := upTo 13) (by kernel_rfl))
  have f3 : a.tmps.getD 3 undef = _ := hI.off 3 (noDst_spec (p := upTo 13) (by kernel_rfl))
  have f4 : a.tmps.getD 4 undef = _ := hI.off 4 (noDst_spec (p := upTo 13) (by kernel_rfl))
  have f5 : a.tmps.getD 5 undef = _ := hI.off 5 (noDst_spec (p := upTo 13) (by kernel_rfl))
  have f6 : a.tmps.getD 6 undef = _ := hI.off 6 (noDst_spec (p := upTo 13) (by kernel_rfl))
  have f7 : a.tmps.getD 7 undef = _ := hI.off 7 (noDst_spec (p := upTo 13) (by kernel_rfl))
  have f8 : a.tmps.getD 8 undef = _ := hI.off 8 (noDst_spec (p := upTo 13) (by kernel_rfl))
  have f9 : a.tmps.getD 9 undef = _ := hI.off 9 (noDst_spec (p := upTo 13) (by kernel_rfl))
  have f10 : a.tmps.getD 10 undef = _ := hI.off 10 (noDst_spec (p := upTo 13) (by kernel_rfl))
  have f11 : a.tmps.getD 11 undef = _ := hI.off 11 (noDst_spec (p := upTo 13) (by kernel_rfl))
  have f12 : a.tmps.getD 12 undef = _ := hI.off 12 (noDst_spec (p := upTo 13) (by kernel_rfl))
  have f13 : a.tmps.getD 13 undef = _ := hI.off 13 (noDst_spec (p := upTo 13) (by kernel_rfl))
  have f14 : a.tmps.getD 14 undef = _ := hI.off 14 (noDst_spec (p := upTo 13) (by kernel_rfl))
  have f15 : a.tmps.getD 15 undef = _ := hI.off 15 (noDst_spec (p := upTo 13) (by kernel_rfl))
  have f16 : a.tmps.getD 16 undef = _ := hI.off 16 (noDst_spec (p := upTo 13) (by kernel_rfl))
  have f17 : a.tmps.getD 17 undef = (.pointer (some ⟨p, 0, none⟩)) := hI.val 0 _ 17 rfl rfl rfl
  have f18 : a.tmps.getD 18 undef = (.pointer (some ⟨p, 0, none⟩)) := hI.val 1 _ 18 rfl rfl rfl
  have f19 : a.tmps.getD 19 undef = .pointer (some ⟨p, 0, none⟩) := hI.val 2 _ 19 rfl rfl rfl
  have f20 : a.tmps.getD 20 undef = .pointer (some ⟨p, 9, none⟩) := hI.val 3 _ 20 rfl rfl rfl
  have f21 : a.tmps.getD 21 undef = .slice a4 (netOf C).1.length c4 := hI.val 4 _ 21 rfl rfl rfl
  have f22 : a.tmps.getD 22 undef = (.slice a9 n9 c9) := hI.val 5 _ 22 rfl rfl rfl
  have g23 : ((fun u v => Own u (w.heap.size + 1) 4 v (bv (valsM C st ip)))) u (a.tmps.getD 23 undef) := hI.val 6 _ 23 rfl rfl rfl
  have f24 : a.tmps.getD 24 undef = (.pointer (some ⟨p, 0, none⟩)) := hI.val 7 _ 24 rfl rfl rfl
  have f25 : a.tmps.getD 25 undef = .pointer (some ⟨p, 0, none⟩) := hI.val 8 _ 25 rfl rfl rfl
  have f26 : a.tmps.getD 26 undef = .pointer (some ⟨p, 10, none⟩) := hI.val 9 _ 26 rfl rfl rfl
  have f27 : a.tmps.getD 27 undef = .slice a5 (netOf C).2.length c5 := hI.val 10 _ 27 rfl rfl rfl
  have g28 : ((fun u v => ∃ va vc, v = .agg #[.slice va ((netOf C).1.length + 1) vc, .slice a5 (netOf C).2.length c5] ∧ RowAt u va (bv (valsM C st ip)) ∧ ∀ q, va = some q → w.heap.size < q.block)) u (a.tmps.getD 28 undef) := hI.val 11 _ 28 rfl rfl rfl
  have g29 : ((fun u v => ∃ va vc, v = .agg #[.pointer (some ⟨p, 0, none⟩), .slice va ((netOf C).1.length + 1) vc, .slice a5 (netOf C).2.length c5] ∧ RowAt u va (bv (valsM C st ip)) ∧ ∀ q, va = some q → w.heap.size < q.block)) u (a.tmps.getD 29 undef) := hI.val 12 _ 29 rfl rfl rfl
  have ha : a = ⟨#[a.tmps.getD 0 undef, a.tmps.getD 1 undef, a.tmps.getD 2 undef, a.tmps.getD 3 undef, a.tmps.getD 4 undef, a.tmps.getD 5 undef, a.tmps.getD 6 undef, a.tmps.getD 7 undef, a.tmps.getD 8 undef, a.tmps.getD 9 undef, a.tmps.getD 10 undef, a.tmps.getD 11 undef, a.tmps.getD 12 undef, a.tmps.getD 13 undef, a.tmps.getD 14 undef, a.tmps.getD 15 undef, a.tmps.getD 16 undef, a.tmps.getD 17 undef, a.tmps.getD 18 undef, a.tmps.getD 19 undef, a.tmps.getD 20 undef, a.tmps.getD 21 undef, a.tmps.getD 22 undef, a.tmps.getD 23 undef, a.tmps.getD 24 undef, a.tmps.getD 25 undef, a.tmps.getD 26 undef, a.tmps.getD 27 undef, a.tmps.getD 28 undef, a.tmps.getD 29 undef], a.defers⟩ := act_list a 30 hsz
  rw [hdf, f0, f1, f2, f3, f4, f5, f6, f7, f8, f9, f10, f11, f12, f13, f14, f15, f16, f17, f18, f19, f20, f21, f22, f24, f25, f26, f27] at ha
  obtain ⟨x23, hx23⟩ : ∃ x, a.tmps.getD 23 undef = x := ⟨_, rfl⟩
  obtain ⟨x28, hx28⟩ : ∃ x, a.tmps.getD 28 undef = x := ⟨_, rfl⟩
  obtain ⟨x29, hx29⟩ : ∃ x, a.tmps.getD 29 undef = x := ⟨_, rfl⟩
  rw [hx23, hx28, hx29] at ha
  rw [hx23] at g23
  rw [hx28] at g28
  rw [hx29] at g29
  have hku := hI.kp
  clear hI hsz hdf f0 f1 f2 f3 f4 f5 f6 f7 f8 f9 f10 f11 f12 f13 f14 f15 f16 f17 f18 f19 f20 f21 f22 f24 f25 f26 f27 hx23 hx28 hx29
  subst ha
  refine wpAny_tail 13 rfl (by kernel_rfl) ?_
  simp only [List.drop_succ_cons, List.drop_zero]
  obtain ⟨va, vc, rfl, hvr, hfar⟩ := g29
  have HFar := Lib.hid hfar
  clear hfar
  have HMu := HMb2.out.kp hku (fun h => h)
  obtain ⟨t0, t1, t2⟩ : u.cell? ⟨w.heap.size, 0, none⟩ = some (.pointer none) ∧ u.cell? ⟨w.heap.size, 1, none⟩ = some (.slice none 0 0) ∧ u.cell? ⟨w.heap.size, 2, none⟩ = some (.slice none 0 0) := ⟨HMu.cell rfl, HMu.cell rfl, HMu.cell rfl⟩
  have z0 := HMu.free 0
  have z1 := HMu.free 1
  have z2 := HMu.free 2
  have HV := Lib.hid hvr
  have HKu := Lib.hid (HK2.out.trans hku (fun _ _ h => h))
  have HMw := Lib.hid HMu
  clear hvr hku HMu g23 g28
  go_wp2_with fail
  have h3 := ((HMw.out.set_same 0 (.pointer (some ⟨p, 0, none⟩))).set_same 1 (.slice va ((netOf C).1.length + 1) vc)).set_same 2 (.slice a5 (netOf C).2.length c5)
  have s0 := h3.cell (i := 0) (v := .pointer (some ⟨p, 0, none⟩)) rfl
  have s1 := h3.cell (i := 1) (v := .slice va ((netOf C).1.length + 1) vc) rfl
  have s2 := h3.cell (i := 2) (v := .slice a5 (netOf C).2.length c5) rfl
  have hkS := (((Kp.refl (fun j => j = w.heap.size) u).setCell (p := ⟨w.heap.size, 0, none⟩) (fun _ => rfl) (.pointer (some ⟨p, 0, none⟩))).setCell (p := ⟨w.heap.size, 1, none⟩) (fun _ => rfl) (.slice va ((netOf C).1.length + 1) vc)).setCell (p := ⟨w.heap.size, 2, none⟩) (fun _ => rfl) (.slice a5 (netOf C).2.length c5)
  have HE := HV.out.kp hkS (fun q hq e => by have := HFar.out q hq; have e2 : q.block = w.heap.size := e; omega)
  have HKe := HKu.out.trans hkS (fun j hj e => by have e2 : j = w.heap.size := e; omega)
  exact bodyPost_ret (v := .agg #[.pointer (some ⟨p, 0, none⟩), .slice va ((netOf C).1.length + 1) vc, .slice a5 (netOf C).2.length c5]) (by simp [results, Tryz.results65, go_sem, s0, s1, s2]) rfl ⟨⟨va, vc, rfl, HE⟩, HKe⟩
end Go.Proofs.YtcnegeggecmncaaGreatDoor

/-
  step: moment.next, Machine.Next.
-/
namespace Go.Proofs.YtcnegeggecmncaaGreatDoor
open Go.RowKit

set_option maxRecDepth 100000 in
set_option maxHeartbeats 2000000 in
theorem step_next (V : CV) (C : Circ) (p : Nat) (a4 a5 : Option Addr) (c4 c5 : Nat) (va : Option Addr) (vc : Nat) (st ip : List Bool) (w : World) (hM : MAt w 82 V C p a4 c4 a5 c5) (hf : CFew C 1000000) (hg : GoodC C) (hv : RowAt w va (bv (valsM C st ip))) :
    Calls Tryz.prog 80 #[.agg #[.pointer (some ⟨p, 0, none⟩), .slice va ((netOf C).1.length + 1) vc, .slice a5 (netOf C).2.length c5]] w fun e w' => ∃ v, e = .returned v ∧ Own w' w.heap.size 4 v (bv (nextM C st ip)) ∧ Kp (fun _ => False) w w' := by
  obtain ⟨nl, hnl⟩ : ∃ n, C.lats.length = n := ⟨_, rfl⟩
  have hnl1 : nl ≤ 1000000 := by have := hf.l; omega
  obtain ⟨i0, hi0, hz0, hz1, hz2⟩ := info_parts (show (Tryz.prog.info? 4).map (fun i => (i.zero, i.size, i.bytes)) = some (some (.bool false), 1, 1) by kernel_rfl)
  have hmk : ∀ u : World, (Instr.makeSlice 28 (.int .i64 (nl : Int)) (.int .i64 (nl : Int))).run Tryz.prog u =
      .ok (.slice (some ⟨u.heap.size, 0, none⟩) nl nl) (u.alloc (.cells (madeCells #[.bool false] nl) 4)) := fun u => by
    have h := run_make (P := Tryz.prog) u 28 4 i0 (.bool false) Tryz.underlying28 hi0 hz0 .i64 .i64 (nl : Int) (nl : Int) (by omega) (Int.le_refl _) (by rw [hz2]; omega) (by omega)
    simpa [hz1, Value.cells] using h
  clear hi0 hz0 hz1 hz2 i0
  have HNl := Lib.hid hnl
  have HL := Lib.hid (step_lit (c5 := c5) (vc := vc) hf hg hM.ats hv)
  have HM := Lib.hid hM
  have HNx := Lib.hid (show (nextM C st ip).length = nl by rw [nextM_len]; exact hnl)
  have HVx := Lib.hid (show ∀ k, k < nl → vb (nextM C st ip) k = litM C st ip (g3 C.lats k).2.1 from fun k hk => by
    unfold vb nextM
    rw [List.getElem?_map, g3_at (by omega)]; rfl)
  obtain ⟨n4, hn4⟩ : ∃ n, (netOf C).1.length + 1 = n := ⟨_, rfl⟩
  obtain ⟨n5, hn5⟩ : ∃ n, (netOf C).2.length = n := ⟨_, rfl⟩
  rw [hn4, hn5] at HL ⊢
  obtain ⟨wa, hwa⟩ : ∃ wa : World, wa = w.alloc (.cells #[.pointer (some ⟨p, 0, none⟩), .slice va n4 vc, .slice a5 n5 c5] 109) := ⟨_, rfl⟩
  obtain ⟨wz, hwz⟩ : ∃ wz : World, wz = wa.alloc (.cells (madeCells #[.bool false] nl) 4) := ⟨_, rfl⟩
  have hwas : wa.heap.size = w.heap.size + 1 := by rw [hwa]; simp
  have hKa : Kp (fun _ => False) w wa := by rw [hwa]; exact (Kp.refl _ w).alloc _
  have hBa : Blk wa w.heap.size #[.pointer (some ⟨p, 0, none⟩), .slice va n4 vc, .slice a5 n5 c5] 109 := by rw [hwa]; exact Blk.new _ _ _
  have HLa := Lib.hid (step_Latches V C p a4 a5 c4 c5 wa (hM.kp hKa) hf)
  rw [hnl] at HLa
  have HK0 := Lib.hid (show Kp (fun _ => False) w wz by rw [hwz]; exact hKa.alloc _)
  have HB0 := Lib.hid (show Blk wz w.heap.size #[.pointer (some ⟨p, 0, none⟩), .slice va n4 vc, .slice a5 n5 c5] 109 by rw [hwz]; exact hBa.alloc _)
  have HO0 : Hid (Own wz (w.heap.size + 1) 4 (.slice (some ⟨wa.heap.size, 0, none⟩) nl nl) (bv (laid (nextM C st ip) nl 0))) := Lib.hid (by rw [hwz, laid_zero]; exact made_bools0 (by unfold maxLen; omega) (by omega))
  have HWs := Lib.hid hwas
  have HZa := Lib.hid hwa
  have HZ := Lib.hid hwz
  have m0 := hBa.cell (i := 0) (v := .pointer (some ⟨p, 0, none⟩)) rfl
  have m1 := HB0.out.cell (i := 0) (v := .pointer (some ⟨p, 0, none⟩)) rfl
  have m2 : wz.cell? ⟨p, 2, none⟩ = some (.slice V.al nl V.cl) := (HM.out.blk.kp HK0.out (fun h => h)).cell (i := 2) (by rw [← hnl]; rfl)
  clear hM hf hg hv hnl hn4 hn5 hwa hwz hwas hKa hBa
  go_enter Tryz.func80, Tryz.ntmps80
  go_upto_region 1 with fail
  rw [← HZa.out]
  go_upto_region 2 with (go_at_call 62; with_reducible refine Calls.mono HLa.out ?_; rintro e w1 ⟨rfl, rfl⟩)
  rw [← HZ.out]
  generalize hgr : wa.heap.size = gr at HO0 HWs ⊢
  clear HZ HZa hmk HLa m0 hgr
  go_wp2_with fail
  clear m1 m2
  go_loopw [17] (fun v17 wr => ∃ k : Nat, v17 = .int .i64 k ∧ k ≤ nl ∧ Own wr (w.heap.size + 1) 4 (.slice (some ⟨gr, 0, none⟩) nl nl) (bv (laid (nextM C st ip) nl k)) ∧ Blk wr w.heap.size #[.pointer (some ⟨p, 0, none⟩), .slice va n4 vc, .slice a5 n5 c5] 109 ∧ Kp (fun _ => False) w wr) (fun v17 _ => nl - (intOf v17).toNat)
  case atStart => exact ⟨0, rfl, by omega, HO0.out, HB0.out, HK0.out⟩
  case round =>
    obtain ⟨k, rfl, hk, hO, hB, hK⟩ := hrel
    clear HO0 HB0 HK0
    obtain ⟨wp, rfl⟩ : ∃ wp : World, wp = wr := ⟨_, rfl⟩
    have HO := Lib.hid hO
    have HB := Lib.hid hB
    have HK := Lib.hid hK
    clear hO hB hK
    by_cases hlt : k < nl
    · have hkl : k < C.lats.length := by rw [HNl.out]; exact hlt
      obtain ⟨b, off, ea, hE⟩ := HM.out.circ.latCell hkl
      obtain ⟨e0, e1, e2⟩ := hE _ HK.out
      obtain ⟨x0, hx0⟩ : ∃ x, (g3 C.lats k).1 = x := ⟨_, rfl⟩
      obtain ⟨x1, hx1⟩ : ∃ x, (g3 C.lats k).2.1 = x := ⟨_, rfl⟩
      obtain ⟨x2, hx2⟩ : ∃ x, (g3 C.lats k).2.2 = x := ⟨_, rfl⟩
      have hvx := HVx.out k hlt
      obtain ⟨wv, hwv⟩ : ∃ wv : World, wv = wp.alloc (.cells #[.int .i64 x0, .int .i64 x1, .int .i64 x2] 48) := ⟨_, rfl⟩
      have hKv : Kp (fun _ => False) wp wv := by rw [hwv]; exact (Kp.refl _ wp).alloc _
      have hc := HL.out wv (HK.out.trans hKv (fun _ _ h => h)) _ (lat_used hkl)
      rw [hx1] at hc hvx e1
      rw [hx0] at e0
      rw [hx2] at e2
      obtain ⟨y, hy⟩ : ∃ y, litM C st ip x1 = y := ⟨_, rfl⟩
      rw [hy] at hc hvx
      have HC := Lib.hid hc
      have HVk := Lib.hid hvx
      have i0 : (0 : Int) ≤ (k : Int) := by omega
      have i2 : (k : Int) < (nl : Int) := by omega
      have nb : wv.cell? ⟨wp.heap.size, 1, none⟩ = some (.int .i64 x1) := by rw [hwv]; exact (Blk.new wp _ _).cell rfl
      have b1 := (HB.out.kp hKv (fun h => h)).cell (i := 1) (v := .slice va n4 vc) rfl
      have b2 := (HB.out.kp hKv (fun h => h)).cell (i := 2) (v := .slice a5 n5 c5) rfl
      have HKv := Lib.hid hKv
      have HZv := Lib.hid hwv
      rw [ea]
      clear hx0 hx1 hx2 hy hc hvx hE ea hkl hwv hKv
      go_upto_region 5 with fail
      rw [← HZv.out]
      clear HZv e0 e1 e2
      go_wp2_with (go_at_call 67; with_reducible refine Calls.mono HC.out ?_; rintro e w1 ⟨rfl, hK1⟩; have HK1 := Lib.hid (HKv.out.trans hK1 (fun _ _ h => h)); have ck := (HO.out.kp HK1.out (fun _ _ h => h)).cell (j := k) (bv_at (by rw [laid_len HNx.out hk]; exact hlt)); have fk := (HO.out.kp HK1.out (fun _ _ h => h)).free k; clear hK1)
      have h1 := (HO.out.kp HK1.out (fun _ _ h => h)).set k (.bool y)
      have h2 := laid_step HNx.out hlt
      rw [HVk.out] at h2
      rw [bv_set, h2] at h1
      have h3 := (HB.out.kp HK1.out (fun h => h)).kp (Kp.set w1 ⟨gr, k, none⟩ (.bool y)) (fun e => by have e2 : w.heap.size = gr := e; have := HWs.out; omega)
      have h4 := (HK.out.trans HK1.out (fun _ _ h => h)).setCell (p := ⟨gr, k, none⟩) (fun hl => by have h5 : gr < w.heap.size := hl; have := HWs.out; omega) (.bool y)
      exact ⟨⟨k + 1, by go_num, by omega, h1, h3, h4⟩, by simp [intOf]; omega⟩
    · obtain rfl : k = nl := by omega
      have HE := Lib.hid (show Own wp w.heap.size 4 (.slice (some ⟨gr, 0, none⟩) k k) (bv (nextM C st ip)) from by have := HO.out; rw [laid_full HNx.out] at this; exact this.mono (by omega))
      go_wp2_with fail
      go_ret
      exact ⟨_, rfl, HE.out, HK.out⟩

set_option maxRecDepth 100000 in
theorem step_Next (V : CV) (C : Circ) (p : Nat) (a4 a5 : Option Addr) (c4 c5 : Nat) (sa : Option Addr) (sn sc : Nat) (ia : Option Addr) (in_ ic : Nat) (st ip : List Bool) (w : World) (hM : MAt w 82 V C p a4 c4 a5 c5) (hf : CFew C 1000000) (hg : GoodC C) (hs : BS w sa sn st) (hi : BS w ia in_ ip) :
    Calls Tryz.prog 64 #[.pointer (some ⟨p, 0, none⟩), .slice sa sn sc, .slice ia in_ ic] w fun e w' => ∃ v, e = .returned v ∧ Own w' w.heap.size 4 v (bv (nextM C st ip)) ∧ Kp (fun _ => False) w w' := by
  have H1 := Lib.hid (step_in V C p a4 a5 c4 c5 sa sn sc ia in_ ic st ip w hM hf hg hs hi)
  have H2 := Lib.hid (fun w1 va vc (hk : Kp (fun _ => False) w w1) hv => step_next V C p a4 a5 c4 c5 va vc st ip w1 (hM.kp hk) hf hg hv)
  clear hM hf hg hs hi
  go_enter Tryz.func64, Tryz.ntmps64
  go_wp2_with (first
    | (go_at_call 65; with_reducible refine Calls.mono H1.out ?_; rintro e w1 ⟨⟨va, vc, rfl, hv1⟩, hK1⟩)
    | (go_at_call 80; with_reducible refine Calls.mono (H2.out _ _ _ hK1 hv1) ?_; rintro e w2 ⟨v2, rfl, hO2, hK2⟩))
  have HE := Lib.hid (And.intro (hO2.mono hK1.size) (hK1.trans hK2 (fun _ _ h => h)))
  clear hO2 hK2 hK1 hv1
  try go_wp2_with fail
  go_ret
  exact ⟨_, rfl, HE.out⟩

end Go.Proofs.YtcnegeggecmncaaGreatDoor

/-
  step.Starts.
-/
namespace Go.Proofs.YtcnegeggecmncaaGreatDoor
open Go.RowKit

set_option maxRecDepth 100000 in
set_option maxHeartbeats 4000000 in
theorem step_Starts (V : CV) (C : Circ) (p : Nat) (a4 a5 : Option Addr) (c4 c5 : Nat) (sa : Option Addr) (sn sc : Nat) (st : List Bool) (w : World) (hM : MAt w 82 V C p a4 c4 a5 c5) (hf : CFew C 1000000) (hg : GoodC C) (hs : BS w sa sn st) :
    Calls Tryz.prog 38 #[.pointer (some ⟨p, 0, none⟩), .slice sa sn sc] w fun e w' => e = .returned (.bool (startsM C st)) ∧ Kp (fun _ => False) w w' := by
  obtain ⟨nl, hnl⟩ : ∃ n, C.lats.length = n := ⟨_, rfl⟩
  have hnl1 : nl ≤ 1000000 := by have := hf.l; omega
  have HNl := Lib.hid hnl
  have hB : w.cell? ⟨p, 2, none⟩ = some (.slice V.al nl V.cl) := hM.blk.cell (i := 2) (by rw [← hnl]; rfl)
  have HLa := Lib.hid (step_Latches V C p a4 a5 c4 c5 w hM hf)
  rw [hnl] at HLa
  have HRes := Lib.hid (show ∀ k, k < nl → 0 ≤ (g3 C.lats k).2.2 from fun k hk => by
    have h1 := hg.rng.res _ (g3_mem (G := C.lats) (i := k) (by omega))
    have h2 := hg.rng.own _ (lat_own (C := C) (i := k) (by omega))
    omega)
  have HM := Lib.hid hM
  have HS := Lib.hid hs
  have hsm := hs.most
  obtain ⟨r, hr⟩ : ∃ r, startsM C st = r := ⟨_, rfl⟩
  rw [hr]
  unfold startsM at hr
  rw [hnl, hs.len] at hr
  clear hM hf hg hs hnl
  by_cases hl : sn = nl
  · rw [decide_eq_true hl, Bool.true_and] at hr
    have HR := Lib.hid hr
    have q0 : ((sn : Int) == (nl : Int)) = true := by simp [hl]
    subst hl
    clear hr
    go_enter Tryz.func38, Tryz.ntmps38
    go_wp2_with (go_at_call 62; with_reducible refine Calls.mono HLa.out ?_; rintro e w1 ⟨rfl, rfl⟩)
    go_loopw [22] (fun v22 wr => ∃ k : Nat, v22 = .int .i64 k ∧ k ≤ sn ∧ (List.range k).all (fun k => startOk (g3 C.lats k).2.2 (vb st k)) = true ∧ Kp (fun _ => False) w wr) (fun v22 _ => sn - (intOf v22).toNat)
    case atStart => exact ⟨0, rfl, by omega, rfl, Kp.refl _ _⟩
    case round =>
      obtain ⟨k, rfl, hk, hall, hK⟩ := hrel
      obtain ⟨wp, rfl⟩ : ∃ wp : World, wp = wr := ⟨_, rfl⟩
      have HK := Lib.hid hK
      clear hK
      by_cases hlt : k < sn
      · have hkl : k < C.lats.length := by rw [HNl.out]; exact hlt
        obtain ⟨b, off, ea, hE⟩ := HM.out.circ.latCell hkl
        obtain ⟨e0, e1, e2⟩ := hE _ HK.out
        obtain ⟨b3, off3, ea3, e3⟩ := HS.out.row k _ (bv_at (by rw [HS.out.len]; exact hlt))
        have e3 := HK.out.cellK e3
        have hS := all_range_succ (fun k => startOk (g3 C.lats k).2.2 (vb st k)) k
        rw [hall, Bool.true_and] at hS
        have hF : startOk (g3 C.lats k).2.2 (vb st k) = false → r = false := fun h => by
          rw [← HR.out]; exact all_range_lt hlt h
        have hrs := HRes.out k hlt
        obtain ⟨y0, hy0⟩ : ∃ x, (g3 C.lats k).1 = x := ⟨_, rfl⟩
        obtain ⟨y1, hy1⟩ : ∃ x, (g3 C.lats k).2.1 = x := ⟨_, rfl⟩
        obtain ⟨x, hx⟩ : ∃ x, (g3 C.lats k).2.2 = x := ⟨_, rfl⟩
        obtain ⟨y, hy⟩ : ∃ y, vb st k = y := ⟨_, rfl⟩
        rw [hy0] at e0
        rw [hy1] at e1
        rw [hx] at e2 hrs
        rw [hy] at e3
        rw [hx, hy] at hS hF
        have HSS := Lib.hid hS
        have HFl := Lib.hid hF
        rw [ea]
        subst ea3
        have i0 : (0 : Int) ≤ (k : Int) := by omega
        have i2 : (k : Int) < (sn : Int) := by omega
        have hka := (Kp.refl (fun _ => False) wp).alloc (.cells #[.int .i64 y0, .int .i64 y1, .int .i64 x] 48)
        have nb := (Blk.new wp #[.int .i64 y0, .int .i64 y1, .int .i64 x] 48).cell (i := 2) (v := .int .i64 x) rfl
        have e4 := hka.cellK e3
        have HKa := Lib.hid (HK.out.trans hka (fun _ _ h => h))
        clear hx hy hy0 hy1 hS hF hE ea hkl hall hka
        by_cases x0 : x = 0
        · subst x0
          cases y with
          | true =>
            obtain rfl : r = false := HFl.out rfl
            go_upto_region 6 with fail
            go_quiet (fail)
            go_wp2_with fail
            go_ret
            exact ⟨rfl, HKa.out.drewN _⟩
          | false =>
            go_upto_region 6 with fail
            go_quiet (fail)
            go_wp2_with fail
            exact ⟨⟨k + 1, by go_num, by omega, by rw [HSS.out]; rfl, HKa.out.drewN _⟩, by simp [intOf]; omega⟩
        · by_cases x1 : x = 1
          · subst x1
            cases y with
            | false =>
              obtain rfl : r = false := HFl.out rfl
              clear x0
              go_upto_region 6 with fail
              go_quiet (fail)
              go_wp2_with fail
              go_ret
              exact ⟨rfl, HKa.out.drewN _⟩
            | true =>
              clear x0
              go_upto_region 6 with fail
              go_quiet (fail)
              go_wp2_with fail
              exact ⟨⟨k + 1, by go_num, by omega, by rw [HSS.out]; rfl, HKa.out.drewN _⟩, by simp [intOf]; omega⟩
          · have z1 : decide (x < 2) = false := decide_eq_false (by omega)
            have z2 : ¬ x < 2 := by omega
            have HOk := Lib.hid (show startOk x y = true by unfold startOk; rw [decide_eq_false x0, decide_eq_false x1]; rfl)
            clear x0 x1
            go_upto_region 6 with fail
            go_quiet (fail)
            go_wp2_with fail
            exact ⟨⟨k + 1, by go_num, by omega, by rw [HSS.out, HOk.out], HKa.out.drewN _⟩, by simp [intOf]; omega⟩
      · obtain rfl : k = sn := by omega
        obtain rfl : r = true := by rw [← HR.out]; exact hall
        clear hall
        go_wp2_with fail
        go_ret
        exact ⟨rfl, HK.out⟩
  · rw [decide_eq_false hl, Bool.false_and] at hr
    subst hr
    have q0 : ((sn : Int) == (nl : Int)) = false := by simp; omega
    clear hl
    go_enter Tryz.func38, Tryz.ntmps38
    go_wp2_with (go_at_call 62; with_reducible refine Calls.mono HLa.out ?_; rintro e w1 ⟨rfl, rfl⟩)
    go_ret
    exact ⟨rfl, Kp.refl _ _⟩

end Go.Proofs.YtcnegeggecmncaaGreatDoor

/-
  step.States.
-/
namespace Go.Proofs.YtcnegeggecmncaaGreatDoor
open Go.RowKit

set_option maxRecDepth 100000 in
set_option maxHeartbeats 4000000 in
theorem step_States (V : CV) (C : Circ) (p : Nat) (a4 a5 : Option Addr) (c4 c5 : Nat) (sa : Option Addr) (sn sc : Nat) (ga : Option Addr) (gn_ gc : Nat) (st : List Bool) (rows : List (List Bool)) (w : World) (hM : MAt w 82 V C p a4 c4 a5 c5) (hf : CFew C 1000000) (hg : GoodC C) (hs : BS w sa sn st) (hi : GS w ga gn_ gc rows) :
    Calls Tryz.prog 39 #[.pointer (some ⟨p, 0, none⟩), .agg #[.slice sa sn sc, .slice ga gn_ gc]] w fun e w' => ∃ v, e = .returned v ∧ (∃ v6, SL C st rows w.heap.size gn_ v v6 w') ∧ Kp (fun _ => False) w w' := by
  have HIs := Lib.hid (show (Tryz.prog.info? 28).map (fun i => (i.zero, i.size, i.bytes)) = some (some (.slice none 0 0), 1, 24) by kernel_rfl)
  obtain ⟨nl, hnl⟩ : ∃ n, C.lats.length = n := ⟨_, rfl⟩
  have hnl1 : nl ≤ 1000000 := by have := hf.l; omega
  have HNl := Lib.hid hnl
  have HB := Lib.hid (show ∀ u, Kp (fun _ => False) w u → u.cell? ⟨p, 2, none⟩ = some (.slice V.al nl V.cl) from fun u hu => (hM.blk.kp hu (fun h => h)).cell (i := 2) (by rw [← hnl]; rfl))
  obtain ⟨wz, hwz⟩ : ∃ wz : World, wz = w.alloc (.cells #[.slice sa sn sc, .slice ga gn_ gc] 31) := ⟨_, rfl⟩
  have HK0 := Lib.hid (show Kp (fun _ => False) w wz by rw [hwz]; exact (Kp.refl _ w).alloc _)
  have HRb := Lib.hid (show Blk wz w.heap.size #[.slice sa sn sc, .slice ga gn_ gc] 31 by rw [hwz]; exact Blk.new _ _ _)
  have HZ := Lib.hid hwz
  have HM := Lib.hid hM
  have HF := Lib.hid hf
  have HG := Lib.hid hg
  have HS := Lib.hid hs
  have HGs := Lib.hid hi
  have HLt := Lib.hid (show wz.heap.size = w.heap.size + 1 by rw [hwz]; simp)
  have hgn := hi.most
  clear hM hf hg hs hi hnl hwz
  go_enter Tryz.func39, Tryz.ntmps39
  go_upto_region 1 with fail
  rw [← HZ.out]
  clear HZ
  go_upto_region 4 with fail
  refine wp_region_loose (p := upTo 5) (V := atV [EqV (.pointer (some ⟨w.heap.size, 0, none⟩)), EqV (.slice sa sn sc), EqV ((.pointer (some ⟨p, 0, none⟩))), EqV (.int .i64 (nl : Int)), (fun u v => Own u wz.heap.size 4 v (bv (stateM C st rows 0)))]) (LP := #[true, true, true, true, true, false]) (K := 1) (by kernel_rfl) (by kernel_rfl) (atV_st ?hstL1) ?hstepL1 (by kernel_rfl) ?hLPL1 (by kernel_rfl) ?hendL1
  case hstL1 =>
    intro W h
    simp only [List.mem_cons, List.not_mem_nil, or_false] at h
    rcases h with rfl | rfl | rfl | rfl | rfl <;> first | exact EqV.st _ | exact fun _ _ _ k h => Own.kp h k (fun _ _ h => h)
  case hLPL1 => exact upTo_spec (by kernel_rfl)
  case hstepL1 =>
    intro i o ho hp a u hk hoff hdep
    have e0 : a.tmps[0]?.getD undef = (.pointer (some ⟨p, 0, none⟩)) := slot_at (hoff 0 (noDst_spec (by kernel_rfl)))
    have e3 : a.tmps[3]?.getD undef = (.pointer (some ⟨w.heap.size, 0, none⟩)) := slot_at (hoff 3 (noDst_spec (by kernel_rfl)))
    clear hoff
    match i, ho with
    | 0, ho =>
      obtain rfl := Option.some.inj ho
      refine lw_value (v := .pointer (some ⟨w.heap.size, 0, none⟩)) (u' := u) ?_ (Kp.refl _ _) rfl
      go_simp
    | 1, ho =>
      obtain rfl := Option.some.inj ho
      have e11 : a.tmps[11]?.getD undef = .pointer (some ⟨w.heap.size, 0, none⟩) := slot_at (hdep ⟨0, .data⟩ (by simp) rfl _ 11 rfl rfl)
      have c1 := (HRb.out.kp hk (fun h => h)).cell (i := 0) (v := .slice sa sn sc) rfl
      refine lw_value (v := .slice sa sn sc) (u' := u) ?_ (Kp.refl _ _) rfl
      go_simp
    | 2, ho =>
      obtain rfl := Option.some.inj ho
      refine lw_value (v := (.pointer (some ⟨p, 0, none⟩))) (u' := u) ?_ (Kp.refl _ _) rfl
      go_simp
    | 3, ho =>
      obtain rfl := Option.some.inj ho
      have e13 : a.tmps[13]?.getD undef = (.pointer (some ⟨p, 0, none⟩)) := slot_at (hdep ⟨2, .data⟩ (by simp) rfl _ 13 rfl rfl)
      refine lw_call (f := 62) (args := #[.pointer (some ⟨p, 0, none⟩)]) ?_ ?_
      · go_simp
      · exact (step_Latches V C p a4 a5 c4 c5 u (HM.out.kp (HK0.out.trans hk (fun _ _ h => h))) HF.out).mono (by
          rintro e u' ⟨rfl, rfl⟩
          rw [HNl.out]
          exact ⟨_, rfl, Kp.refl _ _, rfl⟩)
    | 4, ho =>
      obtain rfl := Option.some.inj ho
      have e12 : a.tmps[12]?.getD undef = .slice sa sn sc := slot_at (hdep ⟨1, .data⟩ (by simp) rfl _ 12 rfl rfl)
      have e14 : a.tmps[14]?.getD undef = .int .i64 (nl : Int) := slot_at (hdep ⟨3, .data⟩ (by simp) rfl _ 14 rfl rfl)
      refine lw_call (f := 63) (args := #[.slice sa sn sc, .int .i64 (nl : Int)]) ?_ ?_
      · go_simp
      · exact (step_brought sa sn sc st nl u ((HS.out.kp (HK0.out.trans hk (fun _ _ h => h))).row) HS.out.len HS.out.most (by omega)).mono (by
          rintro e u' ⟨v, rfl, hO, hK⟩
          rw [← HNl.out] at hO
          exact ⟨v, rfl, hK, hO.mono hk.size⟩)
    | n + 5, _ => exact absurd hp (by simp [upTo])
  intro a u hI
  have hsz : a.tmps.size = 33 := hI.size
  have hdf : a.defers = [] := hI.defers
  have f0 : a.tmps.getD 0 undef = _ := hI.off 0 (noDst_spec (p := upTo 5) (by kernel_rfl))
  have f1 : a.tmps.getD 1 undef = _ := hI.off 1 (noDst_spec (p := upTo 5) (by kernel_rfl))
  have f2 : a.tmps.getD 2 undef = _ := hI.off 2 (noDst_spec (p := upTo 5) (by kernel_rfl))
  have f3 : a.tmps.getD 3 undef = _ := hI.off 3 (noDst_spec (p := upTo 5) (by kernel_rfl))
  have f4 : a.tmps.getD 4 undef = _ := hI.off 4 (noDst_spec (p := upTo 5) (by kernel_rfl))
  have f5 : a.tmps.getD 5 undef = _ := hI.off 5 (noDst_spec (p := upTo 5) (by kernel_rfl))
  have f6 : a.tmps.getD 6 undef = _ := hI.off 6 (noDst_spec (p := upTo 5) (by kernel_rfl))
  have f7 : a.tmps.getD 7 undef = _ := hI.off 7 (noDst_spec (p := upTo 5) (by kernel_rfl))
  have f8 : a.tmps.getD 8 undef = _ := hI.off 8 (noDst_spec (p := upTo 5) (by kernel_rfl))
  have f9 : a.tmps.getD 9 undef = _ := hI.off 9 (noDst_spec (p := upTo 5) (by kernel_rfl))
  have f10 : a.tmps.getD 10 undef = _ := hI.off 10 (noDst_spec (p := upTo 5) (by kernel_rfl))
  have f16 : a.tmps.getD 16 undef = _ := hI.off 16 (noDst_spec (p := upTo 5) (by kernel_rfl))
  have f17 : a.tmps.getD 17 undef = _ := hI.off 17 (noDst_spec (p := upTo 5) (by kernel_rfl))
  have f18 : a.tmps.getD 18 undef = _ := hI.off 18 (noDst_spec (p := upTo 5) (by kernel_rfl))
  have f19 : a.tmps.getD 19 undef = _ := hI.off 19 (noDst_spec (p := upTo 5) (by kernel_rfl))
  have f20 : a.tmps.getD 20 undef = _ := hI.off 20 (noDst_spec (p := upTo 5) (by kernel_rfl))
  have f21 : a.tmps.getD 21 undef = _ := hI.off 21 (noDst_spec (p := upTo 5) (by kernel_rfl))
  have f22 : a.tmps.getD 22 undef = _ := hI.off 22 (noDst_spec (p := upTo 5) (by kernel_rfl))
  have f23 : a.tmps.getD 23 undef = _ := hI.off 23 (noDst_spec (p := upTo 5) (by kernel_rfl))
  have f24 : a.tmps.getD 24 undef = _ := hI.off 24 (noDst_spec (p := upTo 5) (by kernel_rfl))
  have f25 : a.tmps.getD 25 undef = _ := hI.off 25 (noDst_spec (p := upTo 5) (by kernel_rfl))
  have f26 : a.tmps.getD 26 undef = _ := hI.off 26 (noDst_spec (p := upTo 5) (by kernel_rfl))
  have f27 : a.tmps.getD 27 undef = _ := hI.off 27 (noDst_spec (p := upTo 5) (by kernel_rfl))
  have f28 : a.tmps.getD 28 undef = _ := hI.off 28 (noDst_spec (p := upTo 5) (by kernel_rfl))
  have f29 : a.tmps.getD 29 undef = _ := hI.off 29 (noDst_spec (p := upTo 5) (by kernel_rfl))
  have f30 : a.tmps.getD 30 undef = _ := hI.off 30 (noDst_spec (p := upTo 5) (by kernel_rfl))
  have f31 : a.tmps.getD 31 undef = _ := hI.off 31 (noDst_spec (p := upTo 5) (by kernel_rfl))
  have f32 : a.tmps.getD 32 undef = _ := hI.off 32 (noDst_spec (p := upTo 5) (by kernel_rfl))
  have f11 : a.tmps.getD 11 undef = .pointer (some ⟨w.heap.size, 0, none⟩) := hI.val 0 _ 11 rfl rfl rfl
  have f12 : a.tmps.getD 12 undef = .slice sa sn sc := hI.val 1 _ 12 rfl rfl rfl
  have f13 : a.tmps.getD 13 undef = (.pointer (some ⟨p, 0, none⟩)) := hI.val 2 _ 13 rfl rfl rfl
  have f14 : a.tmps.getD 14 undef = .int .i64 (nl : Int) := hI.val 3 _ 14 rfl rfl rfl
  have g15 : ((fun u v => Own u wz.heap.size 4 v (bv (stateM C st rows 0)))) u (a.tmps.getD 15 undef) := hI.val 4 _ 15 rfl rfl rfl
  have ha : a = ⟨#[a.tmps.getD 0 undef, a.tmps.getD 1 undef, a.tmps.getD 2 undef, a.tmps.getD 3 undef, a.tmps.getD 4 undef, a.tmps.getD 5 undef, a.tmps.getD 6 undef, a.tmps.getD 7 undef, a.tmps.getD 8 undef, a.tmps.getD 9 undef, a.tmps.getD 10 undef, a.tmps.getD 11 undef, a.tmps.getD 12 undef, a.tmps.getD 13 undef, a.tmps.getD 14 undef, a.tmps.getD 15 undef, a.tmps.getD 16 undef, a.tmps.getD 17 undef, a.tmps.getD 18 undef, a.tmps.getD 19 undef, a.tmps.getD 20 undef, a.tmps.getD 21 undef, a.tmps.getD 22 undef, a.tmps.getD 23 undef, a.tmps.getD 24 undef, a.tmps.getD 25 undef, a.tmps.getD 26 undef, a.tmps.getD 27 undef, a.tmps.getD 28 undef, a.tmps.getD 29 undef, a.tmps.getD 30 undef, a.tmps.getD 31 undef, a.tmps.getD 32 undef], a.defers⟩ := act_list a 33 hsz
  rw [hdf, f0, f1, f2, f3, f4, f5, f6, f7, f8, f9, f10, f11, f12, f13, f14, f16, f17, f18, f19, f20, f21, f22, f23, f24, f25, f26, f27, f28, f29, f30, f31, f32] at ha
  obtain ⟨x15, hx15⟩ : ∃ x, a.tmps.getD 15 undef = x := ⟨_, rfl⟩
  rw [hx15] at ha
  rw [hx15] at g15
  have hku := hI.kp
  clear hI hsz hdf f0 f1 f2 f3 f4 f5 f6 f7 f8 f9 f10 f11 f12 f13 f14 f16 f17 f18 f19 f20 f21 f22 f23 f24 f25 f26 f27 f28 f29 f30 f31 f32 hx15
  subst ha
  refine wpAny_tail 5 rfl (by kernel_rfl) ?_
  simp only [List.drop_succ_cons, List.drop_zero]
  simp only [Array.getD_eq_getD_getElem?, List.getElem?_toArray, List.getElem?_cons_zero, List.getElem?_cons_succ, Option.getD_some]
  have HKu := Lib.hid (HK0.out.trans hku (fun _ _ h => h))
  have HRu := Lib.hid (HRb.out.kp hku (fun h => h))
  have HSL := Lib.hid (show SL C st rows wz.heap.size 0 (.slice none 0 0) x15 u from ⟨⟨[], Own.nil _ _ _, rfl, fun j hj => by omega⟩, g15⟩)
  have r1 : u.cell? ⟨w.heap.size, 1, none⟩ = some (.slice ga gn_ gc) := HRu.out.cell rfl
  clear g15 hku HRb
  go_wp2_with fail
  go_loopw [5, 6, 19] (fun v5 v6 v7 wr => ∃ k : Nat, v7 = .int .i64 k ∧ k ≤ gn_ ∧ SL C st rows wz.heap.size k v5 v6 wr ∧ Kp (fun _ => False) w wr ∧ Blk wr w.heap.size #[.slice sa sn sc, .slice ga gn_ gc] 31) (fun _ _ v7 _ => gn_ - (intOf v7).toNat)
  case atStart => exact ⟨0, rfl, by omega, HSL.out, HKu.out, HRu.out⟩
  case round =>
    obtain ⟨k, rfl, hk, hL, hK, hR⟩ := hrel
    clear HSL HKu HRu
    obtain ⟨wp, rfl⟩ : ∃ wp : World, wp = wr := ⟨_, rfl⟩
    have HL := Lib.hid hL
    have HK := Lib.hid hK
    have HR := Lib.hid hR
    have r1 : wp.cell? ⟨w.heap.size, 1, none⟩ = some (.slice ga gn_ gc) := hR.cell rfl
    clear hL hK hR
    by_cases hlt : k < gn_
    · obtain ⟨⟨vs, h1, h2, h3⟩, h4⟩ := HL.out
      obtain ⟨a6, c6, e6, l6, m6, -, r6⟩ := h4.form
      rw [bv_length, stateM_len, HNl.out] at e6
      subst e6
      obtain ⟨gvs, hgr, hgl, hgk⟩ := HGs.out.row
      obtain ⟨b, m, d, eg, hbs⟩ := hgk k hlt
      obtain ⟨bg, og, ega, eg2⟩ := hgr k _ eg
      subst ega
      have i0 : (0 : Int) ≤ (k : Int) := by omega
      have i2 : (k : Int) < (gn_ : Int) := by omega
      have H1 := Lib.hid h1
      have H2 := Lib.hid h2
      have H3 := Lib.hid h3
      have H4 := Lib.hid h4
      have HEg := Lib.hid (fun u (hu : Kp (fun _ => False) w u) => hu.cellK eg2)
      have HBs := Lib.hid hbs
      have eg0 := HEg.out _ HK.out
      have HNew := Lib.hid (Blk.new wp #[.slice a6 nl c6] 28)
      have HOw := Lib.hid (h1.alloc (.cells #[.slice a6 nl c6] 28))
      have hwzp : wz.heap.size ≤ wp.heap.size := by have := HR.out.lt; have := HLt.out; omega
      have HWz := Lib.hid hwzp
      clear h1 h2 h3 h4 hgr hgl hgk eg eg2 hbs hwzp r6
      go_wp2_with (at_builtin; refine wpList_append1_at rfl _ _ 29 28 rfl Tryz.underlying29 HIs.out rfl HOw.out rfl ⟨wp.heap.size, 0, none⟩ (.slice a6 nl c6) rfl (HNew.out.cell rfl) rfl ?d1 ?d2 ?d3 ?_)
      case d1 => rw [H2.out]; omega
      case d2 => rw [H2.out]; unfold maxLen; omega
      case d3 => have := HWz.out; simp; omega
      intro v' w2 hO3 hg2 hat2
      have hkg : Kp (fun j => u5.ownBlock = some j) (wp.alloc (.cells #[.slice a6 nl c6] 28)) w2 := (Kp.refl _ _).grown hg2 (fun j hj _ => hj)
      have hap : ∀ x cs, Own (wp.alloc (.cells #[.slice a6 nl c6] 28)) wz.heap.size 4 x cs → Own w2 wz.heap.size 4 x cs := fun x cs hx => hx.kp hkg (fun j hj h5 => by
        obtain ⟨c, hc⟩ := hx.rows.blkN hj
        obtain ⟨c', hc'⟩ := HOw.out.rows.blkN h5
        exact absurd (blkN_type hc hc') (by decide))
      have hK2 : Kp (fun _ => False) w w2 := (HK.out.alloc _).grown hg2 (fun j hj hl => by have := (H1.out.lt j hj).1; have := HLt.out; omega)
      have hR2 : Blk w2 w.heap.size #[.slice sa sn sc, .slice (some ⟨bg, og, none⟩) gn_ gc] 31 := (HR.out.alloc _).kp hkg (fun e => by have := (H1.out.lt _ e).1; have := HLt.out; omega)
      have h42 := hap _ _ (H4.out.alloc _)
      obtain ⟨a6', c6', e6', -, -, -, r62⟩ := h42.form
      simp only [Value.slice.injEq] at e6'
      obtain ⟨rfl, -, rfl⟩ := e6'
      have HNx := Lib.hid (step_Next V C p a4 a5 c4 c5 a6 nl c6 b m d (stateM C st rows k) (rows[k]?.getD []) w2 (HM.out.kp hK2) HF.out HG.out ⟨r62, by rw [stateM_len]; exact HNl.out, by omega⟩ (HBs.out.kp hK2))
      have HS2 := Lib.hid (show Own w2 wz.heap.size 28 v' (vs ++ [.slice a6 nl c6]) ∧ (∀ j, j < k → ∃ x, vs[j]? = some x ∧ Own w2 wz.heap.size 4 x (bv (stateM C st rows j))) ∧ Own w2 wz.heap.size 4 (.slice a6 nl c6) (bv (stateM C st rows k)) from
        ⟨hO3, fun j hj => by obtain ⟨x, e, hx⟩ := H3.out j hj; exact ⟨x, e, hap _ _ (hx.alloc _)⟩, h42⟩)
      have HK2 := Lib.hid hK2
      have HR2 := Lib.hid hR2
      have r1 := hR2.cell (i := 1) (v := .slice (some ⟨bg, og, none⟩) gn_ gc) rfl
      have eg := HEg.out _ hK2
      have HWz2 := Lib.hid (show wz.heap.size ≤ w2.heap.size by have := hkg.size; have := HWz.out; simp at *; omega)
      clear hO3 hg2 hat2 hkg hap hK2 hR2 h42 r62 HNew HOw
      go_wp2_with (go_at_call 64; with_reducible refine Calls.mono HNx.out ?_; rintro e w3 ⟨v3, rfl, hO3, hK3⟩)
      have HS3 := Lib.hid (show SL C st rows wz.heap.size (k + 1) v' v3 w3 ∧ Kp (fun _ => False) w w3 ∧ Blk w3 w.heap.size #[.slice sa sn sc, .slice (some ⟨bg, og, none⟩) gn_ gc] 31 from by
        obtain ⟨q1, q2, q3⟩ := HS2.out
        refine ⟨⟨⟨vs ++ [.slice a6 nl c6], q1.kp hK3 (fun _ _ h => h), by rw [List.length_append, H2.out]; rfl, fun j hj => ?_⟩, hO3.mono HWz2.out⟩, HK2.out.trans hK3 (fun _ _ h => h), HR2.out.kp hK3 (fun h => h)⟩
        by_cases e : j < k
        · obtain ⟨x, ex, hx⟩ := q2 j e
          exact ⟨x, by rw [List.getElem?_append_left (by rw [H2.out]; exact e)]; exact ex, hx.kp hK3 (fun _ _ h => h)⟩
        · obtain rfl : j = k := by omega
          exact ⟨_, by rw [List.getElem?_append_right (by rw [H2.out]; exact Nat.le_refl _), H2.out, Nat.sub_self]; rfl, q3.kp hK3 (fun _ _ h => h)⟩)
      clear hO3 hK3
      go_wp2_with fail
      go_roundw
      case rel => exact ⟨k + 1, by go_num, by omega, HS3.out⟩
      case measure => simp [intOf]; omega
    · obtain rfl : k = gn_ := by omega
      have HE := Lib.hid (show SL C st rows w.heap.size k u5 u6 wp from by
        obtain ⟨⟨vs, h1, h2, h3⟩, h4⟩ := HL.out
        have hle := HLt.out
        exact ⟨⟨vs, h1.mono (by omega), h2, fun j hj => by obtain ⟨x, e, hx⟩ := h3 j hj; exact ⟨x, e, hx.mono (by omega)⟩⟩, h4.mono (by omega)⟩)
      go_wp2_with fail
      go_ret
      exact ⟨_, rfl, ⟨_, HE.out⟩, HK.out⟩

end Go.Proofs.YtcnegeggecmncaaGreatDoor

/-
  circ.uses: all literals that are used are handed over, up to the first that is refused. (Printed by mkuses.py.)
-/
namespace Go.Proofs.YtcnegeggecmncaaGreatDoor
open Go.RowKit

theorem IntsAt.lt {w : World} {a : Option Addr} {l : List Int} (h : IntsAt w a l) (hl : l ≠ []) : ∀ p, a = some p → p.block < w.heap.size := by
  intro p hp
  obtain ⟨b, off, e, hc⟩ := h.get (j := 0) (by cases l with | nil => exact absurd rfl hl | cons x r => simp)
  rw [hp] at e
  simp only [Option.some.injEq] at e
  subst e
  exact World.block_lt_of_cell? w _ hc

/-- the values rs are slices that read the lists Ls, none of them in a block of X -/
def RowsAt (X : Nat → Prop) (u : World) (rs : List Value) (Ls : List (List Int)) : Prop :=
  rs.length = Ls.length ∧ ∀ (k : Nat) (r : Value) (l : List Int), rs[k]? = some r → Ls[k]? = some l → ∃ a c, r = .slice a l.length c ∧ l.length ≤ c ∧ c ≤ maxLen ∧ IntsAt u a l ∧ (l ≠ [] → ∀ p, a = some p → ¬ X p.block)

theorem RowsAt.kp {X S : Nat → Prop} {u u' : World} {rs : List Value} {Ls : List (List Int)} (h : RowsAt X u rs Ls) (k : Kp S u u') (hS : ∀ j, S j → X j) : RowsAt X u' rs Ls := by
  refine ⟨h.1, fun i r l hr hl => ?_⟩
  obtain ⟨a, c, e, h1, h2, h3, h4⟩ := h.2 i r l hr hl
  refine ⟨a, c, e, h1, h2, ?_, h4⟩
  by_cases hn : l = []
  · subst hn; exact RowAt.nil _ _
  · exact h3.kp k (fun p hp hs => h4 hn p hp (hS _ hs))

theorem RowsAt.mono {X X' : Nat → Prop} {u : World} {rs : List Value} {Ls : List (List Int)} (h : RowsAt X u rs Ls) (hX : ∀ j, j < u.heap.size → X' j → X j) : RowsAt X' u rs Ls := by
  refine ⟨h.1, fun i r l hr hl => ?_⟩
  obtain ⟨a, c, e, h1, h2, h3, h4⟩ := h.2 i r l hr hl
  exact ⟨a, c, e, h1, h2, h3, fun hn p hp hx => h4 hn p hp (hX _ (h3.lt hn p hp) hx)⟩

theorem RowsAt.snoc {X : Nat → Prop} {u : World} {rs : List Value} {Ls : List (List Int)} (h : RowsAt X u rs Ls) {a : Option Addr} {c : Nat} {l : List Int} (h1 : l.length ≤ c) (h2 : c ≤ maxLen) (h3 : IntsAt u a l) (h4 : ∀ p, a = some p → ¬ X p.block) : RowsAt X u (rs ++ [.slice a l.length c]) (Ls ++ [l]) := by
  refine ⟨by simp [h.1], fun k r x hr hx => ?_⟩
  by_cases hk : k < rs.length
  · rw [List.getElem?_append_left hk] at hr
    rw [List.getElem?_append_left (by rw [← h.1]; exact hk)] at hx
    exact h.2 k r x hr hx
  · rw [List.getElem?_append_right (by omega)] at hr
    rw [List.getElem?_append_right (by rw [← h.1]; omega)] at hx
    have e : k - rs.length = 0 := by
      have := (List.getElem?_eq_some_iff.1 hr).1
      simp at this; omega
    rw [e] at hr
    rw [← h.1, e] at hx
    simp at hr hx
    subst hr hx
    exact ⟨a, c, rfl, h1, h2, h3, fun _ => h4⟩

/-- the rows of used literals -/
def usedRows (C : Circ) : List (List Int) := [C.outs, C.bads, C.cons] ++ C.lats.map (fun x => [x.2.1]) ++ C.gates.map (fun g => [g.2.1, g.2.2])
theorem usedRows_flat (C : Circ) : (usedRows C).flatten = C.used := by
  unfold usedRows Circ.used
  rw [List.flatten_append, List.flatten_append]
  have h1 : ∀ L : List (Int × Int × Int), (L.map (fun x => [x.2.1])).flatten = L.map (fun x => x.2.1) := by
    intro L; induction L with
    | nil => rfl
    | cons a r ih => simp [ih]
  have h2 : ∀ L : List (Int × Int × Int), (L.map (fun g => [g.2.1, g.2.2])).flatten = L.flatMap (fun g => [g.2.1, g.2.2]) := fun L => rfl
  rw [h1, h2]
  simp
theorem usedRows_length (C : Circ) : (usedRows C).length = 3 + C.lats.length + C.gates.length := by
  unfold usedRows; simp; omega

def grow (L : List (List Int)) (k : Nat) : List Int := L[k]?.getD []
theorem grow_at {L : List (List Int)} {k : Nat} (h : k < L.length) : L[k]? = some (grow L k) := by unfold grow; rw [List.getElem?_eq_getElem h]; rfl
theorem take_grow {L : List (List Int)} {k : Nat} (h : k < L.length) : (L.take (k + 1)).flatten = (L.take k).flatten ++ grow L k := by
  rw [List.take_succ_eq_append_getElem h, List.flatten_append]
  unfold grow
  rw [List.getElem?_eq_getElem h]
  simp

theorem all_take_gi {l : List Int} {k : Nat} (h : k < l.length) (P : List Int) (f : Int → Bool) : (P ++ l.take (k + 1)).all f = ((P ++ l.take k).all f && f (gi l k)) := by
  rw [take_gi h, ← List.append_assoc, List.all_append]
  simp

theorem used_false {L : List (List Int)} {i k : Nat} (hi : i < L.length) {f : Int → Bool} {b : Bool} (h : (b && ((L.take i).flatten ++ (grow L i).take (k + 1)).all f) = false) : (b && L.flatten.all f) = false := by
  cases b with
  | false => rfl
  | true =>
    rw [Bool.true_and] at h ⊢
    rw [List.all_eq_false] at h ⊢
    obtain ⟨x, hx, hf⟩ := h
    refine ⟨x, ?_, hf⟩
    have hL := List.take_append_drop (i + 1) L
    rw [← hL, List.flatten_append]
    refine List.mem_append.2 (.inl ?_)
    rw [take_grow hi]
    rcases List.mem_append.1 hx with h | h
    · exact List.mem_append.2 (.inl h)
    · exact List.mem_append.2 (.inr (List.mem_of_mem_take h))

theorem mem_used {L : List (List Int)} {i k : Nat} (hi : i < L.length) (hk : k < (grow L i).length) : gi (grow L i) k ∈ L.flatten := by
  refine List.mem_flatten.2 ⟨grow L i, List.mem_of_getElem? (grow_at hi), ?_⟩
  refine List.mem_of_getElem? (i := k) ?_
  unfold gi
  rw [List.getElem?_eq_getElem hk]; rfl

theorem three_blk (w : World) (c0 c1 c2 : Array Value) (t0 t1 t2 : TypeId) : Blk (((w.alloc (.cells c0 t0)).alloc (.cells c1 t1)).alloc (.cells c2 t2)) (w.heap.size + 1) c1 t1 ∧ Blk (((w.alloc (.cells c0 t0)).alloc (.cells c1 t1)).alloc (.cells c2 t2)) (w.heap.size + 2) c2 t2 := by
  refine ⟨(two_blk w c0 c1 t0 t1).alloc _, ?_⟩
  have := Blk.new ((w.alloc (.cells c0 t0)).alloc (.cells c1 t1)) c2 t2
  simpa using this

theorem ints_blk {w : World} {b : Nat} {l : List Int} {t : TypeId} (h : Blk w b (l.map (Value.int .i64)).toArray t) : IntsAt w (some ⟨b, 0, none⟩) l :=
  h.rowAt (off := 0) (n := l.length) (by simp; exact List.take_of_length_le (by simp))

/-- the literals that are used are gathered -/
def Gather (V : CV) (C : Circ) (bo : Nat) (w : World) (Ls : List (List Int)) (v4 : Value) (wr : World) : Prop :=
  ∃ rs, Own wr w.heap.size 22 v4 rs ∧ RowsAt (fun j => j = bo ∨ v4.ownBlock = some j) wr rs Ls ∧ (∀ j, v4.ownBlock = some j → w.heap.size < j) ∧ Blk wr w.heap.size (cvals V C) 27 ∧ Kp (fun _ => False) w wr

theorem Gather.start (V : CV) (C : Circ) (bo : Nat) (w0 w wz : World) (hz : wz = (w.alloc (.cells (cvals V C) 27)).alloc (.cells #[.slice V.ao C.outs.length V.co, .slice V.ab C.bads.length V.cb, .slice V.ac C.cons.length V.cc] 22))
    (h0 : CAt w0 V C) (hk0 : Kp (fun _ => False) w0 w) (hbo : w0.heap.size ≤ bo) (hbw : bo < w.heap.size) :
    Gather V C bo w [C.outs, C.bads, C.cons] (.slice (some ⟨w.heap.size + 1, 0, none⟩) 3 3) wz := by
  have hK : Kp (fun _ => False) w wz := by rw [hz]; exact ((Kp.refl _ w).alloc _).alloc _
  have hB : Blk wz (w.heap.size + 1) #[.slice V.ao C.outs.length V.co, .slice V.ab C.bads.length V.cb, .slice V.ac C.cons.length V.cc] 22 := by rw [hz]; exact two_blk _ _ _ _ _
  have hC : Blk wz w.heap.size (cvals V C) 27 := by rw [hz]; exact (Blk.new w _ _).alloc _
  have hz := h0.kp (hk0.trans hK (fun _ _ h => h))
  have hs := hk0.size
  have far : ∀ {a : Option Addr} {l : List Int}, IntsAt w0 a l → l ≠ [] → ∀ p, a = some p → ¬ (p.block = bo ∨ (Value.slice (some ⟨w.heap.size + 1, 0, none⟩) 3 3).ownBlock = some p.block) := by
    intro a l hi hl p hp
    have := hi.lt hl p hp
    simp [Value.ownBlock]
    omega
  refine ⟨[.slice V.ao C.outs.length V.co, .slice V.ab C.bads.length V.cb, .slice V.ac C.cons.length V.cc], Own.lit (cs := [.slice V.ao C.outs.length V.co, .slice V.ab C.bads.length V.cb, .slice V.ac C.cons.length V.cc]) hB (by omega) (by simp [maxLen]), ⟨rfl, fun k r l hr hl => ?_⟩, fun j hj => by simp [Value.ownBlock] at hj; omega, hC, hK⟩
  match k, hr, hl with
  | 0, hr, hl => simp at hr hl; subst hr hl; exact ⟨_, _, rfl, h0.fo.le, h0.fo.most, hz.o, far h0.o⟩
  | 1, hr, hl => simp at hr hl; subst hr hl; exact ⟨_, _, rfl, h0.fb.le, h0.fb.most, hz.b, far h0.b⟩
  | 2, hr, hl => simp at hr hl; subst hr hl; exact ⟨_, _, rfl, h0.fc.le, h0.fc.most, hz.c, far h0.c⟩
  | n + 3, hr, hl => simp at hr

theorem Gather.kp {V : CV} {C : Circ} {bo : Nat} {w wr wr' : World} {Ls : List (List Int)} {v4 : Value} (h : Gather V C bo w Ls v4 wr) (k : Kp (fun _ => False) wr wr') : Gather V C bo w Ls v4 wr' := by
  obtain ⟨rs, h1, h2, h3, h4, h5⟩ := h
  exact ⟨rs, h1.kp k (fun _ _ h => h), h2.kp k (fun _ h => h.elim), h3, h4.kp k (fun h => h), h5.trans k (fun _ _ h => h)⟩

/-- one more row of literals -/
theorem Gather.more {V : CV} {C : Circ} {bo : Nat} {w wr wr' w2 : World} {Ls : List (List Int)} {v4 v' : Value} {rs : List Value} (hbo : bo < w.heap.size) (h1 : Own wr w.heap.size 22 v4 rs) (h2 : RowsAt (fun j => j = bo ∨ v4.ownBlock = some j) wr rs Ls) (h3 : ∀ j, v4.ownBlock = some j → w.heap.size < j) (h4 : Blk wr w.heap.size (cvals V C) 27) (h5 : Kp (fun _ => False) w wr)
    (hK : Kp (fun _ => False) wr wr') {g n : Nat} {l : List Int} (hg : wr.heap.size ≤ g) (hB : Blk wr' g (l.map (Value.int .i64)).toArray 3) (hn : l.length = n) (hl : n ≤ maxLen)
    (hO : Own w2 w.heap.size 22 v' (rs ++ [.slice (some ⟨g, 0, none⟩) n n])) (hgr : wr'.grownBy w2 v4.ownBlock) (hat : v'.ownBlock = v4.ownBlock ∨ v'.ownBlock = some wr'.heap.size) : Gather V C bo w (Ls ++ [l]) v' w2 := by
  subst hn
  have hKg : Kp (fun j => v4.ownBlock = some j) wr' w2 := (Kp.refl _ _).grown hgr (fun j hj _ => hj)
  have hKw : Kp (fun _ => False) w w2 := (h5.trans hK (fun _ _ h => h)).grown hgr (fun j hj hlt => by have := h3 j hj; omega)
  have hsz := h5.size
  have hsz' := hK.size
  have hlt := hB.lt
  have hb' : Blk w2 g (l.map (Value.int .i64)).toArray 3 := hB.kp hKg (fun e => by have := (h1.lt g e).2; omega)
  have h2' : RowsAt (fun j => j = bo ∨ v4.ownBlock = some j) wr' rs Ls := h2.kp hK (fun _ h => h.elim)
  have h2'' : RowsAt (fun j => j = bo ∨ v4.ownBlock = some j ∨ v'.ownBlock = some j) wr' rs Ls := h2'.mono (fun j hj hx => by
    rcases hx with e | e | e
    · exact .inl e
    · exact .inr e
    · rcases hat with e2 | e2
      · exact .inr (e2 ▸ e)
      · rw [e2] at e; simp at e; omega)
  have h2w : RowsAt (fun j => j = bo ∨ v4.ownBlock = some j ∨ v'.ownBlock = some j) w2 rs Ls := h2''.kp hKg (fun j h => .inr (.inl h))
  have h2z : RowsAt (fun j => j = bo ∨ v'.ownBlock = some j) w2 rs Ls := h2w.mono (fun j _ h => by rcases h with e | e; exact .inl e; exact .inr (.inr e))
  refine ⟨_, hO, ?_, ?_, (h4.kp hK (fun h => h)).kp hKg (fun e => by have := h3 _ e; omega), hKw⟩
  · refine h2z.snoc (Nat.le_refl _) hl (ints_blk hb') (fun p hp => ?_)
    simp at hp
    subst hp
    intro h
    rcases h with e | e
    · have : g = bo := e
      omega
    · rcases hat with e2 | e2
      · rw [e2] at e
        have : g < wr.heap.size := (h1.lt g e).2
        omega
      · rw [e2] at e
        have : wr'.heap.size = g := by simpa using e
        omega
  · intro j hj
    rcases hat with e | e
    · exact h3 j (e ▸ hj)
    · rw [e] at hj; simp at hj; omega

set_option maxRecDepth 100000 in
set_option maxHeartbeats 4000000 in
theorem circ_uses1 (p q : Value) (V : CV) (C : Circ) (bo : Nat) (f : Int → Bool) (I : World → Bool → Prop) (b0 : Bool) (w0 w : World) (h0 : CAt w0 V C) (hf : CFew C 1000000) (hk0 : Kp (fun _ => False) w0 w) (hbo : w0.heap.size ≤ bo) (hbw : bo < w.heap.size)
    (hI : I w b0) (hIk : ∀ u u' b, Kp (fun _ => False) u u' → I u b → I u' b)
    (hY : ∀ u x b, x ∈ C.used → I u b → Calls Tryz.prog 53 #[.int .i64 x, p, q] u fun e u' => e = .returned (.bool (b && f x)) ∧ I u' (b && f x) ∧ Kp (fun j => j = bo) u u') :
    Calls Tryz.prog 52 #[.agg (cvals V C), .func (Fn.func 53) #[] #[p, q]] w fun e w' => e = .returned (.tuple #[]) ∧ I w' (b0 && C.used.all f) ∧ Kp (fun j => j = bo) w w' := by
  obtain ⟨wz, hwz⟩ : ∃ wz : World, wz = (w.alloc (.cells (cvals V C) 27)).alloc (.cells #[.slice V.ao C.outs.length V.co, .slice V.ab C.bads.length V.cb, .slice V.ac C.cons.length V.cc] 22) := ⟨_, rfl⟩
  have HG := Lib.hid (Gather.start V C bo w0 w wz hwz h0 hk0 hbo hbw)
  have HC1 := Lib.hid (Blk.new w (cvals V C) 27)
  have HS := Lib.hid (show wz.heap.size = w.heap.size + 2 by rw [hwz]; simp)
  have HZ := Lib.hid hwz
  have HA := Lib.hid h0
  have HF := Lib.hid hf
  have HK0 := Lib.hid hk0
  have HBO := Lib.hid (And.intro hbo hbw)
  have HII := Lib.hid (And.intro hI (And.intro hIk hY))
  have HI := Lib.hid (show (Tryz.prog.info? 22).map (fun i => (i.zero, i.size, i.bytes)) = some (some (.slice none 0 0), 1, 24) by kernel_rfl)
  have hl := (h0.fl.le63).1
  have hg := (h0.fg.le63).1
  clear hwz h0 hf hk0 hbo hbw hI hIk hY
  go_enter Tryz.func52, Tryz.ntmps52
  go_upto_region 1 with fail
  obtain ⟨d0, d1, d2, d3, d4, d5, d6, d7, d8⟩ := HC1.out.cells9
  go_upto_region 2 with fail
  rw [← HZ.out]
  clear d0 d1 d2 d3 d4 d5 d6 d7 d8 HC1
  have hG := HG.out
  obtain ⟨rs0, -, -, -, hB0, -⟩ := hG
  have c2 := hB0.cell (i := 2) (v := .slice V.al C.lats.length V.cl) rfl
  clear hB0
  go_wp2_with fail
  go_loopw [4, 23] (fun v4 v23 wr => ∃ k : Nat, v23 = .int .i64 k ∧ k ≤ C.lats.length ∧ Gather V C bo w ([C.outs, C.bads, C.cons] ++ (C.lats.take k).map (fun x => [x.2.1])) v4 wr) (fun _ v23 _ => C.lats.length - (intOf v23).toNat)
  case atStart => exact ⟨0, rfl, by omega, by simpa using HG.out⟩
  case round =>
    obtain ⟨k, rfl, hk, hG⟩ := hrel
    clear c2 HG
    obtain ⟨wp, rfl⟩ : ∃ wp : World, wp = wr := ⟨_, rfl⟩
    have HG := Lib.hid hG
    by_cases hlt : k < C.lats.length
    · obtain ⟨rs, hO, hR, hB, hC, hK⟩ := hG
      have HSw := Lib.hid (show w.heap.size ≤ wp.heap.size from hK.size)
      have HRL := Lib.hid (show rs.length ≤ 3000000 by have := hR.1; have := HF.out.l; simp at this ⊢; rw [hR.1]; simp; omega)
      obtain ⟨b, off, ea, e0, e1, e2⟩ := tri_cells (HA.out.kp (HK0.out.trans hK (fun _ _ h => h))).l hlt
      have i0 : (0 : Int) ≤ (k : Int) := by omega
      have i1 : decide ((k : Int) < (C.lats.length : Int)) = true := decide_eq_true (by omega)
      obtain ⟨x0, hx0⟩ : ∃ x, (g3 C.lats k).1 = x := ⟨_, rfl⟩
      obtain ⟨x1, hx1⟩ : ∃ x, (g3 C.lats k).2.1 = x := ⟨_, rfl⟩
      obtain ⟨x2, hx2⟩ : ∃ x, (g3 C.lats k).2.2 = x := ⟨_, rfl⟩
      have HT := Lib.hid (take_g3 hlt)
      rw [hx0] at e0
      rw [hx1] at e1
      rw [hx2] at e2
      have HX := Lib.hid hx1
      have HEA := Lib.hid ea
      have i2 : (k : Int) < (C.lats.length : Int) := by omega
      clear hx0 hx1 hx2 ea
      have HNew := Lib.hid (three_blk wp #[.int .i64 x0, .int .i64 x1, .int .i64 x2] #[.int .i64 x1] #[.slice (some ⟨wp.heap.size + 1, 0, none⟩) 1 1] 48 3 22)
      have HOw := Lib.hid (((hO.alloc (.cells #[.int .i64 x0, .int .i64 x1, .int .i64 x2] 48)).alloc (.cells #[.int .i64 x1] 3)).alloc (.cells #[.slice (some ⟨wp.heap.size + 1, 0, none⟩) 1 1] 22))
      have HMore := Lib.hid (fun v' w2 hO2 hgr hat => Gather.more (v' := v') (w2 := w2) (g := wp.heap.size + 1) (n := 1) (l := [x1]) HBO.out.2 hO hR hB hC hK ((((Kp.refl _ wp).alloc (.cells #[.int .i64 x0, .int .i64 x1, .int .i64 x2] 48)).alloc (.cells #[.int .i64 x1] 3)).alloc (.cells #[.slice (some ⟨wp.heap.size + 1, 0, none⟩) 1 1] 22)) (by omega) HNew.out.1 rfl (by simp [maxLen]) hO2 hgr hat)
      clear hO hR hB hC hK
      rw [HEA.out]
      go_wp2_with (at_builtin; refine wpList_append1_at rfl _ _ 120 22 rfl Tryz.underlying120 HI.out rfl HOw.out rfl ⟨wp.heap.size + 2, 0, none⟩ (.slice (some ⟨wp.heap.size + 1, 0, none⟩) 1 1) rfl (HNew.out.2.cell rfl) rfl ?c1 ?c2 ?c3 ?_)
      case c1 => have := HRL.out; omega
      case c2 => have := HRL.out; unfold maxLen; omega
      case c3 => have := HSw.out; simp; omega
      intro v' w2 hO2 hg2 hat2
      have hrel : ∃ k' : Nat, Value.int .i64 ((k : Int) + 1) = .int .i64 k' ∧ k' ≤ C.lats.length ∧ Gather V C bo w ([C.outs, C.bads, C.cons] ++ (C.lats.take k').map (fun x => [x.2.1])) v' w2 := by
        refine ⟨k + 1, by go_num, by omega, ?_⟩
        rw [HT.out, List.map_append, ← List.append_assoc]
        have : [g3 C.lats k].map (fun x => [x.2.1]) = [[x1]] := by simp [HX.out]
        rw [this]
        exact HMore.out v' w2 hO2 hg2 (by simpa using hat2)
      have HR := Lib.hid hrel
      clear hrel hO2 hg2 hat2 HOw HNew HT HMore HG
      go_wp2_with fail
      go_roundw
      case rel => exact HR.out
      case measure => simp [intOf]; omega
    · have hk' : k = C.lats.length := by omega
      have HG1 : Hid (Gather V C bo w ([C.outs, C.bads, C.cons] ++ C.lats.map (fun x => [x.2.1])) u4 wp) := Lib.hid (by rwa [hk', List.take_length] at hG)
      obtain ⟨rs0, -, -, -, hB0, -⟩ := hG
      have c6 := hB0.cell (i := 6) (v := .slice V.ag C.gates.length V.cg) rfl
      clear HG hk hk' hB0
      go_wp2_with fail
      go_loopw [4, 37] (fun v4 v37 wr => ∃ k : Nat, v37 = .int .i64 k ∧ k ≤ C.gates.length ∧ Gather V C bo w ([C.outs, C.bads, C.cons] ++ C.lats.map (fun x => [x.2.1]) ++ (C.gates.take k).map (fun x => [x.2.1, x.2.2])) v4 wr) (fun _ v37 _ => C.gates.length - (intOf v37).toNat)
      case atStart => exact ⟨0, rfl, by omega, by simpa using HG1.out⟩
      case round =>
        obtain ⟨k, rfl, hk, hG⟩ := hrel
        clear c6 HG1 hlt
        obtain ⟨wq, rfl⟩ : ∃ wp : World, wp = wr := ⟨_, rfl⟩
        have HG := Lib.hid hG
        by_cases hlt : k < C.gates.length
        · obtain ⟨rs, hO, hR, hB, hC, hK⟩ := hG
          have HSw := Lib.hid (show w.heap.size ≤ wq.heap.size from hK.size)
          have HRL := Lib.hid (show rs.length ≤ 3000000 by have := hR.1; have := HF.out.l; have := HF.out.g; rw [hR.1]; simp; omega)
          obtain ⟨b, off, ea, e0, e1, e2⟩ := tri_cells (HA.out.kp (HK0.out.trans hK (fun _ _ h => h))).g hlt
          have i0 : (0 : Int) ≤ (k : Int) := by omega
          have i1 : decide ((k : Int) < (C.gates.length : Int)) = true := decide_eq_true (by omega)
          obtain ⟨x0, hx0⟩ : ∃ x, (g3 C.gates k).1 = x := ⟨_, rfl⟩
          obtain ⟨x1, hx1⟩ : ∃ x, (g3 C.gates k).2.1 = x := ⟨_, rfl⟩
          obtain ⟨x2, hx2⟩ : ∃ x, (g3 C.gates k).2.2 = x := ⟨_, rfl⟩
          have HT := Lib.hid (take_g3 hlt)
          rw [hx0] at e0
          rw [hx1] at e1
          rw [hx2] at e2
          have HX := Lib.hid (And.intro hx1 hx2)
          have HEA := Lib.hid ea
          have i2 : (k : Int) < (C.gates.length : Int) := by omega
          clear hx0 hx1 hx2 ea
          have HNew := Lib.hid (three_blk wq #[.int .i64 x0, .int .i64 x1, .int .i64 x2] #[.int .i64 x1, .int .i64 x2] #[.slice (some ⟨wq.heap.size + 1, 0, none⟩) 2 2] 73 3 22)
          have HOw := Lib.hid (((hO.alloc (.cells #[.int .i64 x0, .int .i64 x1, .int .i64 x2] 73)).alloc (.cells #[.int .i64 x1, .int .i64 x2] 3)).alloc (.cells #[.slice (some ⟨wq.heap.size + 1, 0, none⟩) 2 2] 22))
          have HMore := Lib.hid (fun v' w2 hO2 hgr hat => Gather.more (v' := v') (w2 := w2) (g := wq.heap.size + 1) (n := 2) (l := [x1, x2]) HBO.out.2 hO hR hB hC hK ((((Kp.refl _ wq).alloc (.cells #[.int .i64 x0, .int .i64 x1, .int .i64 x2] 73)).alloc (.cells #[.int .i64 x1, .int .i64 x2] 3)).alloc (.cells #[.slice (some ⟨wq.heap.size + 1, 0, none⟩) 2 2] 22)) (by omega) HNew.out.1 rfl (by simp [maxLen]) hO2 hgr hat)
          clear hO hR hB hC hK
          rw [HEA.out]
          go_wp2_with (at_builtin; refine wpList_append1_at rfl _ _ 120 22 rfl Tryz.underlying120 HI.out rfl HOw.out rfl ⟨wq.heap.size + 2, 0, none⟩ (.slice (some ⟨wq.heap.size + 1, 0, none⟩) 2 2) rfl (HNew.out.2.cell rfl) rfl ?d1 ?d2 ?d3 ?_)
          case d1 => have := HRL.out; omega
          case d2 => have := HRL.out; unfold maxLen; omega
          case d3 => have := HSw.out; simp; omega
          intro v' w2 hO2 hg2 hat2
          have hrel : ∃ k' : Nat, Value.int .i64 ((k : Int) + 1) = .int .i64 k' ∧ k' ≤ C.gates.length ∧ Gather V C bo w ([C.outs, C.bads, C.cons] ++ C.lats.map (fun x => [x.2.1]) ++ (C.gates.take k').map (fun x => [x.2.1, x.2.2])) v' w2 := by
            refine ⟨k + 1, by go_num, by omega, ?_⟩
            rw [HT.out, List.map_append, ← List.append_assoc]
            have : [g3 C.gates k].map (fun x => [x.2.1, x.2.2]) = [[x1, x2]] := by simp [HX.out.1, HX.out.2]
            rw [this]
            exact HMore.out v' w2 hO2 hg2 (by simpa using hat2)
          have HR := Lib.hid hrel
          clear hrel hO2 hg2 hat2 HOw HNew HT HMore HG
          go_wp2_with fail
          go_roundw
          case rel => exact HR.out
          case measure => simp [intOf]; omega
        · have hk' : k = C.gates.length := by omega
          have hG1 : Gather V C bo w (usedRows C) u4 wq := by rw [hk', List.take_length] at hG; exact hG
          obtain ⟨rs, hO, hR, hB, hC, hK⟩ := hG1
          obtain ⟨a4, c4, e4, hc4, hm4, hp4, -⟩ := hO.form
          have HO := Lib.hid hO
          have HR := Lib.hid hR
          have hln : rs.length = (usedRows C).length := hR.1
          rw [hln] at e4 hc4
          subst e4
          obtain ⟨n4, hn4⟩ : ∃ n, (usedRows C).length = n := ⟨_, rfl⟩
          have HN4 := Lib.hid hn4
          have HIw := Lib.hid (HII.out.2.1 _ _ _ hK HII.out.1)
          have HKw := Lib.hid hK
          have hn63 : n4 ≤ 9223372036854775807 := by rw [← hn4, usedRows_length]; have := HF.out.l; have := HF.out.g; omega
          have hB4 : ∀ j, (Value.slice a4 n4 c4).ownBlock = some j → j ≠ bo := fun j hj => by
            have := hB j (by rw [hn4]; exact hj)
            have := HBO.out.2
            omega
          have HB4 := Lib.hid hB4
          rw [hn4] at HO HR ⊢
          have HRW := Lib.hid (show ∀ u, Kp (fun j => j = bo) wq u → RowAt u a4 rs from fun u hu => by
            obtain ⟨a, c, e, -, -, hp, hr⟩ := HO.out.form
            simp only [Value.slice.injEq] at e
            obtain ⟨rfl, -, -⟩ := e
            refine hr.kp hu (fun p hp' hb => ?_)
            obtain ⟨g, rfl, -, -⟩ := hp p hp'
            subst hp'
            exact hB4 g rfl hb)
          have HRR := Lib.hid (show ∀ u, Kp (fun j => j = bo) wq u → RowsAt (fun j => j = bo) u rs (usedRows C) from fun u hu => (HR.out.mono (fun j _ h => .inl h)).kp hu (fun _ h => h))
          clear hG hk' hO hR hB hC hK hln hk hp4 hm4 hB4 hn4 hc4 HO HR HB4 HG HA
          go_wp2_with fail
          go_loopw [52] (fun v52 wr => ∃ i : Nat, v52 = .int .i64 i ∧ i ≤ n4 ∧ I wr (b0 && ((usedRows C).take i).flatten.all f) ∧ Kp (fun j => j = bo) wq wr) (fun v52 _ => n4 - (intOf v52).toNat)
          case atStart => exact ⟨0, rfl, by omega, by simpa using HIw.out, Kp.refl _ _⟩
          case round =>
            obtain ⟨i, rfl, hi, hI3, hK3⟩ := hrel
            obtain ⟨w3, rfl⟩ : ∃ w3 : World, w3 = wr := ⟨_, rfl⟩
            have HI3 := Lib.hid hI3
            have HK3 := Lib.hid hK3
            clear hI3 hK3 HIw
            by_cases hi4 : i < n4
            · have hiU : i < (usedRows C).length := by rw [HN4.out]; exact hi4
              obtain ⟨r, hr⟩ : ∃ r, rs[i]? = some r := ⟨_, List.getElem?_eq_getElem (by rw [(HRR.out _ HK3.out).1]; exact hiU)⟩
              obtain ⟨ai, ci, rfl, hci, hcm, hri, -⟩ := (HRR.out _ HK3.out).2 i r _ hr (grow_at hiU)
              obtain ⟨b, off, ea, hcell⟩ := HRW.out _ HK3.out i _ hr
              have HRI := Lib.hid (show ∀ u, Kp (fun j => j = bo) w3 u → IntsAt u ai (grow (usedRows C) i) from fun u hu => by
                obtain ⟨a2, c2, e2, -, -, h2, -⟩ := (HRR.out u (HK3.out.trans hu (fun _ _ h => h))).2 i _ _ hr (grow_at hiU)
                simp only [Value.slice.injEq] at e2
                rw [e2.1]; exact h2)
              have HIU := Lib.hid hiU
              obtain ⟨ni, hni⟩ : ∃ ni, (grow (usedRows C) i).length = ni := ⟨_, rfl⟩
              rw [hni] at hcell hci
              have HNI := Lib.hid hni
              have hn63i : ni ≤ 9223372036854775807 := by unfold maxLen at hcm; omega
              subst ea
              clear hr hri hci hcm hni hiU
              have i0 : (0 : Int) ≤ (i : Int) := by omega
              have i1 : (i : Int) < (n4 : Int) := by omega
              go_wp2_with fail
              go_loopw [58] (fun v58 w4 => ∃ k : Nat, v58 = .int .i64 k ∧ k ≤ ni ∧ I w4 (b0 && (((usedRows C).take i).flatten ++ (grow (usedRows C) i).take k).all f) ∧ Kp (fun j => j = bo) w3 w4) (fun v58 _ => ni - (intOf v58).toNat)
              case atStart => exact ⟨0, rfl, by omega, by simpa using HI3.out, Kp.refl _ _⟩
              case round =>
                obtain ⟨k, rfl, hk, hI4, hK4⟩ := hrel
                obtain ⟨w4, rfl⟩ : ∃ w4 : World, w4 = wr := ⟨_, rfl⟩
                have HI4 := Lib.hid hI4
                have HK4 := Lib.hid hK4
                clear hI4 hK4 hcell
                by_cases hkl : k < ni
                · obtain ⟨b, off, e, hcell⟩ := (HRI.out _ HK4.out).get (j := k) (by rw [HNI.out]; exact hkl)
                  have HMem := Lib.hid (show gi (grow (usedRows C) i) k ∈ C.used by rw [← usedRows_flat]; exact mem_used HIU.out (by rw [HNI.out]; exact hkl))
                  have HAll := Lib.hid (all_take_gi (l := grow (usedRows C) i) (k := k) (by rw [HNI.out]; exact hkl) (((usedRows C).take i).flatten) f)
                  have HUF := Lib.hid (used_false (L := usedRows C) (i := i) (k := k) HIU.out (f := f) (b := b0))
                  obtain ⟨x, hx⟩ : ∃ x, gi (grow (usedRows C) i) k = x := ⟨_, rfl⟩
                  rw [hx] at hcell HMem HAll
                  obtain ⟨bb, hbb⟩ : ∃ bb, (b0 && (((usedRows C).take i).flatten ++ (grow (usedRows C) i).take k).all f) = bb := ⟨_, rfl⟩
                  have HBB := Lib.hid hbb
                  rw [hbb] at HI4
                  obtain ⟨b5, hb5⟩ : ∃ b5, (bb && f x) = b5 := ⟨_, rfl⟩
                  have HYx := Lib.hid (HII.out.2.2 _ _ _ HMem.out HI4.out)
                  rw [hb5] at HYx
                  have HB5 := Lib.hid (show (b0 && (((usedRows C).take i).flatten ++ (grow (usedRows C) i).take (k + 1)).all f) = b5 by rw [HAll.out, ← Bool.and_assoc, hbb]; exact hb5)
                  have k0 : (0 : Int) ≤ (k : Int) := by omega
                  have k1 : (k : Int) < (ni : Int) := by omega
                  subst e
                  clear hx hbb hb5
                  go_wp2_with fail
                  refine HYx.out.mono ?_
                  rintro o w5 ⟨rfl, hI5, hK5⟩
                  have HI5 := Lib.hid hI5
                  have HK5 := Lib.hid (HK4.out.trans hK5 (fun _ _ h => h))
                  clear hI5 hK5 HYx
                  cases b5 with
                  | false =>
                    go_wp2_with fail
                    refine bodyPost_ret (results_none rfl _ _ _) rfl ?_
                    exact ⟨rfl, by rw [← usedRows_flat, HUF.out HB5.out]; exact HI5.out, (HKw.out.mono (fun _ _ h => h.elim)).trans (HK3.out.trans HK5.out (fun _ _ h => h)) (fun _ _ h => h)⟩
                  | true =>
                    go_wp2_with fail
                    go_roundw
                    case rel => exact ⟨k + 1, by go_num, by omega, by rw [HB5.out]; exact HI5.out, HK5.out⟩
                    case measure => simp [intOf]; omega
                · have HI4' := Lib.hid (show I w4 (b0 && ((usedRows C).take (i + 1)).flatten.all f) by
                    have h := HI4.out
                    rw [List.take_of_length_le (l := grow (usedRows C) i) (by rw [HNI.out]; omega)] at h
                    rwa [take_grow HIU.out])
                  go_wp2_with fail
                  go_roundw
                  case rel => exact ⟨i + 1, by go_num, by omega, HI4'.out, HK3.out.trans HK4.out (fun _ _ h => h)⟩
                  case measure => simp [intOf]; omega
            · have HI3' := Lib.hid (show I w3 (b0 && C.used.all f) by
                have h := HI3.out
                rw [List.take_of_length_le (by rw [HN4.out]; omega), usedRows_flat] at h
                exact h)
              go_wp2_with fail
              go_end0
              exact ⟨rfl, HI3'.out, (HKw.out.mono (fun _ _ h => h.elim)).trans HK3.out (fun _ _ h => h)⟩

set_option maxRecDepth 100000 in
set_option maxHeartbeats 4000000 in
theorem circ_uses2 (p q : Value) (V : CV) (C : Circ) (bo : Nat) (f : Int → Bool) (I : World → Bool → Prop) (b0 : Bool) (w0 w : World) (h0 : CAt w0 V C) (hf : CFew C 1000000) (hk0 : Kp (fun _ => False) w0 w) (hbo : w0.heap.size ≤ bo) (hbw : bo < w.heap.size)
    (hI : I w b0) (hIk : ∀ u u' b, Kp (fun _ => False) u u' → I u b → I u' b)
    (hY : ∀ u x b, x ∈ C.used → I u b → Calls Tryz.prog 54 #[.int .i64 x, p, q] u fun e u' => e = .returned (.bool (b && f x)) ∧ I u' (b && f x) ∧ Kp (fun j => j = bo) u u') :
    Calls Tryz.prog 52 #[.agg (cvals V C), .func (Fn.func 54) #[] #[p, q]] w fun e w' => e = .returned (.tuple #[]) ∧ I w' (b0 && C.used.all f) ∧ Kp (fun j => j = bo) w w' := by
  obtain ⟨wz, hwz⟩ : ∃ wz : World, wz = (w.alloc (.cells (cvals V C) 27)).alloc (.cells #[.slice V.ao C.outs.length V.co, .slice V.ab C.bads.length V.cb, .slice V.ac C.cons.length V.cc] 22) := ⟨_, rfl⟩
  have HG := Lib.hid (Gather.start V C bo w0 w wz hwz h0 hk0 hbo hbw)
  have HC1 := Lib.hid (Blk.new w (cvals V C) 27)
  have HS := Lib.hid (show wz.heap.size = w.heap.size + 2 by rw [hwz]; simp)
  have HZ := Lib.hid hwz
  have HA := Lib.hid h0
  have HF := Lib.hid hf
  have HK0 := Lib.hid hk0
  have HBO := Lib.hid (And.intro hbo hbw)
  have HII := Lib.hid (And.intro hI (And.intro hIk hY))
  have HI := Lib.hid (show (Tryz.prog.info? 22).map (fun i => (i.zero, i.size, i.bytes)) = some (some (.slice none 0 0), 1, 24) by kernel_rfl)
  have hl := (h0.fl.le63).1
  have hg := (h0.fg.le63).1
  clear hwz h0 hf hk0 hbo hbw hI hIk hY
  go_enter Tryz.func52, Tryz.ntmps52
  go_upto_region 1 with fail
  obtain ⟨d0, d1, d2, d3, d4, d5, d6, d7, d8⟩ := HC1.out.cells9
  go_upto_region 2 with fail
  rw [← HZ.out]
  clear d0 d1 d2 d3 d4 d5 d6 d7 d8 HC1
  have hG := HG.out
  obtain ⟨rs0, -, -, -, hB0, -⟩ := hG
  have c2 := hB0.cell (i := 2) (v := .slice V.al C.lats.length V.cl) rfl
  clear hB0
  go_wp2_with fail
  go_loopw [4, 23] (fun v4 v23 wr => ∃ k : Nat, v23 = .int .i64 k ∧ k ≤ C.lats.length ∧ Gather V C bo w ([C.outs, C.bads, C.cons] ++ (C.lats.take k).map (fun x => [x.2.1])) v4 wr) (fun _ v23 _ => C.lats.length - (intOf v23).toNat)
  case atStart => exact ⟨0, rfl, by omega, by simpa using HG.out⟩
  case round =>
    obtain ⟨k, rfl, hk, hG⟩ := hrel
    clear c2 HG
    obtain ⟨wp, rfl⟩ : ∃ wp : World, wp = wr := ⟨_, rfl⟩
    have HG := Lib.hid hG
    by_cases hlt : k < C.lats.length
    · obtain ⟨rs, hO, hR, hB, hC, hK⟩ := hG
      have HSw := Lib.hid (show w.heap.size ≤ wp.heap.size from hK.size)
      have HRL := Lib.hid (show rs.length ≤ 3000000 by have := hR.1; have := HF.out.l; simp at this ⊢; rw [hR.1]; simp; omega)
      obtain ⟨b, off, ea, e0, e1, e2⟩ := tri_cells (HA.out.kp (HK0.out.trans hK (fun _ _ h => h))).l hlt
      have i0 : (0 : Int) ≤ (k : Int) := by omega
      have i1 : decide ((k : Int) < (C.lats.length : Int)) = true := decide_eq_true (by omega)
      obtain ⟨x0, hx0⟩ : ∃ x, (g3 C.lats k).1 = x := ⟨_, rfl⟩
      obtain ⟨x1, hx1⟩ : ∃ x, (g3 C.lats k).2.1 = x := ⟨_, rfl⟩
      obtain ⟨x2, hx2⟩ : ∃ x, (g3 C.lats k).2.2 = x := ⟨_, rfl⟩
      have HT := Lib.hid (take_g3 hlt)
      rw [hx0] at e0
      rw [hx1] at e1
      rw [hx2] at e2
      have HX := Lib.hid hx1
      have HEA := Lib.hid ea
      have i2 : (k : Int) < (C.lats.length : Int) := by omega
      clear hx0 hx1 hx2 ea
      have HNew := Lib.hid (three_blk wp #[.int .i64 x0, .int .i64 x1, .int .i64 x2] #[.int .i64 x1] #[.slice (some ⟨wp.heap.size + 1, 0, none⟩) 1 1] 48 3 22)
      have HOw := Lib.hid (((hO.alloc (.cells #[.int .i64 x0, .int .i64 x1, .int .i64 x2] 48)).alloc (.cells #[.int .i64 x1] 3)).alloc (.cells #[.slice (some ⟨wp.heap.size + 1, 0, none⟩) 1 1] 22))
      have HMore := Lib.hid (fun v' w2 hO2 hgr hat => Gather.more (v' := v') (w2 := w2) (g := wp.heap.size + 1) (n := 1) (l := [x1]) HBO.out.2 hO hR hB hC hK ((((Kp.refl _ wp).alloc (.cells #[.int .i64 x0, .int .i64 x1, .int .i64 x2] 48)).alloc (.cells #[.int .i64 x1] 3)).alloc (.cells #[.slice (some ⟨wp.heap.size + 1, 0, none⟩) 1 1] 22)) (by omega) HNew.out.1 rfl (by simp [maxLen]) hO2 hgr hat)
      clear hO hR hB hC hK
      rw [HEA.out]
      go_wp2_with (at_builtin; refine wpList_append1_at rfl _ _ 120 22 rfl Tryz.underlying120 HI.out rfl HOw.out rfl ⟨wp.heap.size + 2, 0, none⟩ (.slice (some ⟨wp.heap.size + 1, 0, none⟩) 1 1) rfl (HNew.out.2.cell rfl) rfl ?c1 ?c2 ?c3 ?_)
      case c1 => have := HRL.out; omega
      case c2 => have := HRL.out; unfold maxLen; omega
      case c3 => have := HSw.out; simp; omega
      intro v' w2 hO2 hg2 hat2
      have hrel : ∃ k' : Nat, Value.int .i64 ((k : Int) + 1) = .int .i64 k' ∧ k' ≤ C.lats.length ∧ Gather V C bo w ([C.outs, C.bads, C.cons] ++ (C.lats.take k').map (fun x => [x.2.1])) v' w2 := by
        refine ⟨k + 1, by go_num, by omega, ?_⟩
        rw [HT.out, List.map_append, ← List.append_assoc]
        have : [g3 C.lats k].map (fun x => [x.2.1]) = [[x1]] := by simp [HX.out]
        rw [this]
        exact HMore.out v' w2 hO2 hg2 (by simpa using hat2)
      have HR := Lib.hid hrel
      clear hrel hO2 hg2 hat2 HOw HNew HT HMore HG
      go_wp2_with fail
      go_roundw
      case rel => exact HR.out
      case measure => simp [intOf]; omega
    · have hk' : k = C.lats.length := by omega
      have HG1 : Hid (Gather V C bo w ([C.outs, C.bads, C.cons] ++ C.lats.map (fun x => [x.2.1])) u4 wp) := Lib.hid (by rwa [hk', List.take_length] at hG)
      obtain ⟨rs0, -, -, -, hB0, -⟩ := hG
      have c6 := hB0.cell (i := 6) (v := .slice V.ag C.gates.length V.cg) rfl
      clear HG hk hk' hB0
      go_wp2_with fail
      go_loopw [4, 37] (fun v4 v37 wr => ∃ k : Nat, v37 = .int .i64 k ∧ k ≤ C.gates.length ∧ Gather V C bo w ([C.outs, C.bads, C.cons] ++ C.lats.map (fun x => [x.2.1]) ++ (C.gates.take k).map (fun x => [x.2.1, x.2.2])) v4 wr) (fun _ v37 _ => C.gates.length - (intOf v37).toNat)
      case atStart => exact ⟨0, rfl, by omega, by simpa using HG1.out⟩
      case round =>
        obtain ⟨k, rfl, hk, hG⟩ := hrel
        clear c6 HG1 hlt
        obtain ⟨wq, rfl⟩ : ∃ wp : World, wp = wr := ⟨_, rfl⟩
        have HG := Lib.hid hG
        by_cases hlt : k < C.gates.length
        · obtain ⟨rs, hO, hR, hB, hC, hK⟩ := hG
          have HSw := Lib.hid (show w.heap.size ≤ wq.heap.size from hK.size)
          have HRL := Lib.hid (show rs.length ≤ 3000000 by have := hR.1; have := HF.out.l; have := HF.out.g; rw [hR.1]; simp; omega)
          obtain ⟨b, off, ea, e0, e1, e2⟩ := tri_cells (HA.out.kp (HK0.out.trans hK (fun _ _ h => h))).g hlt
          have i0 : (0 : Int) ≤ (k : Int) := by omega
          have i1 : decide ((k : Int) < (C.gates.length : Int)) = true := decide_eq_true (by omega)
          obtain ⟨x0, hx0⟩ : ∃ x, (g3 C.gates k).1 = x := ⟨_, rfl⟩
          obtain ⟨x1, hx1⟩ : ∃ x, (g3 C.gates k).2.1 = x := ⟨_, rfl⟩
          obtain ⟨x2, hx2⟩ : ∃ x, (g3 C.gates k).2.2 = x := ⟨_, rfl⟩
          have HT := Lib.hid (take_g3 hlt)
          rw [hx0] at e0
          rw [hx1] at e1
          rw [hx2] at e2
          have HX := Lib.hid (And.intro hx1 hx2)
          have HEA := Lib.hid ea
          have i2 : (k : Int) < (C.gates.length : Int) := by omega
          clear hx0 hx1 hx2 ea
          have HNew := Lib.hid (three_blk wq #[.int .i64 x0, .int .i64 x1, .int .i64 x2] #[.int .i64 x1, .int .i64 x2] #[.slice (some ⟨wq.heap.size + 1, 0, none⟩) 2 2] 73 3 22)
          have HOw := Lib.hid (((hO.alloc (.cells #[.int .i64 x0, .int .i64 x1, .int .i64 x2] 73)).alloc (.cells #[.int .i64 x1, .int .i64 x2] 3)).alloc (.cells #[.slice (some ⟨wq.heap.size + 1, 0, none⟩) 2 2] 22))
          have HMore := Lib.hid (fun v' w2 hO2 hgr hat => Gather.more (v' := v') (w2 := w2) (g := wq.heap.size + 1) (n := 2) (l := [x1, x2]) HBO.out.2 hO hR hB hC hK ((((Kp.refl _ wq).alloc (.cells #[.int .i64 x0, .int .i64 x1, .int .i64 x2] 73)).alloc (.cells #[.int .i64 x1, .int .i64 x2] 3)).alloc (.cells #[.slice (some ⟨wq.heap.size + 1, 0, none⟩) 2 2] 22)) (by omega) HNew.out.1 rfl (by simp [maxLen]) hO2 hgr hat)
          clear hO hR hB hC hK
          rw [HEA.out]
          go_wp2_with (at_builtin; refine wpList_append1_at rfl _ _ 120 22 rfl Tryz.underlying120 HI.out rfl HOw.out rfl ⟨wq.heap.size + 2, 0, none⟩ (.slice (some ⟨wq.heap.size + 1, 0, none⟩) 2 2) rfl (HNew.out.2.cell rfl) rfl ?d1 ?d2 ?d3 ?_)
          case d1 => have := HRL.out; omega
          case d2 => have := HRL.out; unfold maxLen; omega
          case d3 => have := HSw.out; simp; omega
          intro v' w2 hO2 hg2 hat2
          have hrel : ∃ k' : Nat, Value.int .i64 ((k : Int) + 1) = .int .i64 k' ∧ k' ≤ C.gates.length ∧ Gather V C bo w ([C.outs, C.bads, C.cons] ++ C.lats.map (fun x => [x.2.1]) ++ (C.gates.take k').map (fun x => [x.2.1, x.2.2])) v' w2 := by
            refine ⟨k + 1, by go_num, by omega, ?_⟩
            rw [HT.out, List.map_append, ← List.append_assoc]
            have : [g3 C.gates k].map (fun x => [x.2.1, x.2.2]) = [[x1, x2]] := by simp [HX.out.1, HX.out.2]
            rw [this]
            exact HMore.out v' w2 hO2 hg2 (by simpa using hat2)
          have HR := Lib.hid hrel
          clear hrel hO2 hg2 hat2 HOw HNew HT HMore HG
          go_wp2_with fail
          go_roundw
          case rel => exact HR.out
          case measure => simp [intOf]; omega
        · have hk' : k = C.gates.length := by omega
          have hG1 : Gather V C bo w (usedRows C) u4 wq := by rw [hk', List.take_length] at hG; exact hG
          obtain ⟨rs, hO, hR, hB, hC, hK⟩ := hG1
          obtain ⟨a4, c4, e4, hc4, hm4, hp4, -⟩ := hO.form
          have HO := Lib.hid hO
          have HR := Lib.hid hR
          have hln : rs.length = (usedRows C).length := hR.1
          rw [hln] at e4 hc4
          subst e4
          obtain ⟨n4, hn4⟩ : ∃ n, (usedRows C).length = n := ⟨_, rfl⟩
          have HN4 := Lib.hid hn4
          have HIw := Lib.hid (HII.out.2.1 _ _ _ hK HII.out.1)
          have HKw := Lib.hid hK
          have hn63 : n4 ≤ 9223372036854775807 := by rw [← hn4, usedRows_length]; have := HF.out.l; have := HF.out.g; omega
          have hB4 : ∀ j, (Value.slice a4 n4 c4).ownBlock = some j → j ≠ bo := fun j hj => by
            have := hB j (by rw [hn4]; exact hj)
            have := HBO.out.2
            omega
          have HB4 := Lib.hid hB4
          rw [hn4] at HO HR ⊢
          have HRW := Lib.hid (show ∀ u, Kp (fun j => j = bo) wq u → RowAt u a4 rs from fun u hu => by
            obtain ⟨a, c, e, -, -, hp, hr⟩ := HO.out.form
            simp only [Value.slice.injEq] at e
            obtain ⟨rfl, -, -⟩ := e
            refine hr.kp hu (fun p hp' hb => ?_)
            obtain ⟨g, rfl, -, -⟩ := hp p hp'
            subst hp'
            exact hB4 g rfl hb)
          have HRR := Lib.hid (show ∀ u, Kp (fun j => j = bo) wq u → RowsAt (fun j => j = bo) u rs (usedRows C) from fun u hu => (HR.out.mono (fun j _ h => .inl h)).kp hu (fun _ h => h))
          clear hG hk' hO hR hB hC hK hln hk hp4 hm4 hB4 hn4 hc4 HO HR HB4 HG HA
          go_wp2_with fail
          go_loopw [52] (fun v52 wr => ∃ i : Nat, v52 = .int .i64 i ∧ i ≤ n4 ∧ I wr (b0 && ((usedRows C).take i).flatten.all f) ∧ Kp (fun j => j = bo) wq wr) (fun v52 _ => n4 - (intOf v52).toNat)
          case atStart => exact ⟨0, rfl, by omega, by simpa using HIw.out, Kp.refl _ _⟩
          case round =>
            obtain ⟨i, rfl, hi, hI3, hK3⟩ := hrel
            obtain ⟨w3, rfl⟩ : ∃ w3 : World, w3 = wr := ⟨_, rfl⟩
            have HI3 := Lib.hid hI3
            have HK3 := Lib.hid hK3
            clear hI3 hK3 HIw
            by_cases hi4 : i < n4
            · have hiU : i < (usedRows C).length := by rw [HN4.out]; exact hi4
              obtain ⟨r, hr⟩ : ∃ r, rs[i]? = some r := ⟨_, List.getElem?_eq_getElem (by rw [(HRR.out _ HK3.out).1]; exact hiU)⟩
              obtain ⟨ai, ci, rfl, hci, hcm, hri, -⟩ := (HRR.out _ HK3.out).2 i r _ hr (grow_at hiU)
              obtain ⟨b, off, ea, hcell⟩ := HRW.out _ HK3.out i _ hr
              have HRI := Lib.hid (show ∀ u, Kp (fun j => j = bo) w3 u → IntsAt u ai (grow (usedRows C) i) from fun u hu => by
                obtain ⟨a2, c2, e2, -, -, h2, -⟩ := (HRR.out u (HK3.out.trans hu (fun _ _ h => h))).2 i _ _ hr (grow_at hiU)
                simp only [Value.slice.injEq] at e2
                rw [e2.1]; exact h2)
              have HIU := Lib.hid hiU
              obtain ⟨ni, hni⟩ : ∃ ni, (grow (usedRows C) i).length = ni := ⟨_, rfl⟩
              rw [hni] at hcell hci
              have HNI := Lib.hid hni
              have hn63i : ni ≤ 9223372036854775807 := by unfold maxLen at hcm; omega
              subst ea
              clear hr hri hci hcm hni hiU
              have i0 : (0 : Int) ≤ (i : Int) := by omega
              have i1 : (i : Int) < (n4 : Int) := by omega
              go_wp2_with fail
              go_loopw [58] (fun v58 w4 => ∃ k : Nat, v58 = .int .i64 k ∧ k ≤ ni ∧ I w4 (b0 && (((usedRows C).take i).flatten ++ (grow (usedRows C) i).take k).all f) ∧ Kp (fun j => j = bo) w3 w4) (fun v58 _ => ni - (intOf v58).toNat)
              case atStart => exact ⟨0, rfl, by omega, by simpa using HI3.out, Kp.refl _ _⟩
              case round =>
                obtain ⟨k, rfl, hk, hI4, hK4⟩ := hrel
                obtain ⟨w4, rfl⟩ : ∃ w4 : World, w4 = wr := ⟨_, rfl⟩
                have HI4 := Lib.hid hI4
                have HK4 := Lib.hid hK4
                clear hI4 hK4 hcell
                by_cases hkl : k < ni
                · obtain ⟨b, off, e, hcell⟩ := (HRI.out _ HK4.out).get (j := k) (by rw [HNI.out]; exact hkl)
                  have HMem := Lib.hid (show gi (grow (usedRows C) i) k ∈ C.used by rw [← usedRows_flat]; exact mem_used HIU.out (by rw [HNI.out]; exact hkl))
                  have HAll := Lib.hid (all_take_gi (l := grow (usedRows C) i) (k := k) (by rw [HNI.out]; exact hkl) (((usedRows C).take i).flatten) f)
                  have HUF := Lib.hid (used_false (L := usedRows C) (i := i) (k := k) HIU.out (f := f) (b := b0))
                  obtain ⟨x, hx⟩ : ∃ x, gi (grow (usedRows C) i) k = x := ⟨_, rfl⟩
                  rw [hx] at hcell HMem HAll
                  obtain ⟨bb, hbb⟩ : ∃ bb, (b0 && (((usedRows C).take i).flatten ++ (grow (usedRows C) i).take k).all f) = bb := ⟨_, rfl⟩
                  have HBB := Lib.hid hbb
                  rw [hbb] at HI4
                  obtain ⟨b5, hb5⟩ : ∃ b5, (bb && f x) = b5 := ⟨_, rfl⟩
                  have HYx := Lib.hid (HII.out.2.2 _ _ _ HMem.out HI4.out)
                  rw [hb5] at HYx
                  have HB5 := Lib.hid (show (b0 && (((usedRows C).take i).flatten ++ (grow (usedRows C) i).take (k + 1)).all f) = b5 by rw [HAll.out, ← Bool.and_assoc, hbb]; exact hb5)
                  have k0 : (0 : Int) ≤ (k : Int) := by omega
                  have k1 : (k : Int) < (ni : Int) := by omega
                  subst e
                  clear hx hbb hb5
                  go_wp2_with fail
                  refine HYx.out.mono ?_
                  rintro o w5 ⟨rfl, hI5, hK5⟩
                  have HI5 := Lib.hid hI5
                  have HK5 := Lib.hid (HK4.out.trans hK5 (fun _ _ h => h))
                  clear hI5 hK5 HYx
                  cases b5 with
                  | false =>
                    go_wp2_with fail
                    refine bodyPost_ret (results_none rfl _ _ _) rfl ?_
                    exact ⟨rfl, by rw [← usedRows_flat, HUF.out HB5.out]; exact HI5.out, (HKw.out.mono (fun _ _ h => h.elim)).trans (HK3.out.trans HK5.out (fun _ _ h => h)) (fun _ _ h => h)⟩
                  | true =>
                    go_wp2_with fail
                    go_roundw
                    case rel => exact ⟨k + 1, by go_num, by omega, by rw [HB5.out]; exact HI5.out, HK5.out⟩
                    case measure => simp [intOf]; omega
                · have HI4' := Lib.hid (show I w4 (b0 && ((usedRows C).take (i + 1)).flatten.all f) by
                    have h := HI4.out
                    rw [List.take_of_length_le (l := grow (usedRows C) i) (by rw [HNI.out]; omega)] at h
                    rwa [take_grow HIU.out])
                  go_wp2_with fail
                  go_roundw
                  case rel => exact ⟨i + 1, by go_num, by omega, HI4'.out, HK3.out.trans HK4.out (fun _ _ h => h)⟩
                  case measure => simp [intOf]; omega
            · have HI3' := Lib.hid (show I w3 (b0 && C.used.all f) by
                have h := HI3.out
                rw [List.take_of_length_le (by rw [HN4.out]; omega), usedRows_flat] at h
                exact h)
              go_wp2_with fail
              go_end0
              exact ⟨rfl, HI3'.out, (HKw.out.mono (fun _ _ h => h.elim)).trans HK3.out (fun _ _ h => h)⟩

end Go.Proofs.YtcnegeggecmncaaGreatDoor
