/-
  circ.Order: the gates' places, in the document's order.
-/
import Derived.Test.YtmjcpapcmbgkjaaDoorM2
import Derived.Test.YtmjcpapcmbgkjaaDoorM1
import Derived.Maps.AppendAt
import Derived.Deep.AppendLies
import Derived.Deep.Quiet
import Derived.Deep.QuietTactic
import Derived.Orders
set_option linter.unusedVariables false
set_option linter.unusedSimpArgs false
namespace Go.Proofs.YtmjcpapcmbgkjaaDoor
open Go.RowKit

/-- literals of gates that are no greater than may be -/
def GBnd (G : List (Int × Int × Int)) : Prop := ∀ i, i < G.length → 0 ≤ (g3 G i).1 ∧ (g3 G i).1 ≤ 100000000 ∧ 0 ≤ (g3 G i).2.1 ∧ (g3 G i).2.1 ≤ 100000000 ∧ 0 ≤ (g3 G i).2.2 ∧ (g3 G i).2.2 ≤ 100000000

/-- what making two lists leaves -/
def Made2 (n : Nat) (wp : World) (s6 s7 : Value) (wx : World) : Prop :=
  ∃ gl ga, s6 = .slice (some ⟨gl, 0, none⟩) n n ∧ s7 = .slice (some ⟨ga, 0, none⟩) n n ∧ Blk wx gl (zts (fun _ => 0) n).toArray 3 ∧ Blk wx ga (rowF (fun _ => .slice none 0 0) n).toArray 22 ∧ gl ≠ ga ∧ wp.heap.size ≤ gl ∧ wp.heap.size ≤ ga ∧ Kp (fun _ => False) wp wx

theorem made2_a (n : Nat) (wp : World) : Made2 n wp (.slice (some ⟨wp.heap.size, 0, none⟩) n n) (.slice (some ⟨wp.heap.size + 1, 0, none⟩) n n) ((wp.alloc (.cells (madeCells #[.int .i64 0] n) 3)).alloc (.cells (madeCells #[.slice none 0 0] n) 22)).drew := by
  refine ⟨_, _, rfl, rfl, ?_, ?_, by omega, Nat.le_refl _, by omega, (((Kp.refl _ wp).alloc _).alloc _).drew⟩
  · show Blk _ _ (rowF (fun _ => .int .i64 0) n).toArray _
    rw [← made_row]
    exact ((Blk.new wp (madeCells #[.int .i64 0] n) 3).alloc (.cells (madeCells #[.slice none 0 0] n) 22)).drew
  · rw [← made_row (.slice none 0 0)]
    exact (two_blk wp (madeCells #[.int .i64 0] n) (madeCells #[.slice none 0 0] n) 3 22).drew
theorem made2_b (n : Nat) (wp : World) : Made2 n wp (.slice (some ⟨wp.heap.size + 1, 0, none⟩) n n) (.slice (some ⟨wp.heap.size, 0, none⟩) n n) ((wp.alloc (.cells (madeCells #[.slice none 0 0] n) 22)).alloc (.cells (madeCells #[.int .i64 0] n) 3)).drew := by
  refine ⟨_, _, rfl, rfl, ?_, ?_, by omega, by omega, Nat.le_refl _, (((Kp.refl _ wp).alloc _).alloc _).drew⟩
  · show Blk _ _ (rowF (fun _ => .int .i64 0) n).toArray _
    rw [← made_row]
    exact (two_blk wp (madeCells #[.slice none 0 0] n) (madeCells #[.int .i64 0] n) 22 3).drew
  · rw [← made_row (.slice none 0 0)]
    exact ((Blk.new wp (madeCells #[.slice none 0 0] n) 22).alloc (.cells (madeCells #[.int .i64 0] n) 3)).drew

set_option maxRecDepth 100000 in
set_option maxHeartbeats 8000000 in
theorem circ_Order (V : CV) (C : Circ) (w : World) (h : CAt w V C) (hf : C.gates.length ≤ 1000000) (hG : GoodG C.gates) (hb : GBnd C.gates) :
    Calls Tryd.prog 37 #[.agg (cvals V C)] w fun e w' => ∃ v, e = .returned v ∧ Own w' w.heap.size 3 v (nv (ordO C.gates)) ∧ Kp (fun _ => False) w w' := by
  obtain ⟨n, hn⟩ : ∃ n, C.gates.length = n := ⟨_, rfl⟩
  have hn1 : n ≤ 1000000 := by omega
  obtain ⟨i0, hi, hz0, hz1, hz2⟩ := info_parts (show (Tryd.prog.info? 3).map (fun i => (i.zero, i.size, i.bytes)) = some (some (.int .i64 0), 1, 8) by kernel_rfl)
  have hmk : ∀ u : World, (Instr.makeSlice 22 (.int .i64 (n : Int)) (.int .i64 (n : Int))).run Tryd.prog u =
      .ok (.slice (some ⟨u.heap.size, 0, none⟩) n n) (u.alloc (.cells (madeCells #[.int .i64 0] n) 3)) := fun u => by
    have h := run_make (P := Tryd.prog) u 22 3 i0 (.int .i64 0) Tryd.underlying22 hi hz0 .i64 .i64 (n : Int) (n : Int) (by omega) (Int.le_refl _) (by rw [hz2]; omega) (by omega)
    simpa [hz1, Value.cells] using h
  clear hi hz0 hz1 hz2 i0
  obtain ⟨i0, hi, hz0, hz1, hz2⟩ := info_parts (show (Tryd.prog.info? 22).map (fun i => (i.zero, i.size, i.bytes)) = some (some (.slice none 0 0), 1, 24) by kernel_rfl)
  have hms : ∀ u : World, (Instr.makeSlice 58 (.int .i64 (n : Int)) (.int .i64 (n : Int))).run Tryd.prog u =
      .ok (.slice (some ⟨u.heap.size, 0, none⟩) n n) (u.alloc (.cells (madeCells #[.slice none 0 0] n) 22)) := fun u => by
    have h := run_make (P := Tryd.prog) u 58 22 i0 (.slice none 0 0) Tryd.underlying58 hi hz0 .i64 .i64 (n : Int) (n : Int) (by omega) (Int.le_refl _) (by rw [hz2]; omega) (by omega)
    simpa [hz1, Value.cells] using h
  clear hi hz0 hz1 hz2 i0
  have hmm := @run_makeMap Tryd.prog
  have HMk := Lib.hid (And.intro hmk hms)
  clear hmk hms
  have HI := Lib.hid (show (Tryd.prog.info? 3).map (fun i => (i.zero, i.size, i.bytes)) = some (some (.int .i64 0), 1, 8) by kernel_rfl)
  obtain ⟨bp, hbp⟩ : ∃ bp, bp = w.heap.size + 1 := ⟨_, rfl⟩
  obtain ⟨wz, hwz⟩ : ∃ wz : World, wz = (w.alloc (.cells (cvals V C) 27)).alloc (.map #[] 0) := ⟨_, rfl⟩
  have HK0 : Hid (Kp (fun _ => False) w wz) := Lib.hid (by rw [hwz]; exact ((Kp.refl _ w).alloc _).alloc _)
  have HC0 : Hid (Blk wz w.heap.size (cvals V C) 27) := Lib.hid (by rw [hwz]; exact (Blk.new w _ _).alloc _)
  have HM0 : Hid (IMI wz bp 0 (placeF C.gates 0)) := Lib.hid (by rw [hwz, hbp]; have := IMI.made (w.alloc (.cells (cvals V C) 27)); rw [World.size_alloc] at this; exact this)
  have HBP := Lib.hid hbp
  have HZ := Lib.hid hwz
  have HA := Lib.hid h
  have HN := Lib.hid hn
  have HG := Lib.hid hG
  have HB := Lib.hid hb
  have HU : Hid (cvals V C = #[.int .i64 C.max, .slice V.ai C.ins.length V.ci, .slice V.al C.lats.length V.cl, .slice V.ao C.outs.length V.co, .slice V.ab C.bads.length V.cb, .slice V.ac C.cons.length V.cc, .slice V.ag n V.cg, .slice V.ay V.ny V.cy, .string V.cm]) := Lib.hid (by unfold cvals; rw [hn])
  clear hbp hwz h hf hn hG hb
  go_enter Tryd.func37, Tryd.ntmps37
  go_upto_region 2 with fail
  rw [← HZ.out]
  clear hmm HZ
  rw [show w.heap.size + 1 = bp from HBP.out.symm]
  have c6 := HC0.out.cell (i := 6) (v := .slice V.ag n V.cg) (by rw [HU.out]; rfl)
  go_wp2_with fail
  go_loopw [24] (fun v24 wr => ∃ k : Nat, v24 = .int .i64 k ∧ k ≤ n ∧ IMI wr bp k (placeF C.gates k) ∧ Blk wr w.heap.size (cvals V C) 27 ∧ Kp (fun _ => False) w wr) (fun v24 _ => n - (intOf v24).toNat)
  case atStart => exact ⟨0, rfl, by omega, HM0.out, HC0.out, HK0.out⟩
  case round =>
    obtain ⟨k, rfl, hk, hM, hC, hK⟩ := hrel
    clear c6 HM0 HC0 HK0
    obtain ⟨wp, rfl⟩ : ∃ wp : World, wp = wr := ⟨_, rfl⟩
    by_cases hlt : k < n
    · have hkl : k < C.gates.length := by rw [HN.out]; exact hlt
      obtain ⟨b, off, ea, e0, e1, e2⟩ := tri_cells (HA.out.kp hK).g hkl
      have hbd := HB.out k hkl
      obtain ⟨x0, hx0⟩ : ∃ x, (g3 C.gates k).1 = x := ⟨_, rfl⟩
      obtain ⟨x1, hx1⟩ : ∃ x, (g3 C.gates k).2.1 = x := ⟨_, rfl⟩
      obtain ⟨x2, hx2⟩ : ∃ x, (g3 C.gates k).2.2 = x := ⟨_, rfl⟩
      rw [hx0] at e0
      rw [hx1] at e1
      rw [hx2] at e2
      have b0 : 0 ≤ x0 := by rw [← hx0]; exact hbd.1
      have b1 : x0 ≤ 100000000 := by rw [← hx0]; exact hbd.2.1
      have i0 : (0 : Int) ≤ (k : Int) := by omega
      have i2 : (k : Int) < (n : Int) := by omega
      obtain ⟨w3, hput, hM3, hK3⟩ := (hM.kp ((Kp.refl (fun _ => False) wp).alloc (.cells #[.int .i64 x0, .int .i64 x1, .int .i64 x2] 43)) (fun h => h)).put (by unfold maxLen; omega) (x := x0 / 2) ⟨by omega, by omega⟩ (v := (k : Int)) ⟨by omega, by omega⟩
      have hfun : (fun y => if y = x0 / 2 then some (k : Int) else placeF C.gates k y) = placeF C.gates (k + 1) := by funext y; show _ = (if y = (g3 C.gates k).1 / 2 then some (k : Int) else placeF C.gates k y); rw [hx0]
      rw [hfun] at hM3
      have hbw : w.heap.size < bp := by have := HBP.out; omega
      have HR := Lib.hid (show ∃ k' : Nat, Value.int .i64 ((k : Int) + 1) = .int .i64 k' ∧ k' ≤ n ∧ IMI w3 bp k' (placeF C.gates k') ∧ Blk w3 w.heap.size (cvals V C) 27 ∧ Kp (fun _ => False) w w3 from
        ⟨k + 1, by go_num, by omega, hM3, (hC.alloc _).kp hK3 (by omega), (hK.alloc _).trans hK3 (fun j hj h => by omega)⟩)
      have HEA := Lib.hid ea
      clear hx0 hx1 hx2 ea hM3 hK3 hfun hM hC hK hbd hkl hbw
      rw [HEA.out]
      go_wp2_with fail
      go_roundw
      case rel => exact HR.out
      case measure => simp [intOf]; omega
    · have hk' : k = n := by omega
      have HM := Lib.hid (show IMI wp bp n (placeF C.gates n) by rw [← hk']; exact hM)
      have HC := Lib.hid hC
      have HK := Lib.hid hK
      clear hk' hM hC hK
      go_upto_region 7 with fail
      have c6 := HC.out.cell (i := 6) (v := .slice V.ag n V.cg) (by rw [HU.out]; rfl)
      go_cut [6, 7] from 35 to 42 (fun s6 s7 wx => Made2 n wp s6 s7 wx)
      case first =>
        have hmk := HMk.out.1
        have hms := HMk.out.2
        go_region_held3 (fun u => u.cell? ⟨w.heap.size, 6, none⟩ = some (.slice V.ag n V.cg)) (first | exact HC.out.cell (by rw [HU.out]; rfl) | exact HC.out.drew.cell (by rw [HU.out]; rfl) | exact ((HC.out).alloc _).cell (by rw [HU.out]; rfl) | exact ((HC.out).alloc _).drew.cell (by rw [HU.out]; rfl) | exact (((HC.out).alloc _).alloc _).cell (by rw [HU.out]; rfl) | exact (((HC.out).alloc _).alloc _).drew.cell (by rw [HU.out]; rfl)) (fail)
        all_goals go_wp2_with fail
        all_goals go_meet
        all_goals first | exact made2_a n wp | exact made2_b n wp
      case rest =>
      obtain ⟨gl, ga, rfl, rfl, hL, hAb, hne, hgl, hga, hKc⟩ := hcut
      obtain ⟨wa, rfl⟩ : ∃ wa : World, wa = wc := ⟨_, rfl⟩
      have hbw := HBP.out
      have hbpl := HM.out.lt
      have HC1 := Lib.hid (HC.out.kp hKc (fun h => h))
      have HX := Lib.hid (fun w2 h X hH hK2 => OS.start (w := w) (wa := wa) (w2 := w2) (h := h) (X := X) (HM.out.kp hKc (fun h => h)) hL hAb (HK.out.trans hKc (fun _ _ h => h)) hH hK2 ⟨by omega, by have := HK.out.size; omega, by have := HK.out.size; omega⟩ ⟨by omega, by omega, hne⟩)
      clear hL hAb hne hgl hga hKc hbpl hbw c6 HM HC HK hlt hk
      have c6 := HC1.out.cell (i := 6) (v := .slice V.ag n V.cg) (by rw [HU.out]; rfl)
      go_wp2_with fail
      refine (HSet.new (n := n) (by omega) _).mono ?_
      rintro e w2 ⟨h, X, rfl, hH, hK2⟩
      have HC2 := Lib.hid (HC1.out.kp hK2 (fun h => h))
      have HOS := Lib.hid (show BuildRel w bp gl ga h n C.gates 0 w2 from by
        exact ⟨fun _ => .slice none 0 0, X, (HX.out w2 h X hH hK2).same (fun k _ => (lackP_nil C.gates k).symm) (fun k _ => rfl) (fun x => ⟨fun h => h.elim, fun h => by omega⟩)⟩)
      clear hH hK2 HX c6 HC1
      have c6 := HC2.out.cell (i := 6) (v := .slice V.ag n V.cg) (by rw [HU.out]; rfl)
      go_wp2_with fail
      go_loopw [50] (fun v50 wr => ∃ i : Nat, v50 = .int .i64 i ∧ i ≤ n ∧ BuildRel w bp gl ga h n C.gates i wr) (fun v50 _ => n - (intOf v50).toNat)
      case atStart => exact ⟨0, rfl, by omega, HOS.out⟩
      case round =>
        obtain ⟨i, rfl, hi, hB⟩ := hrel
        clear c6 HOS HC2
        obtain ⟨wq, rfl⟩ : ∃ wq : World, wq = wr := ⟨_, rfl⟩
        by_cases hlt : i < n
        · obtain ⟨R, X, H⟩ := hB
          have hkl : i < C.gates.length := by rw [HN.out]; exact hlt
          obtain ⟨b, off, ea, e0, e1, e2⟩ := tri_cells (HA.out.kp H.kp).g hkl
          have hbd := HB.out i hkl
          obtain ⟨x0, hx0⟩ : ∃ x, (g3 C.gates i).1 = x := ⟨_, rfl⟩
          obtain ⟨x1, hx1⟩ : ∃ x, (g3 C.gates i).2.1 = x := ⟨_, rfl⟩
          obtain ⟨x2, hx2⟩ : ∃ x, (g3 C.gates i).2.2 = x := ⟨_, rfl⟩
          have HPin := Lib.hid (show (∀ q, q < 2 → 0 ≤ gpin C.gates i q ∧ gpin C.gates i q ≤ 100000000) ∧ gpin C.gates i 0 = x1 ∧ gpin C.gates i 1 = x2 from by
            have g0 : gpin C.gates i 0 = x1 := hx1
            have g1 : gpin C.gates i 1 = x2 := hx2
            refine ⟨fun q hq => ?_, g0, g1⟩
            match q, hq with
            | 0, _ => rw [g0, ← hx1]; exact ⟨hbd.2.2.1, hbd.2.2.2.1⟩
            | 1, _ => rw [g1, ← hx2]; exact ⟨hbd.2.2.2.2.1, hbd.2.2.2.2.2⟩)
          rw [hx0] at e0
          rw [hx1] at e1
          rw [hx2] at e2
          have i0 : (0 : Int) ≤ (i : Int) := by omega
          have i2 : (i : Int) < (n : Int) := by omega
          have HEA := Lib.hid ea
          have HKL := Lib.hid hkl
          have HP := Lib.hid (show PinRel w bp gl ga h n C.gates i 0 (wq.heap.size + 1) x1 x2 ((wq.alloc (.cells #[.int .i64 x0, .int .i64 x1, .int .i64 x2] 43)).alloc (.cells #[.int .i64 x1, .int .i64 x2] 3)) from by
            have hgl := H.la.lt
            have hga := H.ab.lt
            exact ⟨R, X, (H.fresh (((Kp.refl _ wq).alloc _).alloc _)).same (fun k _ => rfl) (fun k _ => (abvP_zero C.gates i k).symm) (fun x => Iff.rfl), two_blk wq _ _ _ _, by omega, by omega, fun k hk e => by have := ((H.ow k hk).lt _ e).2; omega⟩)
          clear hx0 hx1 hx2 ea hbd H hkl
          rw [HEA.out]
          go_wp2_with fail
          obtain ⟨bq, hbq⟩ : ∃ bq, bq = wq.heap.size + 1 := ⟨_, rfl⟩
          rw [← hbq] at HP ⊢
          clear hbq
          go_loopw [61] (fun v61 wr => ∃ q : Nat, v61 = .int .i64 q ∧ q ≤ 2 ∧ PinRel w bp gl ga h n C.gates i q bq x1 x2 wr) (fun v61 _ => 2 - (intOf v61).toNat)
          case atStart => exact ⟨0, rfl, by omega, HP.out⟩
          case round =>
            obtain ⟨q, rfl, hq, hP⟩ := hrel
            clear e0 e1 e2 HP
            obtain ⟨wp2, rfl⟩ : ∃ wp2 : World, wp2 = wr := ⟨_, rfl⟩
            obtain ⟨R, X, H, hbq, hq1, hq2, hq3⟩ := hP
            by_cases hq2' : q < 2
            · have hbd := HPin.out.1 q hq2'
              have hcell : wp2.cell? ⟨bq, q, none⟩ = some (.int .i64 (gpin C.gates i q)) := by
                match q, hq2' with
                | 0, _ => rw [HPin.out.2.1]; exact hbq.cell rfl
                | 1, _ => rw [HPin.out.2.2]; exact hbq.cell rfl
              have q0 : (0 : Int) ≤ (q : Int) := by omega
              have q1 : (q : Int) < 2 := by omega
              have hlook := H.pl.look (x := gpin C.gates i q / 2) ⟨by omega, by omega⟩
              have HHit := Lib.hid (fun k (hk : k < C.gates.length) hp => pin_hit (i := i) (q := q) (k := k) HG.out hq2' hk hp)
              have HMiss := Lib.hid (pin_miss (G := C.gates) (i := i) (q := q) hq2')
              have hW := waits_nil (G := C.gates) (l := gpin C.gates i q)
              rw [HN.out] at hW
              obtain ⟨l, hl⟩ : ∃ l, gpin C.gates i q = l := ⟨_, rfl⟩
              rw [hl] at hcell hlook hbd hW HMiss
              have HL := Lib.hid hl
              have l0 := hbd.1
              have l1 := hbd.2
              clear hl hbd
              cases hF : placeF C.gates n (l / 2) with
              | none =>
                rw [hF] at hlook hW
                have hlook' : (Instr.lookup 92 (.map (some bp)) (.int .i64 (l / 2)) true).run Tryd.prog wp2 = .ok (.tuple #[.int .i64 0, .bool false]) wp2 := hlook
                have HR := Lib.hid (show PinRel w bp gl ga h n C.gates i (q + 1) bq x1 x2 wp2 from ⟨R, X, H.same (fun k _ => (HMiss.out hW).2 k) (fun k hk => (HMiss.out hW).1 k (by rw [HN.out]; exact hk)) (fun _ => Iff.rfl), hbq, hq1, hq2, hq3⟩)
                clear hF hlook hW H hbq hq1 hq2 hq3
                go_wp2_with fail
                go_roundw
                case rel => exact ⟨q + 1, by go_num, by omega, HR.out⟩
                case measure => simp [intOf]; omega
              | some v =>
                obtain ⟨k, rfl, hk, hkv⟩ := placeF_some hF
                rw [hF] at hlook
                have hlook' : (Instr.lookup 92 (.map (some bp)) (.int .i64 (l / 2)) true).run Tryd.prog wp2 = .ok (.tuple #[.int .i64 (k : Int), .bool true]) wp2 := hlook
                have hh := HHit.out k (by rw [HN.out]; exact hk) (by rw [HL.out]; exact hkv)
                obtain ⟨c, hc⟩ : ∃ c, lackP C.gates i q i = c := ⟨_, rfl⟩
                have c01 : 0 ≤ c ∧ c ≤ 2 := by
                  rw [← hc]; unfold lackP
                  rw [if_neg (by omega), if_pos rfl]
                  have : cntP C.gates i q ≤ 2 := by unfold cntP; exact Nat.le_trans (List.length_filter_le _ _) (by simp [pins]; omega)
                  omega
                have cL := H.cellL hlt
                have fL := H.freeL i
                rw [hc] at cL
                have H1 := H.setL i (c + 1)
                have cA : (wp2.setCell ⟨gl, i, none⟩ (.int .i64 (c + 1))).cell? ⟨ga, k, none⟩ = some (R k) := H1.cellA hk
                have k0 : (0 : Int) ≤ (k : Int) := by omega
                have k1 : (k : Int) < (n : Int) := by omega
                have c0 := c01.1
                have c1 := c01.2
                have hbq' : Blk (wp2.setCell ⟨gl, i, none⟩ (.int .i64 (c + 1))) bq #[.int .i64 x1, .int .i64 x2] 3 := hbq.set_other (p := ⟨gl, i, none⟩) hq1 _
                have HLen := Lib.hid (abvP_len C.gates i q k)
                have HC := Lib.hid hc
                have HH1 := Lib.hid H1
                have HBq := Lib.hid (And.intro hbq' (And.intro hq1 (And.intro hq2 hq3)))
                have HH := Lib.hid (And.intro hh hkv)
                clear hF hlook hW hc c01 H H1 hbq hbq' hq1 hq2 hq3 hh hkv
                go_upto_region 18 with fail
                obtain ⟨w1, hw1⟩ : ∃ w1, w1 = wp2.setCell ⟨gl, i, none⟩ (.int .i64 (c + 1)) := ⟨_, rfl⟩
                rw [← hw1] at HH1 HBq cA ⊢
                clear hw1 cL fL hlook'
                have HOw := Lib.hid ((HH1.out.fresh ((Kp.refl _ _).alloc (.cells #[.int .i64 (i : Int)] 3))).ow k hk)
                have HSz := Lib.hid (show w.heap.size ≤ w1.heap.size from HH1.out.kp.size)
                go_wp2_with (at_builtin; refine wpList_append1_at rfl _ _ 22 3 rfl Tryd.underlying22 HI.out rfl HOw.out rfl ⟨w1.heap.size, 0, none⟩ (.int .i64 (i : Int)) rfl ?c1 rfl ?c2 ?c3 ?c4 ?_)
                case c1 => exact World.cell?_alloc_at _ _ _ _ rfl
                case c2 => rw [nv_length]; have := HLen.out; omega
                case c3 => rw [nv_length]; have := HLen.out; unfold maxLen; omega
                case c4 => have := HSz.out; simp; omega
                intro v' w3 hO2 hg2 hat2
                have hcA := HH1.out.abG hk ((Kp.refl _ w1).alloc _) hg2
                have cA : w3.cell? ⟨ga, k, none⟩ = some (R k) := hcA.cell (by have := rowF_at (f := R) hk; simpa using this)
                have fA : w3.frozen? ⟨ga, k, none⟩ = false := hcA.free k
                have hR := PinRel.hit HH1.out HN.out HC.out hk HH.out.1 HBq.out.1 HBq.out.2.1 HBq.out.2.2.1 HBq.out.2.2.2 ((Kp.refl _ w1).alloc _) hO2 hg2 (by simpa using hat2)
                obtain ⟨av, cv, hav, _⟩ := hO2.form
                obtain ⟨lv, hlv⟩ : ∃ lv, lv = (nv (abvP C.gates i q k) ++ [Value.int .i64 (i : Int)]).length := ⟨_, rfl⟩
                rw [← hlv] at hav
                subst hav
                have HR := Lib.hid hR
                clear hcA hR hO2 hg2 hat2 hlv HOw
                obtain ⟨rk, hrk⟩ : ∃ rk, R k = rk := ⟨_, rfl⟩
                rw [hrk] at cA
                clear hrk
                go_wp2_with fail
                go_roundw
                case rel => exact ⟨q + 1, by go_num, by omega, HR.out⟩
                case measure => simp [intOf]; omega
            · obtain rfl : q = 2 := by omega
              have cL := H.cellL hlt
              rw [lackP_self] at cL
              have HH := Lib.hid H
              clear H hbq hq1 hq2 hq3
              obtain ⟨c, hc⟩ : ∃ c, cntO C.gates [] i = c := ⟨_, rfl⟩
              rw [hc] at cL
              have HC := Lib.hid hc
              clear hc
              by_cases hz : c = 0
              · have hz1 : ((c : Int) == 0) = true := by simp [hz]
                have HP := Lib.hid (HH.out.push (by omega) hlt (by rintro ⟨a, _⟩; omega))
                have HZ := Lib.hid (show cntO C.gates [] i = 0 by rw [HC.out]; exact hz)
                clear hz HC HH
                go_wp2_with fail
                refine HP.out.mono ?_
                rintro e w4 ⟨rfl, X', H4⟩
                have HR := Lib.hid (BuildRel.push HZ.out H4)
                clear H4 HP
                go_wp2_with fail
                go_roundw
                case rel => exact ⟨i + 1, by go_num, by omega, HR.out⟩
                case measure => simp [intOf]; omega
              · have hz1 : ((c : Int) == 0) = false := by simp; omega
                have HR := Lib.hid (BuildRel.skip (by rw [HC.out]; exact hz) HH.out)
                clear hz HC HH
                go_wp2_with fail
                go_roundw
                case rel => exact ⟨i + 1, by go_num, by omega, HR.out⟩
                case measure => simp [intOf]; omega
        · obtain rfl : i = n := by omega
          obtain ⟨R, X, H⟩ := hB
          have H0 : OS w bp gl ga h i i (placeF C.gates i) (fun k => (cntO C.gates [] k : Int)) R (fun k => aboveL C.gates k i) X (fun x => x < i ∧ x ∉ ([] : List Nat) ∧ cntO C.gates [] x = 0) (.slice none 0 0) [] wq :=
            H.same (fun k hk => by unfold lackP; rw [if_pos hk]) (fun _ _ => rfl) (fun x => by simp)
          have HP := Lib.hid (pop_next HN.out (by omega) (MidO.start C.gates) H0 (fun x => Iff.rfl))
          clear H H0
          go_wp2_with fail
          refine HP.out.mono ?_
          rintro e w4 ⟨v16, v17, rfl, hR⟩
          have HR := Lib.hid hR
          clear hR HP
          go_wp2_with fail
          go_loopw [15, 16, 17] (fun v15 v16 v17 wr => OrdRel w bp gl ga h i C.gates v15 v16 v17 wr) (fun v15 _ _ _ => i - lenV v15)
          case atStart => exact HR.out
          case round =>
            clear HR
            obtain ⟨w5, rfl⟩ : ∃ w5 : World, w5 = wr := ⟨_, rfl⟩
            obtain ⟨out, R, X, M, hMid, H, hcase⟩ := hrel
            rcases hcase with ⟨g, rfl, rfl, hnext, hM⟩ | ⟨rfl, rfl, hnone⟩
            · have hg : g < i := by have := (nextO_some hnext).1; rw [HN.out] at this; exact this
              have hol : out.length < i := by have := hMid.at_.lenlt hnext; rw [HN.out] at this; exact this
              have HOw := Lib.hid ((H.fresh ((Kp.refl _ _).alloc (.cells #[.int .i64 (g : Int)] 3))).oo)
              have HSz := Lib.hid (show w.heap.size ≤ w5.heap.size from H.kp.size)
              have hlv : lenV u15 = out.length := by
                obtain ⟨a, c, e, -⟩ := H.oo.form
                rw [e]; exact nv_length out
              have HLV := Lib.hid hlv
              have HOut := Lib.hid (fun v' w2 hO2 hgr hat => H.outS (i := g) (v' := v') (w2 := w2) ((Kp.refl _ w5).alloc (.cells #[.int .i64 (g : Int)] 3)) hO2 hgr hat)
              have HMM := Lib.hid (And.intro hMid (And.intro hnext hM))
              have g0 : (0 : Int) ≤ (g : Int) := by omega
              have g1 : (g : Int) < (i : Int) := by omega
              clear hlv hMid H hnext hM
              go_wp2_with (at_builtin; refine wpList_append1_at rfl _ _ 22 3 rfl Tryd.underlying22 HI.out rfl HOw.out rfl ⟨w5.heap.size, 0, none⟩ (.int .i64 (g : Int)) rfl ?d1 rfl ?d2 ?d3 ?d4 ?_)
              case d1 => exact World.cell?_alloc_at _ _ _ _ rfl
              case d2 => rw [nv_length]; omega
              case d3 => rw [nv_length]; unfold maxLen; omega
              case d4 => have := HSz.out; simp; omega
              intro v' w6 hO2 hgr hat
              have H6 := HOut.out v' w6 hO2 hgr (by simpa using hat)
              have hlv' : lenV v' = out.length + 1 := by
                obtain ⟨a, c, e, -⟩ := hO2.form
                rw [e]; show (nv out ++ [Value.int .i64 (g : Int)]).length = _
                rw [List.length_append, nv_length]; rfl
              have HLV' := Lib.hid hlv'
              have cA := H6.cellA hg
              obtain ⟨ai, ci, eR, hci, hcm, -, -⟩ := (H6.ow g hg).form
              rw [nv_length] at eR hci
              obtain ⟨m, hm⟩ : ∃ m, (aboveL C.gates g i).length = m := ⟨_, rfl⟩
              rw [hm] at eR hci
              rw [eR] at cA
              have hmle : m ≤ 2 * i := by rw [← hm]; exact aboveL_len C.gates g i
              have HER := Lib.hid eR
              have HM := Lib.hid hm
              have HS6 := Lib.hid (LackRel.start H6 HMM.out.2.2)
              clear hO2 hgr hat H6 hlv' eR hm hci hcm HOut HOw
              go_wp2_with fail
              go_loopw [119] (fun v119 wr => ∃ q : Nat, v119 = .int .i64 q ∧ q ≤ m ∧ LackRel w bp gl ga h i C.gates out g q R v' wr) (fun v119 _ => m - (intOf v119).toNat)
              case atStart => exact ⟨0, rfl, by omega, HS6.out⟩
              case round =>
                clear cA HS6
                obtain ⟨q, rfl, hq, hL⟩ := hrel
                obtain ⟨w7, rfl⟩ : ∃ w7 : World, w7 = wr := ⟨_, rfl⟩
                by_cases hqm : q < m
                · obtain ⟨X2, M2, H7, hM7⟩ := hL
                  have hqa : q < (aboveL C.gates g C.gates.length).length := by rw [HN.out, HM.out]; exact hqm
                  obtain ⟨l1, l2, l3, l4⟩ := lackQ_at HG.out HMM.out.1 HMM.out.2.1 hqa
                  have hstep := lackQ_step (out := out) hqa
                  obtain ⟨-, -, -, -, -, -, hrow⟩ := (H7.ow g hg).form
                  obtain ⟨a2, c2, e2, -, -, -, hrow⟩ := (H7.ow g hg).form
                  rw [HER.out] at e2
                  simp only [Value.slice.injEq] at e2
                  obtain ⟨rfl, -, -⟩ := e2
                  obtain ⟨b2, off2, ea2, hcell⟩ := hrow q _ (nv_at (by rw [HM.out]; exact hqm))
                  rw [HN.out] at l1 l2 l3 l4 hstep
                  obtain ⟨k, hk⟩ : ∃ k, gn (aboveL C.gates g i) q = k := ⟨_, rfl⟩
                  rw [hk] at hcell l1 l2 l3 l4 hstep
                  have cL := H7.cellL l1
                  have fL := H7.freeL k
                  have H8 := H7.setL k (lackQ C.gates out g q k - 1)
                  have cL2 := H8.cellL l1
                  rw [up1_at] at cL2
                  have hkM : ¬ M2 k := fun h => by have := ((hM7 k).1 h).2.2; omega
                  have hM8 : ∀ x, (lackQ C.gates out g q k - 1 = 0 → ((M2 x ∨ x = k) ↔ x < i ∧ x ∉ out ++ [g] ∧ lackQ C.gates out g (q + 1) x = 0)) ∧ (lackQ C.gates out g q k - 1 ≠ 0 → (M2 x ↔ x < i ∧ x ∉ out ++ [g] ∧ lackQ C.gates out g (q + 1) x = 0)) := by
                    intro x
                    rw [← hstep x]
                    by_cases ex : x = k
                    · subst ex
                      rw [up1_at]
                      exact ⟨fun h => ⟨fun _ => ⟨l1, l4, h⟩, fun _ => .inr rfl⟩, fun h => ⟨fun h2 => absurd h2 hkM, fun h2 => absurd h2.2.2 h⟩⟩
                    · rw [up1_off _ _ ex]
                      refine ⟨fun h => ?_, fun h => hM7 x⟩
                      rw [← hM7 x]
                      exact ⟨fun h => h.resolve_right ex, .inl⟩
                  obtain ⟨c, hc⟩ : ∃ c, lackQ C.gates out g q k = c := ⟨_, rfl⟩
                  rw [hc] at cL H8 cL2 hM8 l2 l3
                  have HSt := Lib.hid (And.intro hstep hc)
                  have H8h := Lib.hid H8
                  have HM8 := Lib.hid hM8
                  have HKM := Lib.hid (And.intro hkM l4)
                  have k0 : (0 : Int) ≤ (k : Int) := by omega
                  have k1 : (k : Int) < (i : Int) := by omega
                  have q0 : (0 : Int) ≤ (q : Int) := by omega
                  have q1 : (q : Int) < (m : Int) := by omega
                  have HEA2 := Lib.hid ea2
                  clear H7 hM7 hqa hstep hrow hk H8 hkM l4 hM8 hc ea2
                  subst HEA2
                  by_cases hz : c - 1 = 0
                  · have hz1 : ((c - 1 : Int) == 0) = true := by simp [hz]
                    have HP := Lib.hid (H8h.out.push (by omega) l1 HKM.out.1)
                    have HZ := Lib.hid hz
                    clear hz
                    go_wp2_with fail
                    refine HP.out.mono ?_
                    rintro e w9 ⟨rfl, X', H9⟩
                    have HR := Lib.hid (show LackRel w bp gl ga h i C.gates out g (q + 1) R v' w9 from ⟨X', _, H9.same (fun x _ => by rw [← HSt.out.1 x, HSt.out.2]) (fun _ _ => rfl) (fun _ => Iff.rfl), fun x => (HM8.out x).1 HZ.out⟩)
                    clear H9 HP
                    go_wp2_with fail
                    go_roundw
                    case rel => exact ⟨q + 1, by go_num, by omega, HR.out⟩
                    case measure => simp [intOf]; omega
                  · have hz1 : ((c - 1 : Int) == 0) = false := by simp; omega
                    have HR := Lib.hid (show LackRel w bp gl ga h i C.gates out g (q + 1) R v' (w7.setCell ⟨gl, k, none⟩ (.int .i64 (c - 1))) from ⟨X2, _, H8h.out.same (fun x _ => by rw [← HSt.out.1 x, HSt.out.2]) (fun _ _ => rfl) (fun _ => Iff.rfl), fun x => (HM8.out x).2 hz⟩)
                    clear hz
                    go_wp2_with fail
                    go_roundw
                    case rel => exact ⟨q + 1, by go_num, by omega, HR.out⟩
                    case measure => simp [intOf]; omega
                · obtain rfl : q = m := by omega
                  have hm := HM.out
                  rw [← hm] at hL
                  obtain ⟨X2, M2, H8, hM8⟩ := hL.end_ HN.out HG.out HMM.out.2.1
                  have HP := Lib.hid (pop_next HN.out (by omega) (HMM.out.1.step HG.out HMM.out.2.1) H8 hM8)
                  clear H8 hM8 hL hm
                  go_wp2_with fail
                  refine HP.out.mono ?_
                  rintro e w9 ⟨v16, v17, rfl, hR⟩
                  have HR := Lib.hid hR
                  clear hR HP
                  go_wp2_with fail
                  go_roundw
                  case rel => exact HR.out
                  case measure => have h1 := HLV.out; have h2 := HLV'.out; simp [h1, h2]; omega
            · have hend := hMid.at_.done hnone
              have HE := Lib.hid (show Own w5 w.heap.size 3 u15 (nv (ordO C.gates)) ∧ Kp (fun _ => False) w w5 from ⟨by rw [hend]; exact H.oo, H.kp⟩)
              clear hend hnone H hMid
              go_wp2_with fail
              go_ret
              exact ⟨_, rfl, HE.out.1, HE.out.2⟩

end Go.Proofs.YtmjcpapcmbgkjaaDoor

/-
  circ.uses: all literals that are used are handed over, up to the first that is refused. (Printed by mkuses.py.)
-/
namespace Go.Proofs.YtmjcpapcmbgkjaaDoor
open Go.RowKit

theorem IntsAt.lt {w : World} {a : Option Addr} {l : List Int} (h : IntsAt w a l) (hl : l ≠ []) : ∀ p, a = some p → p.block < w.heap.size := by
  intro p hp
  obtain ⟨b, off, e, hc⟩ := h.get (j := 0) (by cases l with | nil => exact absurd rfl hl | cons x r => simp)
  rw [hp] at e
  simp only [Option.some.injEq] at e
  subst e
  exact World.block_lt_of_cell? w _ hc

/-- the values rs are slices that read the lists Ls, none of them in a block of X -/
def RowsAt (X : Nat → Prop) (u : World) (rs : List Value) (Ls : List (List Int)) : Prop :=
  rs.length = Ls.length ∧ ∀ (k : Nat) (r : Value) (l : List Int), rs[k]? = some r → Ls[k]? = some l → ∃ a c, r = .slice a l.length c ∧ l.length ≤ c ∧ c ≤ maxLen ∧ IntsAt u a l ∧ (l ≠ [] → ∀ p, a = some p → ¬ X p.block)

theorem RowsAt.kp {X S : Nat → Prop} {u u' : World} {rs : List Value} {Ls : List (List Int)} (h : RowsAt X u rs Ls) (k : Kp S u u') (hS : ∀ j, S j → X j) : RowsAt X u' rs Ls := by
  refine ⟨h.1, fun i r l hr hl => ?_⟩
  obtain ⟨a, c, e, h1, h2, h3, h4⟩ := h.2 i r l hr hl
  refine ⟨a, c, e, h1, h2, ?_, h4⟩
  by_cases hn : l = []
  · subst hn; exact RowAt.nil _ _
  · exact h3.kp k (fun p hp hs => h4 hn p hp (hS _ hs))

theorem RowsAt.mono {X X' : Nat → Prop} {u : World} {rs : List Value} {Ls : List (List Int)} (h : RowsAt X u rs Ls) (hX : ∀ j, j < u.heap.size → X' j → X j) : RowsAt X' u rs Ls := by
  refine ⟨h.1, fun i r l hr hl => ?_⟩
  obtain ⟨a, c, e, h1, h2, h3, h4⟩ := h.2 i r l hr hl
  exact ⟨a, c, e, h1, h2, h3, fun hn p hp hx => h4 hn p hp (hX _ (h3.lt hn p hp) hx)⟩

theorem RowsAt.snoc {X : Nat → Prop} {u : World} {rs : List Value} {Ls : List (List Int)} (h : RowsAt X u rs Ls) {a : Option Addr} {c : Nat} {l : List Int} (h1 : l.length ≤ c) (h2 : c ≤ maxLen) (h3 : IntsAt u a l) (h4 : ∀ p, a = some p → ¬ X p.block) : RowsAt X u (rs ++ [.slice a l.length c]) (Ls ++ [l]) := by
  refine ⟨by simp [h.1], fun k r x hr hx => ?_⟩
  by_cases hk : k < rs.length
  · rw [List.getElem?_append_left hk] at hr
    rw [List.getElem?_append_left (by rw [← h.1]; exact hk)] at hx
    exact h.2 k r x hr hx
  · rw [List.getElem?_append_right (by omega)] at hr
    rw [List.getElem?_append_right (by rw [← h.1]; omega)] at hx
    have e : k - rs.length = 0 := by
      have := (List.getElem?_eq_some_iff.1 hr).1
      simp at this; omega
    rw [e] at hr
    rw [← h.1, e] at hx
    simp at hr hx
    subst hr hx
    exact ⟨a, c, rfl, h1, h2, h3, fun _ => h4⟩

/-- the rows of used literals -/
def usedRows (C : Circ) : List (List Int) := [C.outs, C.bads, C.cons] ++ C.lats.map (fun x => [x.2.1]) ++ C.gates.map (fun g => [g.2.1, g.2.2])
theorem usedRows_flat (C : Circ) : (usedRows C).flatten = C.used := by
  unfold usedRows Circ.used
  rw [List.flatten_append, List.flatten_append]
  have h1 : ∀ L : List (Int × Int × Int), (L.map (fun x => [x.2.1])).flatten = L.map (fun x => x.2.1) := by
    intro L; induction L with
    | nil => rfl
    | cons a r ih => simp [ih]
  have h2 : ∀ L : List (Int × Int × Int), (L.map (fun g => [g.2.1, g.2.2])).flatten = L.flatMap (fun g => [g.2.1, g.2.2]) := fun L => rfl
  rw [h1, h2]
  simp
theorem usedRows_length (C : Circ) : (usedRows C).length = 3 + C.lats.length + C.gates.length := by
  unfold usedRows; simp; omega

def grow (L : List (List Int)) (k : Nat) : List Int := L[k]?.getD []
theorem grow_at {L : List (List Int)} {k : Nat} (h : k < L.length) : L[k]? = some (grow L k) := by unfold grow; rw [List.getElem?_eq_getElem h]; rfl
theorem take_grow {L : List (List Int)} {k : Nat} (h : k < L.length) : (L.take (k + 1)).flatten = (L.take k).flatten ++ grow L k := by
  rw [List.take_succ_eq_append_getElem h, List.flatten_append]
  unfold grow
  rw [List.getElem?_eq_getElem h]
  simp

theorem all_take_gi {l : List Int} {k : Nat} (h : k < l.length) (P : List Int) (f : Int → Bool) : (P ++ l.take (k + 1)).all f = ((P ++ l.take k).all f && f (gi l k)) := by
  rw [take_gi h, ← List.append_assoc, List.all_append]
  simp

theorem used_false {L : List (List Int)} {i k : Nat} (hi : i < L.length) {f : Int → Bool} {b : Bool} (h : (b && ((L.take i).flatten ++ (grow L i).take (k + 1)).all f) = false) : (b && L.flatten.all f) = false := by
  cases b with
  | false => rfl
  | true =>
    rw [Bool.true_and] at h ⊢
    rw [List.all_eq_false] at h ⊢
    obtain ⟨x, hx, hf⟩ := h
    refine ⟨x, ?_, hf⟩
    have hL := List.take_append_drop (i + 1) L
    rw [← hL, List.flatten_append]
    refine List.mem_append.2 (.inl ?_)
    rw [take_grow hi]
    rcases List.mem_append.1 hx with h | h
    · exact List.mem_append.2 (.inl h)
    · exact List.mem_append.2 (.inr (List.mem_of_mem_take h))

theorem mem_used {L : List (List Int)} {i k : Nat} (hi : i < L.length) (hk : k < (grow L i).length) : gi (grow L i) k ∈ L.flatten := by
  refine List.mem_flatten.2 ⟨grow L i, List.mem_of_getElem? (grow_at hi), ?_⟩
  refine List.mem_of_getElem? (i := k) ?_
  unfold gi
  rw [List.getElem?_eq_getElem hk]; rfl

theorem three_blk (w : World) (c0 c1 c2 : Array Value) (t0 t1 t2 : TypeId) : Blk (((w.alloc (.cells c0 t0)).alloc (.cells c1 t1)).alloc (.cells c2 t2)) (w.heap.size + 1) c1 t1 ∧ Blk (((w.alloc (.cells c0 t0)).alloc (.cells c1 t1)).alloc (.cells c2 t2)) (w.heap.size + 2) c2 t2 := by
  refine ⟨(two_blk w c0 c1 t0 t1).alloc _, ?_⟩
  have := Blk.new ((w.alloc (.cells c0 t0)).alloc (.cells c1 t1)) c2 t2
  simpa using this

theorem ints_blk {w : World} {b : Nat} {l : List Int} {t : TypeId} (h : Blk w b (l.map (Value.int .i64)).toArray t) : IntsAt w (some ⟨b, 0, none⟩) l :=
  h.rowAt (off := 0) (n := l.length) (by simp; exact List.take_of_length_le (by simp))

/-- the literals that are used are gathered -/
def Gather (V : CV) (C : Circ) (bo : Nat) (w : World) (Ls : List (List Int)) (v4 : Value) (wr : World) : Prop :=
  ∃ rs, Own wr w.heap.size 22 v4 rs ∧ RowsAt (fun j => j = bo ∨ v4.ownBlock = some j) wr rs Ls ∧ (∀ j, v4.ownBlock = some j → w.heap.size < j) ∧ Blk wr w.heap.size (cvals V C) 27 ∧ Kp (fun _ => False) w wr

theorem Gather.start (V : CV) (C : Circ) (bo : Nat) (w0 w wz : World) (hz : wz = (w.alloc (.cells (cvals V C) 27)).alloc (.cells #[.slice V.ao C.outs.length V.co, .slice V.ab C.bads.length V.cb, .slice V.ac C.cons.length V.cc] 22))
    (h0 : CAt w0 V C) (hk0 : Kp (fun _ => False) w0 w) (hbo : w0.heap.size ≤ bo) (hbw : bo < w.heap.size) :
    Gather V C bo w [C.outs, C.bads, C.cons] (.slice (some ⟨w.heap.size + 1, 0, none⟩) 3 3) wz := by
  have hK : Kp (fun _ => False) w wz := by rw [hz]; exact ((Kp.refl _ w).alloc _).alloc _
  have hB : Blk wz (w.heap.size + 1) #[.slice V.ao C.outs.length V.co, .slice V.ab C.bads.length V.cb, .slice V.ac C.cons.length V.cc] 22 := by rw [hz]; exact two_blk _ _ _ _ _
  have hC : Blk wz w.heap.size (cvals V C) 27 := by rw [hz]; exact (Blk.new w _ _).alloc _
  have hz := h0.kp (hk0.trans hK (fun _ _ h => h))
  have hs := hk0.size
  have far : ∀ {a : Option Addr} {l : List Int}, IntsAt w0 a l → l ≠ [] → ∀ p, a = some p → ¬ (p.block = bo ∨ (Value.slice (some ⟨w.heap.size + 1, 0, none⟩) 3 3).ownBlock = some p.block) := by
    intro a l hi hl p hp
    have := hi.lt hl p hp
    simp [Value.ownBlock]
    omega
  refine ⟨[.slice V.ao C.outs.length V.co, .slice V.ab C.bads.length V.cb, .slice V.ac C.cons.length V.cc], Own.lit (cs := [.slice V.ao C.outs.length V.co, .slice V.ab C.bads.length V.cb, .slice V.ac C.cons.length V.cc]) hB (by omega) (by simp [maxLen]), ⟨rfl, fun k r l hr hl => ?_⟩, fun j hj => by simp [Value.ownBlock] at hj; omega, hC, hK⟩
  match k, hr, hl with
  | 0, hr, hl => simp at hr hl; subst hr hl; exact ⟨_, _, rfl, h0.fo.le, h0.fo.most, hz.o, far h0.o⟩
  | 1, hr, hl => simp at hr hl; subst hr hl; exact ⟨_, _, rfl, h0.fb.le, h0.fb.most, hz.b, far h0.b⟩
  | 2, hr, hl => simp at hr hl; subst hr hl; exact ⟨_, _, rfl, h0.fc.le, h0.fc.most, hz.c, far h0.c⟩
  | n + 3, hr, hl => simp at hr

theorem Gather.kp {V : CV} {C : Circ} {bo : Nat} {w wr wr' : World} {Ls : List (List Int)} {v4 : Value} (h : Gather V C bo w Ls v4 wr) (k : Kp (fun _ => False) wr wr') : Gather V C bo w Ls v4 wr' := by
  obtain ⟨rs, h1, h2, h3, h4, h5⟩ := h
  exact ⟨rs, h1.kp k (fun _ _ h => h), h2.kp k (fun _ h => h.elim), h3, h4.kp k (fun h => h), h5.trans k (fun _ _ h => h)⟩

/-- one more row of literals -/
theorem Gather.more {V : CV} {C : Circ} {bo : Nat} {w wr wr' w2 : World} {Ls : List (List Int)} {v4 v' : Value} {rs : List Value} (hbo : bo < w.heap.size) (h1 : Own wr w.heap.size 22 v4 rs) (h2 : RowsAt (fun j => j = bo ∨ v4.ownBlock = some j) wr rs Ls) (h3 : ∀ j, v4.ownBlock = some j → w.heap.size < j) (h4 : Blk wr w.heap.size (cvals V C) 27) (h5 : Kp (fun _ => False) w wr)
    (hK : Kp (fun _ => False) wr wr') {g n : Nat} {l : List Int} (hg : wr.heap.size ≤ g) (hB : Blk wr' g (l.map (Value.int .i64)).toArray 3) (hn : l.length = n) (hl : n ≤ maxLen)
    (hO : Own w2 w.heap.size 22 v' (rs ++ [.slice (some ⟨g, 0, none⟩) n n])) (hgr : wr'.grownBy w2 v4.ownBlock) (hat : v'.ownBlock = v4.ownBlock ∨ v'.ownBlock = some wr'.heap.size) : Gather V C bo w (Ls ++ [l]) v' w2 := by
  subst hn
  have hKg : Kp (fun j => v4.ownBlock = some j) wr' w2 := (Kp.refl _ _).grown hgr (fun j hj _ => hj)
  have hKw : Kp (fun _ => False) w w2 := (h5.trans hK (fun _ _ h => h)).grown hgr (fun j hj hlt => by have := h3 j hj; omega)
  have hsz := h5.size
  have hsz' := hK.size
  have hlt := hB.lt
  have hb' : Blk w2 g (l.map (Value.int .i64)).toArray 3 := hB.kp hKg (fun e => by have := (h1.lt g e).2; omega)
  have h2' : RowsAt (fun j => j = bo ∨ v4.ownBlock = some j) wr' rs Ls := h2.kp hK (fun _ h => h.elim)
  have h2'' : RowsAt (fun j => j = bo ∨ v4.ownBlock = some j ∨ v'.ownBlock = some j) wr' rs Ls := h2'.mono (fun j hj hx => by
    rcases hx with e | e | e
    · exact .inl e
    · exact .inr e
    · rcases hat with e2 | e2
      · exact .inr (e2 ▸ e)
      · rw [e2] at e; simp at e; omega)
  have h2w : RowsAt (fun j => j = bo ∨ v4.ownBlock = some j ∨ v'.ownBlock = some j) w2 rs Ls := h2''.kp hKg (fun j h => .inr (.inl h))
  have h2z : RowsAt (fun j => j = bo ∨ v'.ownBlock = some j) w2 rs Ls := h2w.mono (fun j _ h => by rcases h with e | e; exact .inl e; exact .inr (.inr e))
  refine ⟨_, hO, ?_, ?_, (h4.kp hK (fun h => h)).kp hKg (fun e => by have := h3 _ e; omega), hKw⟩
  · refine h2z.snoc (Nat.le_refl _) hl (ints_blk hb') (fun p hp => ?_)
    simp at hp
    subst hp
    intro h
    rcases h with e | e
    · have : g = bo := e
      omega
    · rcases hat with e2 | e2
      · rw [e2] at e
        have : g < wr.heap.size := (h1.lt g e).2
        omega
      · rw [e2] at e
        have : wr'.heap.size = g := by simpa using e
        omega
  · intro j hj
    rcases hat with e | e
    · exact h3 j (e ▸ hj)
    · rw [e] at hj; simp at hj; omega

set_option maxRecDepth 100000 in
set_option maxHeartbeats 4000000 in
theorem circ_uses1 (p q : Value) (V : CV) (C : Circ) (bo : Nat) (f : Int → Bool) (I : World → Bool → Prop) (b0 : Bool) (w0 w : World) (h0 : CAt w0 V C) (hf : CFew C 1000000) (hk0 : Kp (fun _ => False) w0 w) (hbo : w0.heap.size ≤ bo) (hbw : bo < w.heap.size)
    (hI : I w b0) (hIk : ∀ u u' b, Kp (fun _ => False) u u' → I u b → I u' b)
    (hY : ∀ u x b, x ∈ C.used → I u b → Calls Tryd.prog 35 #[.int .i64 x, p, q] u fun e u' => e = .returned (.bool (b && f x)) ∧ I u' (b && f x) ∧ Kp (fun j => j = bo) u u') :
    Calls Tryd.prog 34 #[.agg (cvals V C), .func (Fn.func 35) #[] #[p, q]] w fun e w' => e = .returned (.tuple #[]) ∧ I w' (b0 && C.used.all f) ∧ Kp (fun j => j = bo) w w' := by
  obtain ⟨wz, hwz⟩ : ∃ wz : World, wz = (w.alloc (.cells (cvals V C) 27)).alloc (.cells #[.slice V.ao C.outs.length V.co, .slice V.ab C.bads.length V.cb, .slice V.ac C.cons.length V.cc] 22) := ⟨_, rfl⟩
  have HG := Lib.hid (Gather.start V C bo w0 w wz hwz h0 hk0 hbo hbw)
  have HC1 := Lib.hid (Blk.new w (cvals V C) 27)
  have HS := Lib.hid (show wz.heap.size = w.heap.size + 2 by rw [hwz]; simp)
  have HZ := Lib.hid hwz
  have HA := Lib.hid h0
  have HF := Lib.hid hf
  have HK0 := Lib.hid hk0
  have HBO := Lib.hid (And.intro hbo hbw)
  have HII := Lib.hid (And.intro hI (And.intro hIk hY))
  have HI := Lib.hid (show (Tryd.prog.info? 22).map (fun i => (i.zero, i.size, i.bytes)) = some (some (.slice none 0 0), 1, 24) by kernel_rfl)
  have hl := (h0.fl.le63).1
  have hg := (h0.fg.le63).1
  clear hwz h0 hf hk0 hbo hbw hI hIk hY
  go_enter Tryd.func34, Tryd.ntmps34
  go_upto_region 1 with fail
  obtain ⟨d0, d1, d2, d3, d4, d5, d6, d7, d8⟩ := HC1.out.cells9
  go_upto_region 2 with fail
  rw [← HZ.out]
  clear d0 d1 d2 d3 d4 d5 d6 d7 d8 HC1
  have hG := HG.out
  obtain ⟨rs0, -, -, -, hB0, -⟩ := hG
  have c2 := hB0.cell (i := 2) (v := .slice V.al C.lats.length V.cl) rfl
  clear hB0
  go_wp2_with fail
  go_loopw [4, 23] (fun v4 v23 wr => ∃ k : Nat, v23 = .int .i64 k ∧ k ≤ C.lats.length ∧ Gather V C bo w ([C.outs, C.bads, C.cons] ++ (C.lats.take k).map (fun x => [x.2.1])) v4 wr) (fun _ v23 _ => C.lats.length - (intOf v23).toNat)
  case atStart => exact ⟨0, rfl, by omega, by simpa using HG.out⟩
  case round =>
    obtain ⟨k, rfl, hk, hG⟩ := hrel
    clear c2 HG
    obtain ⟨wp, rfl⟩ : ∃ wp : World, wp = wr := ⟨_, rfl⟩
    have HG := Lib.hid hG
    by_cases hlt : k < C.lats.length
    · obtain ⟨rs, hO, hR, hB, hC, hK⟩ := hG
      have HSw := Lib.hid (show w.heap.size ≤ wp.heap.size from hK.size)
      have HRL := Lib.hid (show rs.length ≤ 3000000 by have := hR.1; have := HF.out.l; simp at this ⊢; rw [hR.1]; simp; omega)
      obtain ⟨b, off, ea, e0, e1, e2⟩ := tri_cells (HA.out.kp (HK0.out.trans hK (fun _ _ h => h))).l hlt
      have i0 : (0 : Int) ≤ (k : Int) := by omega
      have i1 : decide ((k : Int) < (C.lats.length : Int)) = true := decide_eq_true (by omega)
      obtain ⟨x0, hx0⟩ : ∃ x, (g3 C.lats k).1 = x := ⟨_, rfl⟩
      obtain ⟨x1, hx1⟩ : ∃ x, (g3 C.lats k).2.1 = x := ⟨_, rfl⟩
      obtain ⟨x2, hx2⟩ : ∃ x, (g3 C.lats k).2.2 = x := ⟨_, rfl⟩
      have HT := Lib.hid (take_g3 hlt)
      rw [hx0] at e0
      rw [hx1] at e1
      rw [hx2] at e2
      have HX := Lib.hid hx1
      have HEA := Lib.hid ea
      have i2 : (k : Int) < (C.lats.length : Int) := by omega
      clear hx0 hx1 hx2 ea
      have HNew := Lib.hid (three_blk wp #[.int .i64 x0, .int .i64 x1, .int .i64 x2] #[.int .i64 x1] #[.slice (some ⟨wp.heap.size + 1, 0, none⟩) 1 1] 51 3 22)
      have HOw := Lib.hid (((hO.alloc (.cells #[.int .i64 x0, .int .i64 x1, .int .i64 x2] 51)).alloc (.cells #[.int .i64 x1] 3)).alloc (.cells #[.slice (some ⟨wp.heap.size + 1, 0, none⟩) 1 1] 22))
      have HMore := Lib.hid (fun v' w2 hO2 hgr hat => Gather.more (v' := v') (w2 := w2) (g := wp.heap.size + 1) (n := 1) (l := [x1]) HBO.out.2 hO hR hB hC hK ((((Kp.refl _ wp).alloc (.cells #[.int .i64 x0, .int .i64 x1, .int .i64 x2] 51)).alloc (.cells #[.int .i64 x1] 3)).alloc (.cells #[.slice (some ⟨wp.heap.size + 1, 0, none⟩) 1 1] 22)) (by omega) HNew.out.1 rfl (by simp [maxLen]) hO2 hgr hat)
      clear hO hR hB hC hK
      rw [HEA.out]
      go_wp2_with (at_builtin; refine wpList_append1_at rfl _ _ 58 22 rfl Tryd.underlying58 HI.out rfl HOw.out rfl ⟨wp.heap.size + 2, 0, none⟩ (.slice (some ⟨wp.heap.size + 1, 0, none⟩) 1 1) rfl (HNew.out.2.cell rfl) rfl ?c1 ?c2 ?c3 ?_)
      case c1 => have := HRL.out; omega
      case c2 => have := HRL.out; unfold maxLen; omega
      case c3 => have := HSw.out; simp; omega
      intro v' w2 hO2 hg2 hat2
      have hrel : ∃ k' : Nat, Value.int .i64 ((k : Int) + 1) = .int .i64 k' ∧ k' ≤ C.lats.length ∧ Gather V C bo w ([C.outs, C.bads, C.cons] ++ (C.lats.take k').map (fun x => [x.2.1])) v' w2 := by
        refine ⟨k + 1, by go_num, by omega, ?_⟩
        rw [HT.out, List.map_append, ← List.append_assoc]
        have : [g3 C.lats k].map (fun x => [x.2.1]) = [[x1]] := by simp [HX.out]
        rw [this]
        exact HMore.out v' w2 hO2 hg2 (by simpa using hat2)
      have HR := Lib.hid hrel
      clear hrel hO2 hg2 hat2 HOw HNew HT HMore HG
      go_wp2_with fail
      go_roundw
      case rel => exact HR.out
      case measure => simp [intOf]; omega
    · have hk' : k = C.lats.length := by omega
      have HG1 : Hid (Gather V C bo w ([C.outs, C.bads, C.cons] ++ C.lats.map (fun x => [x.2.1])) u4 wp) := Lib.hid (by rwa [hk', List.take_length] at hG)
      obtain ⟨rs0, -, -, -, hB0, -⟩ := hG
      have c6 := hB0.cell (i := 6) (v := .slice V.ag C.gates.length V.cg) rfl
      clear HG hk hk' hB0
      go_wp2_with fail
      go_loopw [4, 37] (fun v4 v37 wr => ∃ k : Nat, v37 = .int .i64 k ∧ k ≤ C.gates.length ∧ Gather V C bo w ([C.outs, C.bads, C.cons] ++ C.lats.map (fun x => [x.2.1]) ++ (C.gates.take k).map (fun x => [x.2.1, x.2.2])) v4 wr) (fun _ v37 _ => C.gates.length - (intOf v37).toNat)
      case atStart => exact ⟨0, rfl, by omega, by simpa using HG1.out⟩
      case round =>
        obtain ⟨k, rfl, hk, hG⟩ := hrel
        clear c6 HG1 hlt
        obtain ⟨wq, rfl⟩ : ∃ wp : World, wp = wr := ⟨_, rfl⟩
        have HG := Lib.hid hG
        by_cases hlt : k < C.gates.length
        · obtain ⟨rs, hO, hR, hB, hC, hK⟩ := hG
          have HSw := Lib.hid (show w.heap.size ≤ wq.heap.size from hK.size)
          have HRL := Lib.hid (show rs.length ≤ 3000000 by have := hR.1; have := HF.out.l; have := HF.out.g; rw [hR.1]; simp; omega)
          obtain ⟨b, off, ea, e0, e1, e2⟩ := tri_cells (HA.out.kp (HK0.out.trans hK (fun _ _ h => h))).g hlt
          have i0 : (0 : Int) ≤ (k : Int) := by omega
          have i1 : decide ((k : Int) < (C.gates.length : Int)) = true := decide_eq_true (by omega)
          obtain ⟨x0, hx0⟩ : ∃ x, (g3 C.gates k).1 = x := ⟨_, rfl⟩
          obtain ⟨x1, hx1⟩ : ∃ x, (g3 C.gates k).2.1 = x := ⟨_, rfl⟩
          obtain ⟨x2, hx2⟩ : ∃ x, (g3 C.gates k).2.2 = x := ⟨_, rfl⟩
          have HT := Lib.hid (take_g3 hlt)
          rw [hx0] at e0
          rw [hx1] at e1
          rw [hx2] at e2
          have HX := Lib.hid (And.intro hx1 hx2)
          have HEA := Lib.hid ea
          have i2 : (k : Int) < (C.gates.length : Int) := by omega
          clear hx0 hx1 hx2 ea
          have HNew := Lib.hid (three_blk wq #[.int .i64 x0, .int .i64 x1, .int .i64 x2] #[.int .i64 x1, .int .i64 x2] #[.slice (some ⟨wq.heap.size + 1, 0, none⟩) 2 2] 43 3 22)
          have HOw := Lib.hid (((hO.alloc (.cells #[.int .i64 x0, .int .i64 x1, .int .i64 x2] 43)).alloc (.cells #[.int .i64 x1, .int .i64 x2] 3)).alloc (.cells #[.slice (some ⟨wq.heap.size + 1, 0, none⟩) 2 2] 22))
          have HMore := Lib.hid (fun v' w2 hO2 hgr hat => Gather.more (v' := v') (w2 := w2) (g := wq.heap.size + 1) (n := 2) (l := [x1, x2]) HBO.out.2 hO hR hB hC hK ((((Kp.refl _ wq).alloc (.cells #[.int .i64 x0, .int .i64 x1, .int .i64 x2] 43)).alloc (.cells #[.int .i64 x1, .int .i64 x2] 3)).alloc (.cells #[.slice (some ⟨wq.heap.size + 1, 0, none⟩) 2 2] 22)) (by omega) HNew.out.1 rfl (by simp [maxLen]) hO2 hgr hat)
          clear hO hR hB hC hK
          rw [HEA.out]
          go_wp2_with (at_builtin; refine wpList_append1_at rfl _ _ 58 22 rfl Tryd.underlying58 HI.out rfl HOw.out rfl ⟨wq.heap.size + 2, 0, none⟩ (.slice (some ⟨wq.heap.size + 1, 0, none⟩) 2 2) rfl (HNew.out.2.cell rfl) rfl ?d1 ?d2 ?d3 ?_)
          case d1 => have := HRL.out; omega
          case d2 => have := HRL.out; unfold maxLen; omega
          case d3 => have := HSw.out; simp; omega
          intro v' w2 hO2 hg2 hat2
          have hrel : ∃ k' : Nat, Value.int .i64 ((k : Int) + 1) = .int .i64 k' ∧ k' ≤ C.gates.length ∧ Gather V C bo w ([C.outs, C.bads, C.cons] ++ C.lats.map (fun x => [x.2.1]) ++ (C.gates.take k').map (fun x => [x.2.1, x.2.2])) v' w2 := by
            refine ⟨k + 1, by go_num, by omega, ?_⟩
            rw [HT.out, List.map_append, ← List.append_assoc]
            have : [g3 C.gates k].map (fun x => [x.2.1, x.2.2]) = [[x1, x2]] := by simp [HX.out.1, HX.out.2]
            rw [this]
            exact HMore.out v' w2 hO2 hg2 (by simpa using hat2)
          have HR := Lib.hid hrel
          clear hrel hO2 hg2 hat2 HOw HNew HT HMore HG
          go_wp2_with fail
          go_roundw
          case rel => exact HR.out
          case measure => simp [intOf]; omega
        · have hk' : k = C.gates.length := by omega
          have hG1 : Gather V C bo w (usedRows C) u4 wq := by rw [hk', List.take_length] at hG; exact hG
          obtain ⟨rs, hO, hR, hB, hC, hK⟩ := hG1
          obtain ⟨a4, c4, e4, hc4, hm4, hp4, -⟩ := hO.form
          have HO := Lib.hid hO
          have HR := Lib.hid hR
          have hln : rs.length = (usedRows C).length := hR.1
          rw [hln] at e4 hc4
          subst e4
          obtain ⟨n4, hn4⟩ : ∃ n, (usedRows C).length = n := ⟨_, rfl⟩
          have HN4 := Lib.hid hn4
          have HIw := Lib.hid (HII.out.2.1 _ _ _ hK HII.out.1)
          have HKw := Lib.hid hK
          have hn63 : n4 ≤ 9223372036854775807 := by rw [← hn4, usedRows_length]; have := HF.out.l; have := HF.out.g; omega
          have hB4 : ∀ j, (Value.slice a4 n4 c4).ownBlock = some j → j ≠ bo := fun j hj => by
            have := hB j (by rw [hn4]; exact hj)
            have := HBO.out.2
            omega
          have HB4 := Lib.hid hB4
          rw [hn4] at HO HR ⊢
          have HRW := Lib.hid (show ∀ u, Kp (fun j => j = bo) wq u → RowAt u a4 rs from fun u hu => by
            obtain ⟨a, c, e, -, -, hp, hr⟩ := HO.out.form
            simp only [Value.slice.injEq] at e
            obtain ⟨rfl, -, -⟩ := e
            refine hr.kp hu (fun p hp' hb => ?_)
            obtain ⟨g, rfl, -, -⟩ := hp p hp'
            subst hp'
            exact hB4 g rfl hb)
          have HRR := Lib.hid (show ∀ u, Kp (fun j => j = bo) wq u → RowsAt (fun j => j = bo) u rs (usedRows C) from fun u hu => (HR.out.mono (fun j _ h => .inl h)).kp hu (fun _ h => h))
          clear hG hk' hO hR hB hC hK hln hk hp4 hm4 hB4 hn4 hc4 HO HR HB4 HG HA
          go_wp2_with fail
          go_loopw [52] (fun v52 wr => ∃ i : Nat, v52 = .int .i64 i ∧ i ≤ n4 ∧ I wr (b0 && ((usedRows C).take i).flatten.all f) ∧ Kp (fun j => j = bo) wq wr) (fun v52 _ => n4 - (intOf v52).toNat)
          case atStart => exact ⟨0, rfl, by omega, by simpa using HIw.out, Kp.refl _ _⟩
          case round =>
            obtain ⟨i, rfl, hi, hI3, hK3⟩ := hrel
            obtain ⟨w3, rfl⟩ : ∃ w3 : World, w3 = wr := ⟨_, rfl⟩
            have HI3 := Lib.hid hI3
            have HK3 := Lib.hid hK3
            clear hI3 hK3 HIw
            by_cases hi4 : i < n4
            · have hiU : i < (usedRows C).length := by rw [HN4.out]; exact hi4
              obtain ⟨r, hr⟩ : ∃ r, rs[i]? = some r := ⟨_, List.getElem?_eq_getElem (by rw [(HRR.out _ HK3.out).1]; exact hiU)⟩
              obtain ⟨ai, ci, rfl, hci, hcm, hri, -⟩ := (HRR.out _ HK3.out).2 i r _ hr (grow_at hiU)
              obtain ⟨b, off, ea, hcell⟩ := HRW.out _ HK3.out i _ hr
              have HRI := Lib.hid (show ∀ u, Kp (fun j => j = bo) w3 u → IntsAt u ai (grow (usedRows C) i) from fun u hu => by
                obtain ⟨a2, c2, e2, -, -, h2, -⟩ := (HRR.out u (HK3.out.trans hu (fun _ _ h => h))).2 i _ _ hr (grow_at hiU)
                simp only [Value.slice.injEq] at e2
                rw [e2.1]; exact h2)
              have HIU := Lib.hid hiU
              obtain ⟨ni, hni⟩ : ∃ ni, (grow (usedRows C) i).length = ni := ⟨_, rfl⟩
              rw [hni] at hcell hci
              have HNI := Lib.hid hni
              have hn63i : ni ≤ 9223372036854775807 := by unfold maxLen at hcm; omega
              subst ea
              clear hr hri hci hcm hni hiU
              have i0 : (0 : Int) ≤ (i : Int) := by omega
              have i1 : (i : Int) < (n4 : Int) := by omega
              go_wp2_with fail
              go_loopw [58] (fun v58 w4 => ∃ k : Nat, v58 = .int .i64 k ∧ k ≤ ni ∧ I w4 (b0 && (((usedRows C).take i).flatten ++ (grow (usedRows C) i).take k).all f) ∧ Kp (fun j => j = bo) w3 w4) (fun v58 _ => ni - (intOf v58).toNat)
              case atStart => exact ⟨0, rfl, by omega, by simpa using HI3.out, Kp.refl _ _⟩
              case round =>
                obtain ⟨k, rfl, hk, hI4, hK4⟩ := hrel
                obtain ⟨w4, rfl⟩ : ∃ w4 : World, w4 = wr := ⟨_, rfl⟩
                have HI4 := Lib.hid hI4
                have HK4 := Lib.hid hK4
                clear hI4 hK4 hcell
                by_cases hkl : k < ni
                · obtain ⟨b, off, e, hcell⟩ := (HRI.out _ HK4.out).get (j := k) (by rw [HNI.out]; exact hkl)
                  have HMem := Lib.hid (show gi (grow (usedRows C) i) k ∈ C.used by rw [← usedRows_flat]; exact mem_used HIU.out (by rw [HNI.out]; exact hkl))
                  have HAll := Lib.hid (all_take_gi (l := grow (usedRows C) i) (k := k) (by rw [HNI.out]; exact hkl) (((usedRows C).take i).flatten) f)
                  have HUF := Lib.hid (used_false (L := usedRows C) (i := i) (k := k) HIU.out (f := f) (b := b0))
                  obtain ⟨x, hx⟩ : ∃ x, gi (grow (usedRows C) i) k = x := ⟨_, rfl⟩
                  rw [hx] at hcell HMem HAll
                  obtain ⟨bb, hbb⟩ : ∃ bb, (b0 && (((usedRows C).take i).flatten ++ (grow (usedRows C) i).take k).all f) = bb := ⟨_, rfl⟩
                  have HBB := Lib.hid hbb
                  rw [hbb] at HI4
                  obtain ⟨b5, hb5⟩ : ∃ b5, (bb && f x) = b5 := ⟨_, rfl⟩
                  have HYx := Lib.hid (HII.out.2.2 _ _ _ HMem.out HI4.out)
                  rw [hb5] at HYx
                  have HB5 := Lib.hid (show (b0 && (((usedRows C).take i).flatten ++ (grow (usedRows C) i).take (k + 1)).all f) = b5 by rw [HAll.out, ← Bool.and_assoc, hbb]; exact hb5)
                  have k0 : (0 : Int) ≤ (k : Int) := by omega
                  have k1 : (k : Int) < (ni : Int) := by omega
                  subst e
                  clear hx hbb hb5
                  go_wp2_with fail
                  refine HYx.out.mono ?_
                  rintro o w5 ⟨rfl, hI5, hK5⟩
                  have HI5 := Lib.hid hI5
                  have HK5 := Lib.hid (HK4.out.trans hK5 (fun _ _ h => h))
                  clear hI5 hK5 HYx
                  cases b5 with
                  | false =>
                    go_wp2_with fail
                    refine bodyPost_ret (results_none rfl _ _ _) rfl ?_
                    exact ⟨rfl, by rw [← usedRows_flat, HUF.out HB5.out]; exact HI5.out, (HKw.out.mono (fun _ _ h => h.elim)).trans (HK3.out.trans HK5.out (fun _ _ h => h)) (fun _ _ h => h)⟩
                  | true =>
                    go_wp2_with fail
                    go_roundw
                    case rel => exact ⟨k + 1, by go_num, by omega, by rw [HB5.out]; exact HI5.out, HK5.out⟩
                    case measure => simp [intOf]; omega
                · have HI4' := Lib.hid (show I w4 (b0 && ((usedRows C).take (i + 1)).flatten.all f) by
                    have h := HI4.out
                    rw [List.take_of_length_le (l := grow (usedRows C) i) (by rw [HNI.out]; omega)] at h
                    rwa [take_grow HIU.out])
                  go_wp2_with fail
                  go_roundw
                  case rel => exact ⟨i + 1, by go_num, by omega, HI4'.out, HK3.out.trans HK4.out (fun _ _ h => h)⟩
                  case measure => simp [intOf]; omega
            · have HI3' := Lib.hid (show I w3 (b0 && C.used.all f) by
                have h := HI3.out
                rw [List.take_of_length_le (by rw [HN4.out]; omega), usedRows_flat] at h
                exact h)
              go_wp2_with fail
              go_end0
              exact ⟨rfl, HI3'.out, (HKw.out.mono (fun _ _ h => h.elim)).trans HK3.out (fun _ _ h => h)⟩

set_option maxRecDepth 100000 in
set_option maxHeartbeats 4000000 in
theorem circ_uses2 (p q : Value) (V : CV) (C : Circ) (bo : Nat) (f : Int → Bool) (I : World → Bool → Prop) (b0 : Bool) (w0 w : World) (h0 : CAt w0 V C) (hf : CFew C 1000000) (hk0 : Kp (fun _ => False) w0 w) (hbo : w0.heap.size ≤ bo) (hbw : bo < w.heap.size)
    (hI : I w b0) (hIk : ∀ u u' b, Kp (fun _ => False) u u' → I u b → I u' b)
    (hY : ∀ u x b, x ∈ C.used → I u b → Calls Tryd.prog 36 #[.int .i64 x, p, q] u fun e u' => e = .returned (.bool (b && f x)) ∧ I u' (b && f x) ∧ Kp (fun j => j = bo) u u') :
    Calls Tryd.prog 34 #[.agg (cvals V C), .func (Fn.func 36) #[] #[p, q]] w fun e w' => e = .returned (.tuple #[]) ∧ I w' (b0 && C.used.all f) ∧ Kp (fun j => j = bo) w w' := by
  obtain ⟨wz, hwz⟩ : ∃ wz : World, wz = (w.alloc (.cells (cvals V C) 27)).alloc (.cells #[.slice V.ao C.outs.length V.co, .slice V.ab C.bads.length V.cb, .slice V.ac C.cons.length V.cc] 22) := ⟨_, rfl⟩
  have HG := Lib.hid (Gather.start V C bo w0 w wz hwz h0 hk0 hbo hbw)
  have HC1 := Lib.hid (Blk.new w (cvals V C) 27)
  have HS := Lib.hid (show wz.heap.size = w.heap.size + 2 by rw [hwz]; simp)
  have HZ := Lib.hid hwz
  have HA := Lib.hid h0
  have HF := Lib.hid hf
  have HK0 := Lib.hid hk0
  have HBO := Lib.hid (And.intro hbo hbw)
  have HII := Lib.hid (And.intro hI (And.intro hIk hY))
  have HI := Lib.hid (show (Tryd.prog.info? 22).map (fun i => (i.zero, i.size, i.bytes)) = some (some (.slice none 0 0), 1, 24) by kernel_rfl)
  have hl := (h0.fl.le63).1
  have hg := (h0.fg.le63).1
  clear hwz h0 hf hk0 hbo hbw hI hIk hY
  go_enter Tryd.func34, Tryd.ntmps34
  go_upto_region 1 with fail
  obtain ⟨d0, d1, d2, d3, d4, d5, d6, d7, d8⟩ := HC1.out.cells9
  go_upto_region 2 with fail
  rw [← HZ.out]
  clear d0 d1 d2 d3 d4 d5 d6 d7 d8 HC1
  have hG := HG.out
  obtain ⟨rs0, -, -, -, hB0, -⟩ := hG
  have c2 := hB0.cell (i := 2) (v := .slice V.al C.lats.length V.cl) rfl
  clear hB0
  go_wp2_with fail
  go_loopw [4, 23] (fun v4 v23 wr => ∃ k : Nat, v23 = .int .i64 k ∧ k ≤ C.lats.length ∧ Gather V C bo w ([C.outs, C.bads, C.cons] ++ (C.lats.take k).map (fun x => [x.2.1])) v4 wr) (fun _ v23 _ => C.lats.length - (intOf v23).toNat)
  case atStart => exact ⟨0, rfl, by omega, by simpa using HG.out⟩
  case round =>
    obtain ⟨k, rfl, hk, hG⟩ := hrel
    clear c2 HG
    obtain ⟨wp, rfl⟩ : ∃ wp : World, wp = wr := ⟨_, rfl⟩
    have HG := Lib.hid hG
    by_cases hlt : k < C.lats.length
    · obtain ⟨rs, hO, hR, hB, hC, hK⟩ := hG
      have HSw := Lib.hid (show w.heap.size ≤ wp.heap.size from hK.size)
      have HRL := Lib.hid (show rs.length ≤ 3000000 by have := hR.1; have := HF.out.l; simp at this ⊢; rw [hR.1]; simp; omega)
      obtain ⟨b, off, ea, e0, e1, e2⟩ := tri_cells (HA.out.kp (HK0.out.trans hK (fun _ _ h => h))).l hlt
      have i0 : (0 : Int) ≤ (k : Int) := by omega
      have i1 : decide ((k : Int) < (C.lats.length : Int)) = true := decide_eq_true (by omega)
      obtain ⟨x0, hx0⟩ : ∃ x, (g3 C.lats k).1 = x := ⟨_, rfl⟩
      obtain ⟨x1, hx1⟩ : ∃ x, (g3 C.lats k).2.1 = x := ⟨_, rfl⟩
      obtain ⟨x2, hx2⟩ : ∃ x, (g3 C.lats k).2.2 = x := ⟨_, rfl⟩
      have HT := Lib.hid (take_g3 hlt)
      rw [hx0] at e0
      rw [hx1] at e1
      rw [hx2] at e2
      have HX := Lib.hid hx1
      have HEA := Lib.hid ea
      have i2 : (k : Int) < (C.lats.length : Int) := by omega
      clear hx0 hx1 hx2 ea
      have HNew := Lib.hid (three_blk wp #[.int .i64 x0, .int .i64 x1, .int .i64 x2] #[.int .i64 x1] #[.slice (some ⟨wp.heap.size + 1, 0, none⟩) 1 1] 51 3 22)
      have HOw := Lib.hid (((hO.alloc (.cells #[.int .i64 x0, .int .i64 x1, .int .i64 x2] 51)).alloc (.cells #[.int .i64 x1] 3)).alloc (.cells #[.slice (some ⟨wp.heap.size + 1, 0, none⟩) 1 1] 22))
      have HMore := Lib.hid (fun v' w2 hO2 hgr hat => Gather.more (v' := v') (w2 := w2) (g := wp.heap.size + 1) (n := 1) (l := [x1]) HBO.out.2 hO hR hB hC hK ((((Kp.refl _ wp).alloc (.cells #[.int .i64 x0, .int .i64 x1, .int .i64 x2] 51)).alloc (.cells #[.int .i64 x1] 3)).alloc (.cells #[.slice (some ⟨wp.heap.size + 1, 0, none⟩) 1 1] 22)) (by omega) HNew.out.1 rfl (by simp [maxLen]) hO2 hgr hat)
      clear hO hR hB hC hK
      rw [HEA.out]
      go_wp2_with (at_builtin; refine wpList_append1_at rfl _ _ 58 22 rfl Tryd.underlying58 HI.out rfl HOw.out rfl ⟨wp.heap.size + 2, 0, none⟩ (.slice (some ⟨wp.heap.size + 1, 0, none⟩) 1 1) rfl (HNew.out.2.cell rfl) rfl ?c1 ?c2 ?c3 ?_)
      case c1 => have := HRL.out; omega
      case c2 => have := HRL.out; unfold maxLen; omega
      case c3 => have := HSw.out; simp; omega
      intro v' w2 hO2 hg2 hat2
      have hrel : ∃ k' : Nat, Value.int .i64 ((k : Int) + 1) = .int .i64 k' ∧ k' ≤ C.lats.length ∧ Gather V C bo w ([C.outs, C.bads, C.cons] ++ (C.lats.take k').map (fun x => [x.2.1])) v' w2 := by
        refine ⟨k + 1, by go_num, by omega, ?_⟩
        rw [HT.out, List.map_append, ← List.append_assoc]
        have : [g3 C.lats k].map (fun x => [x.2.1]) = [[x1]] := by simp [HX.out]
        rw [this]
        exact HMore.out v' w2 hO2 hg2 (by simpa using hat2)
      have HR := Lib.hid hrel
      clear hrel hO2 hg2 hat2 HOw HNew HT HMore HG
      go_wp2_with fail
      go_roundw
      case rel => exact HR.out
      case measure => simp [intOf]; omega
    · have hk' : k = C.lats.length := by omega
      have HG1 : Hid (Gather V C bo w ([C.outs, C.bads, C.cons] ++ C.lats.map (fun x => [x.2.1])) u4 wp) := Lib.hid (by rwa [hk', List.take_length] at hG)
      obtain ⟨rs0, -, -, -, hB0, -⟩ := hG
      have c6 := hB0.cell (i := 6) (v := .slice V.ag C.gates.length V.cg) rfl
      clear HG hk hk' hB0
      go_wp2_with fail
      go_loopw [4, 37] (fun v4 v37 wr => ∃ k : Nat, v37 = .int .i64 k ∧ k ≤ C.gates.length ∧ Gather V C bo w ([C.outs, C.bads, C.cons] ++ C.lats.map (fun x => [x.2.1]) ++ (C.gates.take k).map (fun x => [x.2.1, x.2.2])) v4 wr) (fun _ v37 _ => C.gates.length - (intOf v37).toNat)
      case atStart => exact ⟨0, rfl, by omega, by simpa using HG1.out⟩
      case round =>
        obtain ⟨k, rfl, hk, hG⟩ := hrel
        clear c6 HG1 hlt
        obtain ⟨wq, rfl⟩ : ∃ wp : World, wp = wr := ⟨_, rfl⟩
        have HG := Lib.hid hG
        by_cases hlt : k < C.gates.length
        · obtain ⟨rs, hO, hR, hB, hC, hK⟩ := hG
          have HSw := Lib.hid (show w.heap.size ≤ wq.heap.size from hK.size)
          have HRL := Lib.hid (show rs.length ≤ 3000000 by have := hR.1; have := HF.out.l; have := HF.out.g; rw [hR.1]; simp; omega)
          obtain ⟨b, off, ea, e0, e1, e2⟩ := tri_cells (HA.out.kp (HK0.out.trans hK (fun _ _ h => h))).g hlt
          have i0 : (0 : Int) ≤ (k : Int) := by omega
          have i1 : decide ((k : Int) < (C.gates.length : Int)) = true := decide_eq_true (by omega)
          obtain ⟨x0, hx0⟩ : ∃ x, (g3 C.gates k).1 = x := ⟨_, rfl⟩
          obtain ⟨x1, hx1⟩ : ∃ x, (g3 C.gates k).2.1 = x := ⟨_, rfl⟩
          obtain ⟨x2, hx2⟩ : ∃ x, (g3 C.gates k).2.2 = x := ⟨_, rfl⟩
          have HT := Lib.hid (take_g3 hlt)
          rw [hx0] at e0
          rw [hx1] at e1
          rw [hx2] at e2
          have HX := Lib.hid (And.intro hx1 hx2)
          have HEA := Lib.hid ea
          have i2 : (k : Int) < (C.gates.length : Int) := by omega
          clear hx0 hx1 hx2 ea
          have HNew := Lib.hid (three_blk wq #[.int .i64 x0, .int .i64 x1, .int .i64 x2] #[.int .i64 x1, .int .i64 x2] #[.slice (some ⟨wq.heap.size + 1, 0, none⟩) 2 2] 43 3 22)
          have HOw := Lib.hid (((hO.alloc (.cells #[.int .i64 x0, .int .i64 x1, .int .i64 x2] 43)).alloc (.cells #[.int .i64 x1, .int .i64 x2] 3)).alloc (.cells #[.slice (some ⟨wq.heap.size + 1, 0, none⟩) 2 2] 22))
          have HMore := Lib.hid (fun v' w2 hO2 hgr hat => Gather.more (v' := v') (w2 := w2) (g := wq.heap.size + 1) (n := 2) (l := [x1, x2]) HBO.out.2 hO hR hB hC hK ((((Kp.refl _ wq).alloc (.cells #[.int .i64 x0, .int .i64 x1, .int .i64 x2] 43)).alloc (.cells #[.int .i64 x1, .int .i64 x2] 3)).alloc (.cells #[.slice (some ⟨wq.heap.size + 1, 0, none⟩) 2 2] 22)) (by omega) HNew.out.1 rfl (by simp [maxLen]) hO2 hgr hat)
          clear hO hR hB hC hK
          rw [HEA.out]
          go_wp2_with (at_builtin; refine wpList_append1_at rfl _ _ 58 22 rfl Tryd.underlying58 HI.out rfl HOw.out rfl ⟨wq.heap.size + 2, 0, none⟩ (.slice (some ⟨wq.heap.size + 1, 0, none⟩) 2 2) rfl (HNew.out.2.cell rfl) rfl ?d1 ?d2 ?d3 ?_)
          case d1 => have := HRL.out; omega
          case d2 => have := HRL.out; unfold maxLen; omega
          case d3 => have := HSw.out; simp; omega
          intro v' w2 hO2 hg2 hat2
          have hrel : ∃ k' : Nat, Value.int .i64 ((k : Int) + 1) = .int .i64 k' ∧ k' ≤ C.gates.length ∧ Gather V C bo w ([C.outs, C.bads, C.cons] ++ C.lats.map (fun x => [x.2.1]) ++ (C.gates.take k').map (fun x => [x.2.1, x.2.2])) v' w2 := by
            refine ⟨k + 1, by go_num, by omega, ?_⟩
            rw [HT.out, List.map_append, ← List.append_assoc]
            have : [g3 C.gates k].map (fun x => [x.2.1, x.2.2]) = [[x1, x2]] := by simp [HX.out.1, HX.out.2]
            rw [this]
            exact HMore.out v' w2 hO2 hg2 (by simpa using hat2)
          have HR := Lib.hid hrel
          clear hrel hO2 hg2 hat2 HOw HNew HT HMore HG
          go_wp2_with fail
          go_roundw
          case rel => exact HR.out
          case measure => simp [intOf]; omega
        · have hk' : k = C.gates.length := by omega
          have hG1 : Gather V C bo w (usedRows C) u4 wq := by rw [hk', List.take_length] at hG; exact hG
          obtain ⟨rs, hO, hR, hB, hC, hK⟩ := hG1
          obtain ⟨a4, c4, e4, hc4, hm4, hp4, -⟩ := hO.form
          have HO := Lib.hid hO
          have HR := Lib.hid hR
          have hln : rs.length = (usedRows C).length := hR.1
          rw [hln] at e4 hc4
          subst e4
          obtain ⟨n4, hn4⟩ : ∃ n, (usedRows C).length = n := ⟨_, rfl⟩
          have HN4 := Lib.hid hn4
          have HIw := Lib.hid (HII.out.2.1 _ _ _ hK HII.out.1)
          have HKw := Lib.hid hK
          have hn63 : n4 ≤ 9223372036854775807 := by rw [← hn4, usedRows_length]; have := HF.out.l; have := HF.out.g; omega
          have hB4 : ∀ j, (Value.slice a4 n4 c4).ownBlock = some j → j ≠ bo := fun j hj => by
            have := hB j (by rw [hn4]; exact hj)
            have := HBO.out.2
            omega
          have HB4 := Lib.hid hB4
          rw [hn4] at HO HR ⊢
          have HRW := Lib.hid (show ∀ u, Kp (fun j => j = bo) wq u → RowAt u a4 rs from fun u hu => by
            obtain ⟨a, c, e, -, -, hp, hr⟩ := HO.out.form
            simp only [Value.slice.injEq] at e
            obtain ⟨rfl, -, -⟩ := e
            refine hr.kp hu (fun p hp' hb => ?_)
            obtain ⟨g, rfl, -, -⟩ := hp p hp'
            subst hp'
            exact hB4 g rfl hb)
          have HRR := Lib.hid (show ∀ u, Kp (fun j => j = bo) wq u → RowsAt (fun j => j = bo) u rs (usedRows C) from fun u hu => (HR.out.mono (fun j _ h => .inl h)).kp hu (fun _ h => h))
          clear hG hk' hO hR hB hC hK hln hk hp4 hm4 hB4 hn4 hc4 HO HR HB4 HG HA
          go_wp2_with fail
          go_loopw [52] (fun v52 wr => ∃ i : Nat, v52 = .int .i64 i ∧ i ≤ n4 ∧ I wr (b0 && ((usedRows C).take i).flatten.all f) ∧ Kp (fun j => j = bo) wq wr) (fun v52 _ => n4 - (intOf v52).toNat)
          case atStart => exact ⟨0, rfl, by omega, by simpa using HIw.out, Kp.refl _ _⟩
          case round =>
            obtain ⟨i, rfl, hi, hI3, hK3⟩ := hrel
            obtain ⟨w3, rfl⟩ : ∃ w3 : World, w3 = wr := ⟨_, rfl⟩
            have HI3 := Lib.hid hI3
            have HK3 := Lib.hid hK3
            clear hI3 hK3 HIw
            by_cases hi4 : i < n4
            · have hiU : i < (usedRows C).length := by rw [HN4.out]; exact hi4
              obtain ⟨r, hr⟩ : ∃ r, rs[i]? = some r := ⟨_, List.getElem?_eq_getElem (by rw [(HRR.out _ HK3.out).1]; exact hiU)⟩
              obtain ⟨ai, ci, rfl, hci, hcm, hri, -⟩ := (HRR.out _ HK3.out).2 i r _ hr (grow_at hiU)
              obtain ⟨b, off, ea, hcell⟩ := HRW.out _ HK3.out i _ hr
              have HRI := Lib.hid (show ∀ u, Kp (fun j => j = bo) w3 u → IntsAt u ai (grow (usedRows C) i) from fun u hu => by
                obtain ⟨a2, c2, e2, -, -, h2, -⟩ := (HRR.out u (HK3.out.trans hu (fun _ _ h => h))).2 i _ _ hr (grow_at hiU)
                simp only [Value.slice.injEq] at e2
                rw [e2.1]; exact h2)
              have HIU := Lib.hid hiU
              obtain ⟨ni, hni⟩ : ∃ ni, (grow (usedRows C) i).length = ni := ⟨_, rfl⟩
              rw [hni] at hcell hci
              have HNI := Lib.hid hni
              have hn63i : ni ≤ 9223372036854775807 := by unfold maxLen at hcm; omega
              subst ea
              clear hr hri hci hcm hni hiU
              have i0 : (0 : Int) ≤ (i : Int) := by omega
              have i1 : (i : Int) < (n4 : Int) := by omega
              go_wp2_with fail
              go_loopw [58] (fun v58 w4 => ∃ k : Nat, v58 = .int .i64 k ∧ k ≤ ni ∧ I w4 (b0 && (((usedRows C).take i).flatten ++ (grow (usedRows C) i).take k).all f) ∧ Kp (fun j => j = bo) w3 w4) (fun v58 _ => ni - (intOf v58).toNat)
              case atStart => exact ⟨0, rfl, by omega, by simpa using HI3.out, Kp.refl _ _⟩
              case round =>
                obtain ⟨k, rfl, hk, hI4, hK4⟩ := hrel
                obtain ⟨w4, rfl⟩ : ∃ w4 : World, w4 = wr := ⟨_, rfl⟩
                have HI4 := Lib.hid hI4
                have HK4 := Lib.hid hK4
                clear hI4 hK4 hcell
                by_cases hkl : k < ni
                · obtain ⟨b, off, e, hcell⟩ := (HRI.out _ HK4.out).get (j := k) (by rw [HNI.out]; exact hkl)
                  have HMem := Lib.hid (show gi (grow (usedRows C) i) k ∈ C.used by rw [← usedRows_flat]; exact mem_used HIU.out (by rw [HNI.out]; exact hkl))
                  have HAll := Lib.hid (all_take_gi (l := grow (usedRows C) i) (k := k) (by rw [HNI.out]; exact hkl) (((usedRows C).take i).flatten) f)
                  have HUF := Lib.hid (used_false (L := usedRows C) (i := i) (k := k) HIU.out (f := f) (b := b0))
                  obtain ⟨x, hx⟩ : ∃ x, gi (grow (usedRows C) i) k = x := ⟨_, rfl⟩
                  rw [hx] at hcell HMem HAll
                  obtain ⟨bb, hbb⟩ : ∃ bb, (b0 && (((usedRows C).take i).flatten ++ (grow (usedRows C) i).take k).all f) = bb := ⟨_, rfl⟩
                  have HBB := Lib.hid hbb
                  rw [hbb] at HI4
                  obtain ⟨b5, hb5⟩ : ∃ b5, (bb && f x) = b5 := ⟨_, rfl⟩
                  have HYx := Lib.hid (HII.out.2.2 _ _ _ HMem.out HI4.out)
                  rw [hb5] at HYx
                  have HB5 := Lib.hid (show (b0 && (((usedRows C).take i).flatten ++ (grow (usedRows C) i).take (k + 1)).all f) = b5 by rw [HAll.out, ← Bool.and_assoc, hbb]; exact hb5)
                  have k0 : (0 : Int) ≤ (k : Int) := by omega
                  have k1 : (k : Int) < (ni : Int) := by omega
                  subst e
                  clear hx hbb hb5
                  go_wp2_with fail
                  refine HYx.out.mono ?_
                  rintro o w5 ⟨rfl, hI5, hK5⟩
                  have HI5 := Lib.hid hI5
                  have HK5 := Lib.hid (HK4.out.trans hK5 (fun _ _ h => h))
                  clear hI5 hK5 HYx
                  cases b5 with
                  | false =>
                    go_wp2_with fail
                    refine bodyPost_ret (results_none rfl _ _ _) rfl ?_
                    exact ⟨rfl, by rw [← usedRows_flat, HUF.out HB5.out]; exact HI5.out, (HKw.out.mono (fun _ _ h => h.elim)).trans (HK3.out.trans HK5.out (fun _ _ h => h)) (fun _ _ h => h)⟩
                  | true =>
                    go_wp2_with fail
                    go_roundw
                    case rel => exact ⟨k + 1, by go_num, by omega, by rw [HB5.out]; exact HI5.out, HK5.out⟩
                    case measure => simp [intOf]; omega
                · have HI4' := Lib.hid (show I w4 (b0 && ((usedRows C).take (i + 1)).flatten.all f) by
                    have h := HI4.out
                    rw [List.take_of_length_le (l := grow (usedRows C) i) (by rw [HNI.out]; omega)] at h
                    rwa [take_grow HIU.out])
                  go_wp2_with fail
                  go_roundw
                  case rel => exact ⟨i + 1, by go_num, by omega, HI4'.out, HK3.out.trans HK4.out (fun _ _ h => h)⟩
                  case measure => simp [intOf]; omega
            · have HI3' := Lib.hid (show I w3 (b0 && C.used.all f) by
                have h := HI3.out
                rw [List.take_of_length_le (by rw [HN4.out]; omega), usedRows_flat] at h
                exact h)
              go_wp2_with fail
              go_end0
              exact ⟨rfl, HI3'.out, (HKw.out.mono (fun _ _ h => h.elim)).trans HK3.out (fun _ _ h => h)⟩

end Go.Proofs.YtmjcpapcmbgkjaaDoor

/-
  The closures of circ.Check.
-/
namespace Go.Proofs.YtmjcpapcmbgkjaaDoor
open Go.RowKit

theorem check_f1 (bo bc : Nat) (V : CV) (C : Circ) (u : World) (x : Int) (b : Bool) (hO : Blk u bo #[.bool b] 4) (hC : Blk u bc (cvals V C) 27) (m0 : 0 ≤ C.max) (m1 : C.max ≤ 16777216) :
    Calls Tryd.prog 35 #[.int .i64 x, .pointer (some ⟨bo, 0, none⟩), .pointer (some ⟨bc, 0, none⟩)] u fun e u' => e = .returned (.bool (b && useB C.max x)) ∧ u' = u.setCell ⟨bo, 0, none⟩ (.bool (b && useB C.max x)) := by
  have o0 : u.cell? ⟨bo, 0, none⟩ = some (.bool b) := hO.cell rfl
  have fo := hO.free 0
  have c0 : u.cell? ⟨bc, 0, none⟩ = some (.int .i64 C.max) := hC.cell rfl
  clear hO hC
  obtain ⟨r, hr⟩ : ∃ r, (b && useB C.max x) = r := ⟨_, rfl⟩
  rw [hr]
  have HR := Lib.hid hr
  clear hr
  cases b with
  | false =>
    obtain rfl : r = false := by have := HR.out; simpa using this.symm
    go_enter Tryd.func35, Tryd.ntmps35
    go_wp2_with fail
    go_ret
    exact ⟨rfl, rfl⟩
  | true =>
    by_cases h1 : 0 ≤ x
    · by_cases h2 : x ≤ 2 * C.max + 1
      · obtain rfl : r = true := by have := HR.out; rw [← this]; simp [useB, h1, h2]
        go_enter Tryd.func35, Tryd.ntmps35
        go_wp2_with fail
        go_ret
        exact ⟨rfl, rfl⟩
      · obtain rfl : r = false := by have := HR.out; rw [← this]; simp [useB, h2]
        have d2 : decide (x ≤ 2 * C.max + 1) = false := decide_eq_false h2
        go_enter Tryd.func35, Tryd.ntmps35
        go_wp2_with fail
        go_ret
        exact ⟨rfl, rfl⟩
    · obtain rfl : r = false := by have := HR.out; rw [← this]; simp [useB, h1]
      have d1 : decide (0 ≤ x) = false := decide_eq_false h1
      go_enter Tryd.func35, Tryd.ntmps35
      go_wp2_with fail
      go_ret
      exact ⟨rfl, rfl⟩

theorem check_f2 (bo bh bm n : Nat) (F : Int → Bool) (u : World) (x : Int) (b : Bool) (hO : Blk u bo #[.bool b] 4) (hH : Blk u bh #[.map (some bm)] 79) (hM : IMB u bm n F) (x0 : 0 ≤ x) (x1 : x ≤ 100000000) :
    Calls Tryd.prog 36 #[.int .i64 x, .pointer (some ⟨bo, 0, none⟩), .pointer (some ⟨bh, 0, none⟩)] u fun e u' => e = .returned (.bool (b && F (x / 2))) ∧ u' = u.setCell ⟨bo, 0, none⟩ (.bool (b && F (x / 2))) := by
  have o0 : u.cell? ⟨bo, 0, none⟩ = some (.bool b) := hO.cell rfl
  have fo := hO.free 0
  have c0 : u.cell? ⟨bh, 0, none⟩ = some (.map (some bm)) := hH.cell rfl
  have hl := hM.look (x := x / 2) ⟨by omega, by omega⟩
  clear hO hH hM
  obtain ⟨f, hf⟩ : ∃ f, F (x / 2) = f := ⟨_, rfl⟩
  rw [hf] at hl ⊢
  clear hf
  cases b with
  | false =>
    go_enter Tryd.func36, Tryd.ntmps36
    go_wp2_with fail
    go_ret
    exact ⟨rfl, rfl⟩
  | true =>
    go_enter Tryd.func36, Tryd.ntmps36
    go_wp2_with fail
    go_ret
    exact ⟨rfl, rfl⟩

end Go.Proofs.YtmjcpapcmbgkjaaDoor

/-
  circ.Check: what is wrong with any circuit. (Printed by mkcheck.py.)
-/
namespace Go.Proofs.YtmjcpapcmbgkjaaDoor
open Go.RowKit

theorem and1 (n : Int) : bits .and .i64 n 1 = n % 2 := by
  have h1 : (BitVec.ofInt 64 1).toNat = 2 ^ 1 - 1 := by decide
  have key : (BitVec.ofInt 64 n &&& BitVec.ofInt 64 1).toNat = (n % ((2 ^ 64 : Nat) : Int)).toNat % 2 ^ 1 := by
    rw [BitVec.toNat_and, BitVec.toNat_ofInt, h1, Nat.and_two_pow_sub_one_eq_mod]
  show IntKind.i64.wrap ((BitVec.ofInt 64 n &&& BitVec.ofInt 64 1).toNat : Nat) = n % 2
  rw [key, IntKind.wrap_i64]
  omega

theorem Blk.bool {w : World} {b : Nat} {x : Bool} {t : TypeId} (h : Blk w b #[.bool x] t) (y : Bool) : Blk (w.setCell ⟨b, 0, none⟩ (.bool y)) b #[.bool y] t := by
  have := h.set_same 0 (.bool y)
  simpa using this

theorem all_take {α : Type} {l : List α} {k : Nat} {x : α} (h : l.take (k + 1) = l.take k ++ [x]) (f : α → Bool) : (l.take (k + 1)).all f = ((l.take k).all f && f x) := by
  rw [h, List.all_append]; simp

def hasF (own : List Int) (y : Int) : Bool := decide (y = 0) || own.any (fun z => decide (z / 2 = y))

theorem hasF_snoc (P : List Int) (x : Int) : (fun y => if y = x / 2 then true else hasF P y) = hasF (P ++ [x]) := by
  funext y
  unfold hasF
  rw [List.any_append]
  by_cases h : y = x / 2
  · subst h; simp
  · have : ¬ x / 2 = y := fun e => h e.symm
    simp [h, this]

theorem hasF_new {C : Circ} (hR : InRange C) {k : Nat} (hk : k < C.owned.length) : hasF (C.owned.take k) (gi C.owned k / 2) = decide (gi C.owned k ∈ C.owned.take k) := by
  have hx : gi C.owned k ∈ C.owned := by
    unfold gi; rw [List.getElem?_eq_getElem hk]; exact List.getElem_mem hk
  have h1 := hR.own _ hx
  unfold hasF
  rw [decide_eq_false (by omega), Bool.false_or, Bool.eq_iff_iff]
  simp only [List.any_eq_true, decide_eq_true_eq]
  constructor
  · rintro ⟨z, hz, e⟩
    have h2 := hR.own _ (List.mem_of_mem_take hz)
    have : z = gi C.owned k := by omega
    rw [← this]; exact hz
  · intro h; exact ⟨_, h, rfl⟩

theorem nodup_take {l : List Int} {k : Nat} (hk : k < l.length) (h : (l.take k).Nodup) (hm : gi l k ∉ l.take k) : (l.take (k + 1)).Nodup := by
  rw [take_gi hk, List.nodup_append]
  refine ⟨h, by simp, fun a ha b hb => ?_⟩
  simp at hb
  subst hb
  intro e
  subst e
  exact hm ha

theorem not_nodup {l : List Int} {k : Nat} (hk : k < l.length) (hm : gi l k ∈ l.take k) : ¬ l.Nodup := by
  intro h
  obtain ⟨j, hj⟩ := List.mem_iff_getElem?.1 hm
  have hjk : j < k := by
    have := (List.getElem?_eq_some_iff.1 hj).1
    simp at this; omega
  rw [List.getElem?_take, if_pos hjk] at hj
  have h2 : l[k]? = some (gi l k) := by unfold gi; rw [List.getElem?_eq_getElem hk]; rfl
  have := nodup_getElem h hj h2
  omega

theorem hasF_zero : (fun y => if y = 0 then true else false) = hasF [] := by
  funext y
  unfold hasF
  by_cases h : y = 0 <;> simp [h]

/-- how circ.Check's answer is laid open -/
theorem ck5 {C : Circ} (h : C.max < 0 ∨ 16777216 < C.max ∨ rangeB C = false) : ckCode C = 5 := by
  unfold ckCode
  by_cases h1 : C.max < 0 ∨ 16777216 < C.max
  · rw [if_pos h1]
  · rw [if_neg h1, if_pos]
    rcases h with h | h | h
    · exact absurd (.inl h) h1
    · exact absurd (.inr h) h1
    · exact h
theorem ckR {C : Circ} (h0 : 0 ≤ C.max) (h1 : C.max ≤ 16777216) (h : rangeB C = true) : ckCode C = if ¬ C.owned.Nodup then 7 else if C.used.all (knownB C.owned) = false then 9 else if (ordO C.gates).length < C.gates.length then 8 else 0 := by
  unfold ckCode
  rw [if_neg (by omega), if_neg (by simp [h])]

set_option maxRecDepth 100000 in
set_option maxHeartbeats 8000000 in
theorem circ_Chk (V : CV) (C : Circ) (w : World) (h : CAt w V C) (hf : CFew C 1000000) :
    Calls Tryd.prog 22 #[.agg (cvals V C)] w fun e w' => e = .returned (.int .i64 (ckCode C)) ∧ Kp (fun _ => False) w w' := by
  obtain ⟨code, hcode⟩ : ∃ code, ckCode C = code := ⟨_, rfl⟩
  rw [hcode]
  have HCode := Lib.hid hcode
  clear hcode
  have HC0 := Lib.hid (Blk.new w (cvals V C) 27)
  have HK0 := Lib.hid ((Kp.refl (fun _ => False) w).alloc (.cells (cvals V C) 27))
  by_cases m0 : 0 ≤ C.max
  case neg =>
    have d1 : decide (C.max < 0) = true := decide_eq_true (by omega)
    obtain rfl : code = 5 := by rw [← HCode.out]; exact ck5 (.inl (by omega))
    have c0 := HC0.out.cell (i := 0) (v := .int .i64 C.max) rfl
    clear m0 h hf
    go_enter Tryd.func22, Tryd.ntmps22
    go_wp2_with fail
    go_ret
    exact ⟨rfl, HK0.out⟩
  have e1 : decide (C.max < 0) = false := decide_eq_false (by omega)
  by_cases m1 : C.max ≤ 16777216
  case neg =>
    have d1 : decide ((16777216 : Int) < C.max) = true := decide_eq_true (by omega)
    obtain rfl : code = 5 := by rw [← HCode.out]; exact ck5 (.inr (.inl (by omega)))
    have c0 := HC0.out.cell (i := 0) (v := .int .i64 C.max) rfl
    clear m1 h hf
    go_enter Tryd.func22, Tryd.ntmps22
    go_wp2_with fail
    go_ret
    exact ⟨rfl, HK0.out⟩
  have e2 : decide ((16777216 : Int) < C.max) = false := decide_eq_false (by omega)
  have HM := Lib.hid (And.intro m0 m1)
  have hl := (h.fl.le63).1
  have HA := Lib.hid h
  have HF := Lib.hid hf
  have HOl := Lib.hid (show C.owned.length ≤ 3000000 by have := hf.i; have := hf.l; have := hf.g; unfold Circ.owned; simp; omega)
  have HD := Lib.hid (fun u (hu : Kp (fun _ => False) w u) => circ_defined V C u (h.kp hu) hf)
  clear h hf
  obtain ⟨bc, hbc⟩ : ∃ bc, bc = w.heap.size := ⟨_, rfl⟩
  have HBc := Lib.hid hbc
  obtain ⟨d0, d1, d2, d3, d4, d5, d6, d7, d8⟩ := HC0.out.cells9
  go_enter Tryd.func22, Tryd.ntmps22
  go_wp2_with fail
  refine (HD.out _ HK0.out).mono ?_
  rintro e w1 ⟨v1, rfl, hO1, hK1⟩
  clear d0 d1 d2 d3 d4 d5 d6 d7 d8
  have hB1 := HC0.out.kp hK1 (fun h => h)
  have hK1' := HK0.out.trans hK1 (fun _ _ h => h)
  obtain ⟨a1, cp1, e1', hc1, hm1, -, -⟩ := hO1.form
  obtain ⟨n1, hn1⟩ : ∃ n, C.owned.length = n := ⟨_, rfl⟩
  rw [iv_length, hn1] at e1' hc1
  have hn63 : n1 ≤ 9223372036854775807 := by unfold maxLen at hm1; omega
  have HN1 := Lib.hid hn1
  obtain ⟨bo, hbo⟩ : ∃ bo, bo = w1.heap.size := ⟨_, rfl⟩
  obtain ⟨wo, hwo⟩ : ∃ wo : World, wo = w1.alloc (.cells #[.bool true] 4) := ⟨_, rfl⟩
  have HBo : Hid (Blk wo bo #[.bool true] 4) := Lib.hid (by rw [hwo, hbo]; exact Blk.new _ _ _)
  have HKo : Hid (Kp (fun _ => False) w wo) := Lib.hid (by rw [hwo]; exact hK1'.alloc _)
  have HBC : Hid (Blk wo bc (cvals V C) 27) := Lib.hid (by rw [hwo, hbc]; exact hB1.alloc _)
  have HNe : Hid (w.heap.size ≤ bc ∧ bc < bo ∧ bo < wo.heap.size) := Lib.hid ⟨by omega, by rw [hbc, hbo]; exact hB1.lt, HBo.out.lt⟩
  have HRW := Lib.hid (show ∀ u, Kp (fun j => j = bo) wo u → IntsAt u a1 C.owned from fun u hu => by
    have hO2 : Own wo (w.alloc (.cells (cvals V C) 27)).heap.size 3 v1 (iv C.owned) := by rw [hwo]; exact hO1.alloc _
    have hne : ∀ j, v1.ownBlock = some j → ¬ j = bo := fun j hj e => by have := (hO1.lt j hj).2; omega
    obtain ⟨a, c, e, -, -, -, hr⟩ := (hO2.kp hu hne).form
    rw [e1'] at e
    simp only [Value.slice.injEq] at e
    rw [e.1]; exact hr)
  subst e1'
  have hwo' := hwo.symm
  have hbo' := hbo.symm
  have hbc' := hbc.symm
  clear hbo hwo hbc hO1 hK1 hB1 hK1' hc1 hm1 hn1 HC0 HK0 e1 e2 HD
  go_upto_region 4 with fail
  try rw [hwo']
  try rw [hbo']
  try rw [hbc']
  clear hwo' hbo' hbc'
  have c0 := HBC.out.cell (i := 0) (v := .int .i64 C.max) rfl
  go_wp2_with fail
  go_loopw [24] (fun v24 wr => ∃ k : Nat, v24 = .int .i64 k ∧ k ≤ n1 ∧ Blk wr bo #[.bool ((C.owned.take k).all (ownB C.max))] 4 ∧ Kp (fun j => j = bo) wo wr) (fun v24 _ => n1 - (intOf v24).toNat)
  case atStart => exact ⟨0, rfl, by omega, by simpa using HBo.out, Kp.refl _ _⟩
  case round =>
    obtain ⟨k, rfl, hk, hB, hK⟩ := hrel
    clear c0 HBo
    obtain ⟨wp, rfl⟩ : ∃ wp : World, wp = wr := ⟨_, rfl⟩
    have HK := Lib.hid hK
    obtain ⟨b, hb⟩ : ∃ b, (C.owned.take k).all (ownB C.max) = b := ⟨_, rfl⟩
    rw [hb] at hB
    by_cases hlt : k < n1
    · obtain ⟨bl, off, rfl, hcell⟩ := (HRW.out _ hK).get (j := k) (by rw [HN1.out]; exact hlt)
      obtain ⟨x, hx⟩ : ∃ x, gi C.owned k = x := ⟨_, rfl⟩
      rw [hx] at hcell
      have hall := all_take (take_gi (L := C.owned) (k := k) (by rw [HN1.out]; exact hlt)) (ownB C.max)
      rw [hb, hx] at hall
      have c0 := (HBC.out.kp hK (fun e => by have := HNe.out; omega)).cell (i := 0) (v := .int .i64 C.max) rfl
      have o0 : wp.cell? ⟨bo, 0, none⟩ = some (.bool b) := hB.cell rfl
      have fo := hB.free 0
      have i0 : (0 : Int) ≤ (k : Int) := by omega
      have i1 : (k : Int) < (n1 : Int) := by omega
      have ha := and1 x
      have HNext := Lib.hid (fun y (hy : (b && ownB C.max x) = y) => show ∃ k' : Nat, Value.int .i64 ((k : Int) + 1) = .int .i64 k' ∧ k' ≤ n1 ∧ Blk (wp.setCell ⟨bo, 0, none⟩ (.bool y)) bo #[.bool ((C.owned.take k').all (ownB C.max))] 4 ∧ Kp (fun j => j = bo) wo (wp.setCell ⟨bo, 0, none⟩ (.bool y)) from
        ⟨k + 1, by go_num, by omega, by rw [hall, hy]; exact hB.bool y, hK.setCell (p := ⟨bo, 0, none⟩) (fun _ => rfl) _⟩)
      clear hb hx hall hB hK
      cases b with
      | false =>
        go_wp2_with fail
        go_roundw
        case rel => exact HNext.out false (by simp)
        case measure => simp [intOf]; omega
      | true =>
        by_cases h1 : 1 < x
        · by_cases h2 : x % 2 = 0
          · by_cases h3 : x ≤ 2 * C.max
            · have HPrf := Lib.hid (show (true && ownB C.max x) = true by simp [ownB, h1, h2, h3])
              have g2 : ((x % 2 : Int) == 0) = true := by simp [h2]
              clear h2
              go_wp2_with fail
              go_roundw
              case rel => exact HNext.out true (HPrf.out)
              case measure => simp [intOf]; omega
            · have HPrf := Lib.hid (show (true && ownB C.max x) = false by simp [ownB, h3])
              have g2 : ((x % 2 : Int) == 0) = true := by simp [h2]
              have g3 : decide (x ≤ 2 * C.max) = false := decide_eq_false h3
              clear h2
              go_wp2_with fail
              go_roundw
              case rel => exact HNext.out false (HPrf.out)
              case measure => simp [intOf]; omega
          · have HPrf := Lib.hid (show (true && ownB C.max x) = false by simp [ownB, h2])
            have g2 : ((x % 2 : Int) == 0) = false := by simp [h2]
            clear h2
            go_wp2_with fail
            go_roundw
            case rel => exact HNext.out false (HPrf.out)
            case measure => simp [intOf]; omega
        · have HPrf := Lib.hid (show (true && ownB C.max x) = false by simp [ownB, h1])
          have g1 : decide (1 < x) = false := decide_eq_false h1
          go_wp2_with fail
          go_roundw
          case rel => exact HNext.out false (HPrf.out)
          case measure => simp [intOf]; omega
    · have HB := Lib.hid (show Blk wp bo #[.bool (C.owned.all (ownB C.max))] 4 by
        rw [List.take_of_length_le (by rw [HN1.out]; omega)] at hb
        rw [hb]; exact hB)
      have c2 := (HBC.out.kp hK (fun e => by have := HNe.out; omega)).cell (i := 2) (v := .slice V.al C.lats.length V.cl) rfl
      clear hB hK hb hk
      obtain ⟨r1, hr1⟩ : ∃ r, C.owned.all (ownB C.max) = r := ⟨_, rfl⟩
      rw [hr1] at HB
      have HR1 := Lib.hid hr1
      clear hr1
      go_wp2_with fail
      go_loopw [49] (fun v49 wr => ∃ k : Nat, v49 = .int .i64 k ∧ k ≤ C.lats.length ∧ Blk wr bo #[.bool (r1 && (C.lats.take k).all resB)] 4 ∧ Kp (fun j => j = bo) wo wr) (fun v49 _ => C.lats.length - (intOf v49).toNat)
      case atStart => exact ⟨0, rfl, by omega, by simpa using HB.out, HK.out⟩
      case round =>
        obtain ⟨k, rfl, hk, hB, hK⟩ := hrel
        clear c2 HB HK hlt
        obtain ⟨wq, rfl⟩ : ∃ wp : World, wp = wr := ⟨_, rfl⟩
        obtain ⟨b, hb⟩ : ∃ b, (r1 && (C.lats.take k).all resB) = b := ⟨_, rfl⟩
        rw [hb] at hB
        have HK := Lib.hid hK
        by_cases hlt : k < C.lats.length
        · have hKw : Kp (fun _ => False) w wq := HKo.out.trans hK (fun j hj e => by have := HNe.out; omega)
          obtain ⟨bl, off, ea, l0, l1, l2⟩ := tri_cells (HA.out.kp hKw).l hlt
          have hall := all_take (take_g3 hlt) resB
          obtain ⟨x0, hx0⟩ : ∃ x, (g3 C.lats k).1 = x := ⟨_, rfl⟩
          obtain ⟨x1, hx1⟩ : ∃ x, (g3 C.lats k).2.1 = x := ⟨_, rfl⟩
          obtain ⟨x2, hx2⟩ : ∃ x, (g3 C.lats k).2.2 = x := ⟨_, rfl⟩
          have hres : resB (g3 C.lats k) = (decide (x2 = 0) || (decide (x2 = 1) || decide (x2 = x0))) := by unfold resB; rw [hx0, hx2]
          rw [hres] at hall
          rw [hx0] at l0
          rw [hx1] at l1
          rw [hx2] at l2
          have hBa := hB.alloc (.cells #[.int .i64 x0, .int .i64 x1, .int .i64 x2] 51)
          have o0 : (wq.alloc (.cells #[.int .i64 x0, .int .i64 x1, .int .i64 x2] 51)).cell? ⟨bo, 0, none⟩ = some (.bool b) := hBa.cell rfl
          have fo := hBa.free 0
          have i0 : (0 : Int) ≤ (k : Int) := by omega
          have i1 : (k : Int) < (C.lats.length : Int) := by omega
          have HNext := Lib.hid (fun y (hy : (b && (decide (x2 = 0) || (decide (x2 = 1) || decide (x2 = x0)))) = y) => show ∃ k' : Nat, Value.int .i64 ((k : Int) + 1) = .int .i64 k' ∧ k' ≤ C.lats.length ∧ Blk ((wq.alloc (.cells #[.int .i64 x0, .int .i64 x1, .int .i64 x2] 51)).setCell ⟨bo, 0, none⟩ (.bool y)) bo #[.bool (r1 && (C.lats.take k').all resB)] 4 ∧ Kp (fun j => j = bo) wo ((wq.alloc (.cells #[.int .i64 x0, .int .i64 x1, .int .i64 x2] 51)).setCell ⟨bo, 0, none⟩ (.bool y)) from
            ⟨k + 1, by go_num, by omega, by rw [hall, ← Bool.and_assoc, hb, hy]; exact hBa.bool y, (hK.alloc _).setCell (p := ⟨bo, 0, none⟩) (fun _ => rfl) _⟩)
          have HEA := Lib.hid ea
          clear hx0 hx1 hx2 ea hb hall hres hB hBa hK hKw
          rw [HEA.out]
          cases b with
          | false =>
            go_wp2_with fail
            go_roundw
            case rel => exact HNext.out false (by simp)
            case measure => simp [intOf]; omega
          | true =>
            by_cases h1 : x2 = 0
            · have HPrf := Lib.hid (show (true && (decide (x2 = 0) || (decide (x2 = 1) || decide (x2 = x0)))) = true by simp [h1])
              have g1 : ((x2 : Int) == 0) = true := by simp [h1]
              clear h1
              go_wp2_with fail
              go_roundw
              case rel => exact HNext.out true (HPrf.out)
              case measure => simp [intOf]; omega
            · have g1 : ((x2 : Int) == 0) = false := by simp [h1]
              by_cases h2 : x2 = 1
              · have HPrf := Lib.hid (show (true && (decide (x2 = 0) || (decide (x2 = 1) || decide (x2 = x0)))) = true by simp [h2])
                have g2 : ((x2 : Int) == 1) = true := by simp [h2]
                clear h1 h2
                go_wp2_with fail
                go_roundw
                case rel => exact HNext.out true (HPrf.out)
                case measure => simp [intOf]; omega
              · have g2 : ((x2 : Int) == 1) = false := by simp [h2]
                by_cases h3 : x2 = x0
                · have HPrf := Lib.hid (show (true && (decide (x2 = 0) || (decide (x2 = 1) || decide (x2 = x0)))) = true by simp [h3])
                  have g3 : ((x2 : Int) == x0) = true := by simp [h3]
                  clear h1 h2 h3
                  go_wp2_with fail
                  go_roundw
                  case rel => exact HNext.out true (HPrf.out)
                  case measure => simp [intOf]; omega
                · have HPrf := Lib.hid (show (true && (decide (x2 = 0) || (decide (x2 = 1) || decide (x2 = x0)))) = false by simp [h1, h2, h3])
                  have g3 : ((x2 : Int) == x0) = false := by simp [h3]
                  clear h1 h2 h3
                  go_wp2_with fail
                  go_roundw
                  case rel => exact HNext.out false (HPrf.out)
                  case measure => simp [intOf]; omega
        · have HB := Lib.hid (show Blk wq bo #[.bool (r1 && C.lats.all resB)] 4 by
            rw [List.take_of_length_le (by omega)] at hb
            rw [hb]; exact hB)
          clear hB hK hb hk
          obtain ⟨r2, hr2⟩ : ∃ r, (r1 && C.lats.all resB) = r := ⟨_, rfl⟩
          rw [hr2] at HB
          have HR2 := Lib.hid hr2
          clear hr2
          have hbcq := HBC.out.kp HK.out (fun e => by have := HNe.out; omega)
          have HBCq := Lib.hid hbcq
          obtain ⟨d0, d1, d2, d3, d4, d5, d6, d7, d8⟩ := hbcq.cells9
          have HKq := Lib.hid (HKo.out.trans HK.out (fun j hj e => by have := HNe.out; omega))
          have HU := Lib.hid (circ_uses1 (.pointer (some ⟨bo, 0, none⟩)) (.pointer (some ⟨bc, 0, none⟩)) V C bo (useB C.max) (fun u b => Blk u bo #[.bool b] 4 ∧ Blk u bc (cvals V C) 27) r2 w wq HA.out HF.out HKq.out (by have := HNe.out; omega) (by have := HNe.out; have := HK.out.size; omega)
            ⟨HB.out, hbcq⟩ (fun u u' b hK hI => ⟨hI.1.kp hK (fun h => h), hI.2.kp hK (fun h => h)⟩)
            (fun u x b hx hI => (check_f1 bo bc V C u x b hI.1 hI.2 HM.out.1 HM.out.2).mono (by
              rintro e u' ⟨he, rfl⟩
              exact ⟨he, ⟨hI.1.bool _, hI.2.set_other (p := ⟨bo, 0, none⟩) (show bc ≠ bo by have := HNe.out; omega) _⟩, Kp.set u ⟨bo, 0, none⟩ _⟩)))
          clear hbcq
          go_wp2_with fail
          refine HU.out.mono ?_
          rintro e w2 ⟨rfl, ⟨hO2, hC2⟩, hK2⟩
          have HK2 := Lib.hid (HKq.out.trans hK2 (fun j hj h => by have := HNe.out; omega))
          obtain ⟨r3, hr3⟩ : ∃ r, (r2 && C.used.all (useB C.max)) = r := ⟨_, rfl⟩
          rw [hr3] at hO2
          have HR3 := Lib.hid (show rangeB C = r3 by unfold rangeB; rw [HR1.out, HR2.out]; exact hr3)
          have o2 : w2.cell? ⟨bo, 0, none⟩ = some (.bool r3) := hO2.cell rfl
          have HO2 := Lib.hid hO2
          have HC2 := Lib.hid hC2
          have HKo2 := Lib.hid (HK.out.trans hK2 (fun _ _ h => h))
          clear hr3 hO2 hC2 hK2 HU d0 d1 d2 d3 d4 d5 d6 d7 d8 HBCq HB HK HKq
          cases r3 with
          | false =>
            obtain rfl : code = 5 := by rw [← HCode.out]; exact ck5 (.inr (.inr HR3.out))
            go_wp2_with fail
            go_ret
            exact ⟨rfl, HK2.out⟩
          | true =>
            have HIR := Lib.hid (InRange.of HM.out.1 HM.out.2 HR3.out)
            have HCk := Lib.hid (ckR HM.out.1 HM.out.2 HR3.out)
            rw [HCode.out] at HCk
            clear HR1 HR2 HR3 HCode
            obtain ⟨w3, hput, hM3, hK3⟩ := (IMB.made w2).put (by unfold maxLen; omega) (x := 0) ⟨by omega, by omega⟩ true
            rw [hasF_zero] at hM3
            have hmm := @run_makeMap Tryd.prog
            have hs3 : w2.heap.size < w3.heap.size := by have := hK3.size; rw [World.size_alloc] at this; omega
            have hbo2 := HO2.out.lt
            have hbc2 := HC2.out.lt
            have HO3 := Lib.hid ((HO2.out.alloc (.map #[] 0)).kp hK3 (by omega))
            have HC3 := Lib.hid ((HC2.out.alloc (.map #[] 0)).kp hK3 (by omega))
            have HK3 := Lib.hid ((HK2.out.alloc (.map #[] 0)).trans hK3 (fun j hj h => by have := HK2.out.size; omega))
            have HKo3 := Lib.hid ((HKo2.out.alloc (.map #[] 0)).trans hK3 (fun j hj h => by have := HKo2.out.size; omega))
            obtain ⟨bm, hbm⟩ : ∃ bm, bm = w2.heap.size := ⟨_, rfl⟩
            obtain ⟨bh, hbh⟩ : ∃ bh, bh = w3.heap.size := ⟨_, rfl⟩
            obtain ⟨wh, hwh⟩ : ∃ wh : World, wh = w3.alloc (.cells #[.map (some w2.heap.size)] 79) := ⟨_, rfl⟩
            have HBh : Hid (Blk wh bh #[.map (some bm)] 79) := Lib.hid (by rw [hwh, hbh, hbm]; exact Blk.new _ _ _)
            have HBo : Hid (Blk wh bo #[.bool true] 4) := Lib.hid (by rw [hwh]; exact HO3.out.alloc _)
            have HBCh : Hid (Blk wh bc (cvals V C) 27) := Lib.hid (by rw [hwh]; exact HC3.out.alloc _)
            have HKh : Hid (Kp (fun _ => False) w wh) := Lib.hid (by rw [hwh]; exact HK3.out.alloc _)
            have HKoh : Hid (Kp (fun j => j = bo) wo wh) := Lib.hid (by rw [hwh]; exact HKo3.out.alloc _)
            have HMh : Hid (IMB wh bm (0 + 1) (hasF (C.owned.take 0))) := Lib.hid (by rw [hwh, hbm]; exact hM3.kp ((Kp.refl (fun _ => False) _).alloc _) (fun h => h))
            have HNh : Hid (bo < bm ∧ bc < bm ∧ bm < bh ∧ w.heap.size ≤ bm ∧ wo.heap.size ≤ bm) := Lib.hid ⟨by omega, by omega, by omega, by have := HK2.out.size; omega, by have := HKo2.out.size; omega⟩
            have HEq := Lib.hid (And.intro hwh.symm (And.intro hbh.symm hbm.symm))
            clear hwh hbh hbm hM3 hK3 HO3 HC3 HK3 HKo3 HO2 HC2 HK2 HKo2 hs3 hbo2 hbc2
            go_upto_region 18 with fail
            rw [HEq.out.1, HEq.out.2.1, HEq.out.2.2]
            clear HEq hput hmm o2
            go_wp2_with fail
            go_loopw [81] (fun v81 wr => ∃ k : Nat, v81 = .int .i64 k ∧ k ≤ n1 ∧ (C.owned.take k).Nodup ∧ IMB wr bm (k + 1) (hasF (C.owned.take k)) ∧ Kp (fun j => j = bm) wh wr) (fun v81 _ => n1 - (intOf v81).toNat)
            case atStart => exact ⟨0, rfl, by omega, by simp, HMh.out, Kp.refl _ _⟩
            case round =>
              obtain ⟨k, rfl, hk, hnd, hM, hK⟩ := hrel
              clear HMh
              obtain ⟨wv, rfl⟩ : ∃ wp : World, wp = wr := ⟨_, rfl⟩
              have hbhv := HBh.out.kp hK (fun e => by have := HNh.out; omega)
              have HKv := Lib.hid hK
              by_cases hkn : k < n1
              · have hkl : k < C.owned.length := by rw [HN1.out]; exact hkn
                have hIw : IntsAt wv a1 C.owned := RowAt.kp (S := fun j => j = bm) (HRW.out _ HKoh.out) hK (fun p hp e => by
                  obtain ⟨b, o, e2, hc⟩ := (HRW.out _ (Kp.refl _ wo)).get (j := k) hkl
                  rw [hp] at e2
                  simp only [Option.some.injEq] at e2
                  subst e2
                  have h1 := World.block_lt_of_cell? wo _ hc
                  have h2 : b = bm := e
                  have := HNh.out
                  simp at h1
                  omega)
                obtain ⟨bl, off, rfl, hcell⟩ := hIw.get (j := k) hkl
                clear hIw
                have hnew := hasF_new HIR.out hkl
                have hxo : gi C.owned k ∈ C.owned := by unfold gi; rw [List.getElem?_eq_getElem hkl]; exact List.getElem_mem hkl
                have hxr := HIR.out.own _ hxo
                have HND := Lib.hid (fun h => nodup_take hkl hnd h)
                have HNN := Lib.hid (fun h => not_nodup (l := C.owned) hkl h)
                have HTk := Lib.hid (take_gi hkl)
                obtain ⟨x, hx⟩ : ∃ x, gi C.owned k = x := ⟨_, rfl⟩
                rw [hx] at hcell hnew hxr HND HNN HTk
                have hxm : x ≤ 100000000 := by have := HM.out; omega
                have x0 : 0 ≤ x := by omega
                have hlook := hM.look (x := x / 2) ⟨by omega, by omega⟩
                have ch : wv.cell? ⟨bh, 0, none⟩ = some (.map (some bm)) := hbhv.cell rfl
                have i0 : (0 : Int) ≤ (k : Int) := by omega
                have i1 : (k : Int) < (n1 : Int) := by omega
                by_cases hin : x ∈ C.owned.take k
                · rw [hnew, decide_eq_true hin] at hlook
                  obtain rfl : code = 7 := by have := HCk.out; rw [if_pos (HNN.out hin)] at this; exact this
                  have HE := Lib.hid (HKh.out.trans hK (fun j hj e => by have := HNh.out; omega))
                  clear hx hnew hxr hin hM hK hnd hxo hbhv
                  go_wp2_with fail
                  go_ret
                  exact ⟨rfl, HE.out⟩
                · rw [hnew, decide_eq_false hin] at hlook
                  obtain ⟨w9, hput9, hM9, hK9⟩ := hM.put (by have := HOl.out; have := HN1.out; unfold maxLen; omega) (x := x / 2) ⟨by omega, by omega⟩ true
                  rw [hasF_snoc, ← HTk.out] at hM9
                  have HR := Lib.hid (show ∃ k' : Nat, Value.int .i64 ((k : Int) + 1) = .int .i64 k' ∧ k' ≤ n1 ∧ (C.owned.take k').Nodup ∧ IMB w9 bm (k' + 1) (hasF (C.owned.take k')) ∧ Kp (fun j => j = bm) wh w9 from
                    ⟨k + 1, by go_num, by omega, HND.out hin, hM9, hK.trans hK9 (fun _ _ h => h)⟩)
                  clear hx hnew hxr hin hM hK hnd hM9 hK9 hxo hbhv
                  go_wp2_with fail
                  go_roundw
                  case rel => exact HR.out
                  case measure => simp [intOf]; omega
              · obtain rfl : k = n1 := by omega
                have HNod := Lib.hid (show C.owned.Nodup by rwa [List.take_of_length_le (by rw [HN1.out]; exact Nat.le_refl _)] at hnd)
                have hM' : IMB wv bm (k + 1) (hasF C.owned) := by rwa [List.take_of_length_le (by rw [HN1.out]; exact Nat.le_refl _)] at hM
                have HKw := Lib.hid (HKh.out.trans hK (fun j hj e => by have := HNh.out; omega))
                have hbov := HBo.out.kp hK (fun e => by have := HNh.out; omega)
                have hbcv := HBCh.out.kp hK (fun e => by have := HNh.out; omega)
                have HBCv := Lib.hid hbcv
                have HCk2 := Lib.hid (show code = if C.used.all (knownB C.owned) = false then 9 else if (ordO C.gates).length < C.gates.length then 8 else 0 by have := HCk.out; rw [if_neg (by simp; exact HNod.out)] at this; exact this)
                have HU := Lib.hid (circ_uses2 (.pointer (some ⟨bo, 0, none⟩)) (.pointer (some ⟨bh, 0, none⟩)) V C bo (fun x => hasF C.owned (x / 2)) (fun u b => Blk u bo #[.bool b] 4 ∧ Blk u bh #[.map (some bm)] 79 ∧ IMB u bm (k + 1) (hasF C.owned)) true w wv HA.out HF.out HKw.out (by have := HNe.out; omega) hbov.lt
                  ⟨hbov, hbhv, hM'⟩ (fun u u' b hK hI => ⟨hI.1.kp hK (fun h => h), hI.2.1.kp hK (fun h => h), hI.2.2.kp hK (fun h => h)⟩)
                  (fun u x b hx hI => (check_f2 bo bh bm (k + 1) (hasF C.owned) u x b hI.1 hI.2.1 hI.2.2 (HIR.out.use x hx).1 (by have := (HIR.out.use x hx).2; have := HM.out; omega)).mono (by
                    rintro e u' ⟨he, rfl⟩
                    have hK := Kp.set u ⟨bo, 0, none⟩ (.bool (b && hasF C.owned (x / 2)))
                    exact ⟨he, ⟨hI.1.bool _, hI.2.1.kp hK (fun e => by have := HNh.out; have e2 : bh = bo := e; omega), hI.2.2.kp hK (fun e => by have := HNh.out; have e2 : bm = bo := e; omega)⟩, hK⟩)))
                obtain ⟨d0, d1, d2, d3, d4, d5, d6, d7, d8⟩ := hbcv.cells9
                clear hM hM' hbov hbcv hbhv hnd hK HCk
                go_wp2_with fail
                refine HU.out.mono ?_
                rintro e w5 ⟨rfl, ⟨hO5, -, -⟩, hK5⟩
                have HX := Lib.hid (HBCv.out.kp hK5 (fun e => by have := HNe.out; have e2 : bc = bo := e; omega))
                have HK5 := Lib.hid (HKw.out.trans hK5 (fun j hj h => by have := HNe.out; omega))
                obtain ⟨r5, hr5⟩ : ∃ r, (true && C.used.all (fun x => hasF C.owned (x / 2))) = r := ⟨_, rfl⟩
                rw [hr5] at hO5
                have HR5 := Lib.hid (show C.used.all (knownB C.owned) = r5 from by rw [← hr5, Bool.true_and]; rfl)
                have o5 : w5.cell? ⟨bo, 0, none⟩ = some (.bool r5) := hO5.cell rfl
                clear hO5 hK5 hr5 HU d0 d1 d2 d3 d4 d5 d6 d7 d8
                cases r5 with
                | false =>
                  obtain rfl : code = 9 := by have := HCk2.out; rw [if_pos HR5.out] at this; exact this
                  go_wp2_with fail
                  go_ret
                  exact ⟨rfl, HK5.out⟩
                | true =>
                  have HCk3 := Lib.hid (show code = if (ordO C.gates).length < C.gates.length then 8 else 0 by have := HCk2.out; rw [if_neg (by rw [HR5.out]; simp)] at this; exact this)
                  obtain ⟨gn_, hgn⟩ : ∃ g, C.gates.length = g := ⟨_, rfl⟩
                  obtain ⟨on_, hon⟩ : ∃ g, (ordO C.gates).length = g := ⟨_, rfl⟩
                  have hle : on_ ≤ gn_ := by rw [← hgn, ← hon]; exact (ordO_at C.gates).len
                  rw [hgn, hon] at HCk3
                  have HGn := Lib.hid hgn
                  have HO := Lib.hid (show ∀ u, Kp (fun _ => False) w u → Calls Tryd.prog 37 #[.agg #[.int .i64 C.max, .slice V.ai C.ins.length V.ci, .slice V.al C.lats.length V.cl, .slice V.ao C.outs.length V.co, .slice V.ab C.bads.length V.cb, .slice V.ac C.cons.length V.cc, .slice V.ag gn_ V.cg, .slice V.ay V.ny V.cy, .string V.cm]] u fun e u' => (∃ a c, e = .returned (.slice a on_ c)) ∧ Kp (fun _ => False) u u' from fun u hu => by
                    have hor := (circ_Order V C u (HA.out.kp hu) HF.out.g (HIR.out.good HNod.out) (fun i hi => by
                      have h1 := HIR.out.own _ (gate_own hi)
                      have h2 := HIR.out.use _ (gate_useA hi)
                      have h3 := HIR.out.use _ (gate_useB hi)
                      have := HM.out
                      omega)).mono (R' := fun e u' => (∃ a c, e = .returned (.slice a on_ c)) ∧ Kp (fun _ => False) u u') (by
                        rintro e u' ⟨v, rfl, hO, hK⟩
                        obtain ⟨a, c, e, -⟩ := hO.form
                        rw [nv_length, hon] at e
                        exact ⟨⟨a, c, by rw [e]⟩, hK⟩)
                    unfold cvals at hor
                    rw [hgn] at hor
                    exact hor)
                  have HXu : Hid (Blk w5 bc #[.int .i64 C.max, .slice V.ai C.ins.length V.ci, .slice V.al C.lats.length V.cl, .slice V.ao C.outs.length V.co, .slice V.ab C.bads.length V.cb, .slice V.ac C.cons.length V.cc, .slice V.ag gn_ V.cg, .slice V.ay V.ny V.cy, .string V.cm] 27) := Lib.hid (by have := HX.out; unfold cvals at this; rw [hgn] at this; exact this)
                  clear hgn hon HX
                  go_upto_region 28 with fail
                  obtain ⟨wy, rfl⟩ : ∃ wy : World, wy = w5 := ⟨_, rfl⟩
                  clear o5
                  go_cut [99] from 100 to 107 (fun s99 wx => s99 = .bool (decide ((on_ : Int) < (gn_ : Int))) ∧ Kp (fun _ => False) w wx)
                  case first =>
                    go_region_held3 (fun u => u.cell? ⟨bc, 0, none⟩ = some (.int .i64 C.max) ∧ u.cell? ⟨bc, 1, none⟩ = some (.slice V.ai C.ins.length V.ci) ∧ u.cell? ⟨bc, 2, none⟩ = some (.slice V.al C.lats.length V.cl) ∧ u.cell? ⟨bc, 3, none⟩ = some (.slice V.ao C.outs.length V.co) ∧ u.cell? ⟨bc, 4, none⟩ = some (.slice V.ab C.bads.length V.cb) ∧ u.cell? ⟨bc, 5, none⟩ = some (.slice V.ac C.cons.length V.cc) ∧ u.cell? ⟨bc, 6, none⟩ = some (.slice V.ag gn_ V.cg) ∧ u.cell? ⟨bc, 7, none⟩ = some (.slice V.ay V.ny V.cy) ∧ u.cell? ⟨bc, 8, none⟩ = some (.string V.cm)) (with_reducible first | exact HXu.out.cells9 | exact HXu.out.drew.cells9 | exact HXb.out.cells9 | exact HXb.out.drew.cells9) (((with_reducible refine Calls.mono (HO.out _ (by first | exact HK5.out | exact HK5.out.drew)) ?_); rintro o u2 ⟨⟨a2, c2, rfl⟩, hK6⟩; have HXb := Lib.hid (by first | exact HXu.out.kp hK6 (fun h => h) | exact HXu.out.drew.kp hK6 (fun h => h)); have HKb := Lib.hid (by first | exact HK5.out.trans hK6 (fun _ _ h => h) | exact HK5.out.drew.trans hK6 (fun _ _ h => h)); clear hK6))
                    all_goals go_wp2_with fail
                    all_goals go_meet
                    all_goals exact ⟨by simp, by first | exact HKb.out | exact HKb.out.drew⟩
                  case rest =>
                  obtain ⟨rfl, hKc⟩ := hcut
                  have HKc := Lib.hid hKc
                  clear hKc
                  by_cases hlt2 : on_ < gn_
                  · obtain rfl : code = 8 := by have := HCk3.out; rw [if_pos hlt2] at this; exact this
                    have dd : decide ((on_ : Int) < (gn_ : Int)) = true := decide_eq_true (by omega)
                    rw [dd]
                    go_wp2_with fail
                    go_ret
                    exact ⟨rfl, HKc.out⟩
                  · obtain rfl : code = 0 := by have := HCk3.out; rw [if_neg hlt2] at this; exact this
                    have dd : decide ((on_ : Int) < (gn_ : Int)) = false := decide_eq_false (by omega)
                    rw [dd]
                    go_wp2_with fail
                    go_ret
                    exact ⟨rfl, HKc.out⟩

end Go.Proofs.YtmjcpapcmbgkjaaDoor

/-
  append of a whole slice of structs: as a step of a region that draws its order, and of one that does not.
-/
namespace Go.Proofs.YtmjcpapcmbgkjaaDoor
open Go.RowKit

theorem own_run {P : Program} {w : World} {t ty e : TypeId} {z : Value} {k bytes : Nat} (ht : P.underlying t = some (.slice e)) (hI : (P.info? e).map (fun i => (i.zero, i.size, i.bytes)) = some (some z, k, bytes)) (hzs : z.cells.size = k) (hk : 0 < k)
    {base : Nat} {v : Value} {rows : List (List Value)} (hown : OwnK w base e k v rows) {src : Option Addr} {m c : Nat} {news : List (List Value)} (hlen : ∀ r ∈ news, r.length = k) (hm : news.length = m) (hrow : RowAt w src news.flatten) (hnil : src = none → c = 0) (h1 : ∀ u ∈ news.flatten, u.oneCell' = true)
    (hbytes : (rows.length + m) * bytes ≤ 140737488355328) (hml : rows.length + m ≤ maxLen) (hbase : base ≤ w.heap.size) :
    ∃ v' w', (Builtin.append_ #[t, t] ty #[v, .slice src m c]).run P w = .ok v' w' ∧ OwnK w' base e k v' (rows ++ news) ∧ w.grownBy w' v.ownBlock ∧ (v'.ownBlock = v.ownBlock ∨ v'.ownBlock = some w.heap.size) := by
  obtain ⟨i0, hi, hz0, hz1, hz2⟩ := info_parts hI
  have hfl : news.flatten.length = m * k := by rw [flat_length hlen, hm]
  cases src with
  | none =>
    have hn : news = [] := by
      cases news with
      | nil => rfl
      | cons r rs =>
        have hr : r.length = k := hlen r (by simp)
        cases r with
        | nil => simp at hr; omega
        | cons u r => obtain ⟨_, _, h, _⟩ := hrow 0 u (by simp); cases h
    subst hn
    have hm0 : m = 0 := by simpa using hm.symm
    subst hm0
    rw [hnil rfl]
    exact ⟨v, w, run_append_owned_none (P := P) (w := w) base t ty e i0 k ht hi v rows.length rows.flatten hown.own, by rw [List.append_nil]; exact hown, ⟨rfl, rfl, rfl, Nat.le_refl _, fun _ _ _ => rfl⟩, .inl rfl⟩
  | some ad =>
    obtain ⟨v', w', hr, h2, h3, _, h5⟩ := run_append_own_at (P := P) w base t ty e i0 z k bytes ht hi hz0 hz1 hz2 hzs hk v rows.length rows.flatten hown.own ad m c news.flatten hfl (fun j u hj => by
      obtain ⟨b, off, hab, hc⟩ := hrow j u hj
      simp only [Option.some.injEq] at hab
      subst hab
      rw [add_plain']
      exact hc) h1 hml hbytes hbase
    refine ⟨v', w', hr, ⟨?_, ?_⟩, h3, h5⟩
    · rw [List.length_append, hm, List.flatten_append]; exact h2
    · intro x hx
      rcases List.mem_append.1 hx with h | h
      · exact hown.len x h
      · exact hlen x h

/-- 'append(v, xs...)' of structs of k cells: at an operation -/
theorem wp_appendAllK {P : Program} {w : World} {o : Oper} {a : Act} {K : Act → World → Prop} {Q : Exit → Act → World → Prop} (s x : Operand) (t e : TypeId)
    (ho : o.op = .call { callee := .builtin .append, args := #[s, x], argTypes := #[t, t] }) {z : Value} {k bytes : Nat}
    (ht : P.underlying t = some (.slice e)) (hI : (P.info? e).map (fun i => (i.zero, i.size, i.bytes)) = some (some z, k, bytes)) (hzs : z.cells.size = k) (hk : 0 < k)
    {base : Nat} {v : Value} {rows : List (List Value)} (hown : OwnK w base e k v rows) (hs : a.eval s = v) (src : Option Addr) (m c : Nat) (news : List (List Value)) (hx : a.eval x = .slice src m c) (hlen : ∀ r ∈ news, r.length = k) (hm : news.length = m) (hrow : RowAt w src news.flatten) (hnil : src = none → c = 0) (h1 : ∀ u ∈ news.flatten, u.oneCell' = true)
    (hbytes : (rows.length + m) * bytes ≤ 140737488355328) (hml : rows.length + m ≤ maxLen) (hbase : base ≤ w.heap.size)
    (h : ∀ v' w', OwnK w' base e k v' (rows ++ news) → w.grownBy w' v.ownBlock → (v'.ownBlock = v.ownBlock ∨ v'.ownBlock = some w.heap.size) → K (a.put o.dst v') w') : Oper.wp P o a w K Q := by
  obtain ⟨v', w', hr, h2, h3, h5⟩ := own_run (P := P) (w := w) (t := t) (ty := o.type) ht hI hzs hk hown hlen hm hrow hnil h1 hbytes hml hbase
  unfold Oper.wp execOp
  simp only [ho, resolve, invoke, builtin, Sem.run_bind, Sem.run_pure, Result.andThen_ok, List.map_toArray, List.map_cons, List.map_nil, hs, hx, hr]
  exact h v' w' h2 h3 h5

/-- .. at a list of operations -/
theorem wpList_appendAllK {P : Program} {w : World} {ops : Array Oper} {rest : List Oper} {o : Oper} {a : Act} {Q : Exit → Act → World → Prop} (hgd : o.guard = none) (s x : Operand) (t e : TypeId)
    (ho : o.op = .call { callee := .builtin .append, args := #[s, x], argTypes := #[t, t] }) {z : Value} {k bytes : Nat}
    (ht : P.underlying t = some (.slice e)) (hI : (P.info? e).map (fun i => (i.zero, i.size, i.bytes)) = some (some z, k, bytes)) (hzs : z.cells.size = k) (hk : 0 < k)
    {base : Nat} {v : Value} {rows : List (List Value)} (hown : OwnK w base e k v rows) (hs : a.eval s = v) (src : Option Addr) (m c : Nat) (news : List (List Value)) (hx : a.eval x = .slice src m c) (hlen : ∀ r ∈ news, r.length = k) (hm : news.length = m) (hrow : RowAt w src news.flatten) (hnil : src = none → c = 0) (h1 : ∀ u ∈ news.flatten, u.oneCell' = true)
    (hbytes : (rows.length + m) * bytes ≤ 140737488355328) (hml : rows.length + m ≤ maxLen) (hbase : base ≤ w.heap.size)
    (h : ∀ v' w', OwnK w' base e k v' (rows ++ news) → w.grownBy w' v.ownBlock → (v'.ownBlock = v.ownBlock ∨ v'.ownBlock = some w.heap.size) → wpList P ops Q rest (a.put o.dst v') w') : wpList P ops Q (o :: rest) a w :=
  wpList_plain hgd fun _ hK => wp_appendAllK s x t e ho ht hI hzs hk hown hs src m c news hx hlen hm hrow hnil h1 hbytes hml hbase fun v' w' h2 h3 h4 => hK _ _ (h v' w' h2 h3 h4)

/-- .. at a step of a region that draws its order -/
theorem step_appendAllK {P : Program} {w : World} {ops : Array Oper} {o : Oper} {a : Act} {K : Act → World → Prop} {Q : Exit → Act → World → Prop} {E : Prop} (hgd : o.guard = none) (s x : Operand) (t e : TypeId)
    (ho : o.op = .call { callee := .builtin .append, args := #[s, x], argTypes := #[t, t] }) {z : Value} {k bytes : Nat}
    (ht : P.underlying t = some (.slice e)) (hI : (P.info? e).map (fun i => (i.zero, i.size, i.bytes)) = some (some z, k, bytes)) (hzs : z.cells.size = k) (hk : 0 < k)
    {base : Nat} {v : Value} {rows : List (List Value)} (hown : OwnK w base e k v rows) (hs : a.eval s = v) (src : Option Addr) (m c : Nat) (news : List (List Value)) (hx : a.eval x = .slice src m c) (hlen : ∀ r ∈ news, r.length = k) (hm : news.length = m) (hrow : RowAt w src news.flatten) (hnil : src = none → c = 0) (h1 : ∀ u ∈ news.flatten, u.oneCell' = true)
    (hbytes : (rows.length + m) * bytes ≤ 140737488355328) (hml : rows.length + m ≤ maxLen) (hbase : base ≤ w.heap.size)
    (h : ∀ v' w', OwnK w' base e k v' (rows ++ news) → w.grownBy w' v.ownBlock → (v'.ownBlock = v.ownBlock ∨ v'.ownBlock = some w.heap.size) → K (a.put o.dst v') w') :
    if Region.wanted o (yielded ops a.tmps) = true then Oper.wp P o a w K Q else E := by
  have hw : Region.wanted o (yielded ops a.tmps) = true := by simp [Region.wanted, hgd]
  rw [if_pos hw]
  exact wp_appendAllK s x t e ho ht hI hzs hk hown hs src m c news hx hlen hm hrow hnil h1 hbytes hml hbase h

theorem flat_ones : ∀ cs : List Value, (cs.map (fun c => [c])).flatten = cs
  | [] => rfl
  | a :: r => by rw [List.map_cons, List.flatten_cons, flat_ones r]; rfl

/-- a row of one-cell elements, as rows of one -/
theorem Own.rows {w : World} {base : Nat} {e : TypeId} {v : Value} {cs : List Value} (h : Own w base e v cs) : OwnK w base e 1 v (cs.map (fun c => [c])) := by
  refine ⟨?_, fun r hr => by obtain ⟨x, _, rfl⟩ := List.mem_map.1 hr; rfl⟩
  have e1 := flat_ones cs
  rw [List.length_map, e1]
  exact h

theorem OwnK.row {w : World} {base : Nat} {e : TypeId} {v : Value} {cs : List Value} (h : OwnK w base e 1 v (cs.map (fun c => [c]))) : Own w base e v cs := by
  have h1 := h.own
  have e1 := flat_ones cs
  rw [List.length_map, e1] at h1
  exact h1

end Go.Proofs.YtmjcpapcmbgkjaaDoor

/-
  append of one-cell elements as a step of a region that draws its order.
-/
namespace Go.Proofs.YtmjcpapcmbgkjaaDoor
open Go.RowKit

theorem step_append1s {P : Program} {w : World} {ops : Array Oper} {o : Oper} {a : Act} {K : Act → World → Prop} {Q : Exit → Act → World → Prop} {E : Prop} (hgd : o.guard = none) (s x : Operand) (t e : TypeId)
    (ho : o.op = .call { callee := .builtin .append, args := #[s, x], argTypes := #[t, t] }) {z : Value} {bytes : Nat}
    (ht : P.underlying t = some (.slice e)) (hI : (P.info? e).map (fun i => (i.zero, i.size, i.bytes)) = some (some z, 1, bytes)) (hzs : z.cells.size = 1)
    {base : Nat} {v : Value} {cs : List Value} (hown : Own w base e v cs) (hs : a.eval s = v) (src : Option Addr) (m c : Nat) (news : List Value) (hx : a.eval x = .slice src m c) (hm : news.length = m) (hrow : RowAt w src news) (hnil : src = none → c = 0) (h1 : ∀ u ∈ news, u.oneCell' = true)
    (hbytes : (cs.length + m) * bytes ≤ 140737488355328) (hml : cs.length + m ≤ maxLen) (hbase : base ≤ w.heap.size)
    (h : ∀ v' w', Own w' base e v' (cs ++ news) → w.grownBy w' v.ownBlock → (v'.ownBlock = v.ownBlock ∨ v'.ownBlock = some w.heap.size) → K (a.put o.dst v') w') :
    if Region.wanted o (yielded ops a.tmps) = true then Oper.wp P o a w K Q else E := by
  refine step_appendAllK hgd s x t e ho ht hI hzs (by decide) (Own.rows hown) hs src m c (news.map (fun c => [c])) hx (fun r hr => by obtain ⟨y, _, rfl⟩ := List.mem_map.1 hr; rfl) (by rw [List.length_map]; exact hm) (by rw [flat_ones]; exact hrow) hnil (by rw [flat_ones]; exact h1) (by rw [List.length_map]; exact hbytes) (by rw [List.length_map]; exact hml) hbase ?_
  intro v' w' hO hg hat
  rw [← List.map_append] at hO
  exact h v' w' hO.row hg hat

/-- 'append(v, xs...)' of one-cell elements, and where the new row lies -/
theorem wpList_append1s {P : Program} {w : World} {ops : Array Oper} {rest : List Oper} {o : Oper} {a : Act} {Q : Exit → Act → World → Prop} (hgd : o.guard = none) (s x : Operand) (t e : TypeId)
    (ho : o.op = .call { callee := .builtin .append, args := #[s, x], argTypes := #[t, t] }) {z : Value} {bytes : Nat}
    (ht : P.underlying t = some (.slice e)) (hI : (P.info? e).map (fun i => (i.zero, i.size, i.bytes)) = some (some z, 1, bytes)) (hzs : z.cells.size = 1)
    {base : Nat} {v : Value} {cs : List Value} (hown : Own w base e v cs) (hs : a.eval s = v) (src : Option Addr) (m c : Nat) (news : List Value) (hx : a.eval x = .slice src m c) (hm : news.length = m) (hrow : RowAt w src news) (hnil : src = none → c = 0) (h1 : ∀ u ∈ news, u.oneCell' = true)
    (hbytes : (cs.length + m) * bytes ≤ 140737488355328) (hml : cs.length + m ≤ maxLen) (hbase : base ≤ w.heap.size)
    (h : ∀ v' w', Own w' base e v' (cs ++ news) → w.grownBy w' v.ownBlock → (v'.ownBlock = v.ownBlock ∨ v'.ownBlock = some w.heap.size) → wpList P ops Q rest (a.put o.dst v') w') : wpList P ops Q (o :: rest) a w := by
  refine wpList_appendAllK hgd s x t e ho ht hI hzs (by decide) (Own.rows hown) hs src m c (news.map (fun c => [c])) hx (fun r hr => by obtain ⟨y, _, rfl⟩ := List.mem_map.1 hr; rfl) (by rw [List.length_map]; exact hm) (by rw [flat_ones]; exact hrow) hnil (by rw [flat_ones]; exact h1) (by rw [List.length_map]; exact hbytes) (by rw [List.length_map]; exact hml) hbase ?_
  intro v' w' hO hg hat
  rw [← List.map_append] at hO
  exact h v' w' hO.row hg hat

end Go.Proofs.YtmjcpapcmbgkjaaDoor

/-
  latchetref02.Has; latchetref11: Owned, Used.
-/
namespace Go.Proofs.YtmjcpapcmbgkjaaDoor
open Go.RowKit

theorem contains_take {L : List Int} {k : Nat} {x : Int} (h : k < L.length) : decide (x ∈ L.take (k + 1)) = (decide (x ∈ L.take k) || decide (gi L k = x)) := by
  rw [take_gi h, Bool.eq_iff_iff]
  simp only [decide_eq_true_eq, Bool.or_eq_true, List.mem_append, List.mem_singleton]
  exact ⟨fun h => h.imp id Eq.symm, fun h => h.imp id Eq.symm⟩

theorem ref02_Has (a : Option Addr) (n c : Nat) (L : List Int) (x : Int) (w : World) (hr : IntsAt w a L) (hn : L.length = n) (hm : n ≤ 9000000000) :
    Calls Tryd.prog 29 #[.slice a n c, .int .i64 x] w fun e w' => e = .returned (.bool (decide (x ∈ L))) ∧ w = w' := by
  have HR := Lib.hid hr
  have HN := Lib.hid hn
  clear hr hn
  go_enter Tryd.func29, Tryd.ntmps29
  go_wp2_with fail
  go_loop [5] (fun v5 => ∃ k : Nat, v5 = .int .i64 k ∧ k ≤ n ∧ decide (x ∈ L.take k) = false) (fun v5 => n - (intOf v5).toNat)
  case atStart => exact ⟨0, rfl, by omega, by simp⟩
  case round =>
    obtain ⟨k, rfl, hk, hd⟩ := hrel
    by_cases hlt : k < n
    · obtain ⟨b, off, rfl, hcell⟩ := HR.out.get (j := k) (by rw [HN.out]; exact hlt)
      have hct := contains_take (x := x) (L := L) (k := k) (by rw [HN.out]; exact hlt)
      rw [hd, Bool.false_or] at hct
      have hmt := Lib.hid (fun (h : x ∈ L.take (k + 1)) => List.mem_of_mem_take h)
      obtain ⟨y, hy⟩ : ∃ y, gi L k = y := ⟨_, rfl⟩
      rw [hy] at hcell hct
      have i0 : (0 : Int) ≤ (k : Int) := by omega
      have i1 : (k : Int) < (n : Int) := by omega
      by_cases e : y = x
      · have q : ((y : Int) == x) = true := by simp [e]
        have HE := Lib.hid (show decide (x ∈ L) = true by
          rw [decide_eq_true e] at hct
          exact decide_eq_true (hmt.out (of_decide_eq_true hct)))
        clear e hct hd hy
        go_wp2_with fail
        go_ret
        rw [HE.out]
        exact ⟨rfl, rfl⟩
      · have q : ((y : Int) == x) = false := by simp [e]
        have HE := Lib.hid (show decide (x ∈ L.take (k + 1)) = false by rw [hct]; exact decide_eq_false e)
        clear e hct hd hy
        go_wp2_with fail
        go_round
        case rel => exact ⟨k + 1, by go_num, by omega, HE.out⟩
        case measure => simp [intOf]; omega
    · have HE := Lib.hid (show decide (x ∈ L) = false by rwa [List.take_of_length_le (by rw [HN.out]; omega)] at hd)
      clear hd
      go_wp2_with fail
      go_ret
      rw [HE.out]
      exact ⟨rfl, rfl⟩

set_option maxRecDepth 100000 in
set_option maxHeartbeats 4000000 in
theorem ref11_Owned (V : CV) (C : Circ) (w : World) (h : CAt w V C) (hf : CFew C 1000000) :
    Calls Tryd.prog 14 #[.agg (cvals V C)] w fun e w' => ∃ v, e = .returned v ∧ Own w' w.heap.size 3 v (iv C.owned) ∧ Kp (fun _ => False) w w' := by
  have hl := h.fl.le63
  have hg := h.fg.le63
  have HI := Lib.hid (show (Tryd.prog.info? 3).map (fun i => (i.zero, i.size, i.bytes)) = some (some (.int .i64 0), 1, 8) by kernel_rfl)
  have HA := Lib.hid h
  have HF := Lib.hid hf
  obtain ⟨wz, hwz⟩ : ∃ wz : World, wz = (w.alloc (.cells (cvals V C) 27)).alloc (.cells #[] 3) := ⟨_, rfl⟩
  have HK0 : Hid (Kp (fun _ => False) w wz) := Lib.hid (by rw [hwz]; exact ((Kp.refl _ w).alloc _).alloc _)
  have HC0 := Lib.hid (Blk.new w (cvals V C) 27)
  have HCz : Hid (Blk wz w.heap.size (cvals V C) 27) := Lib.hid (by rw [hwz]; exact HC0.out.alloc _)
  have HO0 : Hid (Own wz w.heap.size 3 (.slice (some ⟨w.heap.size + 1, 0, none⟩) 0 0) []) := Lib.hid (by rw [hwz]; exact Own.lit (cs := []) (two_blk w _ _ _ _) (by omega) (Nat.zero_le _))
  have HZ := Lib.hid hwz
  have HSz := Lib.hid (show w.heap.size ≤ wz.heap.size from HK0.out.size)
  clear h hf hwz
  have c1 := HC0.out.cell (i := 1) (v := .slice V.ai C.ins.length V.ci) rfl
  have c1' := (HC0.out.alloc (.cells #[] 3)).cell (i := 1) (v := .slice V.ai C.ins.length V.ci) rfl
  go_enter Tryd.func14, Tryd.ntmps14
  go_wp2_with (at_builtin; rw [← HZ.out]; refine wpList_appendAll rfl _ _ 22 3 rfl Tryd.underlying22 HI.out rfl HO0.out rfl V.ai C.ins.length V.ci (iv C.ins) rfl (iv_length _) ((HA.out.kp HK0.out).i) HA.out.fi.nil (fun u hu => by obtain ⟨x, _, rfl⟩ := List.mem_map.1 hu; rfl) ?c1 ?c2 HSz.out ?_)
  case c1 => have := HF.out.i; simp; omega
  case c2 => have := HF.out.i; simp; unfold maxLen; omega
  intro v1 w1 hO1 hg1
  have hK01 : Kp (fun _ => False) w w1 := HK0.out.grown hg1 (fun j hj hlt => by simp [Value.ownBlock] at hj; omega)
  have hKz1 : Kp (fun j => j = w.heap.size + 1) wz w1 := (Kp.refl _ wz).grown hg1 (fun j hj _ => by simp [Value.ownBlock] at hj; exact hj.symm)
  have HS1 := Lib.hid (show Own w1 w.heap.size 3 v1 (iv (C.ins ++ (C.lats.take 0).map (fun x => x.1))) ∧ (∀ j, v1.ownBlock = some j → w.heap.size < j) ∧ Blk w1 w.heap.size (cvals V C) 27 ∧ Kp (fun _ => False) w w1 from
    ⟨by simpa [iv] using hO1, fun j hj => by
      have h1 := (hO1.lt j hj).1
      rcases Nat.lt_or_ge w.heap.size j with h | h
      · exact h
      · exfalso
        have e : j = w.heap.size := by omega
        subst e
        obtain ⟨-, h2⟩ := hO1
        rcases h2 with ⟨rfl, -⟩ | ⟨g, cap, cur, rfl, -, hgg, -⟩
        · simp [Value.ownBlock] at hj
        · simp [Value.ownBlock] at hj
          subst hj
          have hb := HCz.out.kp hKz1 (by omega)
          unfold Blk at hb
          rw [hb] at hgg
          simp at hgg, HCz.out.kp hKz1 (by omega), hK01⟩)
  clear hO1 hg1 hK01 hKz1 c1 c1' HO0 HK0 HCz HC0 HZ HSz
  go_wp2_with fail
  go_loopw [3, 4] (fun v3 v4 wr => ∃ k : Nat, v4 = .int .i64 k ∧ k ≤ C.lats.length ∧ Own wr w.heap.size 3 v3 (iv (C.ins ++ (C.lats.take k).map (fun x => x.1))) ∧ (∀ j, v3.ownBlock = some j → w.heap.size < j) ∧ Blk wr w.heap.size (cvals V C) 27 ∧ Kp (fun _ => False) w wr) (fun _ v4 _ => C.lats.length - (intOf v4).toNat)
  case atStart => exact ⟨0, rfl, by omega, HS1.out⟩
  case round =>
    obtain ⟨k, rfl, hk, hO, hB, hC, hK⟩ := hrel
    clear HS1
    obtain ⟨wp, rfl⟩ : ∃ wp : World, wp = wr := ⟨_, rfl⟩
    have HO := Lib.hid hO
    have HB := Lib.hid hB
    have HC := Lib.hid hC
    have HK := Lib.hid hK
    have HSw := Lib.hid (show w.heap.size < wp.heap.size from hC.lt)
    have c2 := hC.cell (i := 2) (v := .slice V.al C.lats.length V.cl) rfl
    clear hO hB hC hK
    by_cases hlt : k < C.lats.length
    · obtain ⟨b, off, ea, e0, -, -⟩ := tri_cells (HA.out.kp HK.out).l hlt
      have i0 : (0 : Int) ≤ (k : Int) := by omega
      have i2 : (k : Int) < (C.lats.length : Int) := by omega
      obtain ⟨x0, hx0⟩ : ∃ x, (g3 C.lats k).1 = x := ⟨_, rfl⟩
      have HT := Lib.hid (take_g3 hlt)
      rw [hx0] at e0
      have HX := Lib.hid hx0
      rw [ea] at c2
      clear hx0 ea
      have HNew := Lib.hid (Blk.new wp #[.int .i64 x0] 3)
      have HOw := Lib.hid (HO.out.alloc (.cells #[.int .i64 x0] 3))
      go_wp2_with (at_builtin; refine wpList_append1_at rfl _ _ 22 3 rfl Tryd.underlying22 HI.out rfl HOw.out rfl ⟨wp.heap.size, 0, none⟩ (.int .i64 x0) rfl (HNew.out.cell rfl) rfl ?d1 ?d2 ?d3 ?_)
      case d1 => rw [iv_length]; have := HF.out.i; have := HF.out.l; simp; omega
      case d2 => rw [iv_length]; have := HF.out.i; have := HF.out.l; unfold maxLen; simp; omega
      case d3 => have := HSw.out; simp; omega
      intro v' w2 hO2 hg2 hat2
      have hrel : ∃ k' : Nat, Value.int .i64 ((k : Int) + 1) = .int .i64 k' ∧ k' ≤ C.lats.length ∧ Own w2 w.heap.size 3 v' (iv (C.ins ++ (C.lats.take k').map (fun x => x.1))) ∧ (∀ j, v'.ownBlock = some j → w.heap.size < j) ∧ Blk w2 w.heap.size (cvals V C) 27 ∧ Kp (fun _ => False) w w2 := by
        refine ⟨k + 1, by go_num, by omega, ?_, ?_, ?_, ?_⟩
        · rw [HT.out, List.map_append, ← List.append_assoc, iv_append]
          have : iv ([g3 C.lats k].map (fun x => x.1)) = [.int .i64 x0] := by simp [iv, HX.out]
          rw [this]
          simpa using hO2
        · intro j hj
          rcases hat2 with e | e
          · exact HB.out j (e ▸ hj)
          · rw [e] at hj
            have := HSw.out
            simp at hj
            omega
        · exact (HC.out.alloc _).kp ((Kp.refl (fun j => u3.ownBlock = some j) _).grown hg2 (fun j hj _ => hj)) (fun e => by have := HB.out _ e; omega)
        · exact (HK.out.alloc _).grown hg2 (fun j hj hlt => by have := HB.out j hj; omega)
      have HR := Lib.hid hrel
      clear hrel hO2 hg2 hat2 HOw HNew HT
      go_wp2_with fail
      go_roundw
      case rel => exact HR.out
      case measure => simp [intOf]; omega
    · have hk' : k = C.lats.length := by omega
      have HO' : Hid (Own wp w.heap.size 3 u3 (iv (C.ins ++ C.lats.map (fun x => x.1) ++ (C.gates.take 0).map (fun x => x.1)))) := Lib.hid (by have := HO.out; rw [hk', List.take_length] at this; simpa using this)
      clear HO hk hk'
      go_wp2_with fail
      go_loopw [3, 5] (fun v3 v5 wr => ∃ k : Nat, v5 = .int .i64 k ∧ k ≤ C.gates.length ∧ Own wr w.heap.size 3 v3 (iv (C.ins ++ C.lats.map (fun x => x.1) ++ (C.gates.take k).map (fun x => x.1))) ∧ (∀ j, v3.ownBlock = some j → w.heap.size < j) ∧ Blk wr w.heap.size (cvals V C) 27 ∧ Kp (fun _ => False) w wr) (fun _ v5 _ => C.gates.length - (intOf v5).toNat)
      case atStart => exact ⟨0, rfl, by omega, HO'.out, HB.out, HC.out, HK.out⟩
      case round =>
        obtain ⟨k, rfl, hk, hO, hB, hC, hK⟩ := hrel
        clear HO' HB HC HK hlt c2
        obtain ⟨wq, rfl⟩ : ∃ wp : World, wp = wr := ⟨_, rfl⟩
        have HO := Lib.hid hO
        have HB := Lib.hid hB
        have HC := Lib.hid hC
        have HK := Lib.hid hK
        have HSw := Lib.hid (show w.heap.size < wq.heap.size from hC.lt)
        have c6 := hC.cell (i := 6) (v := .slice V.ag C.gates.length V.cg) rfl
        clear hO hB hC hK
        by_cases hlt : k < C.gates.length
        · obtain ⟨b, off, ea, e0, -, -⟩ := tri_cells (HA.out.kp HK.out).g hlt
          have i0 : (0 : Int) ≤ (k : Int) := by omega
          have i2 : (k : Int) < (C.gates.length : Int) := by omega
          obtain ⟨x0, hx0⟩ : ∃ x, (g3 C.gates k).1 = x := ⟨_, rfl⟩
          have HT := Lib.hid (take_g3 hlt)
          rw [hx0] at e0
          have HX := Lib.hid hx0
          rw [ea] at c6
          clear hx0 ea
          have HNew := Lib.hid (Blk.new wq #[.int .i64 x0] 3)
          have HOw := Lib.hid (HO.out.alloc (.cells #[.int .i64 x0] 3))
          go_wp2_with (at_builtin; refine wpList_append1_at rfl _ _ 22 3 rfl Tryd.underlying22 HI.out rfl HOw.out rfl ⟨wq.heap.size, 0, none⟩ (.int .i64 x0) rfl (HNew.out.cell rfl) rfl ?f1 ?f2 ?f3 ?_)
          case f1 => rw [iv_length]; have := HF.out.i; have := HF.out.l; have := HF.out.g; simp; omega
          case f2 => rw [iv_length]; have := HF.out.i; have := HF.out.l; have := HF.out.g; unfold maxLen; simp; omega
          case f3 => have := HSw.out; simp; omega
          intro v' w2 hO2 hg2 hat2
          have hrel : ∃ k' : Nat, Value.int .i64 ((k : Int) + 1) = .int .i64 k' ∧ k' ≤ C.gates.length ∧ Own w2 w.heap.size 3 v' (iv (C.ins ++ C.lats.map (fun x => x.1) ++ (C.gates.take k').map (fun x => x.1))) ∧ (∀ j, v'.ownBlock = some j → w.heap.size < j) ∧ Blk w2 w.heap.size (cvals V C) 27 ∧ Kp (fun _ => False) w w2 := by
            refine ⟨k + 1, by go_num, by omega, ?_, ?_, ?_, ?_⟩
            · rw [HT.out, List.map_append, ← List.append_assoc, iv_append]
              have : iv ([g3 C.gates k].map (fun x => x.1)) = [.int .i64 x0] := by simp [iv, HX.out]
              rw [this]
              simpa using hO2
            · intro j hj
              rcases hat2 with e | e
              · exact HB.out j (e ▸ hj)
              · rw [e] at hj
                have := HSw.out
                simp at hj
                omega
            · exact (HC.out.alloc _).kp ((Kp.refl (fun j => u3.ownBlock = some j) _).grown hg2 (fun j hj _ => hj)) (fun e => by have := HB.out _ e; omega)
            · exact (HK.out.alloc _).grown hg2 (fun j hj hlt => by have := HB.out j hj; omega)
          have HR := Lib.hid hrel
          clear hrel hO2 hg2 hat2 HOw HNew HT
          go_wp2_with fail
          go_roundw
          case rel => exact HR.out
          case measure => simp [intOf]; omega
        · have hk' : k = C.gates.length := by omega
          have HO' : Hid (Own wq w.heap.size 3 u3 (iv C.owned)) := Lib.hid (by have := HO.out; rwa [hk', List.take_length] at this)
          clear hk' hk HO
          go_wp2_with fail
          go_ret
          exact ⟨_, rfl, HO'.out, HK.out⟩

end Go.Proofs.YtmjcpapcmbgkjaaDoor

/-
  latchetref11.Used.
-/
namespace Go.Proofs.YtmjcpapcmbgkjaaDoor
open Go.RowKit

/-- a list of the call's own beside its circuit -/
def GrowRel (V : CV) (C : Circ) (w : World) (P : List Int) (v : Value) (wr : World) : Prop :=
  Own wr w.heap.size 3 v (iv P) ∧ (∀ j, v.ownBlock = some j → w.heap.size < j) ∧ Blk wr w.heap.size (cvals V C) 27 ∧ Kp (fun _ => False) w wr

theorem GrowRel.grow {V : CV} {C : Circ} {w wr wr' w2 : World} {P N : List Int} {v v' : Value} (h : GrowRel V C w P v wr) (hK : Kp (fun _ => False) wr wr') (hO : Own w2 w.heap.size 3 v' (iv P ++ iv N)) (hg : wr'.grownBy w2 v.ownBlock) (hat : v'.ownBlock = v.ownBlock ∨ v'.ownBlock = some wr'.heap.size) : GrowRel V C w (P ++ N) v' w2 := by
  obtain ⟨h1, h2, h3, h4⟩ := h
  have hlt := h3.lt
  have hsz := hK.size
  refine ⟨by rw [iv_append]; exact hO, fun j hj => ?_, (h3.kp hK (fun h => h)).kp ((Kp.refl (fun j => v.ownBlock = some j) _).grown hg (fun j hj _ => hj)) (fun e => by have := h2 _ e; omega), (h4.trans hK (fun _ _ h => h)).grown hg (fun j hj hl => by have := h2 j hj; omega)⟩
  rcases hat with e | e
  · exact h2 j (e ▸ hj)
  · rw [e] at hj; simp at hj; omega

theorem GrowRel.fr {V : CV} {C : Circ} {w wr wr' : World} {P : List Int} {v : Value} (h : GrowRel V C w P v wr) (hK : Kp (fun _ => False) wr wr') : GrowRel V C w P v wr' :=
  ⟨h.1.kp hK (fun _ _ h => h), h.2.1, h.2.2.1.kp hK (fun h => h), h.2.2.2.trans hK (fun _ _ h => h)⟩

theorem iv_one (l : List Int) : ∀ u ∈ iv l, u.oneCell' = true := fun u hu => by obtain ⟨x, _, rfl⟩ := List.mem_map.1 hu; rfl

set_option maxRecDepth 100000 in
set_option maxHeartbeats 4000000 in
theorem ref11_Used (V : CV) (C : Circ) (w : World) (h : CAt w V C) (hf : CFew C 1000000) :
    Calls Tryd.prog 28 #[.agg (cvals V C)] w fun e w' => ∃ v, e = .returned v ∧ Own w' w.heap.size 3 v (iv C.used) ∧ Kp (fun _ => False) w w' := by
  have hl := h.fl.le63
  have hg := h.fg.le63
  have HI := Lib.hid (show (Tryd.prog.info? 3).map (fun i => (i.zero, i.size, i.bytes)) = some (some (.int .i64 0), 1, 8) by kernel_rfl)
  have HA := Lib.hid h
  have HF := Lib.hid hf
  obtain ⟨wz, hwz⟩ : ∃ wz : World, wz = (w.alloc (.cells (cvals V C) 27)).alloc (.cells #[] 3) := ⟨_, rfl⟩
  have HC0 := Lib.hid (Blk.new w (cvals V C) 27)
  have HG0 : Hid (GrowRel V C w [] (.slice (some ⟨w.heap.size + 1, 0, none⟩) 0 0) wz) := Lib.hid (by
    rw [hwz]
    exact ⟨Own.lit (cs := []) (two_blk w _ _ _ _) (by omega) (Nat.zero_le _), fun j hj => by simp [Value.ownBlock] at hj; omega, HC0.out.alloc _, ((Kp.refl _ w).alloc _).alloc _⟩)
  have HZ := Lib.hid hwz
  clear h hf hwz
  have c3 := HC0.out.cell (i := 3) (v := .slice V.ao C.outs.length V.co) rfl
  have c3' := (HC0.out.alloc (.cells #[] 3)).cell (i := 3) (v := .slice V.ao C.outs.length V.co) rfl
  go_enter Tryd.func28, Tryd.ntmps28
  go_wp2_with (at_builtin; rw [← HZ.out]; refine wpList_append1s rfl _ _ 22 3 rfl Tryd.underlying22 HI.out rfl HG0.out.1 rfl V.ao C.outs.length V.co (iv C.outs) rfl (iv_length _) ((HA.out.kp HG0.out.2.2.2).o) HA.out.fo.nil (iv_one _) ?c1 ?c2 HG0.out.2.2.2.size ?_)
  case c1 => have := HF.out.o; simp [iv]; omega
  case c2 => have := HF.out.o; simp [iv]; unfold maxLen; omega
  intro v1 w1 hO1 hg1 hat1
  have HG1 := Lib.hid (HG0.out.grow (Kp.refl _ _) hO1 hg1 hat1)
  clear hO1 hg1 hat1 c3 c3' HG0 HC0 HZ
  have c4 := HG1.out.2.2.1.cell (i := 4) (v := .slice V.ab C.bads.length V.cb) rfl
  go_wp2_with (at_builtin; refine wpList_append1s rfl _ _ 22 3 rfl Tryd.underlying22 HI.out rfl HG1.out.1 rfl V.ab C.bads.length V.cb (iv C.bads) rfl (iv_length _) ((HA.out.kp HG1.out.2.2.2).b) HA.out.fb.nil (iv_one _) ?d1 ?d2 HG1.out.2.2.2.size ?_)
  case d1 => have := HF.out.o; have := HF.out.b; rw [iv_length]; simp; omega
  case d2 => have := HF.out.o; have := HF.out.b; rw [iv_length]; simp; unfold maxLen; omega
  intro v2 w2 hO2 hg2 hat2
  have HG2 := Lib.hid (HG1.out.grow (Kp.refl _ _) hO2 hg2 hat2)
  clear hO2 hg2 hat2 c4 HG1
  have c5 := HG2.out.2.2.1.cell (i := 5) (v := .slice V.ac C.cons.length V.cc) rfl
  go_wp2_with (at_builtin; refine wpList_append1s rfl _ _ 22 3 rfl Tryd.underlying22 HI.out rfl HG2.out.1 rfl V.ac C.cons.length V.cc (iv C.cons) rfl (iv_length _) ((HA.out.kp HG2.out.2.2.2).c) HA.out.fc.nil (iv_one _) ?f1 ?f2 HG2.out.2.2.2.size ?_)
  case f1 => have := HF.out.o; have := HF.out.b; have := HF.out.c; rw [iv_length]; simp; omega
  case f2 => have := HF.out.o; have := HF.out.b; have := HF.out.c; rw [iv_length]; simp; unfold maxLen; omega
  intro v3 w3 hO3 hg3 hat3
  obtain ⟨P3, hP3⟩ : ∃ P, P = C.outs ++ C.bads ++ C.cons := ⟨_, rfl⟩
  have HG3 := Lib.hid (show GrowRel V C w (P3 ++ (C.lats.take 0).map (fun x => x.2.1)) v3 w3 by
    have := HG2.out.grow (Kp.refl _ _) hO3 hg3 hat3
    rw [hP3]; simpa using this)
  have HPL := Lib.hid (show P3.length ≤ 3000000 by rw [hP3]; have := HF.out.o; have := HF.out.b; have := HF.out.c; simp; omega)
  have HP3 := Lib.hid hP3
  clear hO3 hg3 hat3 c5 HG2 hP3
  go_wp2_with fail
  go_loopw [3, 4] (fun v3 v4 wr => ∃ k : Nat, v4 = .int .i64 k ∧ k ≤ C.lats.length ∧ GrowRel V C w (P3 ++ (C.lats.take k).map (fun x => x.2.1)) v3 wr) (fun _ v4 _ => C.lats.length - (intOf v4).toNat)
  case atStart => exact ⟨0, rfl, by omega, HG3.out⟩
  case round =>
    obtain ⟨k, rfl, hk, hG⟩ := hrel
    clear HG3
    obtain ⟨wp, rfl⟩ : ∃ wp : World, wp = wr := ⟨_, rfl⟩
    have HG := Lib.hid hG
    have c2 := hG.2.2.1.cell (i := 2) (v := .slice V.al C.lats.length V.cl) rfl
    clear hG
    by_cases hlt : k < C.lats.length
    · obtain ⟨b, off, ea, -, e1, -⟩ := tri_cells (HA.out.kp HG.out.2.2.2).l hlt
      have i0 : (0 : Int) ≤ (k : Int) := by omega
      have i2 : (k : Int) < (C.lats.length : Int) := by omega
      obtain ⟨x1, hx1⟩ : ∃ x, (g3 C.lats k).2.1 = x := ⟨_, rfl⟩
      rw [hx1] at e1
      have HX := Lib.hid (show (C.lats.take (k + 1)).map (fun x => x.2.1) = (C.lats.take k).map (fun x => x.2.1) ++ [x1] by rw [take_g3 hlt, List.map_append]; simp [hx1])
      rw [ea] at c2
      clear hx1 ea
      have HNew := Lib.hid (Blk.new wp #[.int .i64 x1] 3)
      have HOw := Lib.hid (HG.out.1.alloc (.cells #[.int .i64 x1] 3))
      go_wp2_with (at_builtin; refine wpList_append1_at rfl _ _ 22 3 rfl Tryd.underlying22 HI.out rfl HOw.out rfl ⟨wp.heap.size, 0, none⟩ (.int .i64 x1) rfl (HNew.out.cell rfl) rfl ?g1 ?g2 ?g3 ?_)
      case g1 => rw [iv_length]; have := HPL.out; have := HF.out.l; simp; omega
      case g2 => rw [iv_length]; have := HPL.out; have := HF.out.l; unfold maxLen; simp; omega
      case g3 => have := HG.out.2.2.2.size; simp; omega
      intro v' w5 hO2 hg2 hat2
      have HR := Lib.hid (show ∃ k' : Nat, Value.int .i64 ((k : Int) + 1) = .int .i64 k' ∧ k' ≤ C.lats.length ∧ GrowRel V C w (P3 ++ (C.lats.take k').map (fun x => x.2.1)) v' w5 from
        ⟨k + 1, by go_num, by omega, by rw [HX.out, ← List.append_assoc]; exact HG.out.grow (N := [x1]) ((Kp.refl _ _).alloc _) (by simpa [iv] using hO2) hg2 (by simpa using hat2)⟩)
      clear hO2 hg2 hat2 HOw HNew HX
      go_wp2_with fail
      go_roundw
      case rel => exact HR.out
      case measure => simp [intOf]; omega
    · have hk' : k = C.lats.length := by omega
      obtain ⟨P4, hP4⟩ : ∃ P, P = P3 ++ C.lats.map (fun x => x.2.1) := ⟨_, rfl⟩
      have HG4 : Hid (GrowRel V C w (P4 ++ (C.gates.take 0).flatMap (fun g => [g.2.1, g.2.2])) u3 wp) := Lib.hid (by have := HG.out; rw [hk', List.take_length, ← hP4] at this; simpa using this)
      have HPL4 := Lib.hid (show P4.length ≤ 4000000 by rw [hP4]; have := HF.out.l; have := HPL.out; simp; omega)
      have HP4 := Lib.hid hP4
      clear HG hk hk' hP4 HPL
      go_wp2_with fail
      go_loopw [3, 5] (fun v3 v5 wr => ∃ k : Nat, v5 = .int .i64 k ∧ k ≤ C.gates.length ∧ GrowRel V C w (P4 ++ (C.gates.take k).flatMap (fun g => [g.2.1, g.2.2])) v3 wr) (fun _ v5 _ => C.gates.length - (intOf v5).toNat)
      case atStart => exact ⟨0, rfl, by omega, HG4.out⟩
      case round =>
        obtain ⟨k, rfl, hk, hG⟩ := hrel
        clear HG4 hlt c2
        obtain ⟨wq, rfl⟩ : ∃ wp : World, wp = wr := ⟨_, rfl⟩
        have HG := Lib.hid hG
        have HC6 := Lib.hid (show ∀ u, Kp (fun _ => False) wq u → u.cell? ⟨w.heap.size, 6, none⟩ = some (.slice V.ag C.gates.length V.cg) from fun u hu => (HG.out.2.2.1.kp hu (fun h => h)).cell rfl)
        have c6 := HC6.out _ (Kp.refl _ _)
        clear hG
        by_cases hlt : k < C.gates.length
        · obtain ⟨b, off, ea, -, e1, e2⟩ := tri_cells (HA.out.kp HG.out.2.2.2).g hlt
          have i0 : (0 : Int) ≤ (k : Int) := by omega
          have i2 : (k : Int) < (C.gates.length : Int) := by omega
          obtain ⟨x1, hx1⟩ : ∃ x, (g3 C.gates k).2.1 = x := ⟨_, rfl⟩
          obtain ⟨x2, hx2⟩ : ∃ x, (g3 C.gates k).2.2 = x := ⟨_, rfl⟩
          rw [hx1] at e1
          rw [hx2] at e2
          have HX := Lib.hid (show (C.gates.take (k + 1)).flatMap (fun g => [g.2.1, g.2.2]) = (C.gates.take k).flatMap (fun g => [g.2.1, g.2.2]) ++ [x1, x2] by rw [take_g3 hlt, List.flatMap_append]; simp [hx1, hx2])
          rw [ea] at c6 HC6
          have HE := Lib.hid (show ∀ P v u, GrowRel V C w P v u → u.cell? ⟨w.heap.size, 6, none⟩ = some (.slice (some ⟨b, off, none⟩) C.gates.length V.cg) ∧ u.cell? ⟨b, off + k * 3 + 1, none⟩ = some (.int .i64 x1) ∧ u.cell? ⟨b, off + k * 3 + 2, none⟩ = some (.int .i64 x2) from fun P v u hu => by
            obtain ⟨b', off', ea', -, f1, f2⟩ := tri_cells (HA.out.kp hu.2.2.2).g hlt
            rw [ea] at ea'
            simp only [Option.some.injEq, Addr.mk.injEq, and_true] at ea'
            obtain ⟨rfl, rfl⟩ := ea'
            exact ⟨hu.2.2.1.cell (by rw [← ea]; rfl), by rw [f1, hx1], by rw [f2, hx2]⟩)
          clear hx1 hx2 ea c6 e1 e2
          have c6 := (HE.out _ _ _ HG.out).1
          have HNew := Lib.hid (show IntsAt (wq.alloc (.cells #[.int .i64 x1, .int .i64 x2] 3)) (some ⟨wq.heap.size, 0, none⟩) [x1, x2] from (Blk.new wq #[.int .i64 x1, .int .i64 x2] 3).rowAt (n := 2) rfl)
          have HOw := Lib.hid (HG.out.1.alloc (.cells #[.int .i64 x1, .int .i64 x2] 3))
          have hb1 : ((iv (P4 ++ (C.gates.take k).flatMap (fun g => [g.2.1, g.2.2]))).length + 2) * 8 ≤ 140737488355328 ∧ (iv (P4 ++ (C.gates.take k).flatMap (fun g => [g.2.1, g.2.2]))).length + 2 ≤ maxLen := by
            rw [iv_length]
            have := HPL4.out
            have := HF.out.g
            have e : ((C.gates.take k).flatMap (fun g => [g.2.1, g.2.2])).length = 2 * (C.gates.take k).length := by
              generalize C.gates.take k = L
              induction L with
              | nil => rfl
              | cons a r ih => rw [List.flatMap_cons, List.length_append, ih]; simp; omega
            rw [List.length_append, e]
            unfold maxLen
            simp
            omega
          have HB1 := Lib.hid hb1
          have HSz := Lib.hid HG.out.2.2.2.size
          clear hb1
          go_wp2_with fail
          have c0 := HE.out _ _ _ HG.out
          go_region_held3 (fun u => u.cell? ⟨w.heap.size, 6, none⟩ = some (.slice (some ⟨b, off, none⟩) C.gates.length V.cg) ∧ u.cell? ⟨b, off + k * 3 + 1, none⟩ = some (.int .i64 x1) ∧ u.cell? ⟨b, off + k * 3 + 2, none⟩ = some (.int .i64 x2)) (with_reducible first | exact HE.out _ _ _ HG.out | exact HE.out _ _ _ (HG.out.fr (Kp.refl _ _).drew) | exact HE.out _ _ _ (HG.out.fr ((Kp.refl _ _).alloc _)) | exact HE.out _ _ _ (HG.out.fr ((Kp.refl _ _).alloc _).drew) | exact HE.out _ _ _ HGz.out | exact HE.out _ _ _ (HGz.out.fr (Kp.refl _ _).drew)) ((refine step_append1s (by rfl) _ _ 22 3 (by rfl) Tryd.underlying22 HI.out rfl (by first | exact HOw.out | exact HOw.out.drew) (by rfl) (some ⟨wq.heap.size, 0, none⟩) 2 2 (iv [x1, x2]) (by rfl) (by rfl) (by first | exact HNew.out | exact HNew.out.drewN 0) (fun h => by cases h) (iv_one _) HB1.out.1 HB1.out.2 (by have := HSz.out; simp; omega) ?_; intro v' w5 hO2 hg2 hat2; have HGz := Lib.hid (HG.out.grow (N := [x1, x2]) (((Kp.refl _ _).alloc _).drew) hO2 hg2 hat2); have hEz := HE.out _ _ _ HGz.out; clear hO2 hg2 hat2))
          all_goals go_wp2_with fail
          all_goals go_roundw
          case rel => exact ⟨k + 1, by go_num, by omega, by rw [HX.out, ← List.append_assoc]; first | exact HGz.out | exact HGz.out.fr (Kp.refl _ _).drew⟩
          case measure => simp [intOf]; omega
        · have hk' : k = C.gates.length := by omega
          have HO' : Hid (GrowRel V C w C.used u3 wq) := Lib.hid (by have := HG.out; rw [hk', List.take_length, HP4.out, HP3.out] at this; exact this)
          clear hk' hk HG
          go_wp2_with fail
          go_ret
          exact ⟨_, rfl, HO'.out.1, HO'.out.2.2.2⟩

end Go.Proofs.YtmjcpapcmbgkjaaDoor

/-
  A region that draws its order, whose calls may make and turn memory of their own, and leave all old blocks alone:
  one walk, in the order of the text, in every world that keeps the old blocks.
-/
namespace Go.Proofs.YtmjcpapcmbgkjaaDoor
open Go

/-- the worlds that keep all blocks of w, as the values of a function -/
theorem still_class (w : World) : ∃ F : World → World, (∀ x, Kp (fun _ => False) w (F x)) ∧ (∀ w', Kp (fun _ => False) w w' → ∃ y, w' = F y) := by
  classical
  refine ⟨fun u => if Kp (fun _ => False) w u then u else w, fun x => ?_, fun w' h => ⟨w', by simp [h]⟩⟩
  by_cases h : Kp (fun _ => False) w x
  · simp [h]
  · simp [h, Kp.refl]

theorem Calls.still_of {P : Program} {f : FuncId} {args : Array Value} {w : World} {F : World → World} (h1 : ∀ x, Kp (fun _ => False) w (F x)) (h2 : ∀ w', Kp (fun _ => False) w w' → ∃ y, w' = F y) {x : World} {v : Value}
    (h : Calls P f args (F x) fun e w' => e = .returned v ∧ Kp (fun _ => False) (F x) w') : Calls P f args (F x) fun e w'' => e = .returned v ∧ ∃ y, w'' = F y :=
  h.mono fun _ _ ⟨he, hk⟩ => ⟨he, h2 _ ((h1 x).trans hk (fun _ _ h => h))⟩

theorem wp_region_kept {P : Program} {id : Nat} {Q : Exit → Act → World → Prop} {a : Act} {w : World} {l : List Oper} {F : World → World} (hm : P.follows .mixedOrders = true) (hB : Region.lexB .any l.toArray = true)
    (h2 : ∀ w', Kp (fun _ => False) w w' → ∃ y, w' = F y)
    (h : wpQuiet P l.toArray (fun w' => ∃ x, w' = F x) (fun a' => ∀ w', (∃ x, w' = F x) → Q .normal a' w') l a) : (Code.region id l.toArray true).wp P Q a w :=
  wp_region_quiet (C := fun w' => ∃ x, w' = F x) hm hB (h2 _ (Kp.refl _ w).drew) (by simpa using h)


end Go.Proofs.YtmjcpapcmbgkjaaDoor
