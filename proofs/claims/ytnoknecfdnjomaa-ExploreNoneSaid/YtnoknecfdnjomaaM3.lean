/-
  sim.Words.
-/
import Derived.Test.YtnoknecfdnjomaaM2
import Derived.BigRegion
import Derived.Test.YtnoknecfdnjomaaM1
import Derived.Laws.CopyOwn
set_option linter.unusedVariables false
set_option linter.unusedSimpArgs false
namespace Go.Proofs.Ytnoknecfdnjomaa
open Go.RowKit

theorem BitsOf.snoc {ws : List Int} {vals : List Bool} (h : BitsOf ws vals) {x : Int} {b : Bool} (hx : BitOf x b) : BitsOf (ws ++ [x]) (vals ++ [b]) := by
  refine ⟨by simp [h.1], fun i hi => ?_⟩
  by_cases e : i < ws.length
  · have h1 := h.2 i e
    have e2 : i < vals.length := by rw [← h.1]; exact e
    unfold gi vb at h1 ⊢
    rw [List.getElem?_append_left e, List.getElem?_append_left e2]
    exact h1
  · have e1 : i = ws.length := by simp at hi; omega
    subst e1
    unfold gi vb
    rw [List.getElem?_append_right (Nat.le_refl _), h.1, List.getElem?_append_right (Nat.le_refl _)]
    simpa using hx

theorem drop_gi {l : List Int} {k : Nat} (h : k < l.length) : l.drop k = gi l k :: l.drop (k + 1) := by
  rw [List.drop_eq_getElem_cons h]
  unfold gi; rw [List.getElem?_eq_getElem h]; rfl

set_option maxRecDepth 100000 in
set_option maxHeartbeats 4000000 in
theorem sim_Words (a : Option Addr) (n c : Nat) (N : List (Int × Int)) (b : Option Addr) (m d : Nat) (wi : List Int) (ins : List Bool) (w : World) (hr : RowAt w a (N.map pr2).flatten) (hn : N.length = n) (hm : n ≤ 10000000) (hN : GoodN N) (hi : RowAt w b (uv wi)) (him : wi.length = m) (hmm : m ≤ 100000000) (hmd : m ≤ d) (hdl : d ≤ maxLen) (hb : BitsOf wi ins) :
    Calls Try.prog 89 #[.slice a n c, .slice b m d] w fun e w' => ∃ v, e = .returned v ∧ (∃ ws, Own w' w.heap.size 98 v (uv ws) ∧ BitsOf ws (valsOf N ins)) ∧ Kp (fun _ => False) w w' := by
  have HI := Lib.hid (show (Try.prog.info? 98).map (fun i => (i.zero, i.size, i.bytes)) = some (some (.int .u64 0), 1, 8) by kernel_rfl)
  obtain ⟨i0, hi0, hz0, hz1, hz2⟩ := info_parts (show (Try.prog.info? 98).map (fun i => (i.zero, i.size, i.bytes)) = some (some (.int .u64 0), 1, 8) by kernel_rfl)
  have hmk : ∀ u : World, (Instr.makeSlice 141 (.int .i64 1) (.int .i64 ((n : Int) + 1))).run Try.prog u =
      .ok (.slice (some ⟨u.heap.size, 0, none⟩) 1 (n + 1)) (u.alloc (.cells (madeCells #[.int .u64 0] (n + 1)) 98)) := fun u => by
    have h := run_make (P := Try.prog) u 141 98 i0 (.int .u64 0) Try.underlying141 hi0 hz0 .i64 .i64 1 ((n + 1 : Nat) : Int) (by omega) (by omega) (by rw [hz2]; omega) (by omega)
    simpa [hz1, Value.cells] using h
  clear hi0 hz0 hz1 hz2 i0
  have HR := Lib.hid hr
  have HN := Lib.hid hn
  have HGN := Lib.hid hN
  have HIm := Lib.hid him
  have HB := Lib.hid hb
  obtain ⟨wz, hwz⟩ : ∃ wz : World, wz = w.alloc (.cells (madeCells #[.int .u64 0] (n + 1)) 98) := ⟨_, rfl⟩
  have HK0 := Lib.hid (show Kp (fun _ => False) w wz by rw [hwz]; exact (Kp.refl _ w).alloc _)
  have HO0 : Hid (Own wz w.heap.size 98 (.slice (some ⟨w.heap.size, 0, none⟩) 1 (n + 1)) (uv [0])) := Lib.hid (by
    rw [hwz]
    refine ⟨by simp [uv], .inr ⟨w.heap.size, n + 1, madeCells #[.int .u64 0] (n + 1), rfl, Nat.le_refl _, Blk.new w _ _, by simp [uv], by unfold maxLen; omega, by rw [made_row]; simp [rowF_length], ?_⟩⟩
    rw [made_row]
    simp [rowF, uv, List.range_succ_eq_map])
  have HB0 := Lib.hid (show BitsOf [0] [false] from ⟨rfl, fun i hi => (by
    have e : i = 0 := by simpa using hi
    subst e
    exact BitOf.zero)⟩)
  have HI0 := Lib.hid (show ∃ a1 c1, (Value.slice b m d) = .slice a1 (wi.drop (valsK N ins 0).2).length c1 ∧ RowAt w a1 (uv (wi.drop (valsK N ins 0).2)) ∧ (wi.drop (valsK N ins 0).2).length ≤ c1 ∧ c1 ≤ maxLen from ⟨b, d, by show _ = Value.slice b wi.length d; rw [him], hi, by show wi.length ≤ d; omega, hdl⟩)
  have HZ := Lib.hid hwz
  clear hr hn hN hi him hb hwz
  go_enter Try.func89, Try.ntmps89
  go_upto_region 2 with fail
  rw [← HZ.out]
  clear HZ hmk
  go_wp2_with fail
  go_loopw [1, 5, 15] (fun v1 v5 v15 wr => ∃ k : Nat, v15 = .int .i64 k ∧ k ≤ n ∧ (∃ a1 c1, v1 = .slice a1 (wi.drop (valsK N ins k).2).length c1 ∧ RowAt w a1 (uv (wi.drop (valsK N ins k).2)) ∧ (wi.drop (valsK N ins k).2).length ≤ c1 ∧ c1 ≤ maxLen) ∧ (∃ ws, Own wr w.heap.size 98 v5 (uv ws) ∧ BitsOf ws (valsK N ins k).1 ∧ gi ws 0 = 0) ∧ Kp (fun _ => False) w wr) (fun _ _ v15 _ => n - (intOf v15).toNat)
  case atStart => exact ⟨0, rfl, by omega, HI0.out, ⟨[0], HO0.out, HB0.out, rfl⟩, HK0.out⟩
  case round =>
    obtain ⟨k, rfl, hk, ⟨a1, c1, rfl, hrow, hc1, hc2⟩, ⟨ws, hO, hbits, hz⟩, hK⟩ := hrel
    clear HO0 HK0 HI0
    obtain ⟨wp, rfl⟩ : ∃ wp : World, wp = wr := ⟨_, rfl⟩
    have HO := Lib.hid hO
    have HK := Lib.hid hK
    have HKs := Lib.hid hK.size
    have HBs := Lib.hid hbits
    have HW0 := Lib.hid hz
    have HRow := Lib.hid hrow
    clear hO hK hbits hz hrow
    by_cases hlt : k < n
    · have hkl : k < N.length := by rw [HN.out]; exact hlt
      obtain ⟨bb, off, rfl, e0, e1⟩ := pr2_cells (HR.out.kp HK.out (fun _ _ h => h)) hkl
      have hS := valsK_succ (ins := ins) hkl
      have hln := valsK_len (N := N) (ins := ins) k (by omega)
      have hg := HGN.out k hkl
      obtain ⟨x1, hx1⟩ : ∃ x, (g2 N k).1 = x := ⟨_, rfl⟩
      obtain ⟨x2, hx2⟩ : ∃ x, (g2 N k).2 = x := ⟨_, rfl⟩
      obtain ⟨cn, hcn⟩ : ∃ x, (valsK N ins k).2 = x := ⟨_, rfl⟩
      unfold stepV at hS
      rw [hx1, hx2, hcn] at hS
      rw [hx1, hx2] at hg
      rw [hx1] at e0
      rw [hx2] at e1
      obtain ⟨vals, hvals⟩ : ∃ x, (valsK N ins k).1 = x := ⟨_, rfl⟩
      rw [hvals] at hS hln
      have HBv := Lib.hid (show BitsOf ws vals by rw [← hvals]; exact HBs.out)
      have HRw := Lib.hid (show RowAt w a1 (uv (wi.drop cn)) by rw [← hcn]; exact HRow.out)
      rw [hcn] at hc1 ⊢
      have hwl : ws.length = k + 1 := by rw [HBv.out.1, hln]
      have HWl := Lib.hid hwl
      have i0 : (0 : Int) ≤ (k : Int) := by omega
      have i2 : (k : Int) < (n : Int) := by omega
      obtain ⟨wq, hwq⟩ : ∃ wq : World, wq = wp.alloc (.cells #[.int .i64 x1, .int .i64 x2] 111) := ⟨_, rfl⟩
      have HKq := Lib.hid (show Kp (fun _ => False) w wq by rw [hwq]; exact HK.out.alloc _)
      have HOq := Lib.hid (show Own wq w.heap.size 98 u5 (uv ws) by rw [hwq]; exact HO.out.alloc _)
      have HNb := Lib.hid (show Blk wq wp.heap.size #[.int .i64 x1, .int .i64 x2] 111 by rw [hwq]; exact Blk.new _ _ _)
      have HZq := Lib.hid hwq
      clear hx1 hx2 hcn hvals hln hkl hwl hwq HBs HRow
      have hfin : ∀ x bb cn', BitOf x bb → valsK N ins (k + 1) = (vals ++ [bb], cn') → ∀ u, Kp (fun _ => False) wq u → ∀ v' w2, Own w2 w.heap.size 98 v' (uv ws ++ [.int .u64 x]) → (u.alloc (.cells #[.int .u64 x] 98)).grownBy w2 u5.ownBlock → (∃ ws, Own w2 w.heap.size 98 v' (uv ws) ∧ BitsOf ws (valsK N ins (k + 1)).1 ∧ gi ws 0 = 0) ∧ Kp (fun _ => False) w w2 := fun x bb cn' hx hv u hu v' w2 hO3 hg2 =>
        ⟨⟨ws ++ [x], by rw [uv_append]; exact hO3, by rw [hv]; exact HBv.out.snoc hx, by
          have := HW0.out
          unfold gi at this ⊢
          rw [List.getElem?_append_left (by rw [HWl.out]; omega)]; exact this⟩, ((HKq.out.trans hu (fun _ _ h => h)).alloc _).grown hg2 (fun j hj hl => by have := (HOq.out.lt j hj).1; omega)⟩
      by_cases hneg : x1 < 0
      · rw [if_pos hneg] at hS
        have q1 : decide ((0 : Int) ≤ x1) = false := decide_eq_false (by omega)
        by_cases hc : cn < m
        · obtain ⟨y, hy⟩ : ∃ y, gi wi cn = y := ⟨_, rfl⟩
          have hdr := drop_gi (l := wi) (k := cn) (by rw [HIm.out]; exact hc)
          rw [hy] at hdr
          have hyb := HB.out.2 cn (by rw [HIm.out]; exact hc)
          rw [hy] at hyb
          obtain ⟨o, ho⟩ : ∃ o, (wi.drop (cn + 1)).length = o := ⟨_, rfl⟩
          have hlen : (wi.drop cn).length = o + 1 := by rw [hdr, List.length_cons, ho]
          obtain ⟨b3, off3, rfl, e3⟩ := HRw.out 0 (.int .u64 y) (by rw [hdr]; rfl)
          rw [Nat.add_zero] at e3
          have e4 := HKq.out.cellK e3
          rw [hlen] at hc1 ⊢
          have HRw2 := Lib.hid (show RowAt w (some ⟨b3, off3 + 1, none⟩) (uv (wi.drop (cn + 1))) from fun j u hj => by
            obtain ⟨b4, off4, e5, e6⟩ := HRw.out (j + 1) u (by rw [hdr]; exact hj)
            simp only [Option.some.injEq, Addr.mk.injEq, and_true] at e5
            obtain ⟨rfl, rfl⟩ := e5
            exact ⟨_, _, rfl, by rw [show off3 + 1 + j = off3 + (j + 1) by omega]; exact e6⟩)
          have HFin := Lib.hid (hfin y _ (cn + 1) hyb hS)
          have HS := Lib.hid hS
          have HO1 := Lib.hid ho
          have p0 : decide ((0 : Int) < ((o + 1 : Nat) : Int)) = true := decide_eq_true (by omega)
          have y0 := hyb.lo
          have y1 := hyb.hi
          have z0 : (0 : Int) < ((o + 1 : Nat) : Int) := by omega
          clear hfin hS hdr hyb ho hlen hy e3
          go_upto_region 5 with fail
          rw [← HZq.out]
          have n0 := HNb.out.cell (i := 0) (v := .int .i64 x1) rfl
          have e3 := e4
          clear HZq
          go_upto_region 9 with fail
          go_quiet (fail)
          have hkt : Kp (fun _ => False) wq (wq.drewN nq) := (Kp.refl _ wq).drewN _
          generalize wq.drewN nq = wt at hkt ⊢
          have HRw3 := Lib.hid (show ∃ a1 c1', (Value.slice (if c1 = 1 then some ⟨b3, off3, none⟩ else some ⟨b3, off3 + 1, none⟩) o (c1 - 1)) = .slice a1 (wi.drop (valsK N ins (k + 1)).2).length c1' ∧ RowAt w a1 (uv (wi.drop (valsK N ins (k + 1)).2)) ∧ (wi.drop (valsK N ins (k + 1)).2).length ≤ c1' ∧ c1' ≤ maxLen from by
            rw [HS.out]
            refine ⟨_, _, by rw [HO1.out], ?_, by rw [HO1.out]; omega, by omega⟩
            by_cases e : c1 = 1
            · have h0 : wi.drop (cn + 1) = [] := List.eq_nil_of_length_eq_zero (by rw [HO1.out]; omega)
              rw [h0]; exact RowAt.nil _ _
            · rw [if_neg e]; exact HRw2.out)
          generalize (if c1 = 1 then (some ⟨b3, off3, none⟩ : Option Addr) else some ⟨b3, off3 + 1, none⟩) = a2 at HRw3 ⊢
          have HNew := Lib.hid (Blk.new wt #[.int .u64 y] 98)
          have HOw := Lib.hid ((HOq.out.kp hkt (fun _ _ h => h)).alloc (.cells #[.int .u64 y] 98))
          have HSt := Lib.hid (show w.heap.size ≤ wt.heap.size by have := HKq.out.size; have := hkt.size; omega)
          have HFin2 := Lib.hid (HFin.out wt hkt)
          clear hkt
          go_wp2_with (at_builtin; refine wpList_append1_at rfl _ _ 141 98 rfl Try.underlying141 HI.out rfl HOw.out rfl ⟨wt.heap.size, 0, none⟩ (.int .u64 y) rfl (HNew.out.cell rfl) rfl ?d1 ?d2 ?d3 ?_)
          case d1 => rw [uv_length, HWl.out]; omega
          case d2 => rw [uv_length, HWl.out]; unfold maxLen; omega
          case d3 => have := HSt.out; simp; omega
          intro v' w2 hO3 hg2 hat2
          have HR2 := Lib.hid (HFin2.out v' w2 hO3 hg2)
          clear hO3 hg2 hat2 HNew HOw HFin HFin2
          go_wp2_with fail
          go_roundw
          case rel => exact ⟨k + 1, by go_num, by omega, HRw3.out, HR2.out.1, HR2.out.2⟩
          case measure => simp [intOf]; omega
        · have h0 : wi.drop cn = [] := List.drop_eq_nil_of_le (by rw [HIm.out]; omega)
          have hx : vb ins cn = false := vb_far (by rw [← HB.out.1, HIm.out]; omega)
          rw [hx] at hS
          have h1 : wi.drop (cn + 1) = [] := List.drop_eq_nil_of_le (by rw [HIm.out]; omega)
          have HFin := Lib.hid (hfin 0 false (cn + 1) BitOf.zero hS)
          have HRw3 := Lib.hid (show ∃ a2 c1', (Value.slice a1 0 c1) = .slice a2 (wi.drop (valsK N ins (k + 1)).2).length c1' ∧ RowAt w a2 (uv (wi.drop (valsK N ins (k + 1)).2)) ∧ (wi.drop (valsK N ins (k + 1)).2).length ≤ c1' ∧ c1' ≤ maxLen from by
            rw [hS]
            show ∃ a2 c1', _ = Value.slice a2 (wi.drop (cn + 1)).length c1' ∧ _
            rw [h1]
            exact ⟨a1, c1, rfl, RowAt.nil _ _, Nat.zero_le _, hc2⟩)
          rw [h0]
          simp only [List.length_nil]
          clear hfin hS hx h0 h1
          go_upto_region 5 with fail
          rw [← HZq.out]
          have n0 := HNb.out.cell (i := 0) (v := .int .i64 x1) rfl
          clear HZq
          have hkt : Kp (fun _ => False) wq wq := Kp.refl _ wq
          have HNew := Lib.hid (Blk.new wq #[.int .u64 0] 98)
          have HOw := Lib.hid ((HOq.out.kp hkt (fun _ _ h => h)).alloc (.cells #[.int .u64 0] 98))
          have HSt := Lib.hid (show w.heap.size ≤ wq.heap.size by have := HKq.out.size; have := hkt.size; omega)
          have HFin2 := Lib.hid (HFin.out wq hkt)
          clear hkt
          go_wp2_with (at_builtin; refine wpList_append1_at rfl _ _ 141 98 rfl Try.underlying141 HI.out rfl HOw.out rfl ⟨wq.heap.size, 0, none⟩ (.int .u64 0) rfl (HNew.out.cell rfl) rfl ?d1 ?d2 ?d3 ?_)
          case d1 => rw [uv_length, HWl.out]; omega
          case d2 => rw [uv_length, HWl.out]; unfold maxLen; omega
          case d3 => have := HSt.out; simp; omega
          intro v' w2 hO3 hg2 hat2
          have HR2 := Lib.hid (HFin2.out v' w2 hO3 hg2)
          clear hO3 hg2 hat2 HNew HOw HFin HFin2
          go_wp2_with fail
          go_roundw
          case rel => exact ⟨k + 1, by go_num, by omega, HRw3.out, HR2.out.1, HR2.out.2⟩
          case measure => simp [intOf]; omega
      · rw [if_neg hneg] at hS
        have q1 : decide ((0 : Int) ≤ x1) = true := decide_eq_true (by omega)
        have hgg : 0 ≤ x1 ∧ x1 ≤ 2 * (k : Int) + 1 ∧ 0 ≤ x2 ∧ x2 ≤ 2 * (k : Int) + 1 := hg.resolve_left hneg
        obtain ⟨av, cv, ev, lv, mv, -, hrv⟩ := HOq.out.form
        rw [uv_length, HWl.out] at ev lv
        subst ev
        obtain ⟨F, hF1, hF2⟩ := still_class wq
        have HW1 := Lib.hid (fun y => (sim_Word av (k + 1) cv ws vals x1 (F y) (hrv.kp (hF1 y) (fun _ _ h => h)) HWl.out (by omega) HW0.out HBv.out hgg.1 (by omega)).mono (R' := fun e w' => e = .returned (.int .u64 (wordF ws x1)) ∧ Kp (fun _ => False) (F y) w') (fun e w' ⟨h1, h2⟩ => ⟨h1, h2 ▸ Kp.refl _ _⟩))
        have HW2 := Lib.hid (fun y => (sim_Word av (k + 1) cv ws vals x2 (F y) (hrv.kp (hF1 y) (fun _ _ h => h)) HWl.out (by omega) HW0.out HBv.out hgg.2.2.1 (by omega)).mono (R' := fun e w' => e = .returned (.int .u64 (wordF ws x2)) ∧ Kp (fun _ => False) (F y) w') (fun e w' ⟨h1, h2⟩ => ⟨h1, h2 ▸ Kp.refl _ _⟩))
        have hb1 := wordF_bit (l := x1) HBv.out (by rw [HWl.out]; omega)
        have hb2 := wordF_bit (l := x2) HBv.out (by rw [HWl.out]; omega)
        have HFin := Lib.hid (hfin _ _ cn (hb1.and hb2) hS)
        obtain ⟨o, ho⟩ : ∃ o, (wi.drop cn).length = o := ⟨_, rfl⟩
        have HRw3 := Lib.hid (show ∃ a2 c1', (Value.slice a1 o c1) = .slice a2 (wi.drop (valsK N ins (k + 1)).2).length c1' ∧ RowAt w a2 (uv (wi.drop (valsK N ins (k + 1)).2)) ∧ (wi.drop (valsK N ins (k + 1)).2).length ≤ c1' ∧ c1' ≤ maxLen from by
          rw [hS, ← ho]
          exact ⟨a1, c1, rfl, HRw.out, hc1, hc2⟩)
        rw [ho]
        have HF1 := Lib.hid hF1
        have HF2 := Lib.hid hF2
        have hL1 : ∀ y, (F y).cell? ⟨wp.heap.size, 0, none⟩ = some (.int .i64 x1) := fun y => (HNb.out.kp (HF1.out y) (fun h => h)).cell rfl
        have hL2 : ∀ y, (F y).cell? ⟨wp.heap.size, 1, none⟩ = some (.int .i64 x2) := fun y => (HNb.out.kp (HF1.out y) (fun h => h)).cell rfl
        have b0 := hb1.lo
        have b1 := hb1.hi
        have b2 := hb2.lo
        have b3 := hb2.hi
        clear hfin hS hgg hg hrv hb1 hb2 hF1 hF2 ho
        go_upto_region 5 with fail
        rw [← HZq.out]
        have n0 := HNb.out.cell (i := 0) (v := .int .i64 x1) rfl
        clear HZq
        go_upto_region 7 with fail
        refine wp_region_kept (by kernel_rfl) (by kernel_rfl) HF2.out ?_
        repeat (go_big_quiet_step (with_reducible first | exact Calls.still_of HF1.out HF2.out (HW1.out _) | exact Calls.still_of HF1.out HF2.out (HW2.out _)))
        refine wpQuiet_nil ?_
        rintro wB ⟨y, rfl⟩
        have hkt := HF1.out y
        clear hL1 hL2
        generalize F y = wt at hkt ⊢
        obtain ⟨xx, hxx⟩ : ∃ x, bits .and .u64 (wordF ws x1) (wordF ws x2) = x := ⟨_, rfl⟩
        rw [hxx] at HFin ⊢
        clear hxx
        have HNew := Lib.hid (Blk.new wt #[.int .u64 xx] 98)
        have HOw := Lib.hid ((HOq.out.kp hkt (fun _ _ h => h)).alloc (.cells #[.int .u64 xx] 98))
        have HSt := Lib.hid (show w.heap.size ≤ wt.heap.size by have := HKq.out.size; have := hkt.size; omega)
        have HFin2 := Lib.hid (HFin.out wt hkt)
        clear hkt
        go_wp2_with (at_builtin; refine wpList_append1_at rfl _ _ 141 98 rfl Try.underlying141 HI.out rfl HOw.out rfl ⟨wt.heap.size, 0, none⟩ (.int .u64 xx) rfl (HNew.out.cell rfl) rfl ?d1 ?d2 ?d3 ?_)
        case d1 => rw [uv_length, HWl.out]; omega
        case d2 => rw [uv_length, HWl.out]; unfold maxLen; omega
        case d3 => have := HSt.out; simp; omega
        intro v' w2 hO3 hg2 hat2
        have HR2 := Lib.hid (HFin2.out v' w2 hO3 hg2)
        clear hO3 hg2 hat2 HNew HOw HFin HFin2
        go_wp2_with fail
        go_roundw
        case rel => exact ⟨k + 1, by go_num, by omega, HRw3.out, HR2.out.1, HR2.out.2⟩
        case measure => simp [intOf]; omega
    · obtain rfl : k = n := by omega
      have HE := Lib.hid (show ∃ ws, Own wp w.heap.size 98 u5 (uv ws) ∧ BitsOf ws (valsOf N ins) from ⟨ws, HO.out, by unfold valsOf; rw [HN.out]; exact HBs.out⟩)
      go_wp2_with fail
      go_ret
      exact ⟨_, rfl, HE.out, HK.out⟩

end Go.Proofs.Ytnoknecfdnjomaa

/-
  latchetref17.Brought, step.brought.
-/
namespace Go.Proofs.Ytnoknecfdnjomaa
open Go.RowKit

def brought (l : List Bool) (n : Nat) : List Bool := (List.range n).map (vb l)
theorem brought_len (l : List Bool) (n : Nat) : (brought l n).length = n := by simp [brought]
end Go.Proofs.Ytnoknecfdnjomaa

/-
  sim: Lane, Pack, Eval.
-/
namespace Go.Proofs.Ytnoknecfdnjomaa
open Go.RowKit

theorem u64_and1 (x : Int) (h0 : 0 ≤ x) (h1 : x < 18446744073709551616) : bits .and .u64 x 1 = x % 2 := by
  obtain ⟨a, rfl⟩ : ∃ a : Nat, x = (a : Int) := ⟨x.toNat, by omega⟩
  have := bits_and_u64_nat a 1 (by omega) (by decide)
  rw [show (1 : Int) = ((1 : Nat) : Int) from rfl, this, Nat.and_one_is_mod]
  omega

/-- a row of n truths, of which the first k are told -/
def laid (vals : List Bool) (n k : Nat) : List Bool := vals.take k ++ List.replicate (n - k) false
theorem laid_zero (vals : List Bool) (n : Nat) : laid vals n 0 = List.replicate n false := by simp [laid]
theorem laid_len {vals : List Bool} {n k : Nat} (hn : vals.length = n) (h : k ≤ n) : (laid vals n k).length = n := by unfold laid; simp; omega
theorem laid_full {vals : List Bool} {n : Nat} (hn : vals.length = n) : laid vals n n = vals := by unfold laid; simp [← hn]
theorem laid_step {vals : List Bool} {n k : Nat} (hn : vals.length = n) (h : k < n) : (laid vals n k).set k (vb vals k) = laid vals n (k + 1) := by
  unfold laid
  have hl : (vals.take k).length = k := by simp; omega
  rw [List.set_append_right _ _ (by omega), hl, Nat.sub_self, show n - k = (n - (k + 1)) + 1 by omega, List.replicate_succ, List.set_cons_zero]
  rw [List.take_succ_eq_append_getElem (by omega)]
  unfold vb
  rw [List.getElem?_eq_getElem (by omega)]
  simp only [List.append_assoc, List.singleton_append, Option.getD_some]
theorem bv_rep (n : Nat) : bv (List.replicate n false) = rowF (fun _ => .bool false) n := by
  unfold bv rowF
  rw [List.map_replicate]
  apply List.ext_getElem
  · simp
  · intro i h1 h2; simp
theorem bv_set (l : List Bool) (j : Nat) (x : Bool) : (bv l).set j (.bool x) = bv (l.set j x) := by unfold bv; rw [List.map_set]

theorem made_bools0 {w : World} {base n : Nat} (hn : n ≤ maxLen) (hb : base ≤ w.heap.size) : Own (w.alloc (.cells (madeCells #[.bool false] n) 4)) base 4 (.slice (some ⟨w.heap.size, 0, none⟩) n n) (bv (List.replicate n false)) := by
  rw [bv_rep]
  have hl : (rowF (fun _ => Value.bool false) n).length = n := rowF_length _ _
  have := Own.lit (w := w.alloc (.cells (madeCells #[.bool false] n) 4)) (base := base) (g := w.heap.size) (e := 4) (cs := rowF (fun _ => Value.bool false) n) (by rw [← made_row]; exact Blk.new _ _ _) hb (by rw [hl]; exact hn)
  rw [hl] at this
  exact this

set_option maxRecDepth 100000 in
theorem sim_Lane (a : Option Addr) (n c : Nat) (ws : List Int) (vals : List Bool) (w : World) (hr : RowAt w a (uv ws)) (hn : ws.length = n) (hm : n ≤ 20000000) (hb : BitsOf ws vals) :
    Calls Try.prog 88 #[.slice a n c, .int .i64 0] w fun e w' => ∃ v, e = .returned v ∧ Own w' w.heap.size 4 v (bv vals) ∧ Kp (fun _ => False) w w' := by
  obtain ⟨i0, hi0, hz0, hz1, hz2⟩ := info_parts (show (Try.prog.info? 4).map (fun i => (i.zero, i.size, i.bytes)) = some (some (.bool false), 1, 1) by kernel_rfl)
  have hmk : ∀ u : World, (Instr.makeSlice 24 (.int .i64 (n : Int)) (.int .i64 (n : Int))).run Try.prog u =
      .ok (.slice (some ⟨u.heap.size, 0, none⟩) n n) (u.alloc (.cells (madeCells #[.bool false] n) 4)) := fun u => by
    have h := run_make (P := Try.prog) u 24 4 i0 (.bool false) Try.underlying24 hi0 hz0 .i64 .i64 (n : Int) (n : Int) (by omega) (Int.le_refl _) (by rw [hz2]; omega) (by omega)
    simpa [hz1, Value.cells] using h
  clear hi0 hz0 hz1 hz2 i0
  have HR := Lib.hid hr
  have HN := Lib.hid hn
  have HB := Lib.hid hb
  have HVn := Lib.hid (show vals.length = n by rw [← hb.1]; exact hn)
  obtain ⟨wz, hwz⟩ : ∃ wz : World, wz = w.alloc (.cells (madeCells #[.bool false] n) 4) := ⟨_, rfl⟩
  have HK0 := Lib.hid (show Kp (fun _ => False) w wz by rw [hwz]; exact (Kp.refl _ w).alloc _)
  have HO0 : Hid (Own wz w.heap.size 4 (.slice (some ⟨w.heap.size, 0, none⟩) n n) (bv (laid vals n 0))) := Lib.hid (by rw [hwz, laid_zero]; exact made_bools0 (by unfold maxLen; omega) (Nat.le_refl _))
  have HZ := Lib.hid hwz
  clear hr hn hb hwz
  go_enter Try.func88, Try.ntmps88
  go_upto_region 4 with fail
  rw [← HZ.out]
  clear HZ hmk
  go_wp2_with fail
  go_loopw [19] (fun v19 wr => ∃ k : Nat, v19 = .int .i64 k ∧ k ≤ n ∧ Own wr w.heap.size 4 (.slice (some ⟨w.heap.size, 0, none⟩) n n) (bv (laid vals n k)) ∧ Kp (fun _ => False) w wr) (fun v19 _ => n - (intOf v19).toNat)
  case atStart => exact ⟨0, rfl, by omega, HO0.out, HK0.out⟩
  case round =>
    obtain ⟨k, rfl, hk, hO, hK⟩ := hrel
    clear HO0 HK0
    obtain ⟨wp, rfl⟩ : ∃ wp : World, wp = wr := ⟨_, rfl⟩
    have HO := Lib.hid hO
    have HK := Lib.hid hK
    clear hO hK
    by_cases hlt : k < n
    · obtain ⟨b, off, rfl, e0⟩ := (HR.out.kp HK.out (fun _ _ h => h)) k _ (uv_at (by rw [HN.out]; exact hlt))
      have hbx := HB.out.2 k (by rw [HN.out]; exact hlt)
      obtain ⟨x, hx⟩ : ∃ x, gi ws k = x := ⟨_, rfl⟩
      rw [hx] at e0 hbx
      have x0 := hbx.lo
      have x1 := hbx.hi
      have hand : bits .and .u64 x 1 = x % 2 := u64_and1 x x0 x1
      have HBx := Lib.hid hbx
      have i0 : (0 : Int) ≤ (k : Int) := by omega
      have i2 : (k : Int) < (n : Int) := by omega
      have ck := HO.out.cell (j := k) (bv_at (by rw [laid_len HVn.out hk]; exact hlt))
      have fk := HO.out.free k
      have HOs := Lib.hid (HO.out.set k (.bool (vb vals k)))
      clear hx hbx
      cases hv : vb vals k with
      | true =>
        have hp : x % 2 = 1 := by have := HBx.out.bit; rw [hv] at this; exact of_decide_eq_true this
        have e1 : (x % 2 == 1) = true := by simp [hp]
        have HR2 := Lib.hid (show Own (wp.setCell ⟨w.heap.size, k, none⟩ (.bool true)) w.heap.size 4 (.slice (some ⟨w.heap.size, 0, none⟩) n n) (bv (laid vals n (k + 1))) ∧ Kp (fun _ => False) w (wp.setCell ⟨w.heap.size, k, none⟩ (.bool true)) from by
          have h1 := HOs.out
          rw [bv_set, laid_step HVn.out hlt, hv] at h1
          exact ⟨h1, HK.out.setCell (p := ⟨w.heap.size, k, none⟩) (fun hl => by have h3 : w.heap.size < w.heap.size := hl; omega) _⟩)
        clear hp HOs
        go_wp2_with fail
        go_roundw
        case rel => exact ⟨k + 1, by go_num, by omega, HR2.out⟩
        case measure => simp [intOf]; omega
      | false =>
        have hp : ¬ x % 2 = 1 := by have := HBx.out.bit; rw [hv] at this; exact of_decide_eq_false this
        have e1 : (x % 2 == 1) = false := by simp [hp]
        have HR2 := Lib.hid (show Own (wp.setCell ⟨w.heap.size, k, none⟩ (.bool false)) w.heap.size 4 (.slice (some ⟨w.heap.size, 0, none⟩) n n) (bv (laid vals n (k + 1))) ∧ Kp (fun _ => False) w (wp.setCell ⟨w.heap.size, k, none⟩ (.bool false)) from by
          have h1 := HOs.out
          rw [bv_set, laid_step HVn.out hlt, hv] at h1
          exact ⟨h1, HK.out.setCell (p := ⟨w.heap.size, k, none⟩) (fun hl => by have h3 : w.heap.size < w.heap.size := hl; omega) _⟩)
        clear hp HOs
        go_wp2_with fail
        go_roundw
        case rel => exact ⟨k + 1, by go_num, by omega, HR2.out⟩
        case measure => simp [intOf]; omega
    · obtain rfl : k = n := by omega
      have HE := Lib.hid (show Own wp w.heap.size 4 (.slice (some ⟨w.heap.size, 0, none⟩) k k) (bv vals) from by have := HO.out; rw [laid_full HVn.out] at this; exact this)
      go_wp2_with fail
      go_ret
      exact ⟨_, rfl, HE.out, HK.out⟩

end Go.Proofs.Ytnoknecfdnjomaa

/-
  latchetref11.Net.
-/
namespace Go.Proofs.Ytnoknecfdnjomaa
open Go.RowKit

end Go.Proofs.Ytnoknecfdnjomaa

/-
  latchetref07.Values.
-/
namespace Go.Proofs.Ytnoknecfdnjomaa
open Go.RowKit

end Go.Proofs.Ytnoknecfdnjomaa

/-
  A circuit's machine: what it computes, plainly; where it lies; latchetref17.New.
-/
namespace Go.Proofs.Ytnoknecfdnjomaa
open Go.RowKit

def insOf (C : Circ) (s i : List Bool) : List Bool := brought i C.ins.length ++ brought s C.lats.length
theorem insOf_len (C : Circ) (s i : List Bool) : (insOf C s i).length = C.ins.length + C.lats.length := by unfold insOf; rw [List.length_append, brought_len, brought_len]
def valsM (C : Circ) (s i : List Bool) : List Bool := valsOf (netOf C).1 (insOf C s i)
def litM (C : Circ) (s i : List Bool) (l : Int) : Bool := litN (valsM C s i) (ofN (netOf C).2 l)
def nextM (C : Circ) (s i : List Bool) : List Bool := C.lats.map (fun x => litM C s i x.2.1)
def holdsM (C : Circ) (s i : List Bool) : Bool := C.cons.all (litM C s i)
def badM (C : Circ) (s i : List Bool) (p : Int) : Bool := decide (0 ≤ p ∧ p < (C.bads.length : Int)) && litM C s i (gi C.bads p.toNat)
/-- latch k may begin as x -/
def startOk (r : Int) (x : Bool) : Bool := !(decide (r = 0) && x) && !(decide (r = 1) && !x)
def startsM (C : Circ) (s : List Bool) : Bool := decide (s.length = C.lats.length) && (List.range s.length).all (fun k => startOk (g3 C.lats k).2.2 (vb s k))
/-- the state at step k -/
def stateM (C : Circ) (start : List Bool) (rows : List (List Bool)) : Nat → List Bool
  | 0 => brought start C.lats.length
  | k + 1 => nextM C (stateM C start rows k) (rows[k]?.getD [])
/-- what is known of a variable that is placed -/
theorem lit_place {C : Circ} (h : GoodC C) {l : Int} (hl : l ∈ C.used) : 0 ≤ l ∧ (l / 2).toNat < (netOf C).2.length ∧ 0 ≤ gi (netOf C).2 (l / 2).toNat ∧ gi (netOf C).2 (l / 2).toNat % 2 = 0 ∧ gi (netOf C).2 (l / 2).toNat ≤ 2 * ((netOf C).1.length : Int) ∧ 0 ≤ ofN (netOf C).2 l ∧ ofN (netOf C).2 l ≤ 2 * ((netOf C).1.length : Int) + 1 := by
  have hi := netG_inv h (ordO C.gates).length (Nat.le_refl _)
  have hr := h.rng.use l hl
  have hmx := h.mx
  have hsz : (netOf C).2.length = MX C + 1 := hi.size
  have hd : DG C (ordO C.gates).length (l / 2).toNat := by
    have hn := h.known l hl
    unfold knownB at hn
    simp only [Bool.or_eq_true, decide_eq_true_eq, List.any_eq_true] at hn
    rcases hn with e | ⟨y, hy, e⟩
    · left; omega
    · unfold Circ.owned at hy
      rcases List.mem_append.1 hy with hy | hy
      · rcases List.mem_append.1 hy with hy | hy
        · exact .inr (.inl ⟨y, hy, by rw [e]⟩)
        · exact .inr (.inr (.inl ⟨y, hy, by rw [e]⟩))
      · obtain ⟨g, hg, rfl⟩ := List.mem_map.1 hy
        obtain ⟨i, hi⟩ := List.mem_iff_getElem?.1 hg
        have hil : i < C.gates.length := (List.getElem?_eq_some_iff.1 hi).1
        have hgi : g3 C.gates i = g := by unfold g3; rw [hi]; rfl
        refine .inr (.inr (.inr ⟨i, ?_, by rw [hgi, e]⟩))
        rw [List.take_length]
        refine Classical.byContradiction fun hm => ?_
        have hA := ordO_at C.gates
        have := nodup_lt hA.nd hA.lt hil hm
        rw [h.ord] at this
        omega
  have h1 := ofL_ok hi hr.1 (by omega) hd
  have h2 := hi.val (l / 2).toNat (by omega)
  refine ⟨hr.1, by omega, h1.1, h1.2.1, ?_, h1.2.2.2.1, h1.2.2.2.2⟩
  rcases h2 with h2 | h2
  · have := h1.1
    unfold netOf at this ⊢
    omega
  · exact h2.2.2

/-- where a machine lies -/
structure MAt (w : World) (t : TypeId) (V : CV) (C : Circ) (p : Nat) (a4 : Option Addr) (c4 : Nat) (a5 : Option Addr) (c5 : Nat) : Prop where
  blk : Blk w p (cvals V C ++ #[.slice a4 (netOf C).1.length c4, .slice a5 (netOf C).2.length c5]) t
  circ : CAt w V C
  net : RowAt w a4 ((netOf C).1.map pr2).flatten
  ats : RowAt w a5 (iv (netOf C).2)

theorem MAt.kp {w w' : World} {t : TypeId} {V : CV} {C : Circ} {p : Nat} {a4 a5 : Option Addr} {c4 c5 : Nat} (h : MAt w t V C p a4 c4 a5 c5) (k : Kp (fun _ => False) w w') : MAt w' t V C p a4 c4 a5 c5 :=
  ⟨h.blk.kp k (fun h => h), h.circ.kp k, h.net.kp k (fun _ _ h => h), h.ats.kp k (fun _ _ h => h)⟩

/-- what Net tells, as slices -/
def NetP (C : Circ) (w : World) (e : Ending) (w' : World) : Prop := ∃ a4 c4 a5 c5, e = .returned (.tuple #[.slice a4 (netOf C).1.length c4, .slice a5 (netOf C).2.length c5]) ∧ RowAt w' a4 ((netOf C).1.map pr2).flatten ∧ RowAt w' a5 (iv (netOf C).2) ∧ Kp (fun _ => False) w w'
theorem NetP.of {C : Circ} {w : World} {e : Ending} {w' : World} (h : ∃ v4 v5, e = .returned (.tuple #[v4, v5]) ∧ OwnK w' w.heap.size 111 2 v4 ((netOf C).1.map pr2) ∧ Own w' w.heap.size 3 v5 (iv (netOf C).2) ∧ Kp (fun _ => False) w w') : NetP C w e w' := by
  obtain ⟨v4, v5, rfl, h4, h5, hK⟩ := h
  obtain ⟨a4, c4, e4, -, -, -, -, hr4⟩ := h4.form
  obtain ⟨a5, c5, e5, -, -, -, hr5⟩ := h5.form
  rw [List.length_map] at e4
  rw [iv_length] at e5
  subst e4
  subst e5
  exact ⟨a4, c4, a5, c5, rfl, hr4, hr5, hK⟩

end Go.Proofs.Ytnoknecfdnjomaa

/-
  latchetref17.Lit.
-/
namespace Go.Proofs.Ytnoknecfdnjomaa
open Go.RowKit

end Go.Proofs.Ytnoknecfdnjomaa

/-
  latchetref17: Next, Holds, Bad.
-/
namespace Go.Proofs.Ytnoknecfdnjomaa
open Go.RowKit

/-- a row of truths that a call is handed -/
structure BS (w : World) (a : Option Addr) (n : Nat) (l : List Bool) : Prop where
  row : RowAt w a (bv l)
  len : l.length = n
  most : n ≤ 100000000
theorem BS.kp {w w' : World} {a : Option Addr} {n : Nat} {l : List Bool} (h : BS w a n l) (k : Kp (fun _ => False) w w') : BS w' a n l := ⟨h.row.kp k (fun _ _ h => h), h.len, h.most⟩

theorem lat_used {C : Circ} {k : Nat} (h : k < C.lats.length) : (g3 C.lats k).2.1 ∈ C.used := by
  have hm : (g3 C.lats k).2.1 ∈ C.lats.map (fun x => x.2.1) := List.mem_map.2 ⟨_, g3_mem h, rfl⟩
  unfold Circ.used
  simp only [List.mem_append]
  exact .inl (.inr hm)
theorem gi_mem {l : List Int} {k : Nat} (h : k < l.length) : gi l k ∈ l := by unfold gi; rw [List.getElem?_eq_getElem h]; exact List.getElem_mem _
theorem bad_used {C : Circ} {k : Nat} (h : k < C.bads.length) : gi C.bads k ∈ C.used := by
  have hm := gi_mem h
  unfold Circ.used
  simp only [List.mem_append]
  exact .inl (.inl (.inl (.inr hm)))

theorem nextM_len (C : Circ) (st ip : List Bool) : (nextM C st ip).length = C.lats.length := by unfold nextM; simp

theorem all_range_lt {f : Nat → Bool} {k n : Nat} (h : k < n) (hf : f k = false) : (List.range n).all f = false := by
  rw [List.all_eq_false]; exact ⟨k, List.mem_range.2 h, by rw [hf]; simp⟩
theorem all_range_succ (f : Nat → Bool) (k : Nat) : (List.range (k + 1)).all f = ((List.range k).all f && f k) := by
  rw [List.range_succ, List.all_append]; simp

end Go.Proofs.Ytnoknecfdnjomaa

/-
  explore.bits, explore.number; latchetref17.bits, number, power.
-/
namespace Go.Proofs.Ytnoknecfdnjomaa
open Go.RowKit

/-- the first k of m bits laid -/
def bitsK (n m k : Nat) : List Bool := bitsP n k ++ List.replicate (m - k) false
theorem bitsK_len {n m k : Nat} (h : k ≤ m) : (bitsK n m k).length = m := by unfold bitsK; rw [List.length_append, bitsP_len, List.length_replicate]; omega
theorem bitsK_set {n m k : Nat} (h : k < m) : (bitsK n m k).set k (decide (n / 2 ^ k % 2 = 1)) = bitsK n m (k + 1) := by
  unfold bitsK
  obtain ⟨d, hd⟩ : ∃ d, m - k = d + 1 := ⟨m - k - 1, by omega⟩
  rw [hd, show m - (k + 1) = d by omega, List.set_append, bitsP_len, if_neg (Nat.lt_irrefl k), Nat.sub_self, bitsP_succ, List.append_assoc, List.replicate_succ]
  rfl

set_option maxRecDepth 100000 in
set_option maxHeartbeats 2000000 in
theorem ex_bits (n m : Nat) (hn : n < 2 ^ m) (hm : m ≤ 20) (w : World) :
    Calls Try.prog 23 #[.int .i64 n, .int .i64 m] w fun e w' => ∃ v, e = .returned v ∧ Own w' w.heap.size 4 v (bv (bitsP n m)) ∧ Kp (fun _ => False) w w' := by
  obtain ⟨i0, hi0, hz0, hz1, hz2⟩ := info_parts (show (Try.prog.info? 4).map (fun i => (i.zero, i.size, i.bytes)) = some (some (.bool false), 1, 1) by kernel_rfl)
  have hmk : ∀ u : World, (Instr.makeSlice 24 (.int .i64 (m : Int)) (.int .i64 (m : Int))).run Try.prog u =
      .ok (.slice (some ⟨u.heap.size, 0, none⟩) m m) (u.alloc (.cells (madeCells #[.bool false] m) 4)) := fun u => by
    have h := run_make (P := Try.prog) u 24 4 i0 (.bool false) Try.underlying24 hi0 hz0 .i64 .i64 (m : Int) (m : Int) (by omega) (Int.le_refl _) (by rw [hz2]; omega) (by omega)
    simpa [hz1, Value.cells] using h
  clear hi0 hz0 hz1 hz2 i0
  obtain ⟨wz, hwz⟩ : ∃ wz : World, wz = w.alloc (.cells (madeCells #[.bool false] m) 4) := ⟨_, rfl⟩
  have HK0 := Lib.hid (show Kp (fun _ => False) w wz by rw [hwz]; exact (Kp.refl _ w).alloc _)
  have HO0 : Hid (Own wz w.heap.size 4 (.slice (some ⟨w.heap.size, 0, none⟩) m m) (bv (bitsK n m 0))) := Lib.hid (by rw [hwz]; exact made_bools0 (by unfold maxLen; omega) (Nat.le_refl _))
  have HZ := Lib.hid hwz
  have hn9 : n < 1048576 := Nat.lt_of_lt_of_le hn (by have := Nat.pow_le_pow_right (n := 2) (by decide) hm; exact this)
  clear hwz
  go_enter Try.func23, Try.ntmps23
  go_upto_region 2 with fail
  rw [← HZ.out]
  clear HZ hmk
  go_wp2_with fail
  go_loopw [11] (fun v11 wr => ∃ k : Nat, v11 = .int .i64 (k : Int) ∧ k ≤ m ∧ Own wr w.heap.size 4 (.slice (some ⟨w.heap.size, 0, none⟩) m m) (bv (bitsK n m k)) ∧ Kp (fun _ => False) w wr) (fun v11 _ => m - (intOf v11).toNat)
  case atStart => exact ⟨0, rfl, Nat.zero_le _, HO0.out, HK0.out⟩
  case round =>
    clear HO0 HK0
    obtain ⟨k, rfl, hk, hO, hK⟩ := hrel
    have HO := Lib.hid hO
    have HK := Lib.hid hK
    clear hO hK
    obtain ⟨wp, rfl⟩ : ∃ wp : World, wp = wr := ⟨_, rfl⟩
    by_cases hlt : k < m
    · have k0 : (0 : Int) ≤ (k : Int) := by omega
      have k1 : (k : Int) < (m : Int) := by omega
      have hk9 : k ≤ 20 := by omega
      have c0 := HO.out.cell (j := k) (u := .bool (vb (bitsK n m k) k)) (bv_at (by rw [bitsK_len hk]; exact hlt))
      have f0 := HO.out.free k
      have hb : (bits .and .i64 ((n : Int) / 2 ^ k) 1 == 1) = decide (n / 2 ^ k % 2 = 1) := by
        have e1 : (n : Int) / 2 ^ k = ((n / 2 ^ k : Nat) : Int) := by push_cast; rfl
        have e2 : n / 2 ^ k ≤ n := Nat.div_le_self _ _
        rw [e1]
        generalize n / 2 ^ k = q at e2 ⊢
        rw [i64_and1 _ (by omega) (by omega)]
        by_cases e : q % 2 = 1
        · rw [decide_eq_true e]; simp; omega
        · rw [decide_eq_false e]; simp; omega
      have HB := Lib.hid hb
      clear hb
      go_wp2_with fail
      rw [HB.out]
      refine ⟨⟨k + 1, by go_num, hlt, ?_, HK.out.setCell (fun h => absurd h (Nat.lt_irrefl _)) _⟩, by simp [intOf]; omega⟩
      have := HO.out.set k (.bool (decide (n / 2 ^ k % 2 = 1)))
      rw [← bitsK_set hlt]
      unfold bv at this ⊢
      rw [List.map_set]
      exact this
    · have hk' : k = m := by omega
      have hno : decide ((k : Int) < (m : Int)) = false := by simp; omega
      go_wp2_with fail
      go_ret
      have := HO.out
      rw [hk'] at this
      unfold bitsK at this
      rw [Nat.sub_self, List.replicate_zero, List.append_nil] at this
      exact ⟨_, rfl, this, HK.out⟩

theorem or_pow {a i : Nat} (h : a < 2 ^ i) : a ||| 2 ^ i = a + 2 ^ i := by
  have := Nat.two_pow_add_eq_or_of_lt h 1
  rw [Nat.mul_one] at this
  rw [Nat.or_comm, ← this, Nat.add_comm]

theorem i64_or_pow {a i : Nat} (h : a < 2 ^ i) (hi : i ≤ 20) : bits .or .i64 (a : Int) (2 ^ i) = ((a + 2 ^ i : Nat) : Int) := by
  have hp : 2 ^ i ≤ 1048576 := by have := Nat.pow_le_pow_right (n := 2) (by decide) hi; exact this
  obtain ⟨b, hb⟩ : ∃ b : Nat, 2 ^ i = b := ⟨_, rfl⟩
  have ho := or_pow h
  have e0 : ((2 : Int) ^ i) = ((2 ^ i : Nat) : Int) := by push_cast; rfl
  rw [e0]
  rw [hb] at h hp ho ⊢
  have e1 : ∀ x : Nat, x < 18446744073709551616 → (BitVec.ofInt 64 (x : Int)).toNat = x := fun x hx => by
    rw [BitVec.ofInt_natCast, BitVec.toNat_ofNat]; exact Nat.mod_eq_of_lt hx
  show IntKind.i64.wrap ((BitVec.ofInt 64 (a : Int) ||| BitVec.ofInt 64 (b : Int)).toNat : Int) = _
  rw [BitVec.toNat_or, e1 a (by omega), e1 b (by omega), ho, IntKind.wrap_i64]
  omega

set_option maxRecDepth 100000 in
set_option maxHeartbeats 2000000 in
theorem ex_number (a : Option Addr) (m c : Nat) (l : List Bool) (w : World) (hr : RowAt w a (bv l)) (hl : l.length = m) (hm : m ≤ 20) :
    Calls Try.prog 41 #[.slice a m c] w fun e w' => e = .returned (.int .i64 (numP l)) ∧ w = w' := by
  have HR := Lib.hid hr
  have HL := Lib.hid hl
  clear hr hl
  go_enter Try.func41, Try.ntmps41
  go_wp2_with fail
  go_loop [3, 8] (fun v3 v8 => ∃ k x : Nat, v8 = .int .i64 (k : Int) ∧ k ≤ m ∧ v3 = .int .i64 (x : Int) ∧ x = numP (l.take k)) (fun _ v8 => m - (intOf v8).toNat)
  case atStart => exact ⟨0, 0, rfl, Nat.zero_le _, rfl, rfl⟩
  case round =>
    obtain ⟨k, x, rfl, hk, rfl, hx⟩ := hrel
    have HX := Lib.hid hx
    by_cases hlt : k < m
    · have hkl : k < l.length := by rw [HL.out]; exact hlt
      obtain ⟨b, off, rfl, hcell⟩ := HR.out k _ (bv_at hkl)
      have HT := Lib.hid (show numP (l.take (k + 1)) = numP (l.take k) + (if vb l k = true then 2 ^ k else 0) by
        rw [List.take_succ_eq_append_getElem hkl, numP_snoc, List.length_take, Nat.min_eq_left (Nat.le_of_lt hkl)]
        unfold vb
        rw [List.getElem?_eq_getElem hkl]; rfl)
      obtain ⟨y, hy⟩ : ∃ y, vb l k = y := ⟨_, rfl⟩
      rw [hy] at hcell HT
      have hx2 : x < 2 ^ k := by
        rw [hx]
        have := numP_lt (l.take k)
        rw [List.length_take, Nat.min_eq_left (Nat.le_of_lt hkl)] at this
        exact this
      have HO := Lib.hid (i64_or_pow hx2 (by omega))
      have HW := Lib.hid (show wrap64 ((2 : Int) ^ k) = 2 ^ k by
        have hp : 2 ^ k ≤ 1048576 := by have := Nat.pow_le_pow_right (n := 2) (by decide) (show k ≤ 20 by omega); exact this
        have e0 : ((2 : Int) ^ k) = ((2 ^ k : Nat) : Int) := by push_cast; rfl
        rw [e0]
        generalize 2 ^ k = b at hp ⊢
        unfold wrap64; omega)
      have i0 : (0 : Int) ≤ (k : Int) := by omega
      have i1 : (k : Int) < (m : Int) := by omega
      clear hx hy hkl hx2
      cases y with
      | true =>
        go_wp2_with fail
        rw [HW.out, HO.out]
        exact ⟨⟨k + 1, x + 2 ^ k, by go_num, hlt, rfl, by rw [HT.out, HX.out, if_pos rfl]⟩, by simp [intOf]; omega⟩
      | false =>
        go_wp2_with fail
        go_round
        case rel => exact ⟨k + 1, x, by go_num, hlt, rfl, by rw [HT.out, HX.out]; simp⟩
        case measure => simp [intOf]; omega
    · have hk' : k = m := by omega
      have HE := Lib.hid (show x = numP l by rw [hx, hk', ← HL.out, List.take_length])
      have hno : decide ((k : Int) < (m : Int)) = false := by simp; omega
      clear hx hk'
      go_wp2_with fail
      go_ret
      exact ⟨by rw [HE.out]; rfl, rfl⟩

end Go.Proofs.Ytnoknecfdnjomaa

/-
  sim: Pack of one row, Eval.
-/
namespace Go.Proofs.Ytnoknecfdnjomaa
open Go.RowKit

def b1 (b : Bool) : Int := if b then 1 else 0
/-- m words, of which the first k have their values -/
def pk (ins : List Bool) (m k : Nat) : List Int := (ins.take k).map b1 ++ List.replicate (m - k) 0
theorem pk_zero (ins : List Bool) (m : Nat) : pk ins m 0 = List.replicate m 0 := by simp [pk]
theorem pk_len {ins : List Bool} {m k : Nat} (hn : ins.length = m) (h : k ≤ m) : (pk ins m k).length = m := by unfold pk; simp; omega
theorem pk_full {ins : List Bool} {m : Nat} (hn : ins.length = m) : pk ins m m = ins.map b1 := by unfold pk; simp [← hn]
theorem pk_gi {ins : List Bool} {m k : Nat} (hn : ins.length = m) (h : k < m) : gi (pk ins m k) k = 0 := by
  unfold pk gi
  have hl : ((ins.take k).map b1).length = k := by simp; omega
  rw [List.getElem?_append_right (by omega), hl, Nat.sub_self, List.getElem?_replicate, if_pos (by omega)]; rfl
theorem pk_step {ins : List Bool} {m k : Nat} (hn : ins.length = m) (h : k < m) : (pk ins m k).set k (b1 (vb ins k)) = pk ins m (k + 1) := by
  unfold pk
  have hl : ((ins.take k).map b1).length = k := by simp; omega
  rw [List.set_append_right _ _ (by omega), hl, Nat.sub_self, show m - k = (m - (k + 1)) + 1 by omega, List.replicate_succ, List.set_cons_zero]
  rw [List.take_succ_eq_append_getElem (by omega), List.map_append]
  unfold vb
  rw [List.getElem?_eq_getElem (by omega)]
  simp only [List.append_assoc, List.singleton_append, Option.getD_some, List.map_cons, List.map_nil]
theorem pk_same {ins : List Bool} {m k : Nat} (hn : ins.length = m) (h : k < m) (hv : vb ins k = false) : pk ins m (k + 1) = pk ins m k := by
  rw [← pk_step hn h, hv]
  have hg := pk_gi hn h
  have hl := pk_len hn (Nat.le_of_lt h)
  apply List.ext_getElem?
  intro i
  rw [List.getElem?_set]
  by_cases e : k = i
  · subst e
    rw [if_pos rfl, if_pos (by omega)]
    unfold gi at hg
    rw [List.getElem?_eq_getElem (by omega)] at hg ⊢
    have : (pk ins m k)[k]'(by omega) = 0 := hg
    rw [this]; rfl
  · rw [if_neg e]
theorem uv_set (l : List Int) (j : Nat) (x : Int) : (uv l).set j (.int .u64 x) = uv (l.set j x) := by unfold uv; rw [List.map_set]

theorem pk_bits (ins : List Bool) : BitsOf (ins.map b1) ins := by
  refine ⟨by simp, fun i hi => ?_⟩
  have hl : i < ins.length := by simpa using hi
  unfold gi vb
  rw [List.getElem?_map, List.getElem?_eq_getElem hl]
  show BitOf (b1 ins[i]) ins[i]
  cases ins[i]
  · exact BitOf.zero
  · exact ⟨by decide, by decide, by decide⟩

set_option maxRecDepth 100000 in
set_option maxHeartbeats 4000000 in
theorem sim_Pack (g : Nat) (b : Option Addr) (m d : Nat) (ins : List Bool) (w : World) (hg : w.cell? ⟨g, 0, none⟩ = some (.slice b m d)) (hr : RowAt w b (bv ins)) (hn : ins.length = m) (hm : m ≤ 10000000) :
    Calls Try.prog 90 #[.slice (some ⟨g, 0, none⟩) 1 1] w fun e w' => ∃ v, e = .returned v ∧ Own w' w.heap.size 98 v (uv (ins.map b1)) ∧ Kp (fun _ => False) w w' := by
  have HI := Lib.hid (show (Try.prog.info? 98).map (fun i => (i.zero, i.size, i.bytes)) = some (some (.int .u64 0), 1, 8) by kernel_rfl)
  have HG := Lib.hid hg
  have HR := Lib.hid hr
  have HN := Lib.hid hn
  clear hr hn hg
  go_enter Try.func90, Try.ntmps90
  go_wp2_with fail
  go_loopw [3, 14] (fun v3 v14 wr => (v14 = .int .i64 0 ∧ v3 = .slice none 0 0 ∧ Kp (fun _ => False) w wr) ∨ (v14 = .int .i64 1 ∧ Own wr w.heap.size 98 v3 (uv (ins.map b1)) ∧ Kp (fun _ => False) w wr)) (fun _ v14 _ => 1 - (intOf v14).toNat)
  case atStart => exact .inl ⟨rfl, rfl, Kp.refl _ _⟩
  case round =>
    rcases hrel with ⟨rfl, rfl, hK⟩ | ⟨rfl, hO, hK⟩
    · obtain ⟨wp, rfl⟩ : ∃ wp : World, wp = wr := ⟨_, rfl⟩
      have HK := Lib.hid hK
      have cg := hK.cellK HG.out
      clear hK
      go_wp2_with fail
      clear cg
      go_loopw [3] (fun v3 wr => ∃ j : Nat, j ≤ m ∧ Own wr w.heap.size 98 v3 (uv (List.replicate j 0)) ∧ Kp (fun _ => False) w wr) (fun v3 _ => m - lenV v3)
      case atStart => exact ⟨0, Nat.zero_le _, Own.nil _ _ _, HK.out⟩
      case round =>
        obtain ⟨j, hj, hO, hK⟩ := hrel
        clear HK
        obtain ⟨wq, rfl⟩ : ∃ wp : World, wp = wr := ⟨_, rfl⟩
        have HO := Lib.hid hO
        have HK := Lib.hid hK
        obtain ⟨av, cv, ev, -, -, -, -⟩ := hO.form
        have hjl : (uv (List.replicate j 0)).length = j := by rw [uv_length]; simp
        rw [hjl] at ev
        subst ev
        clear hO hK
        by_cases hlt : j < m
        · have i0 : (j : Int) < (m : Int) := by omega
          have HNew := Lib.hid (Blk.new wq #[.int .u64 0] 98)
          have HOw := Lib.hid (HO.out.alloc (.cells #[.int .u64 0] 98))
          have HSz := Lib.hid HK.out.size
          go_wp2_with (at_builtin; refine wpList_append1_at rfl _ _ 141 98 rfl Try.underlying141 HI.out rfl HOw.out rfl ⟨wq.heap.size, 0, none⟩ (.int .u64 0) rfl (HNew.out.cell rfl) rfl ?d1 ?d2 ?d3 ?_)
          case d1 => rw [hjl]; omega
          case d2 => rw [hjl]; unfold maxLen; omega
          case d3 => have := HSz.out; simp; omega
          intro v' w2 hO3 hg2 hat2
          have hO4 : Own w2 w.heap.size 98 v' (uv (List.replicate (j + 1) 0)) := by rw [List.replicate_succ', uv_append]; exact hO3
          have HR2 := Lib.hid (show Own w2 w.heap.size 98 v' (uv (List.replicate (j + 1) 0)) ∧ Kp (fun _ => False) w w2 from ⟨hO4, (HK.out.alloc _).grown hg2 (fun i hi hl => by have := (HO.out.lt i hi).1; omega)⟩)
          obtain ⟨av2, cv2, ev2, -⟩ := hO4.form
          have hjl2 : (uv (List.replicate (j + 1) 0)).length = j + 1 := by rw [uv_length]; simp
          rw [hjl2] at ev2
          subst ev2
          clear hO3 hg2 hat2 HNew HOw hO4
          go_wp2_with fail
          go_roundw
          case rel => exact ⟨j + 1, by omega, HR2.out⟩
          case measure => simp [lenV]; omega
        · obtain rfl : j = m := by omega
          have i0 : ¬ (j : Int) < (j : Int) := by omega
          have HO0 := Lib.hid (show Own wq w.heap.size 98 (.slice av j cv) (uv (pk ins j 0)) by rw [pk_zero]; exact HO.out)
          clear HO
          go_wp2_with fail
          go_loopw [29] (fun v29 wr => ∃ q : Nat, v29 = .int .i64 (q : Int) ∧ q ≤ j ∧ Own wr w.heap.size 98 (.slice av j cv) (uv (pk ins j q)) ∧ Kp (fun _ => False) w wr) (fun v29 _ => j - (intOf v29).toNat)
          case atStart => exact ⟨0, rfl, Nat.zero_le _, HO0.out, HK.out⟩
          case round =>
            obtain ⟨q, rfl, hq, hO, hK⟩ := hrel
            clear HK HO0
            obtain ⟨wx, rfl⟩ : ∃ wp : World, wp = wr := ⟨_, rfl⟩
            have HO := Lib.hid hO
            have HK := Lib.hid hK
            clear hO hK
            by_cases hlt : q < j
            · obtain ⟨bb, off, rfl, e0⟩ := (HR.out.kp HK.out (fun _ _ h => h)) q _ (bv_at (by rw [HN.out]; exact hlt))
              have i1 : (0 : Int) ≤ (q : Int) := by omega
              have i2 : (q : Int) < (j : Int) := by omega
              cases hv : vb ins q with
              | true =>
                rw [hv] at e0
                obtain ⟨gv, cv', evv, hgb, -⟩ := HO.out.leads (by rw [uv_length, pk_len HN.out hq]; omega)
                simp only [Value.slice.injEq] at evv
                obtain ⟨rfl, -, -⟩ := evv
                have ck := HO.out.cell (j := q) (uv_at (by rw [pk_len HN.out hq]; exact hlt))
                rw [pk_gi HN.out hlt] at ck
                have fk := HO.out.free q
                have HR2 := Lib.hid (show Own (wx.setCell ⟨gv, q, none⟩ (.int .u64 1)) w.heap.size 98 (.slice (some ⟨gv, 0, none⟩) j cv) (uv (pk ins j (q + 1))) ∧ Kp (fun _ => False) w (wx.setCell ⟨gv, q, none⟩ (.int .u64 1)) from by
                  have h1 := HO.out.set q (.int .u64 1)
                  have h2 := pk_step HN.out hlt
                  rw [hv] at h2
                  rw [uv_set, show (1 : Int) = b1 true from rfl, h2] at h1
                  exact ⟨h1, HK.out.setCell (p := ⟨gv, q, none⟩) (fun hl => by have h3 : gv < w.heap.size := hl; omega) _⟩)
                have hor : bits .or .u64 0 1 = 1 := by decide
                clear HO
                go_upto_region 11 with fail
                go_region
                all_goals go_wp2_with fail
                all_goals exact ⟨⟨q + 1, by go_num, by omega, HR2.out.1.drew, HR2.out.2.drew⟩, by simp [intOf]; omega⟩
              | false =>
                rw [hv] at e0
                have HR2 := Lib.hid (show Own wx w.heap.size 98 (.slice av j cv) (uv (pk ins j (q + 1))) from by rw [pk_same HN.out hlt hv]; exact HO.out)
                go_wp2_with fail
                go_roundw
                case rel => exact ⟨q + 1, by go_num, by omega, HR2.out, HK.out⟩
                case measure => simp [intOf]; omega
            · obtain rfl : q = j := by omega
              have HE := Lib.hid (show Own wx w.heap.size 98 (.slice av q cv) (uv (ins.map b1)) from by have := HO.out; rw [pk_full HN.out] at this; exact this)
              go_wp2_with fail
              go_roundw
              case rel => exact .inr ⟨rfl, HE.out, HK.out⟩
              case measure => simp [intOf]
    · have HO := Lib.hid hO
      have HK := Lib.hid hK
      clear hO hK
      go_wp2_with fail
      go_ret
      exact ⟨_, rfl, HO.out, HK.out⟩

set_option maxRecDepth 100000 in
theorem sim_Eval (a : Option Addr) (n c : Nat) (N : List (Int × Int)) (b : Option Addr) (m d : Nat) (ins : List Bool) (w : World) (hr : RowAt w a (N.map pr2).flatten) (hn : N.length = n) (hm : n ≤ 10000000) (hN : GoodN N) (hi : RowAt w b (bv ins)) (him : ins.length = m) (hmm : m ≤ 10000000) :
    Calls Try.prog 80 #[.slice a n c, .slice b m d] w fun e w' => ∃ v, e = .returned v ∧ Own w' w.heap.size 4 v (bv (valsOf N ins)) ∧ Kp (fun _ => False) w w' := by
  obtain ⟨wz, hwz⟩ : ∃ wz : World, wz = w.alloc (.cells #[.slice b m d] 24) := ⟨_, rfl⟩
  have HK0 := Lib.hid (show Kp (fun _ => False) w wz by rw [hwz]; exact (Kp.refl _ w).alloc _)
  have HP := Lib.hid (sim_Pack w.heap.size b m d ins wz (by rw [hwz]; exact (Blk.new w _ _).cell rfl) (hi.kp HK0.out (fun _ _ h => h)) him hmm)
  have HW := Lib.hid (fun v w1 (hO : Own w1 wz.heap.size 98 v (uv (ins.map b1))) (hK : Kp (fun _ => False) wz w1) => (show ∃ b' d', v = .slice b' m d' ∧ Calls Try.prog 89 #[.slice a n c, .slice b' m d'] w1 fun e w' => ∃ v, e = .returned v ∧ (∃ ws, Own w' w1.heap.size 98 v (uv ws) ∧ BitsOf ws (valsOf N ins)) ∧ Kp (fun _ => False) w1 w' from by
    obtain ⟨b', d', ev, hle, hml, -, hrow⟩ := hO.form
    rw [uv_length, List.length_map, him] at ev hle
    exact ⟨b', d', ev, sim_Words a n c N b' m d' (ins.map b1) ins w1 (hr.kp (HK0.out.trans hK (fun _ _ h => h)) (fun _ _ h => h)) hn hm hN hrow (by rw [List.length_map]; exact him) (by omega) hle hml (pk_bits ins)⟩))
  have HL := Lib.hid (fun v w1 w2 ws (hO : Own w2 w1 98 v (uv ws)) (hB : BitsOf ws (valsOf N ins)) => (show ∃ b' d', v = .slice b' (n + 1) d' ∧ Calls Try.prog 88 #[.slice b' (n + 1) d', .int .i64 0] w2 fun e w' => ∃ v, e = .returned v ∧ Own w' w2.heap.size 4 v (bv (valsOf N ins)) ∧ Kp (fun _ => False) w2 w' from by
    have hl : ws.length = n + 1 := by rw [hB.1, valsOf_len, hn]
    obtain ⟨b', d', ev, hle, hml, -, hrow⟩ := hO.form
    rw [uv_length, hl] at ev
    exact ⟨b', d', ev, sim_Lane b' (n + 1) d' ws (valsOf N ins) w2 hrow hl (by omega) hB⟩))
  have HZ := Lib.hid hwz
  clear hr hn hN hi him hwz
  go_enter Try.func80, Try.ntmps80
  go_wp2_with (go_at_call 90; rw [← HZ.out]; with_reducible refine Calls.mono HP.out ?_; rintro e w1 ⟨v1, rfl, hO1, hK1⟩)
  obtain ⟨b', d', rfl, hC1⟩ := HW.out v1 w1 hO1 hK1
  have HC1 := Lib.hid hC1
  have HK1 := Lib.hid hK1
  clear hC1 hO1 hK1 HP HW
  go_wp2_with (go_at_call 89; with_reducible refine Calls.mono HC1.out ?_; rintro e w2 ⟨v2, rfl, ⟨ws, hO2, hB2⟩, hK2⟩)
  obtain ⟨b2, d2, rfl, hC2⟩ := HL.out v2 _ w2 ws hO2 hB2
  have HC2 := Lib.hid hC2
  have HK2 := Lib.hid hK2
  clear hC2 hO2 hB2 hK2 HL HC1
  go_wp2_with (go_at_call 88; with_reducible refine Calls.mono HC2.out ?_; rintro e w3 ⟨v3, rfl, hO3, hK3⟩)
  have HE := Lib.hid (show Own w3 w.heap.size 4 v3 (bv (valsOf N ins)) ∧ Kp (fun _ => False) w w3 from ⟨hO3.mono (Nat.le_trans HK0.out.size (Nat.le_trans HK1.out.size HK2.out.size)), ((HK0.out.trans HK1.out (fun _ _ h => h)).trans HK2.out (fun _ _ h => h)).trans hK3 (fun _ _ h => h)⟩)
  clear hO3 hK3
  go_wp2_with fail
  go_ret
  exact ⟨_, rfl, HE.out⟩

end Go.Proofs.Ytnoknecfdnjomaa

/-
  latchetref17.States.
-/
namespace Go.Proofs.Ytnoknecfdnjomaa
open Go.RowKit

/-- the states so far -/
structure SL (C : Circ) (st : List Bool) (rows : List (List Bool)) (B : Nat) (k : Nat) (v5 v6 : Value) (wr : World) : Prop where
  own : ∃ vs : List Value, Own wr B 24 v5 vs ∧ vs.length = k ∧ ∀ j, j < k → ∃ x, vs[j]? = some x ∧ Own wr B 4 x (bv (stateM C st rows j))
  now : Own wr B 4 v6 (bv (stateM C st rows k))

theorem SL.kp {C : Circ} {st : List Bool} {rows : List (List Bool)} {B k : Nat} {v5 v6 : Value} {wr w' : World} (h : SL C st rows B k v5 v6 wr) (hk : Kp (fun _ => False) wr w') : SL C st rows B k v5 v6 w' := by
  obtain ⟨⟨vs, h1, h2, h3⟩, h4⟩ := h
  exact ⟨⟨vs, h1.kp hk (fun _ _ h => h), h2, fun j hj => by obtain ⟨x, e, hx⟩ := h3 j hj; exact ⟨x, e, hx.kp hk (fun _ _ h => h)⟩⟩, h4.kp hk (fun _ _ h => h)⟩

end Go.Proofs.Ytnoknecfdnjomaa

/-
  circ.Net.
-/
namespace Go.Proofs.Ytnoknecfdnjomaa
open Go.RowKit

/-- the places before anything is put: the first k are none -/
def blank (m k : Nat) : List Int := 0 :: (List.replicate k (-1) ++ List.replicate (m - k) 0)
theorem blank_zero (m : Nat) : blank m 0 = List.replicate (m + 1) 0 := by unfold blank; simp [List.replicate_succ]
theorem blank_step {m k : Nat} (h : k < m) : (blank m k).set (k + 1) (-1) = blank m (k + 1) := by
  unfold blank
  rw [List.set_cons_succ, List.set_append_right _ _ (by simp)]
  simp only [List.length_replicate, Nat.sub_self]
  rw [show m - k = (m - (k + 1)) + 1 by omega, List.replicate_succ, List.set_cons_zero, List.replicate_succ']
  simp
theorem blank_full (m : Nat) : blank m m = 0 :: List.replicate m (-1) := by unfold blank; simp
theorem iv_rep (n : Nat) : iv (List.replicate n 0) = rowF (fun _ => .int .i64 0) n := by
  unfold iv rowF
  rw [List.map_replicate]
  apply List.ext_getElem
  · simp
  · intro i h1 h2; simp

set_option maxRecDepth 100000 in
set_option maxHeartbeats 4000000 in
theorem circ_Net (V : CV) (C : Circ) (w : World) (h : CAt w V C) (hf : CFew C 1000000) (hg : GoodC C) :
    Calls Try.prog 38 #[.agg (cvals V C)] w fun e w' => ∃ v4 v5, e = .returned (.tuple #[v4, v5]) ∧ OwnK w' w.heap.size 111 2 v4 ((netOf C).1.map pr2) ∧ Own w' w.heap.size 3 v5 (iv (netOf C).2) ∧ Kp (fun _ => False) w w' := by
  obtain ⟨m, hm⟩ : ∃ m, MX C = m := ⟨_, rfl⟩
  obtain ⟨ni, hni⟩ : ∃ n, C.ins.length = n := ⟨_, rfl⟩
  obtain ⟨nl, hnl⟩ : ∃ n, C.lats.length = n := ⟨_, rfl⟩
  obtain ⟨ng, hng⟩ : ∃ n, C.gates.length = n := ⟨_, rfl⟩
  have hmi : C.max = (m : Int) := by rw [← hm]; exact hg.mx.symm
  have hm1 : m ≤ 16777216 := by have := hg.rng.max1; omega
  have hi1 : ni ≤ 1000000 := by have := hf.i; omega
  have hl1 : nl ≤ 1000000 := by have := hf.l; omega
  have hg1 : ng ≤ 1000000 := by have := hf.g; omega
  obtain ⟨i0, hi, hz0, hz1, hz2⟩ := info_parts (show (Try.prog.info? 3).map (fun i => (i.zero, i.size, i.bytes)) = some (some (.int .i64 0), 1, 8) by kernel_rfl)
  have hmk : ∀ u : World, (Instr.makeSlice 22 (.int .i64 ((m : Int) + 1)) (.int .i64 ((m : Int) + 1))).run Try.prog u =
      .ok (.slice (some ⟨u.heap.size, 0, none⟩) (m + 1) (m + 1)) (u.alloc (.cells (madeCells #[.int .i64 0] (m + 1)) 3)) := fun u => by
    have h := run_make (P := Try.prog) u 22 3 i0 (.int .i64 0) Try.underlying22 hi hz0 .i64 .i64 ((m + 1 : Nat) : Int) ((m + 1 : Nat) : Int) (by omega) (Int.le_refl _) (by rw [hz2]; omega) (by omega)
    simpa [hz1, Value.cells] using h
  clear hi hz0 hz1 hz2 i0
  have HU : Hid (cvals V C = #[.int .i64 (m : Int), .slice V.ai ni V.ci, .slice V.al nl V.cl, .slice V.ao C.outs.length V.co, .slice V.ab C.bads.length V.cb, .slice V.ac C.cons.length V.cc, .slice V.ag ng V.cg, .slice V.ay V.ny V.cy, .string V.cm]) := Lib.hid (by unfold cvals; rw [hmi, hni, hnl, hng])
  have HA := Lib.hid h
  have HF := Lib.hid hf
  have HG := Lib.hid hg
  have HMi := Lib.hid hmi
  have HNi := Lib.hid hni
  have HNl := Lib.hid hnl
  have HNg := Lib.hid hng
  obtain ⟨wa, hwa⟩ : ∃ wa : World, wa = w.alloc (.cells (cvals V C) 63) := ⟨_, rfl⟩
  obtain ⟨wz, hwz⟩ : ∃ wz : World, wz = ((wa.alloc (.cells #[.slice none 0 0] 70)).alloc (.cells (madeCells #[.int .i64 0] (m + 1)) 3)).alloc (.cells #[.slice (some ⟨wa.heap.size + 1, 0, none⟩) (m + 1) (m + 1)] 22) := ⟨_, rfl⟩
  have hws : wa.heap.size = w.heap.size + 1 := by rw [hwa]; simp
  have hCa : Blk wa w.heap.size (cvals V C) 63 := by rw [hwa]; exact Blk.new _ _ _
  have hKa : Kp (fun _ => False) w wa := by rw [hwa]; exact (Kp.refl _ w).alloc _
  have c0 : (wa.alloc (.cells #[.slice none 0 0] 70)).cell? ⟨w.heap.size, 0, none⟩ = some (.int .i64 (m : Int)) := (hCa.alloc _).cell (by rw [HU.out]; rfl)
  have HM0 : Hid (NP V C w (w.heap.size + 1) (wa.heap.size + 1 + 1) (wa.heap.size + 1) (m + 1) (m + 1) ([], blank m 0) (.slice none 0 0) wz) := Lib.hid (by
    rw [hwz, ← hws]
    have hB2 : Blk ((wa.alloc (.cells #[.slice none 0 0] 70)).alloc (.cells (madeCells #[.int .i64 0] (m + 1)) 3)) (wa.heap.size + 1) (madeCells #[.int .i64 0] (m + 1)) 3 := two_blk _ _ _ _ _
    refine ⟨OwnK.nil _ _ _ _, ?_, ((Blk.new wa _ _).alloc _).alloc _, ?_, ((hCa.alloc _).alloc _).alloc _, ((hKa.alloc _).alloc _).alloc _, by omega, by omega⟩
    · show Own _ _ _ _ (iv (blank m 0))
      rw [blank_zero, iv_rep]
      have hl : (rowF (fun _ => Value.int .i64 0) (m + 1)).length = m + 1 := rowF_length _ _
      have := Own.lit (base := w.heap.size + 1) (cs := rowF (fun _ => Value.int .i64 0) (m + 1)) (by rw [← made_row]; exact hB2.alloc (.cells #[.slice (some ⟨wa.heap.size + 1, 0, none⟩) (m + 1) (m + 1)] 22)) (by omega) (by rw [hl]; unfold maxLen; omega)
      rw [hl] at this
      exact this
    · have := Blk.new ((wa.alloc (.cells #[.slice none 0 0] 70)).alloc (.cells (madeCells #[.int .i64 0] (m + 1)) 3)) #[.slice (some ⟨wa.heap.size + 1, 0, none⟩) (m + 1) (m + 1)] 22
      simpa using this)
  have HZa := Lib.hid hwa
  have HZ := Lib.hid hwz
  clear h hf hg hm hmi hni hnl hng hwz hwa hws hCa hKa
  go_enter Try.func38, Try.ntmps38
  go_upto_region 2 with fail
  rw [← HZa.out]
  go_upto_region 3 with fail
  rw [← HZ.out]
  generalize wa.heap.size + 1 + 1 = ba at HM0 ⊢
  generalize wa.heap.size + 1 = g at HM0 ⊢
  generalize w.heap.size + 1 = bn at HM0 ⊢
  clear HZ HZa c0 hmk
  go_wp2_with fail
  go_loopw [6] (fun v6 wr => ∃ k : Nat, v6 = .int .i64 ((k : Int) + 1) ∧ k ≤ m ∧ NP V C w bn ba g (m + 1) (m + 1) ([], blank m k) (.slice none 0 0) wr) (fun v6 _ => m + 1 - (intOf v6).toNat)
  case atStart => exact ⟨0, rfl, by omega, HM0.out⟩
  case round =>
    obtain ⟨k, rfl, hk, hM⟩ := hrel
    clear HM0
    obtain ⟨wp, rfl⟩ : ∃ wp : World, wp = wr := ⟨_, rfl⟩
    have HM := Lib.hid hM
    have ca := hM.cells.2.2.2
    by_cases hlt : k < m
    · have i0 : (k : Int) + 1 < ((m + 1 : Nat) : Int) := by omega
      have i1 : (0 : Int) ≤ (k : Int) + 1 := by omega
      have ck := hM.cells.1 (k + 1) (by omega)
      have fk := hM.cells.2.1 (k + 1)
      have HM2 := Lib.hid (hM.put (k + 1) (-1))
      clear hM
      go_wp2_with fail
      go_roundw
      case rel => exact ⟨k + 1, by go_num, by omega, by have := HM2.out; rw [blank_step hlt] at this; exact this⟩
      case measure => simp [intOf]; omega
    · obtain rfl : k = m := by omega
      have i0 : ¬ (k : Int) + 1 < ((k + 1 : Nat) : Int) := by omega
      have hM1 : NP V C w bn ba g (k + 1) (k + 1) (netI C 0) (.slice none 0 0) wp := by
        have := HM.out
        have e : netI C 0 = ([], blank k k) := by unfold netI net0; rw [HMi.out, blank_full]; rfl
        rw [e]; exact this
      have HM1 := Lib.hid hM1
      have c1 := hM1.circ.cell (i := 1) (v := .slice V.ai ni V.ci) (by rw [HU.out]; rfl)
      clear hM hM1 HM
      have hmf : ∀ (fn : Fn) (first cap : Array Value) (w : World), (Instr.makeFunc fn first cap).run Try.prog w = .ok (.func fn first cap) w := fun _ _ _ _ => rfl
      go_wp2_with fail
      clear ca
      go_loopw [33] (fun v33 wr => ∃ q : Nat, v33 = .int .i64 (q : Int) ∧ q ≤ ni ∧ ∃ v4, NP V C w bn ba g (k + 1) (k + 1) (netI C q) v4 wr) (fun v33 _ => ni - (intOf v33).toNat)
      case atStart => exact ⟨0, rfl, by omega, _, HM1.out⟩
      case round =>
        obtain ⟨q, rfl, hq, v4, hM⟩ := hrel
        clear HM1 hlt i0 c1
        obtain ⟨wq, rfl⟩ : ∃ wp : World, wp = wr := ⟨_, rfl⟩
        have HM := Lib.hid hM
        clear hM
        by_cases hlt : q < ni
        · have hql : q < C.ins.length := by rw [HNi.out]; exact hlt
          obtain ⟨b, off, ea, hE⟩ := HA.out.inCell hql
          have hr := HG.out.rng.own (gi C.ins q) (in_own hql)
          rw [HMi.out] at hr
          have HS := Lib.hid (netI_succ hql)
          have HL := Lib.hid (netI_len C q (by omega))
          obtain ⟨x0, hx0⟩ : ∃ x, gi C.ins q = x := ⟨_, rfl⟩
          rw [hx0] at hE hr HS
          have e0 := hE _ HM.out.kp
          have HR := Lib.hid hr
          have i0 : (0 : Int) ≤ (q : Int) := by omega
          have i2 : (q : Int) < (ni : Int) := by omega
          rw [ea]
          clear hx0 ea hr hE hql
          go_wp2_with (go_at_call 64; refine (net_f1 V C w bn ba g (k + 1) (k + 1) q (netI C q) v4 x0 (-1) 0 _ HM.out HL.out (by omega) (by have := HR.out; omega) (by have := HR.out; omega) (by omega)).mono ?_; rintro e w2 ⟨rfl, ⟨v', hP⟩, -⟩)
          have HP := Lib.hid hP
          clear hP e0
          go_wp2_with fail
          go_roundw
          case rel => exact ⟨q + 1, by go_num, by omega, v', by rw [HS.out]; exact HP.out⟩
          case measure => simp [intOf]; omega
        · obtain rfl : q = ni := by omega
          obtain ⟨w3, rfl⟩ : ∃ w3 : World, w3 = wq := ⟨_, rfl⟩
          have HM1 := Lib.hid (show NP V C w bn ba g (k + 1) (k + 1) (netL C 0) v4 w3 by rw [netL_zero, HNi.out]; exact HM.out)
          have c2 := HM1.out.circ.cell (i := 2) (v := .slice V.al nl V.cl) (by rw [HU.out]; rfl)
          clear HM
          go_wp2_with fail
          go_loopw [45] (fun v45 wr => ∃ p : Nat, v45 = .int .i64 (p : Int) ∧ p ≤ nl ∧ ∃ v4, NP V C w bn ba g (k + 1) (k + 1) (netL C p) v4 wr) (fun v45 _ => nl - (intOf v45).toNat)
          case atStart => exact ⟨0, rfl, by omega, _, HM1.out⟩
          case round =>
            obtain ⟨p, rfl, hp, v4, hM⟩ := hrel
            clear HM1 hlt c2
            obtain ⟨wx, rfl⟩ : ∃ wp : World, wp = wr := ⟨_, rfl⟩
            have HM := Lib.hid hM
            clear hM
            by_cases hlt : p < nl
            · have hql : p < C.lats.length := by rw [HNl.out]; exact hlt
              obtain ⟨b, off, ea, hE⟩ := HA.out.latCell hql
              have hr := HG.out.rng.own _ (lat_own hql)
              rw [HMi.out] at hr
              have HS := Lib.hid (netL_succ hql)
              have HL := Lib.hid (show (netL C p).1.length = q + p by rw [netL_len C p (by omega), HNi.out])
              obtain ⟨x0, hx0⟩ : ∃ x, (g3 C.lats p).1 = x := ⟨_, rfl⟩
              obtain ⟨x1, hx1⟩ : ∃ x, (g3 C.lats p).2.1 = x := ⟨_, rfl⟩
              obtain ⟨x2, hx2⟩ : ∃ x, (g3 C.lats p).2.2 = x := ⟨_, rfl⟩
              rw [hx0, hx1, hx2] at hE
              rw [hx0] at hr HS
              obtain ⟨e0, e1, e2⟩ := hE _ HM.out.kp
              have HR := Lib.hid hr
              have i0 : (0 : Int) ≤ (p : Int) := by omega
              have i2 : (p : Int) < (nl : Int) := by omega
              have hnb := (Blk.new wx #[.int .i64 x0, .int .i64 x1, .int .i64 x2] 58).cell (i := 0) (v := .int .i64 x0) rfl
              have HMa := Lib.hid (HM.out.fr ((Kp.refl _ wx).alloc (.cells #[.int .i64 x0, .int .i64 x1, .int .i64 x2] 58)))
              rw [ea]
              clear hx0 hx1 hx2 ea hr hE hql
              go_wp2_with (go_at_call 64; refine (net_f1 V C w bn ba g (k + 1) (k + 1) (q + p) (netL C p) v4 x0 (-1) 0 _ HMa.out HL.out (by omega) (by have := HR.out; omega) (by have := HR.out; omega) (by omega)).mono ?_; rintro e w2 ⟨rfl, ⟨v', hP⟩, -⟩)
              have HP := Lib.hid hP
              clear hP e0 e1 e2 hnb
              go_wp2_with fail
              go_roundw
              case rel => exact ⟨p + 1, by go_num, by omega, v', by rw [HS.out]; exact HP.out⟩
              case measure => simp [intOf]; omega
            · obtain rfl : p = nl := by omega
              have HM1 := Lib.hid (show NP V C w bn ba g (k + 1) (k + 1) (netG C 0) v4 wx by rw [netG_zero, HNl.out]; exact HM.out)
              obtain ⟨no, hno⟩ : ∃ g, (ordO C.gates).length = g := ⟨_, rfl⟩
              have hno1 : no ≤ ng := by rw [← HNg.out, ← hno]; exact (ordO_at C.gates).len
              have HO := Lib.hid (show ∀ u, Kp (fun _ => False) w u → Calls Try.prog 59 #[.agg #[.int .i64 (k : Int), .slice V.ai q V.ci, .slice V.al p V.cl, .slice V.ao C.outs.length V.co, .slice V.ab C.bads.length V.cb, .slice V.ac C.cons.length V.cc, .slice V.ag ng V.cg, .slice V.ay V.ny V.cy, .string V.cm]] u fun e u' => (∃ a c, e = .returned (.slice a no c) ∧ Own u' u.heap.size 3 (.slice a no c) (nv (ordO C.gates))) ∧ Kp (fun _ => False) u u' from fun u hu => by
                have hor := (circ_Order V C u (HA.out.kp hu) HF.out.g (HG.out.rng.good HG.out.nd) (fun i hi => by
                  have h1 := HG.out.rng.own _ (gate_own hi)
                  have h2 := HG.out.rng.use _ (gate_useA hi)
                  have h3 := HG.out.rng.use _ (gate_useB hi)
                  have h4 := HMi.out
                  omega)).mono (R' := fun e u' => (∃ a c, e = .returned (.slice a no c) ∧ Own u' u.heap.size 3 (.slice a no c) (nv (ordO C.gates))) ∧ Kp (fun _ => False) u u') (by
                    rintro e u' ⟨v, rfl, hO, hK⟩
                    obtain ⟨a, c, e, -⟩ := hO.form
                    rw [nv_length, hno] at e
                    subst e
                    exact ⟨⟨a, c, rfl, hO⟩, hK⟩)
                rw [HU.out] at hor
                exact hor)
              have HNo := Lib.hid hno
              obtain ⟨d0, d1, d2, d3, d4, d5, d6, d7, d8⟩ := Blk.cells9 (show Blk wx w.heap.size #[.int .i64 (k : Int), .slice V.ai q V.ci, .slice V.al p V.cl, .slice V.ao C.outs.length V.co, .slice V.ab C.bads.length V.cb, .slice V.ac C.cons.length V.cc, .slice V.ag ng V.cg, .slice V.ay V.ny V.cy, .string V.cm] 63 by have := HM.out.circ; rw [HU.out] at this; exact this)
              clear HM hno
              go_wp2_with (go_at_call 59; refine (HO.out _ HM1.out.kp).mono ?_; rintro e w9 ⟨⟨a9, c9, rfl, hO9⟩, hK9⟩)
              have HM9 := Lib.hid (HM1.out.fr hK9)
              have HO9 := Lib.hid (show Own w9 wx.heap.size 3 (.slice a9 no c9) (nv (ordO C.gates)) from hO9)
              have HG5 := Lib.hid (show g < wx.heap.size ∧ bn < wx.heap.size from ⟨(HM1.out.a.lt g rfl).2, HM1.out.xn.lt⟩)
              clear hO9 hK9 d0 d1 d2 d3 d4 d5 d6 d7 d8 HM1 HO
              go_wp2_with fail
              go_loopw [59] (fun v59 wr => ∃ r : Nat, v59 = .int .i64 (r : Int) ∧ r ≤ no ∧ (∃ v4, NP V C w bn ba g (k + 1) (k + 1) (netG C r) v4 wr) ∧ Own wr wx.heap.size 3 (.slice a9 no c9) (nv (ordO C.gates))) (fun v59 _ => no - (intOf v59).toNat)
              case atStart => exact ⟨0, rfl, by omega, ⟨_, HM9.out⟩, HO9.out⟩
              case round =>
                obtain ⟨r, rfl, hrk, ⟨v5, hM⟩, hO⟩ := hrel
                clear HM9 HO9 hlt
                obtain ⟨wy, rfl⟩ : ∃ wp : World, wp = wr := ⟨_, rfl⟩
                have HM := Lib.hid hM
                have HO := Lib.hid hO
                have c6 := hM.circ.cell (i := 6) (v := .slice V.ag ng V.cg) (by rw [HU.out]; rfl)
                clear hM hO
                by_cases hlt : r < no
                · have hol : r < (ordO C.gates).length := by rw [HNo.out]; exact hlt
                  obtain ⟨t, ht⟩ : ∃ t, gno (ordO C.gates) r = t := ⟨_, rfl⟩
                  have htn := turn_ok HG.out hol
                  rw [ht] at htn
                  obtain ⟨htg, hdA, hdB⟩ := htn
                  have hinv := netG_inv HG.out r (by omega)
                  have rA := HG.out.rng.use _ (gate_useA htg)
                  have rB := HG.out.rng.use _ (gate_useB htg)
                  have rO := HG.out.rng.own _ (gate_own htg)
                  rw [HMi.out] at rA rB rO
                  have hmx := HG.out.mx
                  rw [HMi.out] at hmx
                  have hmk : MX C = k := by omega
                  rw [hmk] at hinv
                  have hLn := netG_len C r (by omega)
                  rw [HNi.out, HNl.out] at hLn
                  have hS := netG_succ hol
                  rw [ht] at hS
                  have hno9 : (nv (ordO C.gates))[r]? = some (.int .i64 (t : Int)) := by
                    have h1 := nv_at hol
                    have h2 : gn (ordO C.gates) r = t := ht
                    rw [h2] at h1; exact h1
                  obtain ⟨a9', c9', ev9, -, -, -, hrow9⟩ := HO.out.form
                  simp only [Value.slice.injEq] at ev9
                  obtain ⟨rfl, -, rfl⟩ := ev9
                  obtain ⟨bo, offo, ea9, eo⟩ := hrow9 r _ hno9
                  obtain ⟨b, off, ea, hE⟩ := HA.out.gateCell htg
                  have hAx := ofL_ok hinv rA.1 (by omega) hdA
                  have hBx := ofL_ok hinv rB.1 (by omega) hdB
                  have hvA := hinv.val ((g3 C.gates t).2.1 / 2).toNat (by omega)
                  have hvB := hinv.val ((g3 C.gates t).2.2 / 2).toNat (by omega)
                  obtain ⟨x0, hx0⟩ : ∃ x, (g3 C.gates t).1 = x := ⟨_, rfl⟩
                  obtain ⟨x1, hx1⟩ : ∃ x, (g3 C.gates t).2.1 = x := ⟨_, rfl⟩
                  obtain ⟨x2, hx2⟩ : ∃ x, (g3 C.gates t).2.2 = x := ⟨_, rfl⟩
                  rw [hx0] at rO hE
                  rw [hx1] at rA hE hAx hvA
                  rw [hx2] at rB hE hBx hvB
                  have HS := Lib.hid (show netG C (r + 1) = putN (netG C r) x0 (ofN (netG C r).2 x1, ofN (netG C r).2 x2) by rw [hS]; unfold gateN; rw [hx0, hx1, hx2])
                  have HA1 := Lib.hid (show 0 ≤ x1 ∧ (x1 / 2).toNat < k + 1 ∧ 0 ≤ gi (netG C r).2 (x1 / 2).toNat ∧ gi (netG C r).2 (x1 / 2).toNat % 2 = 0 ∧ gi (netG C r).2 (x1 / 2).toNat ≤ 1000000000 from ⟨rA.1, by omega, hAx.1, hAx.2.1, by omega⟩)
                  have HB1 := Lib.hid (show 0 ≤ x2 ∧ (x2 / 2).toNat < k + 1 ∧ 0 ≤ gi (netG C r).2 (x2 / 2).toNat ∧ gi (netG C r).2 (x2 / 2).toNat % 2 = 0 ∧ gi (netG C r).2 (x2 / 2).toNat ≤ 1000000000 from ⟨rB.1, by omega, hBx.1, hBx.2.1, by omega⟩)
                  have HLn := Lib.hid hLn
                  have HR := Lib.hid (show 0 ≤ x0 ∧ (x0 / 2).toNat < k + 1 from ⟨by omega, by omega⟩)
                  obtain ⟨e0, e1, e2⟩ := hE _ HM.out.kp
                  have t0 : (0 : Int) ≤ (t : Int) := by omega
                  have t1 : (t : Int) < (ng : Int) := by have := HNg.out; omega
                  have r0 : (0 : Int) ≤ (r : Int) := by omega
                  have r1 : (r : Int) < (no : Int) := by omega
                  rw [ea] at c6
                  subst ea9
                  have HEA := Lib.hid ea
                  clear ea hE hrow9 hno9 hS hx0 hx1 hx2 hAx hBx hvA hvB rA rB rO hLn hinv hmx hmk hdA hdB htg ht hol
                  go_upto_region 23 with fail
                  have HGb := Lib.hid (Blk.new wy #[.int .i64 x0, .int .i64 x1, .int .i64 x2] 106)
                  have HM2 := Lib.hid (HM.out.fr ((Kp.refl _ wy).alloc (.cells #[.int .i64 x0, .int .i64 x1, .int .i64 x2] 106)))
                  have HO2 := Lib.hid (HO.out.alloc (.cells #[.int .i64 x0, .int .i64 x1, .int .i64 x2] 106))
                  clear HM HO e0 e1 e2 eo c6
                  have HM := HM2
                  clear HM2
                  generalize hwv : wy.alloc (.cells #[.int .i64 x0, .int .i64 x1, .int .i64 x2] 106) = wv at HGb HM HO2 ⊢
                  generalize hgb : wy.heap.size = gb at HGb ⊢
                  refine wp_region_loose (p := upTo 12) (V := atV [EqV ((.func (.func 64) #[] #[.pointer (some ⟨bn, 0, none⟩), .pointer (some ⟨ba, 0, none⟩)])), EqV (.pointer (some ⟨gb, 0, none⟩)), EqV (.int .i64 x0), EqV ((.func (.func 65) #[] #[.pointer (some ⟨ba, 0, none⟩)])), EqV (.pointer (some ⟨gb, 1, none⟩)), EqV (.int .i64 x1), EqV (.int .i64 (ofN (netG C r).2 x1)), EqV ((.func (.func 65) #[] #[.pointer (some ⟨ba, 0, none⟩)])), EqV (.pointer (some ⟨gb, 2, none⟩)), EqV (.int .i64 x2), EqV (.int .i64 (ofN (netG C r).2 x2)), EqV (.agg #[.int .i64 (ofN (netG C r).2 x1), .int .i64 (ofN (netG C r).2 x2)])]) (LP := #[true, true, true, true, true, true, true, true, true, true, true, true, false]) (K := 1) (by kernel_rfl) (by kernel_rfl) (atV_st ?hstL23) ?hstepL23 (by kernel_rfl) ?hLPL23 (by kernel_rfl) ?hendL23
                  case hstL23 =>
                    intro W h
                    simp only [List.mem_cons, List.not_mem_nil, or_false] at h
                    rcases h with rfl | rfl | rfl | rfl | rfl | rfl | rfl | rfl | rfl | rfl | rfl | rfl <;> first | exact EqV.st _ | exact EqV.st _
                  case hLPL23 => exact upTo_spec (by kernel_rfl)
                  case hstepL23 =>
                    intro i o ho hp a u hk hoff hdep
                    have e7 : a.tmps[7]?.getD undef = (.func (.func 64) #[] #[.pointer (some ⟨bn, 0, none⟩), .pointer (some ⟨ba, 0, none⟩)]) := slot_at (hoff 7 (noDst_spec (by kernel_rfl)))
                    have e12 : a.tmps[12]?.getD undef = (.func (.func 65) #[] #[.pointer (some ⟨ba, 0, none⟩)]) := slot_at (hoff 12 (noDst_spec (by kernel_rfl)))
                    have e15 : a.tmps[15]?.getD undef = (.pointer (some ⟨gb, 0, none⟩)) := slot_at (hoff 15 (noDst_spec (by kernel_rfl)))
                    clear hoff
                    match i, ho with
                    | 0, ho =>
                      obtain rfl := Option.some.inj ho
                      refine lw_value (v := (.func (.func 64) #[] #[.pointer (some ⟨bn, 0, none⟩), .pointer (some ⟨ba, 0, none⟩)])) (u' := u) ?_ (Kp.refl _ _) rfl
                      go_simp
                    | 1, ho =>
                      obtain rfl := Option.some.inj ho
                      refine lw_value (v := .pointer (some ⟨gb, 0, none⟩)) (u' := u) ?_ (Kp.refl _ _) rfl
                      go_simp
                    | 2, ho =>
                      obtain rfl := Option.some.inj ho
                      have e69 : a.tmps[69]?.getD undef = .pointer (some ⟨gb, 0, none⟩) := slot_at (hdep ⟨1, .data⟩ (by simp) rfl _ 69 rfl rfl)
                      have c1 := (HGb.out.kp hk (fun h => h)).cell (i := 0) (v := .int .i64 x0) rfl
                      refine lw_value (v := .int .i64 x0) (u' := u) ?_ (Kp.refl _ _) rfl
                      go_simp
                    | 3, ho =>
                      obtain rfl := Option.some.inj ho
                      refine lw_value (v := (.func (.func 65) #[] #[.pointer (some ⟨ba, 0, none⟩)])) (u' := u) ?_ (Kp.refl _ _) rfl
                      go_simp
                    | 4, ho =>
                      obtain rfl := Option.some.inj ho
                      refine lw_value (v := .pointer (some ⟨gb, 1, none⟩)) (u' := u) ?_ (Kp.refl _ _) rfl
                      go_simp
                    | 5, ho =>
                      obtain rfl := Option.some.inj ho
                      have e72 : a.tmps[72]?.getD undef = .pointer (some ⟨gb, 1, none⟩) := slot_at (hdep ⟨4, .data⟩ (by simp) rfl _ 72 rfl rfl)
                      have c1 := (HGb.out.kp hk (fun h => h)).cell (i := 1) (v := .int .i64 x1) rfl
                      refine lw_value (v := .int .i64 x1) (u' := u) ?_ (Kp.refl _ _) rfl
                      go_simp
                    | 6, ho =>
                      obtain rfl := Option.some.inj ho
                      have e71 : a.tmps[71]?.getD undef = (.func (.func 65) #[] #[.pointer (some ⟨ba, 0, none⟩)]) := slot_at (hdep ⟨3, .data⟩ (by simp) rfl _ 71 rfl rfl)
                      have e73 : a.tmps[73]?.getD undef = .int .i64 x1 := slot_at (hdep ⟨5, .data⟩ (by simp) rfl _ 73 rfl rfl)
                      refine lw_call (f := 65) (args := #[.int .i64 x1, .pointer (some ⟨ba, 0, none⟩)]) ?_ ?_
                      · go_simp
                      · exact (net_f2 ba g (k + 1) (k + 1) (netG C r).2 x1 u (hk.cellK HM.out.cells.2.2.2) (by omega) (fun j hj => hk.cellK (HM.out.cells.1 j hj)) HA1.out.1 HA1.out.2.1 HA1.out.2.2).mono (by
                          rintro e u' ⟨rfl, rfl⟩
                          exact ⟨_, rfl, Kp.refl _ _, rfl⟩)
                    | 7, ho =>
                      obtain rfl := Option.some.inj ho
                      refine lw_value (v := (.func (.func 65) #[] #[.pointer (some ⟨ba, 0, none⟩)])) (u' := u) ?_ (Kp.refl _ _) rfl
                      go_simp
                    | 8, ho =>
                      obtain rfl := Option.some.inj ho
                      refine lw_value (v := .pointer (some ⟨gb, 2, none⟩)) (u' := u) ?_ (Kp.refl _ _) rfl
                      go_simp
                    | 9, ho =>
                      obtain rfl := Option.some.inj ho
                      have e76 : a.tmps[76]?.getD undef = .pointer (some ⟨gb, 2, none⟩) := slot_at (hdep ⟨8, .data⟩ (by simp) rfl _ 76 rfl rfl)
                      have c1 := (HGb.out.kp hk (fun h => h)).cell (i := 2) (v := .int .i64 x2) rfl
                      refine lw_value (v := .int .i64 x2) (u' := u) ?_ (Kp.refl _ _) rfl
                      go_simp
                    | 10, ho =>
                      obtain rfl := Option.some.inj ho
                      have e75 : a.tmps[75]?.getD undef = (.func (.func 65) #[] #[.pointer (some ⟨ba, 0, none⟩)]) := slot_at (hdep ⟨7, .data⟩ (by simp) rfl _ 75 rfl rfl)
                      have e77 : a.tmps[77]?.getD undef = .int .i64 x2 := slot_at (hdep ⟨9, .data⟩ (by simp) rfl _ 77 rfl rfl)
                      refine lw_call (f := 65) (args := #[.int .i64 x2, .pointer (some ⟨ba, 0, none⟩)]) ?_ ?_
                      · go_simp
                      · exact (net_f2 ba g (k + 1) (k + 1) (netG C r).2 x2 u (hk.cellK HM.out.cells.2.2.2) (by omega) (fun j hj => hk.cellK (HM.out.cells.1 j hj)) HB1.out.1 HB1.out.2.1 HB1.out.2.2).mono (by
                          rintro e u' ⟨rfl, rfl⟩
                          exact ⟨_, rfl, Kp.refl _ _, rfl⟩)
                    | 11, ho =>
                      obtain rfl := Option.some.inj ho
                      have e74 : a.tmps[74]?.getD undef = .int .i64 (ofN (netG C r).2 x1) := slot_at (hdep ⟨6, .data⟩ (by simp) rfl _ 74 rfl rfl)
                      have e78 : a.tmps[78]?.getD undef = .int .i64 (ofN (netG C r).2 x2) := slot_at (hdep ⟨10, .data⟩ (by simp) rfl _ 78 rfl rfl)
                      refine lw_value (v := .agg #[.int .i64 (ofN (netG C r).2 x1), .int .i64 (ofN (netG C r).2 x2)]) (u' := u) ?_ (Kp.refl _ _) rfl
                      go_simp
                    | n + 12, _ => exact absurd hp (by simp [upTo])
                  intro a u hI
                  have hsz : a.tmps.size = 84 := hI.size
                  have hdf : a.defers = [] := hI.defers
                  have f0 : a.tmps.getD 0 undef = _ := hI.off 0 (noDst_spec (p := upTo 12) (by kernel_rfl))
                  have f1 : a.tmps.getD 1 undef = _ := hI.off 1 (noDst_spec (p := upTo 12) (by kernel_rfl))
                  have f2 : a.tmps.getD 2 undef = _ := hI.off 2 (noDst_spec (p := upTo 12) (by kernel_rfl))
                  have f3 : a.tmps.getD 3 undef = _ := hI.off 3 (noDst_spec (p := upTo 12) (by kernel_rfl))
                  have f4 : a.tmps.getD 4 undef = _ := hI.off 4 (noDst_spec (p := upTo 12) (by kernel_rfl))
                  have f5 : a.tmps.getD 5 undef = _ := hI.off 5 (noDst_spec (p := upTo 12) (by kernel_rfl))
                  have f6 : a.tmps.getD 6 undef = _ := hI.off 6 (noDst_spec (p := upTo 12) (by kernel_rfl))
                  have f7 : a.tmps.getD 7 undef = _ := hI.off 7 (noDst_spec (p := upTo 12) (by kernel_rfl))
                  have f8 : a.tmps.getD 8 undef = _ := hI.off 8 (noDst_spec (p := upTo 12) (by kernel_rfl))
                  have f9 : a.tmps.getD 9 undef = _ := hI.off 9 (noDst_spec (p := upTo 12) (by kernel_rfl))
                  have f10 : a.tmps.getD 10 undef = _ := hI.off 10 (noDst_spec (p := upTo 12) (by kernel_rfl))
                  have f11 : a.tmps.getD 11 undef = _ := hI.off 11 (noDst_spec (p := upTo 12) (by kernel_rfl))
                  have f12 : a.tmps.getD 12 undef = _ := hI.off 12 (noDst_spec (p := upTo 12) (by kernel_rfl))
                  have f13 : a.tmps.getD 13 undef = _ := hI.off 13 (noDst_spec (p := upTo 12) (by kernel_rfl))
                  have f14 : a.tmps.getD 14 undef = _ := hI.off 14 (noDst_spec (p := upTo 12) (by kernel_rfl))
                  have f15 : a.tmps.getD 15 undef = _ := hI.off 15 (noDst_spec (p := upTo 12) (by kernel_rfl))
                  have f16 : a.tmps.getD 16 undef = _ := hI.off 16 (noDst_spec (p := upTo 12) (by kernel_rfl))
                  have f17 : a.tmps.getD 17 undef = _ := hI.off 17 (noDst_spec (p := upTo 12) (by kernel_rfl))
                  have f18 : a.tmps.getD 18 undef = _ := hI.off 18 (noDst_spec (p := upTo 12) (by kernel_rfl))
                  have f19 : a.tmps.getD 19 undef = _ := hI.off 19 (noDst_spec (p := upTo 12) (by kernel_rfl))
                  have f20 : a.tmps.getD 20 undef = _ := hI.off 20 (noDst_spec (p := upTo 12) (by kernel_rfl))
                  have f21 : a.tmps.getD 21 undef = _ := hI.off 21 (noDst_spec (p := upTo 12) (by kernel_rfl))
                  have f22 : a.tmps.getD 22 undef = _ := hI.off 22 (noDst_spec (p := upTo 12) (by kernel_rfl))
                  have f23 : a.tmps.getD 23 undef = _ := hI.off 23 (noDst_spec (p := upTo 12) (by kernel_rfl))
                  have f24 : a.tmps.getD 24 undef = _ := hI.off 24 (noDst_spec (p := upTo 12) (by kernel_rfl))
                  have f25 : a.tmps.getD 25 undef = _ := hI.off 25 (noDst_spec (p := upTo 12) (by kernel_rfl))
                  have f26 : a.tmps.getD 26 undef = _ := hI.off 26 (noDst_spec (p := upTo 12) (by kernel_rfl))
                  have f27 : a.tmps.getD 27 undef = _ := hI.off 27 (noDst_spec (p := upTo 12) (by kernel_rfl))
                  have f28 : a.tmps.getD 28 undef = _ := hI.off 28 (noDst_spec (p := upTo 12) (by kernel_rfl))
                  have f29 : a.tmps.getD 29 undef = _ := hI.off 29 (noDst_spec (p := upTo 12) (by kernel_rfl))
                  have f30 : a.tmps.getD 30 undef = _ := hI.off 30 (noDst_spec (p := upTo 12) (by kernel_rfl))
                  have f31 : a.tmps.getD 31 undef = _ := hI.off 31 (noDst_spec (p := upTo 12) (by kernel_rfl))
                  have f32 : a.tmps.getD 32 undef = _ := hI.off 32 (noDst_spec (p := upTo 12) (by kernel_rfl))
                  have f33 : a.tmps.getD 33 undef = _ := hI.off 33 (noDst_spec (p := upTo 12) (by kernel_rfl))
                  have f34 : a.tmps.getD 34 undef = _ := hI.off 34 (noDst_spec (p := upTo 12) (by kernel_rfl))
                  have f35 : a.tmps.getD 35 undef = _ := hI.off 35 (noDst_spec (p := upTo 12) (by kernel_rfl))
                  have f36 : a.tmps.getD 36 undef = _ := hI.off 36 (noDst_spec (p := upTo 12) (by kernel_rfl))
                  have f37 : a.tmps.getD 37 undef = _ := hI.off 37 (noDst_spec (p := upTo 12) (by kernel_rfl))
                  have f38 : a.tmps.getD 38 undef = _ := hI.off 38 (noDst_spec (p := upTo 12) (by kernel_rfl))
                  have f39 : a.tmps.getD 39 undef = _ := hI.off 39 (noDst_spec (p := upTo 12) (by kernel_rfl))
                  have f40 : a.tmps.getD 40 undef = _ := hI.off 40 (noDst_spec (p := upTo 12) (by kernel_rfl))
                  have f41 : a.tmps.getD 41 undef = _ := hI.off 41 (noDst_spec (p := upTo 12) (by kernel_rfl))
                  have f42 : a.tmps.getD 42 undef = _ := hI.off 42 (noDst_spec (p := upTo 12) (by kernel_rfl))
                  have f43 : a.tmps.getD 43 undef = _ := hI.off 43 (noDst_spec (p := upTo 12) (by kernel_rfl))
                  have f44 : a.tmps.getD 44 undef = _ := hI.off 44 (noDst_spec (p := upTo 12) (by kernel_rfl))
                  have f45 : a.tmps.getD 45 undef = _ := hI.off 45 (noDst_spec (p := upTo 12) (by kernel_rfl))
                  have f46 : a.tmps.getD 46 undef = _ := hI.off 46 (noDst_spec (p := upTo 12) (by kernel_rfl))
                  have f47 : a.tmps.getD 47 undef = _ := hI.off 47 (noDst_spec (p := upTo 12) (by kernel_rfl))
                  have f48 : a.tmps.getD 48 undef = _ := hI.off 48 (noDst_spec (p := upTo 12) (by kernel_rfl))
                  have f49 : a.tmps.getD 49 undef = _ := hI.off 49 (noDst_spec (p := upTo 12) (by kernel_rfl))
                  have f50 : a.tmps.getD 50 undef = _ := hI.off 50 (noDst_spec (p := upTo 12) (by kernel_rfl))
                  have f51 : a.tmps.getD 51 undef = _ := hI.off 51 (noDst_spec (p := upTo 12) (by kernel_rfl))
                  have f52 : a.tmps.getD 52 undef = _ := hI.off 52 (noDst_spec (p := upTo 12) (by kernel_rfl))
                  have f53 : a.tmps.getD 53 undef = _ := hI.off 53 (noDst_spec (p := upTo 12) (by kernel_rfl))
                  have f54 : a.tmps.getD 54 undef = _ := hI.off 54 (noDst_spec (p := upTo 12) (by kernel_rfl))
                  have f55 : a.tmps.getD 55 undef = _ := hI.off 55 (noDst_spec (p := upTo 12) (by kernel_rfl))
                  have f56 : a.tmps.getD 56 undef = _ := hI.off 56 (noDst_spec (p := upTo 12) (by kernel_rfl))
                  have f57 : a.tmps.getD 57 undef = _ := hI.off 57 (noDst_spec (p := upTo 12) (by kernel_rfl))
                  have f58 : a.tmps.getD 58 undef = _ := hI.off 58 (noDst_spec (p := upTo 12) (by kernel_rfl))
                  have f59 : a.tmps.getD 59 undef = _ := hI.off 59 (noDst_spec (p := upTo 12) (by kernel_rfl))
                  have f60 : a.tmps.getD 60 undef = _ := hI.off 60 (noDst_spec (p := upTo 12) (by kernel_rfl))
                  have f61 : a.tmps.getD 61 undef = _ := hI.off 61 (noDst_spec (p := upTo 12) (by kernel_rfl))
                  have f62 : a.tmps.getD 62 undef = _ := hI.off 62 (noDst_spec (p := upTo 12) (by kernel_rfl))
                  have f63 : a.tmps.getD 63 undef = _ := hI.off 63 (noDst_spec (p := upTo 12) (by kernel_rfl))
                  have f64 : a.tmps.getD 64 undef = _ := hI.off 64 (noDst_spec (p := upTo 12) (by kernel_rfl))
                  have f65 : a.tmps.getD 65 undef = _ := hI.off 65 (noDst_spec (p := upTo 12) (by kernel_rfl))
                  have f66 : a.tmps.getD 66 undef = _ := hI.off 66 (noDst_spec (p := upTo 12) (by kernel_rfl))
                  have f67 : a.tmps.getD 67 undef = _ := hI.off 67 (noDst_spec (p := upTo 12) (by kernel_rfl))
                  have f80 : a.tmps.getD 80 undef = _ := hI.off 80 (noDst_spec (p := upTo 12) (by kernel_rfl))
                  have f81 : a.tmps.getD 81 undef = _ := hI.off 81 (noDst_spec (p := upTo 12) (by kernel_rfl))
                  have f82 : a.tmps.getD 82 undef = _ := hI.off 82 (noDst_spec (p := upTo 12) (by kernel_rfl))
                  have f83 : a.tmps.getD 83 undef = _ := hI.off 83 (noDst_spec (p := upTo 12) (by kernel_rfl))
                  have f68 : a.tmps.getD 68 undef = (.func (.func 64) #[] #[.pointer (some ⟨bn, 0, none⟩), .pointer (some ⟨ba, 0, none⟩)]) := hI.val 0 _ 68 rfl rfl rfl
                  have f69 : a.tmps.getD 69 undef = .pointer (some ⟨gb, 0, none⟩) := hI.val 1 _ 69 rfl rfl rfl
                  have f70 : a.tmps.getD 70 undef = .int .i64 x0 := hI.val 2 _ 70 rfl rfl rfl
                  have f71 : a.tmps.getD 71 undef = (.func (.func 65) #[] #[.pointer (some ⟨ba, 0, none⟩)]) := hI.val 3 _ 71 rfl rfl rfl
                  have f72 : a.tmps.getD 72 undef = .pointer (some ⟨gb, 1, none⟩) := hI.val 4 _ 72 rfl rfl rfl
                  have f73 : a.tmps.getD 73 undef = .int .i64 x1 := hI.val 5 _ 73 rfl rfl rfl
                  have f74 : a.tmps.getD 74 undef = .int .i64 (ofN (netG C r).2 x1) := hI.val 6 _ 74 rfl rfl rfl
                  have f75 : a.tmps.getD 75 undef = (.func (.func 65) #[] #[.pointer (some ⟨ba, 0, none⟩)]) := hI.val 7 _ 75 rfl rfl rfl
                  have f76 : a.tmps.getD 76 undef = .pointer (some ⟨gb, 2, none⟩) := hI.val 8 _ 76 rfl rfl rfl
                  have f77 : a.tmps.getD 77 undef = .int .i64 x2 := hI.val 9 _ 77 rfl rfl rfl
                  have f78 : a.tmps.getD 78 undef = .int .i64 (ofN (netG C r).2 x2) := hI.val 10 _ 78 rfl rfl rfl
                  have f79 : a.tmps.getD 79 undef = .agg #[.int .i64 (ofN (netG C r).2 x1), .int .i64 (ofN (netG C r).2 x2)] := hI.val 11 _ 79 rfl rfl rfl
                  have ha : a = ⟨#[a.tmps.getD 0 undef, a.tmps.getD 1 undef, a.tmps.getD 2 undef, a.tmps.getD 3 undef, a.tmps.getD 4 undef, a.tmps.getD 5 undef, a.tmps.getD 6 undef, a.tmps.getD 7 undef, a.tmps.getD 8 undef, a.tmps.getD 9 undef, a.tmps.getD 10 undef, a.tmps.getD 11 undef, a.tmps.getD 12 undef, a.tmps.getD 13 undef, a.tmps.getD 14 undef, a.tmps.getD 15 undef, a.tmps.getD 16 undef, a.tmps.getD 17 undef, a.tmps.getD 18 undef, a.tmps.getD 19 undef, a.tmps.getD 20 undef, a.tmps.getD 21 undef, a.tmps.getD 22 undef, a.tmps.getD 23 undef, a.tmps.getD 24 undef, a.tmps.getD 25 undef, a.tmps.getD 26 undef, a.tmps.getD 27 undef, a.tmps.getD 28 undef, a.tmps.getD 29 undef, a.tmps.getD 30 undef, a.tmps.getD 31 undef, a.tmps.getD 32 undef, a.tmps.getD 33 undef, a.tmps.getD 34 undef, a.tmps.getD 35 undef, a.tmps.getD 36 undef, a.tmps.getD 37 undef, a.tmps.getD 38 undef, a.tmps.getD 39 undef, a.tmps.getD 40 undef, a.tmps.getD 41 undef, a.tmps.getD 42 undef, a.tmps.getD 43 undef, a.tmps.getD 44 undef, a.tmps.getD 45 undef, a.tmps.getD 46 undef, a.tmps.getD 47 undef, a.tmps.getD 48 undef, a.tmps.getD 49 undef, a.tmps.getD 50 undef, a.tmps.getD 51 undef, a.tmps.getD 52 undef, a.tmps.getD 53 undef, a.tmps.getD 54 undef, a.tmps.getD 55 undef, a.tmps.getD 56 undef, a.tmps.getD 57 undef, a.tmps.getD 58 undef, a.tmps.getD 59 undef, a.tmps.getD 60 undef, a.tmps.getD 61 undef, a.tmps.getD 62 undef, a.tmps.getD 63 undef, a.tmps.getD 64 undef, a.tmps.getD 65 undef, a.tmps.getD 66 undef, a.tmps.getD 67 undef, a.tmps.getD 68 undef, a.tmps.getD 69 undef, a.tmps.getD 70 undef, a.tmps.getD 71 undef, a.tmps.getD 72 undef, a.tmps.getD 73 undef, a.tmps.getD 74 undef, a.tmps.getD 75 undef, a.tmps.getD 76 undef, a.tmps.getD 77 undef, a.tmps.getD 78 undef, a.tmps.getD 79 undef, a.tmps.getD 80 undef, a.tmps.getD 81 undef, a.tmps.getD 82 undef, a.tmps.getD 83 undef], a.defers⟩ := act_list a 84 hsz
                  rw [hdf, f0, f1, f2, f3, f4, f5, f6, f7, f8, f9, f10, f11, f12, f13, f14, f15, f16, f17, f18, f19, f20, f21, f22, f23, f24, f25, f26, f27, f28, f29, f30, f31, f32, f33, f34, f35, f36, f37, f38, f39, f40, f41, f42, f43, f44, f45, f46, f47, f48, f49, f50, f51, f52, f53, f54, f55, f56, f57, f58, f59, f60, f61, f62, f63, f64, f65, f66, f67, f68, f69, f70, f71, f72, f73, f74, f75, f76, f77, f78, f79, f80, f81, f82, f83] at ha
                  have hku := hI.kp
                  clear hI hsz hdf f0 f1 f2 f3 f4 f5 f6 f7 f8 f9 f10 f11 f12 f13 f14 f15 f16 f17 f18 f19 f20 f21 f22 f23 f24 f25 f26 f27 f28 f29 f30 f31 f32 f33 f34 f35 f36 f37 f38 f39 f40 f41 f42 f43 f44 f45 f46 f47 f48 f49 f50 f51 f52 f53 f54 f55 f56 f57 f58 f59 f60 f61 f62 f63 f64 f65 f66 f67 f68 f69 f70 f71 f72 f73 f74 f75 f76 f77 f78 f79 f80 f81 f82 f83 
                  subst ha
                  refine wpAny_tail 12 rfl (by kernel_rfl) ?_
                  simp only [List.drop_succ_cons, List.drop_zero]
                  have HMu := Lib.hid (HM.out.fr hku)
                  have HOu := Lib.hid (HO2.out.kp hku (fun _ _ h => h))
                  clear hku
                  go_wp2_with (go_at_call 64; refine (net_f1 V C w bn ba g (k + 1) (k + 1) (q + p + r) (netG C r) v5 x0 (ofN (netG C r).2 x1) (ofN (netG C r).2 x2) _ HMu.out HLn.out (by omega) (by have := HR.out; omega) (by have := HR.out; omega) (by omega)).mono ?_; rintro e w2 ⟨rfl, ⟨v', hP⟩, hK⟩)
                  have HP := Lib.hid hP
                  have HO3 := Lib.hid (HOu.out.kp hK (fun j hj hs => by
                    have h1 := (HOu.out.lt j hj).1
                    have h2 := HG5.out
                    rcases hs with h4 | h4 | h4
                    · obtain ⟨c, hc⟩ := HMu.out.n.blkN h4
                      obtain ⟨c', hc'⟩ := HOu.out.rows.blkN hj
                      exact absurd (blkN_type hc hc') (by decide)
                    · omega
                    · omega))
                  clear hP hK
                  go_wp2_with fail
                  go_roundw
                  case rel => exact ⟨r + 1, by go_num, by omega, ⟨v', by rw [HS.out]; exact HP.out⟩, HO3.out⟩
                  case measure => simp [intOf]; omega
                · obtain rfl : r = no := by omega
                  have HE := Lib.hid (show OwnK wy w.heap.size 111 2 v5 ((netOf C).1.map pr2) ∧ Own wy w.heap.size 3 (.slice (some ⟨g, 0, none⟩) (k + 1) (k + 1)) (iv (netOf C).2) ∧ Kp (fun _ => False) w wy from by
                    have h1 := HM.out
                    rw [← HNo.out] at h1
                    exact ⟨h1.n.mono (by omega), h1.a.mono (by omega), h1.kp⟩)
                  have cn := HM.out.cells.2.2.1
                  have ca := HM.out.cells.2.2.2
                  go_upto_region 25 with fail
                  go_quiet (fail)
                  go_wp2_with fail
                  go_ret2
                  exact ⟨_, _, rfl, HE.out.1.drewN _, HE.out.2.1.drewN _, HE.out.2.2.drewN _⟩

end Go.Proofs.Ytnoknecfdnjomaa

/-
  step: Inputs, Latches, values.is, values.all.
-/
namespace Go.Proofs.Ytnoknecfdnjomaa
open Go.RowKit

theorem step_Inputs (V : CV) (C : Circ) (p : Nat) (a4 a5 : Option Addr) (c4 c5 : Nat) (w : World) (hM : MAt w 72 V C p a4 c4 a5 c5) (hf : CFew C 1000000) :
    Calls Try.prog 25 #[.pointer (some ⟨p, 0, none⟩)] w fun e w' => e = .returned (.int .i64 (C.ins.length : Int)) ∧ w = w' := by
  obtain ⟨n, hn⟩ : ∃ n, C.ins.length = n := ⟨_, rfl⟩
  have hn1 : n ≤ 1000000 := by have := hf.i; omega
  have hB : w.cell? ⟨p, 1, none⟩ = some (.slice V.ai n V.ci) := hM.blk.cell (i := 1) (by rw [← hn]; rfl)
  rw [hn]
  clear hM hf hn
  go_enter Try.func25, Try.ntmps25
  go_wp2_with fail
  go_ret
  exact ⟨rfl, rfl⟩

theorem step_Latches (V : CV) (C : Circ) (p : Nat) (a4 a5 : Option Addr) (c4 c5 : Nat) (w : World) (hM : MAt w 72 V C p a4 c4 a5 c5) (hf : CFew C 1000000) :
    Calls Try.prog 24 #[.pointer (some ⟨p, 0, none⟩)] w fun e w' => e = .returned (.int .i64 (C.lats.length : Int)) ∧ w = w' := by
  obtain ⟨n, hn⟩ : ∃ n, C.lats.length = n := ⟨_, rfl⟩
  have hn1 : n ≤ 1000000 := by have := hf.l; omega
  have hB : w.cell? ⟨p, 2, none⟩ = some (.slice V.al n V.cl) := hM.blk.cell (i := 2) (by rw [← hn]; rfl)
  rw [hn]
  clear hM hf hn
  go_enter Try.func24, Try.ntmps24
  go_wp2_with fail
  go_ret
  exact ⟨rfl, rfl⟩

set_option maxRecDepth 100000 in
set_option maxHeartbeats 1000000 in
theorem step_is (va : Option Addr) (vn vc : Nat) (vals : List Bool) (a5 : Option Addr) (n5 c5 : Nat) (at_ : List Int) (l : Int) (w : World) (hv : RowAt w va (bv vals)) (hvn : vals.length = vn) (hv1 : vn ≤ 100000000) (h0 : vb vals 0 = false) (ha : RowAt w a5 (iv at_)) (han : at_.length = n5) (ha1 : n5 ≤ 100000000) (l0 : 0 ≤ l) (lq : (l / 2).toNat < n5) (hx : 0 ≤ gi at_ (l / 2).toNat ∧ gi at_ (l / 2).toNat % 2 = 0 ∧ gi at_ (l / 2).toNat ≤ 1000000000) (hp : 0 ≤ ofN at_ l) (hq : (ofN at_ l / 2).toNat < vn) :
    Calls Try.prog 68 #[.agg #[.slice va vn vc, .slice a5 n5 c5], .int .i64 l] w fun e w' => e = .returned (.bool (litN vals (ofN at_ l))) ∧ Kp (fun _ => False) w w' := by
  obtain ⟨wz, hwz⟩ : ∃ wz : World, wz = w.alloc (.cells #[.slice va vn vc, .slice a5 n5 c5] 114) := ⟨_, rfl⟩
  have HK0 := Lib.hid (show Kp (fun _ => False) w wz by rw [hwz]; exact (Kp.refl _ w).alloc _)
  have HBk := Lib.hid (show Blk wz w.heap.size #[.slice va vn vc, .slice a5 n5 c5] 114 by rw [hwz]; exact Blk.new _ _ _)
  obtain ⟨q, hqq⟩ : ∃ q : Nat, (l / 2).toNat = q := ⟨_, rfl⟩
  have hd : l / 2 = (q : Int) := by omega
  have hld : l.tdiv 2 = (q : Int) := by rw [Int.tdiv_eq_ediv_of_nonneg l0]; exact hd
  have hl9 : l ≤ 200000002 := by omega
  have hand : bits .and .i64 l 1 = l % 2 := i64_and1 l l0 (by omega)
  have hz : ofN at_ l = gi at_ q + l % 2 := by unfold ofN; rw [hqq]; rw [hqq] at hx; split <;> omega
  rw [hqq] at lq hx
  obtain ⟨b, off, rfl, e0⟩ := ha q _ (iv_at (by omega))
  obtain ⟨y, hy⟩ : ∃ y, gi at_ q = y := ⟨_, rfl⟩
  rw [hy] at e0 hx hz
  have hxor : bits .xor .i64 y (l % 2) = ofN at_ l := by rw [i64_xor1 y l hx.1 hx.2.1 hx.2.2, hz]
  obtain ⟨z, hzz⟩ : ∃ z, ofN at_ l = z := ⟨_, rfl⟩
  rw [hzz] at hp hq hxor ⊢
  have HL := Lib.hid (fun u (hu : Kp (fun _ => False) w u) => sim_Lit va vn vc vals z u (hv.kp hu (fun _ _ h => h)) hvn hv1 h0 hp hq)
  have q0 : (0 : Int) ≤ (q : Int) := by omega
  have q1 : (q : Int) < (n5 : Int) := by omega
  have y0 := hx.1
  have y2 := hx.2.2
  have HZ := Lib.hid hwz
  have HE0 := Lib.hid e0
  clear hv hvn ha han hqq hx hy hz hzz hwz e0
  obtain ⟨F, hF1, hF2⟩ := still_class wz
  have HF1 := Lib.hid hF1
  have HF2 := Lib.hid hF2
  clear hF1 hF2
  have m0 : ∀ y, (F y).cell? ⟨w.heap.size, 0, none⟩ = some (.slice va vn vc) := fun y => (HBk.out.kp (HF1.out y) (fun h => h)).cell rfl
  have m1 : ∀ y, (F y).cell? ⟨w.heap.size, 1, none⟩ = some (.slice (some ⟨b, off, none⟩) n5 c5) := fun y => (HBk.out.kp (HF1.out y) (fun h => h)).cell rfl
  have m2 := fun y => (HF1.out y).cellK (HK0.out.cellK HE0.out)
  have HW := Lib.hid (fun y => (HL.out (F y) (HK0.out.trans (HF1.out y) (fun _ _ h => h))).mono (R' := fun e w' => e = .returned (.bool (litN vals z)) ∧ Kp (fun _ => False) (F y) w') (fun e w' ⟨h1, h2⟩ => ⟨h1, h2 ▸ Kp.refl _ _⟩))
  go_enter Try.func68, Try.ntmps68
  go_upto_region 1 with fail
  rw [← HZ.out]
  clear HZ
  refine wp_region_kept (by kernel_rfl) (by kernel_rfl) HF2.out ?_
  repeat (go_big_quiet_step (with_reducible first | exact Calls.still_of HF1.out HF2.out (HW.out _)))
  refine wpQuiet_nil ?_
  rintro wB ⟨y, rfl⟩
  have HE := Lib.hid (HK0.out.trans (HF1.out y) (fun _ _ h => h))
  clear m0 m1 m2
  go_wp2_with fail
  go_ret
  exact ⟨rfl, HE.out⟩

end Go.Proofs.Ytnoknecfdnjomaa

/-
  latchetref17.number; explore's state and input.
-/
namespace Go.Proofs.Ytnoknecfdnjomaa
open Go.RowKit

end Go.Proofs.Ytnoknecfdnjomaa

/-
  What a state does by itself: the states behind it, and an input that leads to each. No program in sight.
-/
namespace Go.Proofs.Ytnoknecfdnjomaa
open Go.RowKit

/-- the first of k inputs that is good and leads to u -/
def succK (H : Nat → Bool) (X : Nat → Nat) : Nat → Int → Option Int
  | 0, _ => none
  | k + 1, u => if (succK H X k u).isSome = true then succK H X k u else if H k = true ∧ (X k : Int) = u then some (k : Int) else none
/-- the first of k inputs that is good and bad -/
def badK (H B : Nat → Bool) : Nat → Int
  | 0 => -1
  | k + 1 => if badK H B k = -1 ∧ H k = true ∧ B k = true then (k : Int) else badK H B k
theorem succK_skip {H : Nat → Bool} {X : Nat → Nat} {k : Nat} (h : H k = false) : succK H X (k + 1) = succK H X k := by
  funext u
  show (if _ then _ else if H k = true ∧ (X k : Int) = u then _ else none) = _
  rw [if_neg (show ¬ (H k = true ∧ (X k : Int) = u) from fun q => by rw [h] at q; cases q.1)]
  cases e : succK H X k u <;> simp
theorem succK_there {H : Nat → Bool} {X : Nat → Nat} {k : Nat} (h : (succK H X k (X k)).isSome = true) : succK H X (k + 1) = succK H X k := by
  funext u
  show (if _ then _ else if H k = true ∧ (X k : Int) = u then _ else none) = _
  by_cases e : (succK H X k u).isSome = true
  · rw [if_pos e]
  · rw [if_neg e, if_neg (show ¬ (H k = true ∧ (X k : Int) = u) from fun q => e (by rw [← q.2]; exact h))]
    cases e2 : succK H X k u with
    | none => rfl
    | some x => rw [e2] at e; exact absurd rfl e
theorem succK_put {H : Nat → Bool} {X : Nat → Nat} {k : Nat} (hH : H k = true) (h : (succK H X k (X k)).isSome = false) : succK H X (k + 1) = fun u => if u = (X k : Int) then some (k : Int) else succK H X k u := by
  funext u
  show (if _ then _ else if H k = true ∧ (X k : Int) = u then _ else none) = _
  by_cases e : u = (X k : Int)
  · subst e
    rw [if_neg (by rw [h]; decide), if_pos ⟨hH, rfl⟩, if_pos rfl]
  · rw [if_neg (show ¬ (H k = true ∧ (X k : Int) = u) from fun q => e q.2.symm), if_neg e]
    cases e2 : succK H X k u <;> simp
theorem succK_some {H : Nat → Bool} {X : Nat → Nat} : ∀ {k : Nat} {u i : Int}, succK H X k u = some i → ∃ j : Nat, i = (j : Int) ∧ j < k ∧ H j = true ∧ (X j : Int) = u
  | 0, _, _, h => by cases h
  | k + 1, u, i, h => by
    have h2 : (if (succK H X k u).isSome = true then succK H X k u else if H k = true ∧ (X k : Int) = u then some (k : Int) else none) = some i := h
    split at h2
    · obtain ⟨j, h3, h4, h5⟩ := succK_some h2
      exact ⟨j, h3, by omega, h5⟩
    · split at h2
      · rename_i q
        cases h2
        exact ⟨k, rfl, Nat.lt_succ_self k, q⟩
      · cases h2
/-- a state, an input, by numbers -/
def stN (C : Circ) (t : Nat) : List Bool := bitsP t C.lats.length
def inN2 (C : Circ) (i : Nat) : List Bool := bitsP i C.ins.length
def hldN (C : Circ) (t i : Nat) : Bool := holdsM C (stN C t) (inN2 C i)
def nxtN (C : Circ) (t i : Nat) : Nat := numP (nextM C (stN C t) (inN2 C i))
def bdN (C : Circ) (p : Int) (t i : Nat) : Bool := badM C (stN C t) (inN2 C i) p
/-- the states behind t -/
def rowF2 (C : Circ) (t : Nat) : Int → Option Int := succK (hldN C t) (nxtN C t) (2 ^ C.ins.length)
def rowB (C : Circ) (p : Int) (t : Nat) : Int := badK (hldN C t) (bdN C p t) (2 ^ C.ins.length)

end Go.Proofs.Ytnoknecfdnjomaa

/-
  explore: the bits of a state, and of an input.
-/
namespace Go.Proofs.Ytnoknecfdnjomaa
open Go.RowKit

set_option maxRecDepth 100000 in
theorem ex_state {V : CV} {C : Circ} {p sp : Nat} {a4 a5 : Option Addr} {c4 c5 : Nat} {w : World} (hM : MAt w 72 V C p a4 c4 a5 c5) (hf : CFew C 1000000) (hs : w.cell? ⟨sp, 0, none⟩ = some (.pointer (some ⟨p, 0, none⟩))) (hl : C.lats.length ≤ 10) (n : Nat) (hn : n < 2 ^ C.lats.length) :
    Calls Try.prog 14 #[.pointer (some ⟨sp, 0, none⟩), .int .i64 n] w fun e w' => ∃ v, e = .returned v ∧ Own w' w.heap.size 4 v (bv (stN C n)) ∧ Kp (fun _ => False) w w' := by
  have HL := Lib.hid (step_Latches V C p a4 a5 c4 c5 w hM hf)
  have HB := Lib.hid (ex_bits n C.lats.length hn (by omega) w)
  have e : stN C n = bitsP n C.lats.length := rfl
  rw [← e] at HB
  obtain ⟨m, hm⟩ : ∃ m, C.lats.length = m := ⟨_, rfl⟩
  rw [hm] at HL HB
  clear hM hf hl hn hm e
  go_enter Try.func14, Try.ntmps14
  go_wp2_with (first
    | (go_at_call 24; refine HL.out.mono ?_; rintro e w' ⟨rfl, rfl⟩)
    | (go_at_call 23; refine HB.out.mono ?_; rintro e w' ⟨v, rfl, hO, hK⟩; have HO := Lib.hid hO; have HK := Lib.hid hK; clear hO hK))
  go_ret
  exact ⟨_, rfl, HO.out, HK.out⟩

set_option maxRecDepth 100000 in
theorem ex_input {V : CV} {C : Circ} {p sp : Nat} {a4 a5 : Option Addr} {c4 c5 : Nat} {w : World} (hM : MAt w 72 V C p a4 c4 a5 c5) (hf : CFew C 1000000) (hs : w.cell? ⟨sp, 0, none⟩ = some (.pointer (some ⟨p, 0, none⟩))) (hl : C.ins.length ≤ 8) (n : Nat) (hn : n < 2 ^ C.ins.length) :
    Calls Try.prog 15 #[.pointer (some ⟨sp, 0, none⟩), .int .i64 n] w fun e w' => ∃ v, e = .returned v ∧ Own w' w.heap.size 4 v (bv (inN2 C n)) ∧ Kp (fun _ => False) w w' := by
  have HL := Lib.hid (step_Inputs V C p a4 a5 c4 c5 w hM hf)
  have HB := Lib.hid (ex_bits n C.ins.length hn (by omega) w)
  have e : inN2 C n = bitsP n C.ins.length := rfl
  rw [← e] at HB
  obtain ⟨m, hm⟩ : ∃ m, C.ins.length = m := ⟨_, rfl⟩
  rw [hm] at HL HB
  clear hM hf hl hn hm e
  go_enter Try.func15, Try.ntmps15
  go_wp2_with (first
    | (go_at_call 25; refine HL.out.mono ?_; rintro e w' ⟨rfl, rfl⟩)
    | (go_at_call 23; refine HB.out.mono ?_; rintro e w' ⟨v, rfl, hO, hK⟩; have HO := Lib.hid hO; have HK := Lib.hid hK; clear hO hK))
  go_ret
  exact ⟨_, rfl, HO.out, HK.out⟩

end Go.Proofs.Ytnoknecfdnjomaa

/-
  step: values.all; the literals of a moment.
-/
namespace Go.Proofs.Ytnoknecfdnjomaa
open Go.RowKit

theorem valsK_head {N : List (Int × Int)} {ins : List Bool} : ∀ k, k ≤ N.length → vb (valsK N ins k).1 0 = false
  | 0, _ => rfl
  | k + 1, h => by
    have ih := valsK_head (N := N) (ins := ins) k (by omega)
    have hl := valsK_len (N := N) (ins := ins) k (by omega)
    rw [valsK_succ (by omega)]
    unfold vb at ih ⊢
    unfold stepV
    split
    · show ((valsK N ins k).1 ++ _)[0]?.getD false = false
      rw [List.getElem?_append_left (by omega)]; exact ih
    · show ((valsK N ins k).1 ++ _)[0]?.getD false = false
      rw [List.getElem?_append_left (by omega)]; exact ih

theorem net_few {C : Circ} (hf : CFew C 1000000) (hg : GoodC C) : (netOf C).1.length ≤ 3000000 ∧ (netOf C).2.length ≤ 20000000 := by
  have hnl := nodes_len C
  have hol := (ordO_at C.gates).len
  have hfi := hf.i
  have hfl := hf.l
  have hfg := hf.g
  refine ⟨by omega, ?_⟩
  have h1 := (netG_inv hg (ordO C.gates).length (Nat.le_refl _)).size
  have h2 := hg.mx
  have h3 := hg.rng.max1
  show (netG C _).2.length ≤ _
  omega

/-- a literal of a moment -/
theorem step_lit {C : Circ} {a5 : Option Addr} {c5 : Nat} {va : Option Addr} {vc : Nat} {st ip : List Bool} {w : World} (hf : CFew C 1000000) (hg : GoodC C) (ha : RowAt w a5 (iv (netOf C).2)) (hv : RowAt w va (bv (valsM C st ip))) :
    ∀ u, Kp (fun _ => False) w u → ∀ l, l ∈ C.used → Calls Try.prog 68 #[.agg #[.slice va ((netOf C).1.length + 1) vc, .slice a5 (netOf C).2.length c5], .int .i64 l] u fun e w' => e = .returned (.bool (litM C st ip l)) ∧ Kp (fun _ => False) u w' := fun u hu l hl => by
  obtain ⟨l0, lq, ly0, ly1, ly2, lo0, lo1⟩ := lit_place hg hl
  obtain ⟨h4, h5⟩ := net_few hf hg
  exact step_is va _ vc (valsM C st ip) a5 _ c5 (netOf C).2 l u (hv.kp hu (fun _ _ h => h)) (valsOf_len _ _) (by omega) (valsK_head _ (Nat.le_refl _)) (ha.kp hu (fun _ _ h => h)) rfl (by omega) l0 lq ⟨ly0, ly1, by omega⟩ lo0 (by omega)

set_option maxRecDepth 100000 in
set_option maxHeartbeats 2000000 in
theorem step_all (vs : Array Value) (x0 x1 : Value) (hvs : vs = #[x0, x1]) (la : Option Addr) (ln lc : Nat) (L : List Int) (f : Int → Bool) (w : World) (hL : IntsAt w la L) (hln : L.length = ln) (hl1 : ln ≤ 1000000) (hx0 : x0.oneCell' = true) (hx1 : x1.oneCell' = true)
    (his : ∀ u, Kp (fun _ => False) w u → ∀ l, l ∈ L → Calls Try.prog 68 #[.agg vs, .int .i64 l] u fun e w' => e = .returned (.bool (f l)) ∧ Kp (fun _ => False) u w') (sa sb : Option Addr) (m0 d0 m1 d1 : Nat) (e0 : x0 = .slice sa m0 d0) (e1 : x1 = .slice sb m1 d1) :
    Calls Try.prog 67 #[.agg vs, .slice la ln lc] w fun e w' => e = .returned (.bool (L.all f)) ∧ Kp (fun _ => False) w w' := by
  subst hvs e0 e1
  obtain ⟨wz, hwz⟩ : ∃ wz : World, wz = w.alloc (.cells #[.slice sa m0 d0, .slice sb m1 d1] 114) := ⟨_, rfl⟩
  have HK0 := Lib.hid (show Kp (fun _ => False) w wz by rw [hwz]; exact (Kp.refl _ w).alloc _)
  have HBk := Lib.hid (show Blk wz w.heap.size #[.slice sa m0 d0, .slice sb m1 d1] 114 by rw [hwz]; exact Blk.new _ _ _)
  have HZ := Lib.hid hwz
  have HL := Lib.hid hL
  have HLn := Lib.hid hln
  have HIs := Lib.hid his
  clear hL hln his hwz hx0 hx1
  go_enter Try.func67, Try.ntmps67
  go_upto_region 1 with fail
  rw [← HZ.out]
  clear HZ
  go_wp2_with fail
  go_loopw [9] (fun v9 wr => ∃ k : Nat, v9 = .int .i64 k ∧ k ≤ ln ∧ (L.take k).all f = true ∧ Kp (fun _ => False) wz wr) (fun v9 _ => ln - (intOf v9).toNat)
  case atStart => exact ⟨0, rfl, by omega, rfl, Kp.refl _ _⟩
  case round =>
    obtain ⟨k, rfl, hk, hall, hK⟩ := hrel
    obtain ⟨wp, rfl⟩ : ∃ wp : World, wp = wr := ⟨_, rfl⟩
    have HK := Lib.hid hK
    have HKw := Lib.hid (HK0.out.trans hK (fun _ _ h => h))
    have b0 := (HBk.out.kp hK (fun h => h)).cell (i := 0) (v := .slice sa m0 d0) rfl
    have b1 := (HBk.out.kp hK (fun h => h)).cell (i := 1) (v := .slice sb m1 d1) rfl
    clear hK
    by_cases hlt : k < ln
    · have hkl : k < L.length := by rw [HLn.out]; exact hlt
      obtain ⟨b, off, rfl, e0⟩ := IntsAt.get (RowAt.kp HL.out HKw.out (fun _ _ h => h)) hkl
      have hc := HIs.out _ HKw.out _ (gi_mem hkl)
      have hS : (L.take (k + 1)).all f = f (gi L k) := by rw [take_gi hkl, List.all_append, hall]; simp
      have hF : f (gi L k) = false → L.all f = false := fun h => by
        rw [List.all_eq_false]
        exact ⟨_, gi_mem hkl, by rw [h]; simp⟩
      obtain ⟨x, hx⟩ : ∃ x, gi L k = x := ⟨_, rfl⟩
      rw [hx] at e0 hc hS hF
      obtain ⟨y, hy⟩ : ∃ y, f x = y := ⟨_, rfl⟩
      rw [hy] at hc hS hF
      have HC := Lib.hid hc
      have HS := Lib.hid hS
      have HFl := Lib.hid hF
      have i0 : (0 : Int) ≤ (k : Int) := by omega
      have i2 : (k : Int) < (ln : Int) := by omega
      clear hx hy hc hS hF hkl hall
      cases y with
      | true =>
        go_wp2_with (go_at_call 68; with_reducible refine Calls.mono HC.out ?_; rintro e w1 ⟨rfl, hK1⟩; have HK1 := Lib.hid (HK.out.trans hK1 (fun _ _ h => h)); clear hK1)
        go_roundw
        case rel => exact ⟨k + 1, by go_num, by omega, HS.out, HK1.out⟩
        case measure => simp [intOf]; omega
      | false =>
        go_wp2_with (go_at_call 68; with_reducible refine Calls.mono HC.out ?_; rintro e w1 ⟨rfl, hK1⟩; have HK1 := Lib.hid (HK.out.trans hK1 (fun _ _ h => h)); clear hK1)
        go_ret
        exact ⟨by rw [HFl.out (by simp)]; rfl, HK0.out.trans HK1.out (fun _ _ h => h)⟩
    · obtain rfl : k = ln := by omega
      have HE := Lib.hid (show L.all f = true from by rw [List.take_of_length_le (by rw [HLn.out]; exact Nat.le_refl _)] at hall; exact hall)
      clear hall
      go_wp2_with fail
      go_ret
      exact ⟨by rw [HE.out]; rfl, HKw.out⟩

end Go.Proofs.Ytnoknecfdnjomaa

/-
  step.brought.
-/
namespace Go.Proofs.Ytnoknecfdnjomaa
open Go.RowKit

theorem brought_take (l : List Bool) (m : Nat) : brought l m = l.take (Nat.min l.length m) ++ List.replicate (m - Nat.min l.length m) false := by
  have hmin : Nat.min l.length m ≤ l.length ∧ Nat.min l.length m ≤ m ∧ (Nat.min l.length m = l.length ∨ Nat.min l.length m = m) := by
    simp only [Nat.min_def]; split <;> omega
  apply List.ext_getElem?
  intro i
  unfold brought
  rw [List.getElem?_map]
  by_cases hi : i < m
  · rw [List.getElem?_range hi]
    show some (vb l i) = _
    by_cases h2 : i < Nat.min l.length m
    · rw [List.getElem?_append_left (by simp; omega), List.getElem?_take, if_pos h2]
      unfold vb
      rw [List.getElem?_eq_getElem (by omega)]; rfl
    · have hlen : (l.take (Nat.min l.length m)).length = Nat.min l.length m := by rw [List.length_take]; omega
      rw [List.getElem?_append_right (by omega), hlen, List.getElem?_replicate, if_pos (by omega)]
      rw [vb_far (by omega)]
  · rw [List.getElem?_eq_none (by simp; omega)]
    rw [List.getElem?_eq_none (by simp; omega)]; rfl

theorem splice_bools (l : List Bool) (m : Nat) : splice (bv (List.replicate m false)) 0 (bv (l.take (Nat.min l.length m))) = bv (brought l m) := by
  have hmin : Nat.min l.length m ≤ l.length ∧ Nat.min l.length m ≤ m := by
    simp only [Nat.min_def]; split <;> omega
  rw [brought_take]
  unfold splice
  have hlen : (bv (l.take (Nat.min l.length m))).length = Nat.min l.length m := by rw [bv_length, List.length_take]; omega
  rw [List.take_zero, List.nil_append, hlen, Nat.zero_add, bv_append]
  congr 1
  unfold bv
  rw [← List.map_drop, List.drop_replicate]

set_option maxRecDepth 100000 in
theorem step_brought (a : Option Addr) (n c : Nat) (l : List Bool) (m : Nat) (w : World) (hr : RowAt w a (bv l)) (hn : l.length = n) (hm : n ≤ 100000000) (hmm : m ≤ 10000000) :
    Calls Try.prog 79 #[.slice a n c, .int .i64 m] w fun e w' => ∃ v, e = .returned v ∧ Own w' w.heap.size 4 v (bv (brought l m)) ∧ Kp (fun _ => False) w w' := by
  obtain ⟨i0, hi0, hz0, hz1, hz2⟩ := info_parts (show (Try.prog.info? 4).map (fun i => (i.zero, i.size, i.bytes)) = some (some (.bool false), 1, 1) by kernel_rfl)
  have hsz := Lib.hid (show (Try.prog.info? 4).map (·.size) = some 1 by kernel_rfl)
  have hmk : ∀ u : World, (Instr.makeSlice 24 (.int .i64 (m : Int)) (.int .i64 (m : Int))).run Try.prog u =
      .ok (.slice (some ⟨u.heap.size, 0, none⟩) m m) (u.alloc (.cells (madeCells #[.bool false] m) 4)) := fun u => by
    have h := run_make (P := Try.prog) u 24 4 i0 (.bool false) Try.underlying24 hi0 hz0 .i64 .i64 (m : Int) (m : Int) (by omega) (Int.le_refl _) (by rw [hz2]; omega) (by omega)
    simpa [hz1, Value.cells] using h
  clear hi0 hz0 hz1 hz2 i0
  obtain ⟨wz, hwz⟩ : ∃ wz : World, wz = w.alloc (.cells (madeCells #[.bool false] m) 4) := ⟨_, rfl⟩
  have HK0 := Lib.hid (show Kp (fun _ => False) w wz by rw [hwz]; exact (Kp.refl _ w).alloc _)
  have HB := Lib.hid (show Blk wz w.heap.size (bv (List.replicate m false)).toArray 4 by rw [hwz, bv_rep, ← made_row]; exact Blk.new _ _ _)
  have HBw := Lib.hid (show Below w.heap.size w wz by rw [hwz]; exact ⟨rfl, rfl, rfl, by simp, fun j hj => Below.heap_alloc w _ j hj⟩)
  obtain ⟨cs, hcs⟩ : ∃ cs, cs = bv (l.take (Nat.min l.length m)) := ⟨_, rfl⟩
  have hmin : Nat.min l.length m ≤ l.length ∧ Nat.min l.length m ≤ m := by
    simp only [Nat.min_def]; split <;> omega
  have hcl : cs.length = Nat.min n m := by rw [hcs, bv_length, ← hn, List.length_take]; omega
  have HCs := Lib.hid hcs
  have HCl := Lib.hid hcl
  have HR := Lib.hid (show RowAt wz a cs from by
    rw [hcs]
    unfold bv
    rw [List.map_take]
    exact (hr.kp HK0.out (fun _ _ h => h)).take _)
  have HOne := Lib.hid (show ∀ v ∈ cs, v.oneCell' = true from by rw [hcs]; exact bv_one _)
  have HLe := Lib.hid (show cs.length ≤ m by rw [hcl, ← hn]; exact hmin.2)
  have HZ := Lib.hid hwz
  clear hr hwz hcs hcl hmin
  go_enter Try.func79, Try.ntmps79
  go_upto_region 2 with fail
  rw [← HZ.out]
  clear HZ hmk
  go_wp2_with (refine wpList_copy_splice rfl (.tmp 8) (.tmp 9) 24 24 rfl 4 Try.underlying24 hsz.out (some ⟨w.heap.size, 0, none⟩) a m m n c rfl rfl w.heap.size 0 (bv (List.replicate m false)) 4 HB.out cs HCl.out ?p1 ?p2 HOne.out w.heap.size w HBw.out (Nat.le_refl _) ?_)
  case p1 =>
    intro h0
    try refine ⟨rfl, ?_⟩
    obtain ⟨b, off, ea, -⟩ := HR.out 0 cs[0] (List.getElem?_eq_getElem h0)
    refine ⟨⟨b, off, none⟩, ea, fun j v hj => ?_⟩
    obtain ⟨b', off', ea', e⟩ := HR.out j v hj
    rw [ea] at ea'
    simp only [Option.some.injEq, Addr.mk.injEq, and_true] at ea'
    obtain ⟨rfl, rfl⟩ := ea'
    rw [add_plain']
    exact e
  case p2 => rw [bv_length]; simp; exact HLe.out
  intro w2 hB2 hBe
  have HE := Lib.hid (show Own w2 w.heap.size 4 (.slice (some ⟨w.heap.size, 0, none⟩) m m) (bv (brought l m)) ∧ Kp (fun _ => False) w w2 from by
    refine ⟨?_, Kp.of_below hBe _⟩
    have h1 : Blk w2 w.heap.size (splice (bv (List.replicate m false)) 0 cs).toArray 4 := hB2.out
    rw [HCs.out, splice_bools] at h1
    have hl : (bv (brought l m)).length = m := by rw [bv_length, brought_len]
    have := Own.lit (base := w.heap.size) h1 (Nat.le_refl _) (by rw [hl]; unfold maxLen; omega)
    rw [hl] at this
    exact this)
  clear hB2 hBe
  go_wp2_with fail
  go_ret
  exact ⟨_, rfl, HE.out⟩

end Go.Proofs.Ytnoknecfdnjomaa

/-
  step.Machine.in.
-/
namespace Go.Proofs.Ytnoknecfdnjomaa
open Go.RowKit

set_option maxRecDepth 100000 in
set_option maxHeartbeats 4000000 in
theorem step_in (V : CV) (C : Circ) (p : Nat) (a4 a5 : Option Addr) (c4 c5 : Nat) (sa : Option Addr) (sn sc : Nat) (ia : Option Addr) (in_ ic : Nat) (st ip : List Bool) (w : World) (hM : MAt w 72 V C p a4 c4 a5 c5) (hf : CFew C 1000000) (hg : GoodC C) (hs : BS w sa sn st) (hi : BS w ia in_ ip) :
    Calls Try.prog 66 #[.pointer (some ⟨p, 0, none⟩), .slice sa sn sc, .slice ia in_ ic] w fun e w' => (∃ va vc, e = .returned (.agg #[.pointer (some ⟨p, 0, none⟩), .slice va ((netOf C).1.length + 1) vc, .slice a5 (netOf C).2.length c5]) ∧ RowAt w' va (bv (valsM C st ip))) ∧ Kp (fun _ => False) w w' := by
  have HIb := Lib.hid (show (Try.prog.info? 4).map (fun i => (i.zero, i.size, i.bytes)) = some (some (.bool false), 1, 1) by kernel_rfl)
  have HNf := Lib.hid (net_few hf hg)
  have HM := Lib.hid hM
  have HF := Lib.hid hf
  have HG := Lib.hid hg
  have HS := Lib.hid hs
  have HI := Lib.hid hi
  have hfi := hf.i
  have hfl := hf.l
  obtain ⟨wz, hwz⟩ : ∃ wz : World, wz = w.alloc (.cells #[.pointer none, .slice none 0 0, .slice none 0 0] 116) := ⟨_, rfl⟩
  have HK0 := Lib.hid (show Kp (fun _ => False) w wz by rw [hwz]; exact (Kp.refl _ w).alloc _)
  have HMb := Lib.hid (show Blk wz w.heap.size #[.pointer none, .slice none 0 0, .slice none 0 0] 116 by rw [hwz]; exact Blk.new _ _ _)
  have HIn := Lib.hid (step_Inputs V C p a4 a5 c4 c5 wz (hM.kp HK0.out) hf)
  have HBi := Lib.hid (step_brought ia in_ ic ip C.ins.length wz (hi.kp HK0.out).row hi.len hi.most (by omega))
  have HLa := Lib.hid (fun u (hu : Kp (fun _ => False) wz u) => step_Latches V C p a4 a5 c4 c5 u (hM.kp (HK0.out.trans hu (fun _ _ h => h))) hf)
  have HBs := Lib.hid (fun u (hu : Kp (fun _ => False) wz u) => step_brought sa sn sc st C.lats.length u (hs.kp (HK0.out.trans hu (fun _ _ h => h))).row hs.len hs.most (by omega))
  have HSz := Lib.hid (show wz.heap.size = w.heap.size + 1 by rw [hwz]; simp)
  have HZ := Lib.hid hwz
  clear hM hf hg hs hi hwz
  go_enter Try.func66, Try.ntmps66
  go_upto_region 1 with fail
  rw [← HZ.out]
  clear HZ
  go_wp2_with (first
    | (go_at_call 25; with_reducible refine Calls.mono HIn.out ?_; rintro e w1 ⟨rfl, rfl⟩)
    | (go_at_call 24; with_reducible refine Calls.mono (HLa.out _ hKi) ?_; rintro e w1 ⟨rfl, rfl⟩)
    | (go_at_call 79; with_reducible refine Calls.mono HBi.out ?_; rintro e wi ⟨v1, rfl, hOi, hKi⟩)
    | (go_at_call 79; with_reducible refine Calls.mono (HBs.out _ hKi) ?_; rintro e ws ⟨v2, rfl, hOs, hKs⟩; obtain ⟨s2a, s2c, ev2, s2le, s2m, s2nil, -, hr2⟩ := ownForm hOs; rw [bv_length, brought_len] at ev2 s2le; subst ev2; have HO1 := Lib.hid (hOi.kp hKs (fun _ _ h => h)); have HR2 := Lib.hid hr2; have HKz := Lib.hid (hKi.trans hKs (fun _ _ h => h)); clear hOs hKs hOi hKi hr2)
    | (at_builtin; refine wpList_append1s rfl _ _ 24 4 rfl Try.underlying24 HIb.out rfl HO1.out rfl s2a C.lats.length s2c (bv (brought st C.lats.length)) rfl ?k0 HR2.out s2nil (bv_one _) ?k1 ?k2 ?k3 ?_))
  case k0 => rw [bv_length, brought_len]
  case k1 => rw [bv_length, brought_len]; omega
  case k2 => rw [bv_length, brought_len]; unfold maxLen; omega
  case k3 => exact HKz.out.size
  intro v9 w2 hO9 hg9 hat9
  have hO9' : Own w2 wz.heap.size 4 v9 (bv (insOf C st ip)) := by unfold insOf; rw [bv_append]; exact hO9
  obtain ⟨n9, hn9⟩ : ∃ n, (insOf C st ip).length = n := ⟨_, rfl⟩
  obtain ⟨a9, c9, ev9, -, -, -, hr9⟩ := hO9'.form
  rw [bv_length, hn9] at ev9
  subst ev9
  have HKy := Lib.hid (show Kp (fun _ => False) wz w2 from HKz.out.grown hg9 (fun j hj hl => by have := (HO1.out.lt j hj).1; omega))
  have HK2 := Lib.hid (HK0.out.trans HKy.out (fun _ _ h => h))
  have HMb2 := Lib.hid (HMb.out.kp HKy.out (fun h => h))
  have HR9 := Lib.hid hr9
  have HN9 := Lib.hid hn9
  have hn91 : n9 ≤ 2000000 := by rw [← hn9, insOf_len]; omega
  have HB := Lib.hid (HM.out.blk.kp HK2.out (fun h => h))
  clear hO9 hO9' hg9 hat9 hr9 hn9 s2nil HO1 HR2 HIn HBi HLa HBs HMb
  go_upto_region 2 with fail
  refine wp_region_loose (p := upTo 13) (V := atV [EqV ((.pointer (some ⟨p, 0, none⟩))), EqV ((.pointer (some ⟨p, 0, none⟩))), EqV (.pointer (some ⟨p, 0, none⟩)), EqV (.pointer (some ⟨p, 9, none⟩)), EqV (.slice a4 (netOf C).1.length c4), EqV ((.slice a9 n9 c9)), (fun u v => Own u (w.heap.size + 1) 4 v (bv (valsM C st ip))), EqV ((.pointer (some ⟨p, 0, none⟩))), EqV (.pointer (some ⟨p, 0, none⟩)), EqV (.pointer (some ⟨p, 10, none⟩)), EqV (.slice a5 (netOf C).2.length c5), (fun u v => ∃ va vc, v = .agg #[.slice va ((netOf C).1.length + 1) vc, .slice a5 (netOf C).2.length c5] ∧ RowAt u va (bv (valsM C st ip)) ∧ ∀ q, va = some q → w.heap.size < q.block), (fun u v => ∃ va vc, v = .agg #[.pointer (some ⟨p, 0, none⟩), .slice va ((netOf C).1.length + 1) vc, .slice a5 (netOf C).2.length c5] ∧ RowAt u va (bv (valsM C st ip)) ∧ ∀ q, va = some q → w.heap.size < q.block)]) (LP := #[true, true, true, true, true, true, true, true, true, true, true, true, true, false]) (K := 1) (by kernel_rfl) (by kernel_rfl) (atV_st ?hstL2) ?hstepL2 (by kernel_rfl) ?hLPL2 (by kernel_rfl) ?hendL2
  case hstL2 =>
    intro W h
    simp only [List.mem_cons, List.not_mem_nil, or_false] at h
    rcases h with rfl | rfl | rfl | rfl | rfl | rfl | rfl | rfl | rfl | rfl | rfl | rfl | rfl <;> first | exact EqV.st _ | exact fun _ _ _ k h => Own.kp h k (fun _ _ h => h) | exact fun _ _ _ k ⟨va, vc, h1, h2, h3⟩ => ⟨va, vc, h1, h2.kp k (fun _ _ h => h), h3⟩
  case hLPL2 => exact upTo_spec (by kernel_rfl)
  case hstepL2 =>
    intro i o ho hp a u hk hoff hdep
    have e0 : a.tmps[0]?.getD undef = (.pointer (some ⟨p, 0, none⟩)) := slot_at (hoff 0 (noDst_spec (by kernel_rfl)))
    have e7 : a.tmps[7]?.getD undef = (.slice a9 n9 c9) := slot_at (hoff 7 (noDst_spec (by kernel_rfl)))
    clear hoff
    match i, ho with
    | 0, ho =>
      obtain rfl := Option.some.inj ho
      refine lw_value (v := (.pointer (some ⟨p, 0, none⟩))) (u' := u) ?_ (Kp.refl _ _) rfl
      go_simp
    | 1, ho =>
      obtain rfl := Option.some.inj ho
      refine lw_value (v := (.pointer (some ⟨p, 0, none⟩))) (u' := u) ?_ (Kp.refl _ _) rfl
      go_simp
    | 2, ho =>
      obtain rfl := Option.some.inj ho
      have e18 : a.tmps[18]?.getD undef = (.pointer (some ⟨p, 0, none⟩)) := slot_at (hdep ⟨1, .data⟩ (by simp) rfl _ 18 rfl rfl)
      refine lw_value (v := .pointer (some ⟨p, 0, none⟩)) (u' := u) ?_ (Kp.refl _ _) rfl
      go_simp
    | 3, ho =>
      obtain rfl := Option.some.inj ho
      have e19 : a.tmps[19]?.getD undef = .pointer (some ⟨p, 0, none⟩) := slot_at (hdep ⟨2, .data⟩ (by simp) rfl _ 19 rfl rfl)
      refine lw_value (v := .pointer (some ⟨p, 9, none⟩)) (u' := u) ?_ (Kp.refl _ _) rfl
      go_simp
    | 4, ho =>
      obtain rfl := Option.some.inj ho
      have e20 : a.tmps[20]?.getD undef = .pointer (some ⟨p, 9, none⟩) := slot_at (hdep ⟨3, .data⟩ (by simp) rfl _ 20 rfl rfl)
      have c1 := (HB.out.kp hk (fun h => h)).cell (i := 9) (v := .slice a4 (netOf C).1.length c4) rfl
      refine lw_value (v := .slice a4 (netOf C).1.length c4) (u' := u) ?_ (Kp.refl _ _) rfl
      go_simp
    | 5, ho =>
      obtain rfl := Option.some.inj ho
      refine lw_value (v := (.slice a9 n9 c9)) (u' := u) ?_ (Kp.refl _ _) rfl
      go_simp
    | 6, ho =>
      obtain rfl := Option.some.inj ho
      have e21 : a.tmps[21]?.getD undef = .slice a4 (netOf C).1.length c4 := slot_at (hdep ⟨4, .data⟩ (by simp) rfl _ 21 rfl rfl)
      have e22 : a.tmps[22]?.getD undef = (.slice a9 n9 c9) := slot_at (hdep ⟨5, .data⟩ (by simp) rfl _ 22 rfl rfl)
      refine lw_call (f := 80) (args := #[.slice a4 (netOf C).1.length c4, .slice a9 n9 c9]) ?_ ?_
      · go_simp
      · exact (sim_Eval a4 (netOf C).1.length c4 (netOf C).1 a9 n9 c9 (insOf C st ip) u (HM.out.net.kp (HK2.out.trans hk (fun _ _ h => h)) (fun _ _ h => h)) rfl (by have := HNf.out.1; omega) HG.out.net (HR9.out.kp hk (fun _ _ h => h)) HN9.out (by omega)).mono (by
          rintro e u' ⟨v, rfl, hO, hK⟩
          exact ⟨v, rfl, hK, hO.mono (by have := hk.size; have := HKy.out.size; have := HSz.out; omega)⟩)
    | 7, ho =>
      obtain rfl := Option.some.inj ho
      refine lw_value (v := (.pointer (some ⟨p, 0, none⟩))) (u' := u) ?_ (Kp.refl _ _) rfl
      go_simp
    | 8, ho =>
      obtain rfl := Option.some.inj ho
      have e24 : a.tmps[24]?.getD undef = (.pointer (some ⟨p, 0, none⟩)) := slot_at (hdep ⟨7, .data⟩ (by simp) rfl _ 24 rfl rfl)
      refine lw_value (v := .pointer (some ⟨p, 0, none⟩)) (u' := u) ?_ (Kp.refl _ _) rfl
      go_simp
    | 9, ho =>
      obtain rfl := Option.some.inj ho
      have e25 : a.tmps[25]?.getD undef = .pointer (some ⟨p, 0, none⟩) := slot_at (hdep ⟨8, .data⟩ (by simp) rfl _ 25 rfl rfl)
      refine lw_value (v := .pointer (some ⟨p, 10, none⟩)) (u' := u) ?_ (Kp.refl _ _) rfl
      go_simp
    | 10, ho =>
      obtain rfl := Option.some.inj ho
      have e26 : a.tmps[26]?.getD undef = .pointer (some ⟨p, 10, none⟩) := slot_at (hdep ⟨9, .data⟩ (by simp) rfl _ 26 rfl rfl)
      have c1 := (HB.out.kp hk (fun h => h)).cell (i := 10) (v := .slice a5 (netOf C).2.length c5) rfl
      refine lw_value (v := .slice a5 (netOf C).2.length c5) (u' := u) ?_ (Kp.refl _ _) rfl
      go_simp
    | 11, ho =>
      obtain rfl := Option.some.inj ho
      have e27 : a.tmps[27]?.getD undef = .slice a5 (netOf C).2.length c5 := slot_at (hdep ⟨10, .data⟩ (by simp) rfl _ 27 rfl rfl)
      have hV : Own u (w.heap.size + 1) 4 (a.tmps.getD 23 undef) (bv (valsM C st ip)) := hdep ⟨6, .data⟩ (by simp) rfl _ 23 rfl rfl
      obtain ⟨va, vc, ev, -, -, hfar, hvr⟩ := hV.form
      rw [bv_length, show (valsM C st ip).length = (netOf C).1.length + 1 from valsOf_len _ _] at ev
      have e23 := slot_at ev
      refine lw_value (v := .agg #[.slice va ((netOf C).1.length + 1) vc, .slice a5 (netOf C).2.length c5]) (u' := u) ?_ (Kp.refl _ _) ⟨va, vc, rfl, hvr, fun q hq => by obtain ⟨g, rfl, hb, -⟩ := hfar q hq; exact hb⟩
      go_simp
    | 12, ho =>
      obtain rfl := Option.some.inj ho
      have e17 : a.tmps[17]?.getD undef = (.pointer (some ⟨p, 0, none⟩)) := slot_at (hdep ⟨0, .data⟩ (by simp) rfl _ 17 rfl rfl)
      obtain ⟨va, vc, ev, hvr, hfar⟩ : ∃ va vc, (a.tmps.getD 28 undef) = .agg #[.slice va ((netOf C).1.length + 1) vc, .slice a5 (netOf C).2.length c5] ∧ RowAt u va (bv (valsM C st ip)) ∧ ∀ q, va = some q → w.heap.size < q.block := hdep ⟨11, .data⟩ (by simp) rfl _ 28 rfl rfl
      have e28 := slot_at ev
      refine lw_value (v := .agg #[.pointer (some ⟨p, 0, none⟩), .slice va ((netOf C).1.length + 1) vc, .slice a5 (netOf C).2.length c5]) (u' := u) ?_ (Kp.refl _ _) ⟨va, vc, rfl, hvr, hfar⟩
      go_simp
    | n + 13, _ => exact absurd hp (by simp [upTo])
  intro a u hI
  have hsz : a.tmps.size = 30 := hI.size
  have hdf : a.defers = [] := hI.defers
  have f0 : a.tmps.getD 0 undef = _ := hI.off 0 (noDst_spec (p := upTo 13) (by kernel_rfl))
  have f1 : a.tmps.getD 1 undef = _ := hI.off 1 (noDst_spec (p := upTo 13) (by kernel_rfl))
  have f2 : a.tmps.getD 2 undef = _ := hI.off 2 (noDst_spec (p := upTo 13) (by kernel_rfl))
  have f3 : a.tmps.getD 3 undef = _ := hI.off 3 (noDst_spec (p := upTo 13) (by kernel_rfl))
  have f4 : a.tmps.getD 4 undef = _ := hI.off 4 (noDst_spec (p := upTo 13) (by kernel_rfl))
  have f5 : a.tmps.getD 5 undef = _ := hI.off 5 (noDst_spec (p := upTo 13) (by kernel_rfl))
  have f6 : a.tmps.getD 6 undef = _ := hI.off 6 (noDst_spec (p := upTo 13) (by kernel_rfl))
  have f7 : a.tmps.getD 7 undef = _ := hI.off 7 (noDst_spec (p := upTo 13) (by kernel_rfl))
  have f8 : a.tmps.getD 8 undef = _ := hI.off 8 (noDst_spec (p := upTo 13) (by kernel_rfl))
  have f9 : a.tmps.getD 9 undef = _ := hI.off 9 (noDst_spec (p := upTo 13) (by kernel_rfl))
  have f10 : a.tmps.getD 10 undef = _ := hI.off 10 (noDst_spec (p := upTo 13) (by kernel_rfl))
  have f11 : a.tmps.getD 11 undef = _ := hI.off 11 (noDst_spec (p := upTo 13) (by kernel_rfl))
  have f12 : a.tmps.getD 12 undef = _ := hI.off 12 (noDst_spec (p := upTo 13) (by kernel_rfl))
  have f13 : a.tmps.getD 13 undef = _ := hI.off 13 (noDst_spec (p := upTo 13) (by kernel_rfl))
  have f14 : a.tmps.getD 14 undef = _ := hI.off 14 (noDst_spec (p := upTo 13) (by kernel_rfl))
  have f15 : a.tmps.getD 15 undef = _ := hI.off 15 (noDst_spec (p := upTo 13) (by kernel_rfl))
  have f16 : a.tmps.getD 16 undef = _ := hI.off 16 (noDst_spec (p := upTo 13) (by kernel_rfl))
  have f17 : a.tmps.getD 17 undef = (.pointer (some ⟨p, 0, none⟩)) := hI.val 0 _ 17 rfl rfl rfl
  have f18 : a.tmps.getD 18 undef = (.pointer (some ⟨p, 0, none⟩)) := hI.val 1 _ 18 rfl rfl rfl
  have f19 : a.tmps.getD 19 undef = .pointer (some ⟨p, 0, none⟩) := hI.val 2 _ 19 rfl rfl rfl
  have f20 : a.tmps.getD 20 undef = .pointer (some ⟨p, 9, none⟩) := hI.val 3 _ 20 rfl rfl rfl
  have f21 : a.tmps.getD 21 undef = .slice a4 (netOf C).1.length c4 := hI.val 4 _ 21 rfl rfl rfl
  have f22 : a.tmps.getD 22 undef = (.slice a9 n9 c9) := hI.val 5 _ 22 rfl rfl rfl
  have g23 : ((fun u v => Own u (w.heap.size + 1) 4 v (bv (valsM C st ip)))) u (a.tmps.getD 23 undef) := hI.val 6 _ 23 rfl rfl rfl
  have f24 : a.tmps.getD 24 undef = (.pointer (some ⟨p, 0, none⟩)) := hI.val 7 _ 24 rfl rfl rfl
  have f25 : a.tmps.getD 25 undef = .pointer (some ⟨p, 0, none⟩) := hI.val 8 _ 25 rfl rfl rfl
  have f26 : a.tmps.getD 26 undef = .pointer (some ⟨p, 10, none⟩) := hI.val 9 _ 26 rfl rfl rfl
  have f27 : a.tmps.getD 27 undef = .slice a5 (netOf C).2.length c5 := hI.val 10 _ 27 rfl rfl rfl
  have g28 : ((fun u v => ∃ va vc, v = .agg #[.slice va ((netOf C).1.length + 1) vc, .slice a5 (netOf C).2.length c5] ∧ RowAt u va (bv (valsM C st ip)) ∧ ∀ q, va = some q → w.heap.size < q.block)) u (a.tmps.getD 28 undef) := hI.val 11 _ 28 rfl rfl rfl
  have g29 : ((fun u v => ∃ va vc, v = .agg #[.pointer (some ⟨p, 0, none⟩), .slice va ((netOf C).1.length + 1) vc, .slice a5 (netOf C).2.length c5] ∧ RowAt u va (bv (valsM C st ip)) ∧ ∀ q, va = some q → w.heap.size < q.block)) u (a.tmps.getD 29 undef) := hI.val 12 _ 29 rfl rfl rfl
  have ha : a = ⟨#[a.tmps.getD 0 undef, a.tmps.getD 1 undef, a.tmps.getD 2 undef, a.tmps.getD 3 undef, a.tmps.getD 4 undef, a.tmps.getD 5 undef, a.tmps.getD 6 undef, a.tmps.getD 7 undef, a.tmps.getD 8 undef, a.tmps.getD 9 undef, a.tmps.getD 10 undef, a.tmps.getD 11 undef, a.tmps.getD 12 undef, a.tmps.getD 13 undef, a.tmps.getD 14 undef, a.tmps.getD 15 undef, a.tmps.getD 16 undef, a.tmps.getD 17 undef, a.tmps.getD 18 undef, a.tmps.getD 19 undef, a.tmps.getD 20 undef, a.tmps.getD 21 undef, a.tmps.getD 22 undef, a.tmps.getD 23 undef, a.tmps.getD 24 undef, a.tmps.getD 25 undef, a.tmps.getD 26 undef, a.tmps.getD 27 undef, a.tmps.getD 28 undef, a.tmps.getD 29 undef], a.defers⟩ := act_list a 30 hsz
  rw [hdf, f0, f1, f2, f3, f4, f5, f6, f7, f8, f9, f10, f11, f12, f13, f14, f15, f16, f17, f18, f19, f20, f21, f22, f24, f25, f26, f27] at ha
  obtain ⟨x23, hx23⟩ : ∃ x, a.tmps.getD 23 undef = x := ⟨_, rfl⟩
  obtain ⟨x28, hx28⟩ : ∃ x, a.tmps.getD 28 undef = x := ⟨_, rfl⟩
  obtain ⟨x29, hx29⟩ : ∃ x, a.tmps.getD 29 undef = x := ⟨_, rfl⟩
  rw [hx23, hx28, hx29] at ha
  rw [hx23] at g23
  rw [hx28] at g28
  rw [hx29] at g29
  have hku := hI.kp
  clear hI hsz hdf f0 f1 f2 f3 f4 f5 f6 f7 f8 f9 f10 f11 f12 f13 f14 f15 f16 f17 f18 f19 f20 f21 f22 f24 f25 f26 f27 hx23 hx28 hx29
  subst ha
  refine wpAny_tail 13 rfl (by kernel_rfl) ?_
  simp only [List.drop_succ_cons, List.drop_zero]
  obtain ⟨va, vc, rfl, hvr, hfar⟩ := g29
  have HFar := Lib.hid hfar
  clear hfar
  have HMu := HMb2.out.kp hku (fun h => h)
  obtain ⟨t0, t1, t2⟩ : u.cell? ⟨w.heap.size, 0, none⟩ = some (.pointer none) ∧ u.cell? ⟨w.heap.size, 1, none⟩ = some (.slice none 0 0) ∧ u.cell? ⟨w.heap.size, 2, none⟩ = some (.slice none 0 0) := ⟨HMu.cell rfl, HMu.cell rfl, HMu.cell rfl⟩
  have z0 := HMu.free 0
  have z1 := HMu.free 1
  have z2 := HMu.free 2
  have HV := Lib.hid hvr
  have HKu := Lib.hid (HK2.out.trans hku (fun _ _ h => h))
  have HMw := Lib.hid HMu
  clear hvr hku HMu g23 g28
  go_wp2_with fail
  have h3 := ((HMw.out.set_same 0 (.pointer (some ⟨p, 0, none⟩))).set_same 1 (.slice va ((netOf C).1.length + 1) vc)).set_same 2 (.slice a5 (netOf C).2.length c5)
  have s0 := h3.cell (i := 0) (v := .pointer (some ⟨p, 0, none⟩)) rfl
  have s1 := h3.cell (i := 1) (v := .slice va ((netOf C).1.length + 1) vc) rfl
  have s2 := h3.cell (i := 2) (v := .slice a5 (netOf C).2.length c5) rfl
  have hkS := (((Kp.refl (fun j => j = w.heap.size) u).setCell (p := ⟨w.heap.size, 0, none⟩) (fun _ => rfl) (.pointer (some ⟨p, 0, none⟩))).setCell (p := ⟨w.heap.size, 1, none⟩) (fun _ => rfl) (.slice va ((netOf C).1.length + 1) vc)).setCell (p := ⟨w.heap.size, 2, none⟩) (fun _ => rfl) (.slice a5 (netOf C).2.length c5)
  have HE := HV.out.kp hkS (fun q hq e => by have := HFar.out q hq; have e2 : q.block = w.heap.size := e; omega)
  have HKe := HKu.out.trans hkS (fun j hj e => by have e2 : j = w.heap.size := e; omega)
  exact bodyPost_ret (v := .agg #[.pointer (some ⟨p, 0, none⟩), .slice va ((netOf C).1.length + 1) vc, .slice a5 (netOf C).2.length c5]) (by simp [results, Try.results66, go_sem, s0, s1, s2]) rfl ⟨⟨va, vc, rfl, HE⟩, HKe⟩
end Go.Proofs.Ytnoknecfdnjomaa

/-
  step: moment.next, Machine.Next.
-/
namespace Go.Proofs.Ytnoknecfdnjomaa
open Go.RowKit

set_option maxRecDepth 100000 in
set_option maxHeartbeats 2000000 in
theorem step_next (V : CV) (C : Circ) (p : Nat) (a4 a5 : Option Addr) (c4 c5 : Nat) (va : Option Addr) (vc : Nat) (st ip : List Bool) (w : World) (hM : MAt w 72 V C p a4 c4 a5 c5) (hf : CFew C 1000000) (hg : GoodC C) (hv : RowAt w va (bv (valsM C st ip))) :
    Calls Try.prog 69 #[.agg #[.pointer (some ⟨p, 0, none⟩), .slice va ((netOf C).1.length + 1) vc, .slice a5 (netOf C).2.length c5]] w fun e w' => ∃ v, e = .returned v ∧ Own w' w.heap.size 4 v (bv (nextM C st ip)) ∧ Kp (fun _ => False) w w' := by
  obtain ⟨nl, hnl⟩ : ∃ n, C.lats.length = n := ⟨_, rfl⟩
  have hnl1 : nl ≤ 1000000 := by have := hf.l; omega
  obtain ⟨i0, hi0, hz0, hz1, hz2⟩ := info_parts (show (Try.prog.info? 4).map (fun i => (i.zero, i.size, i.bytes)) = some (some (.bool false), 1, 1) by kernel_rfl)
  have hmk : ∀ u : World, (Instr.makeSlice 24 (.int .i64 (nl : Int)) (.int .i64 (nl : Int))).run Try.prog u =
      .ok (.slice (some ⟨u.heap.size, 0, none⟩) nl nl) (u.alloc (.cells (madeCells #[.bool false] nl) 4)) := fun u => by
    have h := run_make (P := Try.prog) u 24 4 i0 (.bool false) Try.underlying24 hi0 hz0 .i64 .i64 (nl : Int) (nl : Int) (by omega) (Int.le_refl _) (by rw [hz2]; omega) (by omega)
    simpa [hz1, Value.cells] using h
  clear hi0 hz0 hz1 hz2 i0
  have HNl := Lib.hid hnl
  have HL := Lib.hid (step_lit (c5 := c5) (vc := vc) hf hg hM.ats hv)
  have HM := Lib.hid hM
  have HNx := Lib.hid (show (nextM C st ip).length = nl by rw [nextM_len]; exact hnl)
  have HVx := Lib.hid (show ∀ k, k < nl → vb (nextM C st ip) k = litM C st ip (g3 C.lats k).2.1 from fun k hk => by
    unfold vb nextM
    rw [List.getElem?_map, g3_at (by omega)]; rfl)
  obtain ⟨n4, hn4⟩ : ∃ n, (netOf C).1.length + 1 = n := ⟨_, rfl⟩
  obtain ⟨n5, hn5⟩ : ∃ n, (netOf C).2.length = n := ⟨_, rfl⟩
  rw [hn4, hn5] at HL ⊢
  obtain ⟨wa, hwa⟩ : ∃ wa : World, wa = w.alloc (.cells #[.pointer (some ⟨p, 0, none⟩), .slice va n4 vc, .slice a5 n5 c5] 116) := ⟨_, rfl⟩
  obtain ⟨wz, hwz⟩ : ∃ wz : World, wz = wa.alloc (.cells (madeCells #[.bool false] nl) 4) := ⟨_, rfl⟩
  have hwas : wa.heap.size = w.heap.size + 1 := by rw [hwa]; simp
  have hKa : Kp (fun _ => False) w wa := by rw [hwa]; exact (Kp.refl _ w).alloc _
  have hBa : Blk wa w.heap.size #[.pointer (some ⟨p, 0, none⟩), .slice va n4 vc, .slice a5 n5 c5] 116 := by rw [hwa]; exact Blk.new _ _ _
  have HLa := Lib.hid (step_Latches V C p a4 a5 c4 c5 wa (hM.kp hKa) hf)
  rw [hnl] at HLa
  have HK0 := Lib.hid (show Kp (fun _ => False) w wz by rw [hwz]; exact hKa.alloc _)
  have HB0 := Lib.hid (show Blk wz w.heap.size #[.pointer (some ⟨p, 0, none⟩), .slice va n4 vc, .slice a5 n5 c5] 116 by rw [hwz]; exact hBa.alloc _)
  have HO0 : Hid (Own wz (w.heap.size + 1) 4 (.slice (some ⟨wa.heap.size, 0, none⟩) nl nl) (bv (laid (nextM C st ip) nl 0))) := Lib.hid (by rw [hwz, laid_zero]; exact made_bools0 (by unfold maxLen; omega) (by omega))
  have HWs := Lib.hid hwas
  have HZa := Lib.hid hwa
  have HZ := Lib.hid hwz
  have m0 := hBa.cell (i := 0) (v := .pointer (some ⟨p, 0, none⟩)) rfl
  have m1 := HB0.out.cell (i := 0) (v := .pointer (some ⟨p, 0, none⟩)) rfl
  have m2 : wz.cell? ⟨p, 2, none⟩ = some (.slice V.al nl V.cl) := (HM.out.blk.kp HK0.out (fun h => h)).cell (i := 2) (by rw [← hnl]; rfl)
  clear hM hf hg hv hnl hn4 hn5 hwa hwz hwas hKa hBa
  go_enter Try.func69, Try.ntmps69
  go_upto_region 1 with fail
  rw [← HZa.out]
  go_upto_region 2 with (go_at_call 24; with_reducible refine Calls.mono HLa.out ?_; rintro e w1 ⟨rfl, rfl⟩)
  rw [← HZ.out]
  generalize hgr : wa.heap.size = gr at HO0 HWs ⊢
  clear HZ HZa hmk HLa m0 hgr
  go_wp2_with fail
  clear m1 m2
  go_loopw [17] (fun v17 wr => ∃ k : Nat, v17 = .int .i64 k ∧ k ≤ nl ∧ Own wr (w.heap.size + 1) 4 (.slice (some ⟨gr, 0, none⟩) nl nl) (bv (laid (nextM C st ip) nl k)) ∧ Blk wr w.heap.size #[.pointer (some ⟨p, 0, none⟩), .slice va n4 vc, .slice a5 n5 c5] 116 ∧ Kp (fun _ => False) w wr) (fun v17 _ => nl - (intOf v17).toNat)
  case atStart => exact ⟨0, rfl, by omega, HO0.out, HB0.out, HK0.out⟩
  case round =>
    obtain ⟨k, rfl, hk, hO, hB, hK⟩ := hrel
    clear HO0 HB0 HK0
    obtain ⟨wp, rfl⟩ : ∃ wp : World, wp = wr := ⟨_, rfl⟩
    have HO := Lib.hid hO
    have HB := Lib.hid hB
    have HK := Lib.hid hK
    clear hO hB hK
    by_cases hlt : k < nl
    · have hkl : k < C.lats.length := by rw [HNl.out]; exact hlt
      obtain ⟨b, off, ea, hE⟩ := HM.out.circ.latCell hkl
      obtain ⟨e0, e1, e2⟩ := hE _ HK.out
      obtain ⟨x0, hx0⟩ : ∃ x, (g3 C.lats k).1 = x := ⟨_, rfl⟩
      obtain ⟨x1, hx1⟩ : ∃ x, (g3 C.lats k).2.1 = x := ⟨_, rfl⟩
      obtain ⟨x2, hx2⟩ : ∃ x, (g3 C.lats k).2.2 = x := ⟨_, rfl⟩
      have hvx := HVx.out k hlt
      obtain ⟨wv, hwv⟩ : ∃ wv : World, wv = wp.alloc (.cells #[.int .i64 x0, .int .i64 x1, .int .i64 x2] 58) := ⟨_, rfl⟩
      have hKv : Kp (fun _ => False) wp wv := by rw [hwv]; exact (Kp.refl _ wp).alloc _
      have hc := HL.out wv (HK.out.trans hKv (fun _ _ h => h)) _ (lat_used hkl)
      rw [hx1] at hc hvx e1
      rw [hx0] at e0
      rw [hx2] at e2
      obtain ⟨y, hy⟩ : ∃ y, litM C st ip x1 = y := ⟨_, rfl⟩
      rw [hy] at hc hvx
      have HC := Lib.hid hc
      have HVk := Lib.hid hvx
      have i0 : (0 : Int) ≤ (k : Int) := by omega
      have i2 : (k : Int) < (nl : Int) := by omega
      have nb : wv.cell? ⟨wp.heap.size, 1, none⟩ = some (.int .i64 x1) := by rw [hwv]; exact (Blk.new wp _ _).cell rfl
      have b1 := (HB.out.kp hKv (fun h => h)).cell (i := 1) (v := .slice va n4 vc) rfl
      have b2 := (HB.out.kp hKv (fun h => h)).cell (i := 2) (v := .slice a5 n5 c5) rfl
      have HKv := Lib.hid hKv
      have HZv := Lib.hid hwv
      rw [ea]
      clear hx0 hx1 hx2 hy hc hvx hE ea hkl hwv hKv
      go_upto_region 5 with fail
      rw [← HZv.out]
      clear HZv e0 e1 e2
      go_wp2_with (go_at_call 68; with_reducible refine Calls.mono HC.out ?_; rintro e w1 ⟨rfl, hK1⟩; have HK1 := Lib.hid (HKv.out.trans hK1 (fun _ _ h => h)); have ck := (HO.out.kp HK1.out (fun _ _ h => h)).cell (j := k) (bv_at (by rw [laid_len HNx.out hk]; exact hlt)); have fk := (HO.out.kp HK1.out (fun _ _ h => h)).free k; clear hK1)
      have h1 := (HO.out.kp HK1.out (fun _ _ h => h)).set k (.bool y)
      have h2 := laid_step HNx.out hlt
      rw [HVk.out] at h2
      rw [bv_set, h2] at h1
      have h3 := (HB.out.kp HK1.out (fun h => h)).kp (Kp.set w1 ⟨gr, k, none⟩ (.bool y)) (fun e => by have e2 : w.heap.size = gr := e; have := HWs.out; omega)
      have h4 := (HK.out.trans HK1.out (fun _ _ h => h)).setCell (p := ⟨gr, k, none⟩) (fun hl => by have h5 : gr < w.heap.size := hl; have := HWs.out; omega) (.bool y)
      exact ⟨⟨k + 1, by go_num, by omega, h1, h3, h4⟩, by simp [intOf]; omega⟩
    · obtain rfl : k = nl := by omega
      have HE := Lib.hid (show Own wp w.heap.size 4 (.slice (some ⟨gr, 0, none⟩) k k) (bv (nextM C st ip)) from by have := HO.out; rw [laid_full HNx.out] at this; exact this.mono (by omega))
      go_wp2_with fail
      go_ret
      exact ⟨_, rfl, HE.out, HK.out⟩

set_option maxRecDepth 100000 in
theorem step_Next (V : CV) (C : Circ) (p : Nat) (a4 a5 : Option Addr) (c4 c5 : Nat) (sa : Option Addr) (sn sc : Nat) (ia : Option Addr) (in_ ic : Nat) (st ip : List Bool) (w : World) (hM : MAt w 72 V C p a4 c4 a5 c5) (hf : CFew C 1000000) (hg : GoodC C) (hs : BS w sa sn st) (hi : BS w ia in_ ip) :
    Calls Try.prog 42 #[.pointer (some ⟨p, 0, none⟩), .slice sa sn sc, .slice ia in_ ic] w fun e w' => ∃ v, e = .returned v ∧ Own w' w.heap.size 4 v (bv (nextM C st ip)) ∧ Kp (fun _ => False) w w' := by
  have H1 := Lib.hid (step_in V C p a4 a5 c4 c5 sa sn sc ia in_ ic st ip w hM hf hg hs hi)
  have H2 := Lib.hid (fun w1 va vc (hk : Kp (fun _ => False) w w1) hv => step_next V C p a4 a5 c4 c5 va vc st ip w1 (hM.kp hk) hf hg hv)
  clear hM hf hg hs hi
  go_enter Try.func42, Try.ntmps42
  go_wp2_with (first
    | (go_at_call 66; with_reducible refine Calls.mono H1.out ?_; rintro e w1 ⟨⟨va, vc, rfl, hv1⟩, hK1⟩)
    | (go_at_call 69; with_reducible refine Calls.mono (H2.out _ _ _ hK1 hv1) ?_; rintro e w2 ⟨v2, rfl, hO2, hK2⟩))
  have HE := Lib.hid (And.intro (hO2.mono hK1.size) (hK1.trans hK2 (fun _ _ h => h)))
  clear hO2 hK2 hK1 hv1
  try go_wp2_with fail
  go_ret
  exact ⟨_, rfl, HE.out⟩

end Go.Proofs.Ytnoknecfdnjomaa
