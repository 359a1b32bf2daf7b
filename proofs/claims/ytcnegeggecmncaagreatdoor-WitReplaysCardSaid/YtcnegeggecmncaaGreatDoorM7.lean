/-
  (*latchet/latchetref17.M).Breaks.
-/
import Derived.Test.YtcnegeggecmncaaGreatDoorM4
import Derived.Test.YtcnegeggecmncaaGreatDoorM3
import Derived.Test.YtcnegeggecmncaaGreatDoorM5
import Derived.Test.YtcnegeggecmncaaGreatDoorM6
import Derived.Test.YtcnegeggecmncaaGreatDoorM1
import Derived.Laws.BitsAllLaws
import Derived.Lib.Atoi
import Derived.Lib.Strings
import Derived.Lib.SplitLaws
import Derived.Lib.IndexBytes
import Derived.Lib.IndexLaws
import Derived.Lib.ItoaNum
set_option linter.unusedVariables false
set_option linter.unusedSimpArgs false
namespace Go.Proofs.YtcnegeggecmncaaGreatDoor
open Go.RowKit

def okM (C : Circ) (st : List Bool) (rows : List (List Bool)) (k : Nat) : Bool := decide ((rows[k]?.getD []).length = C.ins.length) && holdsM C (stateM C st rows k) (rows[k]?.getD [])

theorem breaksM_start {C : Circ} {st : List Bool} {rows : List (List Bool)} {pr : Int} (h : startsM C st = false) : breaksM C st rows pr = false := by unfold breaksM; rw [h]; rfl
theorem breaksM_none {C : Circ} {st : List Bool} {rows : List (List Bool)} {pr : Int} (h : rows.length = 0) : breaksM C st rows pr = false := by unfold breaksM; rw [decide_eq_false (by omega : ¬ rows.length ≠ 0), Bool.and_false]; rfl
theorem breaksM_not {C : Circ} {st : List Bool} {rows : List (List Bool)} {pr : Int} {k : Nat} (hk : k < rows.length) (h : okM C st rows k = false) : breaksM C st rows pr = false := by
  unfold breaksM
  rw [all_range_lt (f := fun k => decide ((rows[k]?.getD []).length = C.ins.length) && holdsM C (stateM C st rows k) (rows[k]?.getD [])) hk h, Bool.and_false]
  rfl
theorem breaksM_end {C : Circ} {st : List Bool} {rows : List (List Bool)} {pr : Int} {g : Nat} (h0 : startsM C st = true) (hg : rows.length = g + 1) (h : ∀ k, k < g + 1 → okM C st rows k = true) : breaksM C st rows pr = badM C (stateM C st rows g) (rows[g]?.getD []) pr := by
  unfold breaksM
  have h1 : (List.range rows.length).all (fun k => decide ((rows[k]?.getD []).length = C.ins.length) && holdsM C (stateM C st rows k) (rows[k]?.getD [])) = true := by
    rw [List.all_eq_true]
    intro k hk
    exact h k (by rw [← hg]; exact List.mem_range.1 hk)
  rw [h0, h1, decide_eq_true (by omega : rows.length ≠ 0), hg]
  rfl

theorem SL.low {C : Circ} {st : List Bool} {rows : List (List Bool)} {B B' k : Nat} {v5 v6 : Value} {wr : World} (h : SL C st rows B k v5 v6 wr) (hb : B' ≤ B) : SL C st rows B' k v5 v6 wr := by
  obtain ⟨⟨vs, h1, h2, h3⟩, h4⟩ := h
  exact ⟨⟨vs, h1.mono hb, h2, fun j hj => by obtain ⟨x, e, hx⟩ := h3 j hj; exact ⟨x, e, hx.mono hb⟩⟩, h4.mono hb⟩

theorem SL.grid {C : Circ} {st : List Bool} {rows : List (List Bool)} {B k : Nat} {v5 v6 : Value} {wr : World} (h : SL C st rows B k v5 v6 wr) (hl : C.lats.length ≤ 1000000) (hk : k ≤ 1000000) : ∃ a c, v5 = .slice a k c ∧ GS wr a k c ((List.range k).map (stateM C st rows)) := by
  obtain ⟨⟨vs, h1, h2, h3⟩, h4⟩ := h
  obtain ⟨a, c, e, -, -, -, hr⟩ := h1.form
  rw [h2] at e
  refine ⟨a, c, e, ⟨vs, hr, h2, fun j hj => ?_⟩, by simp, hk⟩
  obtain ⟨x, ex, hx⟩ := h3 j hj
  obtain ⟨a2, c2, e2, -, -, -, hr2⟩ := hx.form
  rw [bv_length, stateM_len] at e2
  subst e2
  have e3 : ((List.range k).map (stateM C st rows))[j]?.getD [] = stateM C st rows j := by
    rw [List.getElem?_map, List.getElem?_range hj]; rfl
  rw [e3]
  exact ⟨a2, _, c2, ex, hr2, stateM_len C st rows j, by omega⟩

theorem GS.kp {w w' : World} {a : Option Addr} {n c : Nat} {L : List (List Bool)} (h : GS w a n c L) (k : Kp (fun _ => False) w w') : GS w' a n c L := by
  obtain ⟨⟨vs, h1, h2, h3⟩, h4, h5⟩ := h
  exact ⟨⟨vs, h1.kp k (fun _ _ h => h), h2, fun j hj => by obtain ⟨b, m, d, e, hb⟩ := h3 j hj; exact ⟨b, m, d, e, hb.kp k⟩⟩, h4, h5⟩

theorem GS.at {w : World} {a : Option Addr} {n c : Nat} {L : List (List Bool)} (h : GS w a n c L) {k : Nat} (hk : k < n) : ∃ bg og b m d, a = some ⟨bg, og, none⟩ ∧ w.cell? ⟨bg, og + k, none⟩ = some (.slice b m d) ∧ BS w b m (L[k]?.getD []) := by
  obtain ⟨⟨vs, h1, h2, h3⟩, h4, h5⟩ := h
  obtain ⟨b, m, d, e, hb⟩ := h3 k hk
  obtain ⟨bg, og, ea, ec⟩ := h1 k _ e
  exact ⟨bg, og, b, m, d, ea, ec, hb⟩

theorem GS.states {w : World} {a : Option Addr} {n c : Nat} {C : Circ} {st : List Bool} {rows : List (List Bool)} (h : GS w a n c ((List.range n).map (stateM C st rows))) {k : Nat} (hk : k < n) : ∃ bg og b m d, a = some ⟨bg, og, none⟩ ∧ w.cell? ⟨bg, og + k, none⟩ = some (.slice b m d) ∧ BS w b m (stateM C st rows k) := by
  obtain ⟨bg, og, b, m, d, h1, h2, h3⟩ := h.at hk
  rw [List.getElem?_map, List.getElem?_range hk] at h3
  exact ⟨bg, og, b, m, d, h1, h2, h3⟩

set_option maxRecDepth 100000 in
set_option maxHeartbeats 8000000 in
theorem ref17_Breaks (V : CV) (C : Circ) (p : Nat) (a4 a5 : Option Addr) (c4 c5 : Nat) (sa : Option Addr) (sn sc : Nat) (ga : Option Addr) (gn_ gc : Nat) (st : List Bool) (rows : List (List Bool)) (pr : Int) (w : World) (hM : MAt w 54 V C p a4 c4 a5 c5) (hf : CFew C 1000000) (hg : GoodC C) (hs : BS w sa sn st) (hi : GS w ga gn_ gc rows) :
    Calls Tryz.prog 9 #[.pointer (some ⟨p, 0, none⟩), .agg #[.slice sa sn sc, .slice ga gn_ gc], .int .i64 pr] w fun e w' => e = .returned (.bool (breaksM C st rows pr)) ∧ Kp (fun _ => False) w w' := by
  obtain ⟨wz, hwz⟩ : ∃ wz : World, wz = w.alloc (.cells #[.slice sa sn sc, .slice ga gn_ gc] 31) := ⟨_, rfl⟩
  have HK0 := Lib.hid (show Kp (fun _ => False) w wz by rw [hwz]; exact (Kp.refl _ w).alloc _)
  have HRb0 := Lib.hid (show Blk wz w.heap.size #[.slice sa sn sc, .slice ga gn_ gc] 31 by rw [hwz]; exact Blk.new _ _ _)
  have HSz0 := Lib.hid (show w.heap.size ≤ wz.heap.size by rw [hwz]; simp)
  have HZ := Lib.hid hwz
  have hgn := hi.most
  have HSt := Lib.hid (ref17_Starts V C p a4 a5 c4 c5 sa sn sc st wz (hM.kp HK0.out) hf (hs.kp HK0.out))
  have HSts0 := Lib.hid (fun u (hu : Kp (fun _ => False) w u) => ref17_States V C p a4 a5 c4 c5 sa sn sc ga gn_ gc st rows u (hM.kp hu) hf hg (hs.kp hu) (hi.kp hu))
  have HHo := Lib.hid (fun u (hu : Kp (fun _ => False) w u) b1 m1 d1 s1 b2 m2 d2 s2 (h1 : BS u b1 m1 s1) (h2 : BS u b2 m2 s2) => ref17_Holds V C p a4 a5 c4 c5 b1 m1 d1 b2 m2 d2 s1 s2 u (hM.kp hu) hf hg h1 h2)
  have HBa := Lib.hid (fun u (hu : Kp (fun _ => False) w u) b1 m1 d1 s1 b2 m2 d2 s2 (h1 : BS u b1 m1 s1) (h2 : BS u b2 m2 s2) => ref17_Bad V C p a4 a5 c4 c5 b1 m1 d1 b2 m2 d2 s1 s2 pr u (hM.kp hu) hf hg h1 h2)
  obtain ⟨ni, hni⟩ : ∃ n, C.ins.length = n := ⟨_, rfl⟩
  have hni1 : ni ≤ 1000000 := by have := hf.i; omega
  have HNi := Lib.hid hni
  have hfl := Lib.hid hf.l
  have HMb := Lib.hid (show ∀ u, Kp (fun _ => False) w u → u.cell? ⟨p, 1, none⟩ = some (.slice V.ai ni V.ci) from fun u hu => (hM.blk.kp hu (fun h => h)).cell (i := 1) (by rw [← hni]; rfl))
  obtain ⟨r, hr⟩ : ∃ r, breaksM C st rows pr = r := ⟨_, rfl⟩
  have HGs := Lib.hid hi
  have hlen := hi.len
  have R1 := Lib.hid (fun h => hr ▸ breaksM_start (C := C) (st := st) (rows := rows) (pr := pr) h)
  have R2 := Lib.hid (fun h => hr ▸ breaksM_none (C := C) (st := st) (rows := rows) (pr := pr) h)
  have R3 := Lib.hid (fun k hk h => hr ▸ breaksM_not (C := C) (st := st) (rows := rows) (pr := pr) (k := k) hk h)
  have R4 := Lib.hid (fun g h0 h1 h2 => hr ▸ (breaksM_end (C := C) (st := st) (rows := rows) (pr := pr) (g := g) h0 h1 h2).symm)
  have HLen := Lib.hid hlen
  rw [hr]
  obtain ⟨b0, hb0⟩ : ∃ b, startsM C st = b := ⟨_, rfl⟩
  rw [hb0] at HSt
  have HB0 := Lib.hid hb0
  clear hM hf hg hs hi hni hr hlen hwz hb0
  go_enter Tryz.func9, Tryz.ntmps9
  go_upto_region 1 with fail
  rw [← HZ.out]
  clear HZ
  have z0 := HRb0.out.cell (i := 0) (v := .slice sa sn sc) rfl
  have z1 := HRb0.out.cell (i := 1) (v := .slice ga gn_ gc) rfl
  cases b0 with
  | false =>
    have hrf := R1.out HB0.out
    subst hrf
    go_wp2_with (go_at_call 19; with_reducible refine Calls.mono HSt.out ?_; rintro e w1 ⟨rfl, rfl⟩)
    go_ret
    exact ⟨rfl, HK0.out⟩
  | true =>
  by_cases hz : gn_ = 0
  · have hrf := R2.out (by rw [HLen.out]; exact hz)
    subst hrf
    have hq : ((gn_ : Int) == 0) = true := by simp [hz]
    have HZz := Lib.hid hz
    clear hz
    go_wp2_with (go_at_call 19; with_reducible refine Calls.mono HSt.out ?_; rintro e w1 ⟨rfl, rfl⟩)
    go_ret
    exact ⟨rfl, HK0.out⟩
  obtain ⟨gl, hgl⟩ : ∃ gl, gn_ = gl + 1 := ⟨gn_ - 1, by omega⟩
  have hq : ((gn_ : Int) == 0) = false := by simp [hz]
  have HGl := Lib.hid (show (gn_ : Int) - 1 = (gl : Int) by omega)
  have HGl2 := Lib.hid hgl
  clear hz hgl
  go_upto_region 3 with (go_at_call 19; with_reducible refine Calls.mono HSt.out ?_; rintro e w1 ⟨rfl, rfl⟩)
  have HKs := HK0
  have HRb := HRb0
  have HSts := Lib.hid (fun u (hu : Kp (fun _ => False) wz u) => HSts0.out u (HK0.out.trans hu (fun _ _ h => h)))
  have HSz := HSz0
  clear HSt HSts0
  clear hq
  refine wp_region_loose (p := upTo 8) (V := atV [EqV ((.pointer (some ⟨p, 0, none⟩))), EqV (.agg #[.slice sa sn sc, .slice ga gn_ gc]), (fun u v => ∃ v6, SL C st rows w.heap.size gn_ v v6 u), EqV (.pointer (some ⟨w.heap.size, 1, none⟩)), EqV (.slice ga gn_ gc), EqV (.int .i64 (gn_ : Int)), EqV (.int .i64 (gl : Int)), (fun u v => ∃ v6, SL C st rows w.heap.size gn_ v v6 u)]) (LP := #[true, true, true, true, true, true, true, true, false]) (K := 1) (by kernel_rfl) (by kernel_rfl) (atV_st ?hstL1) ?hstepL1 (by kernel_rfl) ?hLPL1 (by kernel_rfl) ?hendL1
  case hstL1 =>
    intro W h
    simp only [List.mem_cons, List.not_mem_nil, or_false] at h
    rcases h with rfl | rfl | rfl | rfl | rfl | rfl | rfl | rfl <;> first | exact EqV.st _ | exact fun _ _ _ k ⟨v6, h⟩ => ⟨v6, h.kp k⟩
  case hLPL1 => exact upTo_spec (by kernel_rfl)
  case hstepL1 =>
    intro i o ho hp a u hk hoff hdep
    have e0 : a.tmps[0]?.getD undef = (.pointer (some ⟨p, 0, none⟩)) := slot_at (hoff 0 (noDst_spec (by kernel_rfl)))
    have e4 : a.tmps[4]?.getD undef = (.pointer (some ⟨w.heap.size, 0, none⟩)) := slot_at (hoff 4 (noDst_spec (by kernel_rfl)))
    clear hoff
    match i, ho with
    | 0, ho =>
      obtain rfl := Option.some.inj ho
      refine lw_value (v := (.pointer (some ⟨p, 0, none⟩))) (u' := u) ?_ (Kp.refl _ _) rfl
      go_simp
    | 1, ho =>
      obtain rfl := Option.some.inj ho
      have c0 := (HRb.out.kp hk (fun h => h)).cell (i := 0) (v := .slice sa sn sc) rfl
      have c1 := (HRb.out.kp hk (fun h => h)).cell (i := 1) (v := .slice ga gn_ gc) rfl
      refine lw_value (v := .agg #[.slice sa sn sc, .slice ga gn_ gc]) (u' := u) ?_ (Kp.refl _ _) rfl
      go_simp
    | 2, ho =>
      obtain rfl := Option.some.inj ho
      have e21 : a.tmps[21]?.getD undef = (.pointer (some ⟨p, 0, none⟩)) := slot_at (hdep ⟨0, .data⟩ (by simp) rfl _ 21 rfl rfl)
      have e22 : a.tmps[22]?.getD undef = .agg #[.slice sa sn sc, .slice ga gn_ gc] := slot_at (hdep ⟨1, .data⟩ (by simp) rfl _ 22 rfl rfl)
      refine lw_call (f := 20) (args := #[.pointer (some ⟨p, 0, none⟩), .agg #[.slice sa sn sc, .slice ga gn_ gc]]) ?_ ?_
      · go_simp
      · exact (HSts.out u hk).mono (by
          rintro e u' ⟨v, rfl, ⟨v6, hs⟩, hK⟩
          exact ⟨v, rfl, hK, v6, hs.low (by have := hk.size; have := HSz.out; omega)⟩)
    | 3, ho =>
      obtain rfl := Option.some.inj ho
      refine lw_value (v := .pointer (some ⟨w.heap.size, 1, none⟩)) (u' := u) ?_ (Kp.refl _ _) rfl
      go_simp
    | 4, ho =>
      obtain rfl := Option.some.inj ho
      have e24 : a.tmps[24]?.getD undef = .pointer (some ⟨w.heap.size, 1, none⟩) := slot_at (hdep ⟨3, .data⟩ (by simp) rfl _ 24 rfl rfl)
      have c1 := (HRb.out.kp hk (fun h => h)).cell (i := 1) (v := .slice ga gn_ gc) rfl
      refine lw_value (v := .slice ga gn_ gc) (u' := u) ?_ (Kp.refl _ _) rfl
      go_simp
    | 5, ho =>
      obtain rfl := Option.some.inj ho
      have e25 : a.tmps[25]?.getD undef = .slice ga gn_ gc := slot_at (hdep ⟨4, .data⟩ (by simp) rfl _ 25 rfl rfl)
      refine lw_value (v := .int .i64 (gn_ : Int)) (u' := u) ?_ (Kp.refl _ _) rfl
      go_simp
    | 6, ho =>
      obtain rfl := Option.some.inj ho
      have e26 : a.tmps[26]?.getD undef = .int .i64 (gn_ : Int) := slot_at (hdep ⟨5, .data⟩ (by simp) rfl _ 26 rfl rfl)
      have hgl := HGl.out
      have hg2 : gl ≤ 1000000 := by omega
      refine lw_value (v := .int .i64 (gl : Int)) (u' := u) ?_ (Kp.refl _ _) rfl
      go_simp
      unfold IntKind.wrap
      simp [IntKind.signed, IntKind.bits]
      omega
    | 7, ho =>
      obtain rfl := Option.some.inj ho
      have hV := hdep ⟨2, .data⟩ (by simp) rfl _ 23 rfl rfl
      obtain ⟨x, hx⟩ : ∃ x, a.tmps.getD 23 undef = x := ⟨_, rfl⟩
      have e23 := slot_at hx
      rw [hx] at hV
      refine lw_value (v := x) (u' := u) ?_ (Kp.refl _ _) hV
      go_simp
    | n + 8, _ => exact absurd hp (by simp [upTo])
  intro a u hI
  have hsz : a.tmps.size = 74 := hI.size
  have hdf : a.defers = [] := hI.defers
  have f0 : a.tmps.getD 0 undef = _ := hI.off 0 (noDst_spec (p := upTo 8) (by kernel_rfl))
  have f1 : a.tmps.getD 1 undef = _ := hI.off 1 (noDst_spec (p := upTo 8) (by kernel_rfl))
  have f2 : a.tmps.getD 2 undef = _ := hI.off 2 (noDst_spec (p := upTo 8) (by kernel_rfl))
  have f3 : a.tmps.getD 3 undef = _ := hI.off 3 (noDst_spec (p := upTo 8) (by kernel_rfl))
  have f4 : a.tmps.getD 4 undef = _ := hI.off 4 (noDst_spec (p := upTo 8) (by kernel_rfl))
  have f5 : a.tmps.getD 5 undef = _ := hI.off 5 (noDst_spec (p := upTo 8) (by kernel_rfl))
  have f6 : a.tmps.getD 6 undef = _ := hI.off 6 (noDst_spec (p := upTo 8) (by kernel_rfl))
  have f8 : a.tmps.getD 8 undef = _ := hI.off 8 (noDst_spec (p := upTo 8) (by kernel_rfl))
  have f9 : a.tmps.getD 9 undef = _ := hI.off 9 (noDst_spec (p := upTo 8) (by kernel_rfl))
  have f10 : a.tmps.getD 10 undef = _ := hI.off 10 (noDst_spec (p := upTo 8) (by kernel_rfl))
  have f11 : a.tmps.getD 11 undef = _ := hI.off 11 (noDst_spec (p := upTo 8) (by kernel_rfl))
  have f12 : a.tmps.getD 12 undef = _ := hI.off 12 (noDst_spec (p := upTo 8) (by kernel_rfl))
  have f13 : a.tmps.getD 13 undef = _ := hI.off 13 (noDst_spec (p := upTo 8) (by kernel_rfl))
  have f14 : a.tmps.getD 14 undef = _ := hI.off 14 (noDst_spec (p := upTo 8) (by kernel_rfl))
  have f15 : a.tmps.getD 15 undef = _ := hI.off 15 (noDst_spec (p := upTo 8) (by kernel_rfl))
  have f16 : a.tmps.getD 16 undef = _ := hI.off 16 (noDst_spec (p := upTo 8) (by kernel_rfl))
  have f17 : a.tmps.getD 17 undef = _ := hI.off 17 (noDst_spec (p := upTo 8) (by kernel_rfl))
  have f18 : a.tmps.getD 18 undef = _ := hI.off 18 (noDst_spec (p := upTo 8) (by kernel_rfl))
  have f19 : a.tmps.getD 19 undef = _ := hI.off 19 (noDst_spec (p := upTo 8) (by kernel_rfl))
  have f20 : a.tmps.getD 20 undef = _ := hI.off 20 (noDst_spec (p := upTo 8) (by kernel_rfl))
  have f28 : a.tmps.getD 28 undef = _ := hI.off 28 (noDst_spec (p := upTo 8) (by kernel_rfl))
  have f29 : a.tmps.getD 29 undef = _ := hI.off 29 (noDst_spec (p := upTo 8) (by kernel_rfl))
  have f30 : a.tmps.getD 30 undef = _ := hI.off 30 (noDst_spec (p := upTo 8) (by kernel_rfl))
  have f31 : a.tmps.getD 31 undef = _ := hI.off 31 (noDst_spec (p := upTo 8) (by kernel_rfl))
  have f32 : a.tmps.getD 32 undef = _ := hI.off 32 (noDst_spec (p := upTo 8) (by kernel_rfl))
  have f33 : a.tmps.getD 33 undef = _ := hI.off 33 (noDst_spec (p := upTo 8) (by kernel_rfl))
  have f34 : a.tmps.getD 34 undef = _ := hI.off 34 (noDst_spec (p := upTo 8) (by kernel_rfl))
  have f35 : a.tmps.getD 35 undef = _ := hI.off 35 (noDst_spec (p := upTo 8) (by kernel_rfl))
  have f36 : a.tmps.getD 36 undef = _ := hI.off 36 (noDst_spec (p := upTo 8) (by kernel_rfl))
  have f37 : a.tmps.getD 37 undef = _ := hI.off 37 (noDst_spec (p := upTo 8) (by kernel_rfl))
  have f38 : a.tmps.getD 38 undef = _ := hI.off 38 (noDst_spec (p := upTo 8) (by kernel_rfl))
  have f39 : a.tmps.getD 39 undef = _ := hI.off 39 (noDst_spec (p := upTo 8) (by kernel_rfl))
  have f40 : a.tmps.getD 40 undef = _ := hI.off 40 (noDst_spec (p := upTo 8) (by kernel_rfl))
  have f41 : a.tmps.getD 41 undef = _ := hI.off 41 (noDst_spec (p := upTo 8) (by kernel_rfl))
  have f42 : a.tmps.getD 42 undef = _ := hI.off 42 (noDst_spec (p := upTo 8) (by kernel_rfl))
  have f43 : a.tmps.getD 43 undef = _ := hI.off 43 (noDst_spec (p := upTo 8) (by kernel_rfl))
  have f44 : a.tmps.getD 44 undef = _ := hI.off 44 (noDst_spec (p := upTo 8) (by kernel_rfl))
  have f45 : a.tmps.getD 45 undef = _ := hI.off 45 (noDst_spec (p := upTo 8) (by kernel_rfl))
  have f46 : a.tmps.getD 46 undef = _ := hI.off 46 (noDst_spec (p := upTo 8) (by kernel_rfl))
  have f47 : a.tmps.getD 47 undef = _ := hI.off 47 (noDst_spec (p := upTo 8) (by kernel_rfl))
  have f48 : a.tmps.getD 48 undef = _ := hI.off 48 (noDst_spec (p := upTo 8) (by kernel_rfl))
  have f49 : a.tmps.getD 49 undef = _ := hI.off 49 (noDst_spec (p := upTo 8) (by kernel_rfl))
  have f50 : a.tmps.getD 50 undef = _ := hI.off 50 (noDst_spec (p := upTo 8) (by kernel_rfl))
  have f51 : a.tmps.getD 51 undef = _ := hI.off 51 (noDst_spec (p := upTo 8) (by kernel_rfl))
  have f52 : a.tmps.getD 52 undef = _ := hI.off 52 (noDst_spec (p := upTo 8) (by kernel_rfl))
  have f53 : a.tmps.getD 53 undef = _ := hI.off 53 (noDst_spec (p := upTo 8) (by kernel_rfl))
  have f54 : a.tmps.getD 54 undef = _ := hI.off 54 (noDst_spec (p := upTo 8) (by kernel_rfl))
  have f55 : a.tmps.getD 55 undef = _ := hI.off 55 (noDst_spec (p := upTo 8) (by kernel_rfl))
  have f56 : a.tmps.getD 56 undef = _ := hI.off 56 (noDst_spec (p := upTo 8) (by kernel_rfl))
  have f57 : a.tmps.getD 57 undef = _ := hI.off 57 (noDst_spec (p := upTo 8) (by kernel_rfl))
  have f58 : a.tmps.getD 58 undef = _ := hI.off 58 (noDst_spec (p := upTo 8) (by kernel_rfl))
  have f59 : a.tmps.getD 59 undef = _ := hI.off 59 (noDst_spec (p := upTo 8) (by kernel_rfl))
  have f60 : a.tmps.getD 60 undef = _ := hI.off 60 (noDst_spec (p := upTo 8) (by kernel_rfl))
  have f61 : a.tmps.getD 61 undef = _ := hI.off 61 (noDst_spec (p := upTo 8) (by kernel_rfl))
  have f62 : a.tmps.getD 62 undef = _ := hI.off 62 (noDst_spec (p := upTo 8) (by kernel_rfl))
  have f63 : a.tmps.getD 63 undef = _ := hI.off 63 (noDst_spec (p := upTo 8) (by kernel_rfl))
  have f64 : a.tmps.getD 64 undef = _ := hI.off 64 (noDst_spec (p := upTo 8) (by kernel_rfl))
  have f65 : a.tmps.getD 65 undef = _ := hI.off 65 (noDst_spec (p := upTo 8) (by kernel_rfl))
  have f66 : a.tmps.getD 66 undef = _ := hI.off 66 (noDst_spec (p := upTo 8) (by kernel_rfl))
  have f67 : a.tmps.getD 67 undef = _ := hI.off 67 (noDst_spec (p := upTo 8) (by kernel_rfl))
  have f68 : a.tmps.getD 68 undef = _ := hI.off 68 (noDst_spec (p := upTo 8) (by kernel_rfl))
  have f69 : a.tmps.getD 69 undef = _ := hI.off 69 (noDst_spec (p := upTo 8) (by kernel_rfl))
  have f70 : a.tmps.getD 70 undef = _ := hI.off 70 (noDst_spec (p := upTo 8) (by kernel_rfl))
  have f71 : a.tmps.getD 71 undef = _ := hI.off 71 (noDst_spec (p := upTo 8) (by kernel_rfl))
  have f72 : a.tmps.getD 72 undef = _ := hI.off 72 (noDst_spec (p := upTo 8) (by kernel_rfl))
  have f73 : a.tmps.getD 73 undef = _ := hI.off 73 (noDst_spec (p := upTo 8) (by kernel_rfl))
  have g7 : ((fun u v => ∃ v6, SL C st rows w.heap.size gn_ v v6 u)) u (a.tmps.getD 7 undef) := hI.val 7 _ 7 rfl rfl rfl
  have f21 : a.tmps.getD 21 undef = (.pointer (some ⟨p, 0, none⟩)) := hI.val 0 _ 21 rfl rfl rfl
  have f22 : a.tmps.getD 22 undef = .agg #[.slice sa sn sc, .slice ga gn_ gc] := hI.val 1 _ 22 rfl rfl rfl
  have g23 : ((fun u v => ∃ v6, SL C st rows w.heap.size gn_ v v6 u)) u (a.tmps.getD 23 undef) := hI.val 2 _ 23 rfl rfl rfl
  have f24 : a.tmps.getD 24 undef = .pointer (some ⟨w.heap.size, 1, none⟩) := hI.val 3 _ 24 rfl rfl rfl
  have f25 : a.tmps.getD 25 undef = .slice ga gn_ gc := hI.val 4 _ 25 rfl rfl rfl
  have f26 : a.tmps.getD 26 undef = .int .i64 (gn_ : Int) := hI.val 5 _ 26 rfl rfl rfl
  have f27 : a.tmps.getD 27 undef = .int .i64 (gl : Int) := hI.val 6 _ 27 rfl rfl rfl
  have ha : a = ⟨#[a.tmps.getD 0 undef, a.tmps.getD 1 undef, a.tmps.getD 2 undef, a.tmps.getD 3 undef, a.tmps.getD 4 undef, a.tmps.getD 5 undef, a.tmps.getD 6 undef, a.tmps.getD 7 undef, a.tmps.getD 8 undef, a.tmps.getD 9 undef, a.tmps.getD 10 undef, a.tmps.getD 11 undef, a.tmps.getD 12 undef, a.tmps.getD 13 undef, a.tmps.getD 14 undef, a.tmps.getD 15 undef, a.tmps.getD 16 undef, a.tmps.getD 17 undef, a.tmps.getD 18 undef, a.tmps.getD 19 undef, a.tmps.getD 20 undef, a.tmps.getD 21 undef, a.tmps.getD 22 undef, a.tmps.getD 23 undef, a.tmps.getD 24 undef, a.tmps.getD 25 undef, a.tmps.getD 26 undef, a.tmps.getD 27 undef, a.tmps.getD 28 undef, a.tmps.getD 29 undef, a.tmps.getD 30 undef, a.tmps.getD 31 undef, a.tmps.getD 32 undef, a.tmps.getD 33 undef, a.tmps.getD 34 undef, a.tmps.getD 35 undef, a.tmps.getD 36 undef, a.tmps.getD 37 undef, a.tmps.getD 38 undef, a.tmps.getD 39 undef, a.tmps.getD 40 undef, a.tmps.getD 41 undef, a.tmps.getD 42 undef, a.tmps.getD 43 undef, a.tmps.getD 44 undef, a.tmps.getD 45 undef, a.tmps.getD 46 undef, a.tmps.getD 47 undef, a.tmps.getD 48 undef, a.tmps.getD 49 undef, a.tmps.getD 50 undef, a.tmps.getD 51 undef, a.tmps.getD 52 undef, a.tmps.getD 53 undef, a.tmps.getD 54 undef, a.tmps.getD 55 undef, a.tmps.getD 56 undef, a.tmps.getD 57 undef, a.tmps.getD 58 undef, a.tmps.getD 59 undef, a.tmps.getD 60 undef, a.tmps.getD 61 undef, a.tmps.getD 62 undef, a.tmps.getD 63 undef, a.tmps.getD 64 undef, a.tmps.getD 65 undef, a.tmps.getD 66 undef, a.tmps.getD 67 undef, a.tmps.getD 68 undef, a.tmps.getD 69 undef, a.tmps.getD 70 undef, a.tmps.getD 71 undef, a.tmps.getD 72 undef, a.tmps.getD 73 undef], a.defers⟩ := act_list a 74 hsz
  rw [hdf, f0, f1, f2, f3, f4, f5, f6, f8, f9, f10, f11, f12, f13, f14, f15, f16, f17, f18, f19, f20, f21, f22, f24, f25, f26, f27, f28, f29, f30, f31, f32, f33, f34, f35, f36, f37, f38, f39, f40, f41, f42, f43, f44, f45, f46, f47, f48, f49, f50, f51, f52, f53, f54, f55, f56, f57, f58, f59, f60, f61, f62, f63, f64, f65, f66, f67, f68, f69, f70, f71, f72, f73] at ha
  obtain ⟨x7, hx7⟩ : ∃ x, a.tmps.getD 7 undef = x := ⟨_, rfl⟩
  obtain ⟨x23, hx23⟩ : ∃ x, a.tmps.getD 23 undef = x := ⟨_, rfl⟩
  rw [hx7, hx23] at ha
  rw [hx7] at g7
  rw [hx23] at g23
  have hku := hI.kp
  clear hI hsz hdf f0 f1 f2 f3 f4 f5 f6 f8 f9 f10 f11 f12 f13 f14 f15 f16 f17 f18 f19 f20 f21 f22 f24 f25 f26 f27 f28 f29 f30 f31 f32 f33 f34 f35 f36 f37 f38 f39 f40 f41 f42 f43 f44 f45 f46 f47 f48 f49 f50 f51 f52 f53 f54 f55 f56 f57 f58 f59 f60 f61 f62 f63 f64 f65 f66 f67 f68 f69 f70 f71 f72 f73 hx7 hx23
  subst ha
  refine wpAny_tail 8 rfl (by kernel_rfl) ?_
  simp only [List.drop_succ_cons, List.drop_zero]
  simp only [Array.getD_eq_getD_getElem?, List.getElem?_toArray, List.getElem?_cons_zero, List.getElem?_cons_succ, Option.getD_some]
  obtain ⟨v6, hSL⟩ := g7
  obtain ⟨ta, tc, rfl, hTS⟩ := hSL.grid hfl.out hgn
  have HTS := Lib.hid hTS
  have HKu := Lib.hid (HKs.out.trans hku (fun _ _ h => h))
  have HRu := Lib.hid (HRb.out.kp hku (fun h => h))
  have z1 := HRu.out.cell (i := 1) (v := .slice ga gn_ gc) rfl
  clear hku hSL hTS g23 z0 HRb HSz0 HSts HSz HKs HRb0 HK0
  go_wp2_with fail
  go_loopw [9] (fun v9 wr => ∃ k : Nat, v9 = .int .i64 k ∧ k ≤ gn_ ∧ (∀ j, j < k → okM C st rows j = true) ∧ Kp (fun _ => False) u wr) (fun v9 _ => gn_ - (intOf v9).toNat)
  case atStart => exact ⟨0, rfl, by omega, fun j hj => by omega, Kp.refl _ _⟩
  case round =>
    obtain ⟨k, rfl, hk, hall, hK⟩ := hrel
    obtain ⟨wp, rfl⟩ : ∃ wp : World, wp = wr := ⟨_, rfl⟩
    clear z1
    have z1 := (HRu.out.kp hK (fun h => h)).cell (i := 1) (v := .slice ga gn_ gc) rfl
    have HK := Lib.hid hK
    have HAll := Lib.hid hall
    clear hK hall
    by_cases hlt : k < gn_
    · obtain ⟨bg, og, b, m, d, ega, eg2, hbs⟩ := (HGs.out.kp (HKu.out.trans HK.out (fun _ _ h => h))).at hlt
      obtain ⟨bt, ot, b2, m2, d2, eta, et2, hts⟩ := (HTS.out.kp HK.out).states hlt
      have hlm := hbs.len
      have hmm := hbs.most
      obtain ⟨F, hF1, hF2⟩ := still_class wp
      have HF1 := Lib.hid hF1
      have HF2 := Lib.hid hF2
      have m0 : ∀ y, (F y).cell? ⟨w.heap.size, 1, none⟩ = some (.slice ga gn_ gc) := fun y => ((HRu.out.kp HK.out (fun h => h)).kp (HF1.out y) (fun h => h)).cell rfl
      have m1 : ∀ y, (F y).cell? ⟨bg, og + k, none⟩ = some (.slice b m d) := fun y => (HF1.out y).cellK eg2
      have m2' : ∀ y, (F y).cell? ⟨bt, ot + k, none⟩ = some (.slice b2 m2 d2) := fun y => (HF1.out y).cellK et2
      have m3 : ∀ y, (F y).cell? ⟨p, 1, none⟩ = some (.slice V.ai ni V.ci) := fun y => HMb.out _ ((HKu.out.trans HK.out (fun _ _ h => h)).trans (HF1.out y) (fun _ _ h => h))
      subst ega eta
      have i0 : (0 : Int) ≤ (k : Int) := by omega
      have i2 : (k : Int) < (gn_ : Int) := by omega
      obtain ⟨bh, hbh⟩ : ∃ x, holdsM C (stateM C st rows k) (rows[k]?.getD []) = x := ⟨_, rfl⟩
      have HW := Lib.hid (fun y => HHo.out (F y) ((HKu.out.trans HK.out (fun _ _ h => h)).trans (HF1.out y) (fun _ _ h => h)) b2 m2 d2 _ b m d _ (hts.kp (HF1.out y)) (hbs.kp (HF1.out y)))
      rw [hbh] at HW
      have HBh := Lib.hid hbh
      have HLm := Lib.hid hlm
      have HK1 := Lib.hid (fun y => HK.out.trans (HF1.out y) (fun _ _ h => h))
      clear hF1 hF2 hbs hts eg2 et2 hbh hlm
      by_cases hq : m = ni
      · subst hq
        cases bh with
        | false =>
          have hrf := R3.out k (by rw [HLen.out]; exact hlt) (by unfold okM; rw [HBh.out, Bool.and_false])
          subst hrf
          go_upto_region 7 with fail
          refine wp_region_kept (by kernel_rfl) (by kernel_rfl) HF2.out ?_
          repeat (go_big_quiet_step (with_reducible first | exact Calls.still_of HF1.out HF2.out (HW.out _)))
          refine wpQuiet_nil ?_
          rintro wB ⟨y, rfl⟩
          have HE := Lib.hid (HKu.out.trans (HK1.out y) (fun _ _ h => h))
          clear m0 m1 m2' m3 z1
          go_wp2_with fail
          go_ret
          exact ⟨rfl, HE.out⟩
        | true =>
          go_upto_region 7 with fail
          refine wp_region_kept (by kernel_rfl) (by kernel_rfl) HF2.out ?_
          repeat (go_big_quiet_step (with_reducible first | exact Calls.still_of HF1.out HF2.out (HW.out _)))
          refine wpQuiet_nil ?_
          rintro wB ⟨y, rfl⟩
          have HE := Lib.hid (show (∀ j, j < k + 1 → okM C st rows j = true) ∧ Kp (fun _ => False) u (F y) from ⟨fun j hj => by
            by_cases e : j < k
            · exact HAll.out j e
            · obtain rfl : j = k := by omega
              unfold okM
              rw [HBh.out, HLm.out, HNi.out]
              simp, HK1.out y⟩)
          clear m0 m1 m2' m3 z1
          go_wp2_with fail
          go_roundw
          case rel => exact ⟨k + 1, by go_num, by omega, HE.out⟩
          case measure => simp [intOf]; omega
      · have hrf := R3.out k (by rw [HLen.out]; exact hlt) (by unfold okM; rw [HLm.out, HNi.out, decide_eq_false hq, Bool.false_and])
        subst hrf
        have hq2 : ((m : Int) != (ni : Int)) = true := by simp; omega
        have HQ := Lib.hid hq
        clear hq
        go_upto_region 7 with fail
        refine wp_region_kept (by kernel_rfl) (by kernel_rfl) HF2.out ?_
        repeat (go_big_quiet_step (fail))
        refine wpQuiet_nil ?_
        rintro wB ⟨y, rfl⟩
        have HE := Lib.hid (HKu.out.trans (HK1.out y) (fun _ _ h => h))
        clear m0 m1 m2' m3 z1
        go_wp2_with fail
        go_ret
        exact ⟨rfl, HE.out⟩
    · obtain rfl : k = gn_ := by omega
      have hrf := R4.out gl HB0.out (by rw [HLen.out]; exact HGl2.out) (fun j hj => HAll.out j (by rw [HGl2.out]; exact hj))
      have hltl : gl < k := by rw [HGl2.out]; omega
      obtain ⟨bg, og, b, m, d, ega, eg2, hbs⟩ := (HGs.out.kp (HKu.out.trans HK.out (fun _ _ h => h))).at hltl
      obtain ⟨bt, ot, b2, m2, d2, eta, et2, hts⟩ := (HTS.out.kp HK.out).states hltl
      obtain ⟨F, hF1, hF2⟩ := still_class wp
      have HF1 := Lib.hid hF1
      have HF2 := Lib.hid hF2
      have m0 : ∀ y, (F y).cell? ⟨w.heap.size, 1, none⟩ = some (.slice ga k gc) := fun y => ((HRu.out.kp HK.out (fun h => h)).kp (HF1.out y) (fun h => h)).cell rfl
      have m1 : ∀ y, (F y).cell? ⟨bg, og + gl, none⟩ = some (.slice b m d) := fun y => (HF1.out y).cellK eg2
      have m2' : ∀ y, (F y).cell? ⟨bt, ot + gl, none⟩ = some (.slice b2 m2 d2) := fun y => (HF1.out y).cellK et2
      subst ega eta
      have i0 : (0 : Int) ≤ (gl : Int) := by omega
      have i2 : (gl : Int) < (k : Int) := by omega
      have HW := Lib.hid (fun y => HBa.out (F y) ((HKu.out.trans HK.out (fun _ _ h => h)).trans (HF1.out y) (fun _ _ h => h)) b2 m2 d2 _ b m d _ (hts.kp (HF1.out y)) (hbs.kp (HF1.out y)))
      rw [hrf] at HW
      have HK1 := Lib.hid (fun y => HK.out.trans (HF1.out y) (fun _ _ h => h))
      clear hF1 hF2 hbs hts eg2 et2 hrf
      go_upto_region 9 with fail
      clear z1
      refine wp_region_kept (by kernel_rfl) (by kernel_rfl) HF2.out ?_
      repeat (go_big_quiet_step (with_reducible first | exact Calls.still_of HF1.out HF2.out (HW.out _)))
      refine wpQuiet_nil ?_
      rintro wB ⟨y, rfl⟩
      have HE := Lib.hid (HKu.out.trans (HK1.out y) (fun _ _ h => h))
      clear m0 m1 m2'
      go_wp2_with fail
      go_ret
      exact ⟨rfl, HE.out⟩

end Go.Proofs.YtcnegeggecmncaaGreatDoor

/-
  The law of loose regions, with guards.
-/
namespace Go.Proofs.YtcnegeggecmncaaGreatDoor
open Go Go.RowKit

/-- how the operations hang together: those of p come first -/
structure LooseGOK (ops : Array Oper) (p : Nat → Bool) (N : Nat) : Prop where
  low : ∀ (i : Nat) (o : Oper), ops[i]? = some o → p i = true → ∀ e ∈ o.after, Region.binds .any e = true → e.on < i ∧ p e.on = true
  dst : ∀ (i : Nat) (o : Oper), ops[i]? = some o → p i = true → ∃ d, o.dst = some d ∧ d < N
  inj : ∀ (i j : Nat) (o o' : Oper), ops[i]? = some o → ops[j]? = some o' → p i = true → p j = true → o.dst = o'.dst → i = j
  bar : ∀ (i : Nat) (o : Oper), ops[i]? = some o → p i = false → ∀ j, j < ops.size → p j = true → j ∈ clo ops 6 (edgesOf ops i)

def looseGB (ops : Array Oper) (p : Nat → Bool) (N : Nat) : Bool :=
  (List.range ops.size).all fun i => match ops[i]? with
    | none => true
    | some o => (if p i then
        o.after.all (fun e => !Region.binds .any e || (decide (e.on < i) && p e.on)) &&
          (match o.dst with
            | none => false
            | some d => decide (d < N) && (List.range ops.size).all (fun j => !p j || decide (j = i) || (match ops[j]? with | none => true | some o' => decide (o'.dst ≠ some d))))
      else (List.range ops.size).all (fun j => !p j || (clo ops 6 (edgesOf ops i)).contains j))

theorem looseGB_spec {ops : Array Oper} {p : Nat → Bool} {N : Nat} (h : looseGB ops p N = true) : LooseGOK ops p N := by
  unfold looseGB at h
  rw [List.all_eq_true] at h
  have get : ∀ (i : Nat) (o : Oper), ops[i]? = some o → (if p i then
        o.after.all (fun e => !Region.binds .any e || (decide (e.on < i) && p e.on)) &&
          (match o.dst with
            | none => false
            | some d => decide (d < N) && (List.range ops.size).all (fun j => !p j || decide (j = i) || (match ops[j]? with | none => true | some o' => decide (o'.dst ≠ some d))))
      else (List.range ops.size).all (fun j => !p j || (clo ops 6 (edgesOf ops i)).contains j)) = true := fun i o ho => by
    have hi : i < ops.size := (Array.getElem?_eq_some_iff.1 ho).1
    have := h i (List.mem_range.2 hi)
    simp only [ho] at this
    exact this
  refine ⟨fun i o ho hp e he hb => ?_, fun i o ho hp => ?_, fun i j o o' ho ho' hp hp' hd => ?_, fun i o ho hp j hj hpj => ?_⟩
  · have := (get i o ho)
    rw [if_pos hp, Bool.and_eq_true] at this
    have h1 := this.1
    rw [Array.all_eq_true_iff_forall_mem] at h1
    have h2 := h1 e he
    rw [hb] at h2
    simpa using h2
  · have := (get i o ho)
    rw [if_pos hp, Bool.and_eq_true] at this
    have h1 := this.2
    cases hd : o.dst with
    | none => rw [hd] at h1; cases h1
    | some d =>
      rw [hd] at h1
      simp only [Bool.and_eq_true, decide_eq_true_eq] at h1
      exact ⟨d, rfl, h1.1⟩
  · have := (get i o ho)
    rw [if_pos hp, Bool.and_eq_true] at this
    have h1 := this.2
    cases hdd : o.dst with
    | none => rw [hdd] at h1; cases h1
    | some d =>
      rw [hdd] at h1
      simp only [Bool.and_eq_true] at h1
      have h2 := h1.2
      rw [List.all_eq_true] at h2
      have h3 := h2 j (List.mem_range.2 (Array.getElem?_eq_some_iff.1 ho').1)
      rw [hp', ho'] at h3
      simp only [Bool.not_true, Bool.false_or, Bool.or_eq_true, decide_eq_true_eq] at h3
      rcases h3 with h3 | h3
      · exact h3.symm
      · exact absurd (hd.symm.trans hdd) h3
  · have := (get i o ho)
    rw [if_neg (by simp [hp]), List.all_eq_true] at this
    have h1 := this j (List.mem_range.2 hj)
    rw [hpj, Bool.not_true, Bool.false_or] at h1
    simpa using h1

/-- an operation that is done, or is passed by -/
def LG (P : Program) (ops : Array Oper) (Q : Exit → Act → World → Prop) (V : Nat → World → Value → Prop) (i : Nat) (o : Oper) (a : Act) (u : World) : Prop :=
  (Region.wanted o (yielded ops a.tmps) = true ∧ o.wp P a u (fun a' u' => ∃ v, a' = a.put o.dst v ∧ Kp (fun _ => False) u u' ∧ V i u' v) Q) ∨ (Region.wanted o (yielded ops a.tmps) = false ∧ V i u undef)

theorem lg_none {P : Program} {ops : Array Oper} {Q : Exit → Act → World → Prop} {V : Nat → World → Value → Prop} {i : Nat} {o : Oper} {a : Act} {u : World} (hg : o.guard = none) (h : o.wp P a u (fun a' u' => ∃ v, a' = a.put o.dst v ∧ Kp (fun _ => False) u u' ∧ V i u' v) Q) : LG P ops Q V i o a u :=
  .inl ⟨by unfold Region.wanted; rw [hg], h⟩

theorem yielded_at {ops : Array Oper} {g x : Nat} {b : Bool} {a : Act} (hd : (ops[g]?).bind (·.dst) = some x) (h : a.tmps[x]?.getD undef = .bool b) : yielded ops a.tmps g = some b := by
  unfold yielded
  rw [hd]
  simp only [Option.bind_some]
  cases hx : a.tmps[x]? with
  | none => rw [hx] at h; cases h
  | some v => rw [hx] at h; simp only [Option.getD_some] at h; subst h; rfl

theorem lg_on {P : Program} {ops : Array Oper} {Q : Exit → Act → World → Prop} {V : Nat → World → Value → Prop} {i : Nat} {o : Oper} {a : Act} {u : World} {g x : Nat} {b : Bool} (hg : o.guard = some (g, b)) (hd : (ops[g]?).bind (·.dst) = some x) (hx : a.tmps[x]?.getD undef = .bool b)
    (h : o.wp P a u (fun a' u' => ∃ v, a' = a.put o.dst v ∧ Kp (fun _ => False) u u' ∧ V i u' v) Q) : LG P ops Q V i o a u :=
  .inl ⟨by unfold Region.wanted; rw [hg]; simp only [yielded_at hd hx]; exact beq_self_eq_true _, h⟩

theorem lg_off {P : Program} {ops : Array Oper} {Q : Exit → Act → World → Prop} {V : Nat → World → Value → Prop} {i : Nat} {o : Oper} {a : Act} {u : World} {g x : Nat} {b c : Bool} (hg : o.guard = some (g, b)) (hd : (ops[g]?).bind (·.dst) = some x) (hx : a.tmps[x]?.getD undef = .bool c) (hbc : (c == b) = false) (h : V i u undef) : LG P ops Q V i o a u :=
  .inr ⟨by unfold Region.wanted; rw [hg]; simp only [yielded_at hd hx]; cases b <;> cases c <;> first | rfl | (simp at hbc), h⟩

theorem wpAny_looseG {P : Program} {ops : Array Oper} {Q : Exit → Act → World → Prop} {p : Nat → Bool} {V : Nat → World → Value → Prop} {w0 : World} {a0 : Act} {LP : Array Bool} (L : LooseGOK ops p a0.tmps.size)
    (stable : ∀ i u u' v, Kp (fun _ => False) u u' → V i u v → V i u' v)
    (hstep : ∀ (i : Nat) (o : Oper), ops[i]? = some o → p i = true → ∀ a u, Kp (fun _ => False) w0 u →
      (∀ s, (∀ (j : Nat) (oj : Oper), ops[j]? = some oj → p j = true → oj.dst ≠ some s) → a.tmps.getD s undef = a0.tmps.getD s undef) →
      (∀ e ∈ o.after, Region.binds .any e = true → ∀ (oj : Oper) (d : Nat), ops[e.on]? = some oj → oj.dst = some d → V e.on u (a.tmps.getD d undef)) →
      LG P ops Q V i o a u)
    (hLs : LP.size = ops.size) (hLP : ∀ i, i < ops.size → LP.getD i false = p i)
    (hend : ∀ a u, LInv ops V w0 a0 (fun i => p i = true) a u → wpAny P .any ops Q (cntU ops.size LP) LP a u) :
    ∀ (fuel : Nat) (listed : Array Bool) (a : Act) (u : World), listed.size = ops.size → fuel = cntU ops.size listed → (∀ i, i < ops.size → listed.getD i false = true → p i = true) → (∀ j, listed.getD j false = true → ∀ k, k ∈ edgesOf ops j → listed.getD k false = true) →
      LInv ops V w0 a0 (fun i => listed.getD i false = true) a u → wpAny P .any ops Q fuel listed a u := by
  intro fuel
  induction fuel with
  | zero =>
    intro listed a u hs hf hl hcl hI
    have hall : ∀ i, i < ops.size → listed.getD i false = true := fun i hi => by
      by_cases h : listed.getD i false = true
      · exact h
      · have := cntU_set (listed := listed) (by omega) (by simpa using h) ops.size hi
        omega
    have e : listed = LP := listed_ext (by omega) (fun i hi => by
      rw [hall i (by omega), hLP i (by omega)]
      exact (hl i (by omega) (hall i (by omega))).symm)
    subst e
    have := hend a u ⟨hI.kp, fun i o d ho _ hd => hI.val i o d ho (hall i (Array.getElem?_eq_some_iff.1 ho).1) hd, fun s hs' => hI.off s (fun i o ho hi => hs' i o ho (hl i (Array.getElem?_eq_some_iff.1 ho).1 hi)), hI.size, hI.defers⟩
    rwa [← hf] at this
  | succ fuel ih =>
    intro listed a u hs hf hl hcl hI
    by_cases hall : ∀ i, i < ops.size → p i = true → listed.getD i false = true
    · have e : listed = LP := listed_ext (by omega) (fun i hi => by
        rw [hLP i (by omega)]
        by_cases h : p i = true
        · rw [h, hall i (by omega) h]
        · by_cases h2 : listed.getD i false = true
          · exact absurd (hl i (by omega) h2) h
          · have h3 : p i = false := by simpa using h
            have h4 : listed.getD i false = false := by simpa using h2
            rw [h3, h4])
      subst e
      have := hend a u ⟨hI.kp, fun i o d ho hp hd => hI.val i o d ho (hall i (Array.getElem?_eq_some_iff.1 ho).1 hp) hd, fun s hs' => hI.off s (fun i o ho hi => hs' i o ho (hl i (Array.getElem?_eq_some_iff.1 ho).1 hi)), hI.size, hI.defers⟩
      rwa [← hf] at this
    · obtain ⟨i0, ⟨hi0, hp0, hu0⟩, hmin⟩ := least_of (R := fun i => i < ops.size ∧ p i = true ∧ listed.getD i false = false) (by
        refine Classical.byContradiction fun hno => hall fun i hi hp => ?_
        by_cases h : listed.getD i false = true
        · exact h
        · exact absurd ⟨i, hi, hp, by simpa using h⟩ hno)
      have hready : i0 ∈ Region.ready .any ops listed := by
        rw [mem_ready]
        refine ⟨by rw [getD_true_false (by omega)]; exact hu0, ops[i0], Array.getElem?_eq_getElem hi0, fun e he hb => ?_⟩
        obtain ⟨h1, h2⟩ := L.low i0 _ (Array.getElem?_eq_getElem hi0) hp0 e he hb
        by_cases h : listed.getD e.on false = true
        · exact h
        · exact absurd ⟨by omega, h2, by simpa using h⟩ (hmin e.on h1)
      refine ⟨fun h => (by rw [h] at hready; cases hready), fun i hi => ?_⟩
      obtain ⟨h1, o, ho, hedge⟩ := mem_ready.1 hi
      have hisz : i < ops.size := (Array.getElem?_eq_some_iff.1 ho).1
      rw [getD_true_false (by omega)] at h1
      have hpi : p i = true := by
        by_cases h : p i = true
        · exact h
        · have h3 := clo_listed (listed := fun j => listed.getD j false = true) hcl 6 (edgesOf ops i) (fun k hk => by
            obtain ⟨e, he, hb, hon⟩ := (mem_edgesOf ho).1 hk
            have := hedge e he hb
            rwa [hon] at this) i0 (L.bar i o ho (by simpa using h) i0 hi0 hp0)
          rw [hu0] at h3
          cases h3
      obtain ⟨d, hd, hdN⟩ := L.dst i o ho hpi
      have hgo : ∀ a' u', (∃ v, a' = a.put o.dst v ∧ Kp (fun _ => False) u u' ∧ V i u' v) → wpAny P .any ops Q fuel (listed.setIfInBounds i true) a' u' := by
        rintro a' u' ⟨v, rfl, hK, hV⟩
        have hset : ∀ j, (listed.setIfInBounds i true).getD j false = true ↔ j = i ∨ listed.getD j false = true := fun j => by
          simp only [Array.getD_eq_getD_getElem?, Array.getElem?_setIfInBounds]
          by_cases e : i = j
          · subst e; simp [show i < listed.size by omega]
          · rw [if_neg e]
            exact ⟨.inr, fun h => h.resolve_left (fun h => e h.symm)⟩
        refine ih _ _ _ (by simp [hs]) ?_ (fun j hj hlj => ?_) (fun j hj k hk => ?_) ⟨hI.kp.trans hK (fun _ _ h => h), fun j oj dj hoj hj hdj => ?_, fun s hs' => ?_, by rw [put_size]; exact hI.size, by rw [put_defers]; exact hI.defers⟩
        · have := cntU_set (listed := listed) (by omega) h1 ops.size hisz
          omega
        · rcases (hset j).1 hlj with e | e
          · rw [e]; exact hpi
          · exact hl j hj e
        · rcases (hset j).1 hj with e | e
          · subst e
            obtain ⟨e, he, hb, hon⟩ := (mem_edgesOf ho).1 hk
            refine (hset k).2 (.inr ?_)
            rw [← hon]
            exact hedge e he hb
          · exact (hset k).2 (.inr (hcl j e k hk))
        · rcases (hset j).1 hj with e | e
          · subst e
            have : oj = o := by rw [hoj] at ho; exact Option.some.inj ho
            subst this
            rw [hdj] at hd
            have : dj = d := Option.some.inj hd
            subst this
            rw [hdj, put_getD_same (by rw [hI.size]; exact hdN)]
            exact hV
          · by_cases eji : j = i
            · subst eji
              rw [h1] at e; cases e
            · rw [put_getD_ne (fun h => eji (L.inj j i oj o hoj ho (hl j (Array.getElem?_eq_some_iff.1 hoj).1 e) hpi (by rw [hdj, h])))]
              exact stable j u u' _ hK (hI.val j oj dj hoj e hdj)
        · rw [put_getD_ne (hs' i o ho ((hset i).2 (.inl rfl)))]
          exact hI.off s (fun j oj hoj hj => hs' j oj hoj ((hset j).2 (.inr hj)))
      have hst := hstep i o ho hpi a u hI.kp (fun s hs' => hI.off s (fun j oj hoj hj => hs' j oj hoj (hl j (Array.getElem?_eq_some_iff.1 hoj).1 hj))) (fun e he hb oj d' hoj hd' => hI.val e.on oj d' hoj (hedge e he hb) hd')
      unfold wpOp
      rw [ho]
      simp only
      rcases hst with ⟨hw, hst⟩ | ⟨hw, hst⟩
      · rw [if_pos hw]
        exact .inl (Oper.wp_mono hgo hst)
      · rw [if_neg (by rw [hw]; exact Bool.false_ne_true)]
        exact hgo _ _ ⟨undef, rfl, Kp.refl _ _, hst⟩

/-- the region, whose last ones (not of p) stay to be walked -/
theorem wp_region_looseG {P : Program} {id : Nat} {ops : Array Oper} {Q : Exit → Act → World → Prop} {p : Nat → Bool} {V : Nat → World → Value → Prop} {w : World} {a0 : Act} {LP : Array Bool} {K : Nat} (hm : P.follows .mixedOrders = true) (hB : looseGB ops p a0.tmps.size = true)
    (stable : ∀ i u u' v, Kp (fun _ => False) u u' → V i u v → V i u' v)
    (hstep : ∀ (i : Nat) (o : Oper), ops[i]? = some o → p i = true → ∀ a u, Kp (fun _ => False) w u →
      (∀ s, (∀ (j : Nat) (oj : Oper), ops[j]? = some oj → p j = true → oj.dst ≠ some s) → a.tmps.getD s undef = a0.tmps.getD s undef) →
      (∀ e ∈ o.after, Region.binds .any e = true → ∀ (oj : Oper) (d : Nat), ops[e.on]? = some oj → oj.dst = some d → V e.on u (a.tmps.getD d undef)) →
      LG P ops Q V i o a u)
    (hLs : LP.size = ops.size) (hLP : ∀ i, i < ops.size → LP.getD i false = p i) (hK : cntU ops.size LP = K)
    (hend : ∀ a u, LInv ops V w a0 (fun i => p i = true) a u → wpAny P .any ops Q K LP a u) : (Code.region id ops true).wp P Q a0 w := by
  refine wp_region_any hm ?_
  refine wpAny_looseG (looseGB_spec hB) stable hstep hLs hLP (fun a u h => by rw [hK]; exact hend a u h) ops.size _ a0 _ (by simp) ?_ (fun i hi h => ?_) (fun i h => ?_) ⟨(Kp.refl (fun _ => False) w).drew, fun i o d ho h => ?_, fun _ _ => rfl, rfl, rfl⟩
  · have : ∀ n, cntU n (Array.replicate ops.size false) = n := fun n => by
      induction n with
      | zero => rfl
      | succ n ih => rw [cntU_succ, ih]; simp [unl, Array.getD_eq_getD_getElem?, Array.getElem?_replicate]; split <;> simp
    rw [this]
  · simp [Array.getD_eq_getD_getElem?, Array.getElem?_replicate] at h
    split at h <;> simp at h
  · simp [Array.getD_eq_getD_getElem?, Array.getElem?_replicate] at h
    split at h <;> simp at h
  · simp [Array.getD_eq_getD_getElem?, Array.getElem?_replicate] at h
    split at h <;> simp at h

end Go.Proofs.YtcnegeggecmncaaGreatDoor

/-
  step.Machine: Bad, Holds.
-/
namespace Go.Proofs.YtcnegeggecmncaaGreatDoor
open Go.RowKit

set_option maxRecDepth 100000 in
set_option maxHeartbeats 4000000 in
theorem step_Bad (V : CV) (C : Circ) (p : Nat) (a4 a5 : Option Addr) (c4 c5 : Nat) (sa : Option Addr) (sn sc : Nat) (ia : Option Addr) (in_ ic : Nat) (st ip : List Bool) (pr : Int) (w : World) (hM : MAt w 82 V C p a4 c4 a5 c5) (hf : CFew C 1000000) (hg : GoodC C) (hs : BS w sa sn st) (hi : BS w ia in_ ip) :
    Calls Tryz.prog 42 #[.pointer (some ⟨p, 0, none⟩), .slice sa sn sc, .slice ia in_ ic, .int .i64 pr] w fun e w' => e = .returned (.bool (badM C st ip pr)) ∧ Kp (fun _ => False) w w' := by
  have HIn := Lib.hid (fun u (hu : Kp (fun _ => False) w u) => step_in V C p a4 a5 c4 c5 sa sn sc ia in_ ic st ip u (hM.kp hu) hf hg (hs.kp hu) (hi.kp hu))
  have HL := Lib.hid (fun u (hu : Kp (fun _ => False) w u) va vc (hv : RowAt u va (bv (valsM C st ip))) => step_lit (vc := vc) (c5 := c5) hf hg (hM.ats.kp hu (fun _ _ h => h)) hv u (Kp.refl _ _))
  obtain ⟨nb, hnb⟩ : ∃ n, C.bads.length = n := ⟨_, rfl⟩
  have hnb1 : nb ≤ 1000000 := by have := hf.b; omega
  have hB : w.cell? ⟨p, 4, none⟩ = some (.slice V.ab nb V.cb) := hM.blk.cell (i := 4) (by rw [← hnb]; rfl)
  have HM := Lib.hid hM
  have HNb := Lib.hid hnb
  obtain ⟨r, hr⟩ : ∃ r, badM C st ip pr = r := ⟨_, rfl⟩
  rw [hr]
  unfold badM at hr
  rw [hnb] at hr
  clear hM hf hg hs hi hnb
  by_cases h0 : 0 ≤ pr
  · by_cases h1 : pr < (nb : Int)
    · obtain ⟨k, rfl⟩ : ∃ k : Nat, pr = (k : Int) := ⟨pr.toNat, by omega⟩
      have hkl : k < C.bads.length := by rw [HNb.out]; omega
      obtain ⟨b, off, ea, e0⟩ := HM.out.circ.b.get hkl
      have hc := fun u hu va vc hv => HL.out u hu va vc hv _ (bad_used hkl)
      obtain ⟨x, hx⟩ : ∃ x, gi C.bads k = x := ⟨_, rfl⟩
      rw [decide_eq_true (⟨h0, h1⟩ : 0 ≤ (k : Int) ∧ (k : Int) < (nb : Int)), Bool.true_and, Int.toNat_natCast, hx] at hr
      rw [hx] at e0 hc
      rw [hr] at hc
      have HB : Hid (Blk w p #[.int .i64 C.max, .slice V.ai C.ins.length V.ci, .slice V.al C.lats.length V.cl, .slice V.ao C.outs.length V.co, .slice (some ⟨b, off, none⟩) nb V.cb, .slice V.ac C.cons.length V.cc, .slice V.ag C.gates.length V.cg, .slice V.ay V.ny V.cy, .string V.cm, .slice a4 (netOf C).1.length c4, .slice a5 (netOf C).2.length c5] 82) := Lib.hid (by
        have h := HM.out.blk
        unfold cvals at h
        rw [HNb.out, ea] at h
        exact h)
      have HIs := Lib.hid hc
      have E0 := Lib.hid e0
      clear hr hc hx ea hkl hB HL HM e0
      go_enter Tryz.func42, Tryz.ntmps42
      go_upto_region 1 with fail
      refine wp_region_looseG (p := upTo 32) (V := atV [EqV ((.pointer (some ⟨p, 0, none⟩))), EqV (.bool true), EqV (.bool true), EqV ((.int .i64 (k : Int))), EqV (.bool true), EqV (.bool true), EqV (.bool true), EqV ((.int .i64 (k : Int))), EqV ((.pointer (some ⟨p, 0, none⟩))), EqV (.pointer (some ⟨p, 0, none⟩)), EqV (.pointer (some ⟨p, 0, none⟩)), EqV (.pointer (some ⟨p, 4, none⟩)), EqV (.slice (some ⟨b, off, none⟩) nb V.cb), EqV (.int .i64 (nb : Int)), EqV (.bool true), EqV (.bool true), EqV (.bool true), EqV ((.pointer (some ⟨p, 0, none⟩))), EqV ((.slice sa sn sc)), EqV ((.slice ia in_ ic)), (fun u v => ∃ va vc, v = .agg #[.pointer (some ⟨p, 0, none⟩), .slice va ((netOf C).1.length + 1) vc, .slice a5 (netOf C).2.length c5] ∧ RowAt u va (bv (valsM C st ip))), (fun u v => ∃ va vc, v = .agg #[.slice va ((netOf C).1.length + 1) vc, .slice a5 (netOf C).2.length c5] ∧ RowAt u va (bv (valsM C st ip))), EqV ((.pointer (some ⟨p, 0, none⟩))), EqV (.pointer (some ⟨p, 0, none⟩)), EqV (.pointer (some ⟨p, 0, none⟩)), EqV (.pointer (some ⟨p, 4, none⟩)), EqV (.slice (some ⟨b, off, none⟩) nb V.cb), EqV ((.int .i64 (k : Int))), EqV (.pointer (some ⟨b, off + k * 1, none⟩)), EqV (.int .i64 x), EqV (.bool r), EqV (.bool r)]) (LP := #[true, true, true, true, true, true, true, true, true, true, true, true, true, true, true, true, true, true, true, true, true, true, true, true, true, true, true, true, true, true, true, true, false]) (K := 1) (by kernel_rfl) (by kernel_rfl) (atV_st ?hstL1) ?hstepL1 (by kernel_rfl) ?hLPL1 (by kernel_rfl) ?hendL1
      case hstL1 =>
        intro W h
        simp only [List.mem_cons, List.not_mem_nil, or_false] at h
        rcases h with rfl | rfl | rfl | rfl | rfl | rfl | rfl | rfl | rfl | rfl | rfl | rfl | rfl | rfl | rfl | rfl | rfl | rfl | rfl | rfl | rfl | rfl | rfl | rfl | rfl | rfl | rfl | rfl | rfl | rfl | rfl | rfl <;> first | exact EqV.st _ | exact fun _ _ _ k ⟨va, vc, h1, h2⟩ => ⟨va, vc, h1, h2.kp k (fun _ _ h => h)⟩
      case hLPL1 => exact upTo_spec (by kernel_rfl)
      case hstepL1 =>
        intro i o ho hp a u hk hoff hdep
        have e0 : a.tmps[0]?.getD undef = (.pointer (some ⟨p, 0, none⟩)) := slot_at (hoff 0 (noDst_spec (by kernel_rfl)))
        have e1 : a.tmps[1]?.getD undef = (.slice sa sn sc) := slot_at (hoff 1 (noDst_spec (by kernel_rfl)))
        have e2 : a.tmps[2]?.getD undef = (.slice ia in_ ic) := slot_at (hoff 2 (noDst_spec (by kernel_rfl)))
        have e3 : a.tmps[3]?.getD undef = (.int .i64 (k : Int)) := slot_at (hoff 3 (noDst_spec (by kernel_rfl)))
        clear hoff
        match i, ho with
        | 0, ho =>
          obtain rfl := Option.some.inj ho
          refine lg_none rfl ?_
          refine lw_value (v := (.pointer (some ⟨p, 0, none⟩))) (u' := u) ?_ (Kp.refl _ _) rfl
          go_simp
        | 1, ho =>
          obtain rfl := Option.some.inj ho
          have e9 : a.tmps[9]?.getD undef = (.pointer (some ⟨p, 0, none⟩)) := slot_at (hdep ⟨0, .data⟩ (by simp) rfl _ 9 rfl rfl)
          refine lg_none rfl ?_
          refine lw_value (v := .bool true) (u' := u) ?_ (Kp.refl _ _) rfl
          go_simp
        | 2, ho =>
          obtain rfl := Option.some.inj ho
          have e10 : a.tmps[10]?.getD undef = .bool true := slot_at (hdep ⟨1, .data⟩ (by simp) rfl _ 10 rfl rfl)
          refine lg_none rfl ?_
          refine lw_value (v := .bool true) (u' := u) ?_ (Kp.refl _ _) rfl
          go_simp
        | 3, ho =>
          obtain rfl := Option.some.inj ho
          have e11 : a.tmps[11]?.getD undef = .bool true := slot_at (hdep ⟨2, .guard⟩ (by simp) rfl _ 11 rfl rfl)
          refine lg_on (x := 11) rfl rfl e11 ?_
          refine lw_value (v := (.int .i64 (k : Int))) (u' := u) ?_ (Kp.refl _ _) rfl
          go_simp
        | 4, ho =>
          obtain rfl := Option.some.inj ho
          have e12 : a.tmps[12]?.getD undef = (.int .i64 (k : Int)) := slot_at (hdep ⟨3, .data⟩ (by simp) rfl _ 12 rfl rfl)
          have e11 : a.tmps[11]?.getD undef = .bool true := slot_at (hdep ⟨2, .guard⟩ (by simp) rfl _ 11 rfl rfl)
          refine lg_on (x := 11) rfl rfl e11 ?_
          refine lw_value (v := .bool true) (u' := u) ?_ (Kp.refl _ _) rfl
          go_simp
        | 5, ho =>
          obtain rfl := Option.some.inj ho
          have e11 : a.tmps[11]?.getD undef = .bool true := slot_at (hdep ⟨2, .data⟩ (by simp) rfl _ 11 rfl rfl)
          have e13 : a.tmps[13]?.getD undef = .bool true := slot_at (hdep ⟨4, .data⟩ (by simp) rfl _ 13 rfl rfl)
          refine lg_none rfl ?_
          refine lw_value (v := .bool true) (u' := u) ?_ (Kp.refl _ _) rfl
          go_simp
        | 6, ho =>
          obtain rfl := Option.some.inj ho
          have e14 : a.tmps[14]?.getD undef = .bool true := slot_at (hdep ⟨5, .data⟩ (by simp) rfl _ 14 rfl rfl)
          refine lg_none rfl ?_
          refine lw_value (v := .bool true) (u' := u) ?_ (Kp.refl _ _) rfl
          go_simp
        | 7, ho =>
          obtain rfl := Option.some.inj ho
          have e15 : a.tmps[15]?.getD undef = .bool true := slot_at (hdep ⟨6, .guard⟩ (by simp) rfl _ 15 rfl rfl)
          refine lg_on (x := 15) rfl rfl e15 ?_
          refine lw_value (v := (.int .i64 (k : Int))) (u' := u) ?_ (Kp.refl _ _) rfl
          go_simp
        | 8, ho =>
          obtain rfl := Option.some.inj ho
          have e15 : a.tmps[15]?.getD undef = .bool true := slot_at (hdep ⟨6, .guard⟩ (by simp) rfl _ 15 rfl rfl)
          refine lg_on (x := 15) rfl rfl e15 ?_
          refine lw_value (v := (.pointer (some ⟨p, 0, none⟩))) (u' := u) ?_ (Kp.refl _ _) rfl
          go_simp
        | 9, ho =>
          obtain rfl := Option.some.inj ho
          have e17 : a.tmps[17]?.getD undef = (.pointer (some ⟨p, 0, none⟩)) := slot_at (hdep ⟨8, .data⟩ (by simp) rfl _ 17 rfl rfl)
          have e15 : a.tmps[15]?.getD undef = .bool true := slot_at (hdep ⟨6, .guard⟩ (by simp) rfl _ 15 rfl rfl)
          refine lg_on (x := 15) rfl rfl e15 ?_
          refine lw_value (v := .pointer (some ⟨p, 0, none⟩)) (u' := u) ?_ (Kp.refl _ _) rfl
          go_simp
        | 10, ho =>
          obtain rfl := Option.some.inj ho
          have e18 : a.tmps[18]?.getD undef = .pointer (some ⟨p, 0, none⟩) := slot_at (hdep ⟨9, .data⟩ (by simp) rfl _ 18 rfl rfl)
          have e15 : a.tmps[15]?.getD undef = .bool true := slot_at (hdep ⟨6, .guard⟩ (by simp) rfl _ 15 rfl rfl)
          refine lg_on (x := 15) rfl rfl e15 ?_
          refine lw_value (v := .pointer (some ⟨p, 0, none⟩)) (u' := u) ?_ (Kp.refl _ _) rfl
          go_simp
        | 11, ho =>
          obtain rfl := Option.some.inj ho
          have e19 : a.tmps[19]?.getD undef = .pointer (some ⟨p, 0, none⟩) := slot_at (hdep ⟨10, .data⟩ (by simp) rfl _ 19 rfl rfl)
          have e15 : a.tmps[15]?.getD undef = .bool true := slot_at (hdep ⟨6, .guard⟩ (by simp) rfl _ 15 rfl rfl)
          refine lg_on (x := 15) rfl rfl e15 ?_
          refine lw_value (v := .pointer (some ⟨p, 4, none⟩)) (u' := u) ?_ (Kp.refl _ _) rfl
          go_simp
        | 12, ho =>
          obtain rfl := Option.some.inj ho
          have e20 : a.tmps[20]?.getD undef = .pointer (some ⟨p, 4, none⟩) := slot_at (hdep ⟨11, .data⟩ (by simp) rfl _ 20 rfl rfl)
          have e15 : a.tmps[15]?.getD undef = .bool true := slot_at (hdep ⟨6, .guard⟩ (by simp) rfl _ 15 rfl rfl)
          refine lg_on (x := 15) rfl rfl e15 ?_
          have c1 := (HB.out.kp hk (fun h => h)).cell (i := 4) (v := .slice (some ⟨b, off, none⟩) nb V.cb) rfl
          refine lw_value (v := .slice (some ⟨b, off, none⟩) nb V.cb) (u' := u) ?_ (Kp.refl _ _) rfl
          go_simp
        | 13, ho =>
          obtain rfl := Option.some.inj ho
          have e21 : a.tmps[21]?.getD undef = .slice (some ⟨b, off, none⟩) nb V.cb := slot_at (hdep ⟨12, .data⟩ (by simp) rfl _ 21 rfl rfl)
          have e15 : a.tmps[15]?.getD undef = .bool true := slot_at (hdep ⟨6, .guard⟩ (by simp) rfl _ 15 rfl rfl)
          refine lg_on (x := 15) rfl rfl e15 ?_
          refine lw_value (v := .int .i64 (nb : Int)) (u' := u) ?_ (Kp.refl _ _) rfl
          go_simp
        | 14, ho =>
          obtain rfl := Option.some.inj ho
          have e16 : a.tmps[16]?.getD undef = (.int .i64 (k : Int)) := slot_at (hdep ⟨7, .data⟩ (by simp) rfl _ 16 rfl rfl)
          have e22 : a.tmps[22]?.getD undef = .int .i64 (nb : Int) := slot_at (hdep ⟨13, .data⟩ (by simp) rfl _ 22 rfl rfl)
          have e15 : a.tmps[15]?.getD undef = .bool true := slot_at (hdep ⟨6, .guard⟩ (by simp) rfl _ 15 rfl rfl)
          refine lg_on (x := 15) rfl rfl e15 ?_
          refine lw_value (v := .bool true) (u' := u) ?_ (Kp.refl _ _) rfl
          go_simp
        | 15, ho =>
          obtain rfl := Option.some.inj ho
          have e15 : a.tmps[15]?.getD undef = .bool true := slot_at (hdep ⟨6, .data⟩ (by simp) rfl _ 15 rfl rfl)
          have e23 : a.tmps[23]?.getD undef = .bool true := slot_at (hdep ⟨14, .data⟩ (by simp) rfl _ 23 rfl rfl)
          refine lg_none rfl ?_
          refine lw_value (v := .bool true) (u' := u) ?_ (Kp.refl _ _) rfl
          go_simp
        | 16, ho =>
          obtain rfl := Option.some.inj ho
          have e24 : a.tmps[24]?.getD undef = .bool true := slot_at (hdep ⟨15, .data⟩ (by simp) rfl _ 24 rfl rfl)
          refine lg_none rfl ?_
          refine lw_value (v := .bool true) (u' := u) ?_ (Kp.refl _ _) rfl
          go_simp
        | 17, ho =>
          obtain rfl := Option.some.inj ho
          have e25 : a.tmps[25]?.getD undef = .bool true := slot_at (hdep ⟨16, .guard⟩ (by simp) rfl _ 25 rfl rfl)
          refine lg_on (x := 25) rfl rfl e25 ?_
          refine lw_value (v := (.pointer (some ⟨p, 0, none⟩))) (u' := u) ?_ (Kp.refl _ _) rfl
          go_simp
        | 18, ho =>
          obtain rfl := Option.some.inj ho
          have e25 : a.tmps[25]?.getD undef = .bool true := slot_at (hdep ⟨16, .guard⟩ (by simp) rfl _ 25 rfl rfl)
          refine lg_on (x := 25) rfl rfl e25 ?_
          refine lw_value (v := (.slice sa sn sc)) (u' := u) ?_ (Kp.refl _ _) rfl
          go_simp
        | 19, ho =>
          obtain rfl := Option.some.inj ho
          have e25 : a.tmps[25]?.getD undef = .bool true := slot_at (hdep ⟨16, .guard⟩ (by simp) rfl _ 25 rfl rfl)
          refine lg_on (x := 25) rfl rfl e25 ?_
          refine lw_value (v := (.slice ia in_ ic)) (u' := u) ?_ (Kp.refl _ _) rfl
          go_simp
        | 20, ho =>
          obtain rfl := Option.some.inj ho
          have e26 : a.tmps[26]?.getD undef = (.pointer (some ⟨p, 0, none⟩)) := slot_at (hdep ⟨17, .data⟩ (by simp) rfl _ 26 rfl rfl)
          have e27 : a.tmps[27]?.getD undef = (.slice sa sn sc) := slot_at (hdep ⟨18, .data⟩ (by simp) rfl _ 27 rfl rfl)
          have e28 : a.tmps[28]?.getD undef = (.slice ia in_ ic) := slot_at (hdep ⟨19, .data⟩ (by simp) rfl _ 28 rfl rfl)
          have e25 : a.tmps[25]?.getD undef = .bool true := slot_at (hdep ⟨16, .chain⟩ (by simp) rfl _ 25 rfl rfl)
          refine lg_on (x := 25) rfl rfl e25 ?_
          refine lw_call (f := 65) (args := #[.pointer (some ⟨p, 0, none⟩), .slice sa sn sc, .slice ia in_ ic]) ?_ ?_
          · go_simp
          · exact (HIn.out u hk).mono (by
              rintro e u' ⟨⟨va, vc, rfl, hv⟩, hK⟩
              exact ⟨_, rfl, hK, va, vc, rfl, hv⟩)
        | 21, ho =>
          obtain rfl := Option.some.inj ho
          have e25 : a.tmps[25]?.getD undef = .bool true := slot_at (hdep ⟨16, .guard⟩ (by simp) rfl _ 25 rfl rfl)
          refine lg_on (x := 25) rfl rfl e25 ?_
          obtain ⟨va, vc, ev, hvr⟩ : ∃ va vc, (a.tmps.getD 29 undef) = .agg #[.pointer (some ⟨p, 0, none⟩), .slice va ((netOf C).1.length + 1) vc, .slice a5 (netOf C).2.length c5] ∧ RowAt u va (bv (valsM C st ip)) := hdep ⟨20, .data⟩ (by simp) rfl _ 29 rfl rfl
          have e29 := slot_at ev
          have hfd : ∀ W, (Instr.field 109 (.agg #[.pointer (some ⟨p, 0, none⟩), .slice va ((netOf C).1.length + 1) vc, .slice a5 (netOf C).2.length c5]) 1).run Tryz.prog W = .ok (.agg #[.slice va ((netOf C).1.length + 1) vc, .slice a5 (netOf C).2.length c5]) W := fun _ => by kernel_rfl
          refine lw_value (v := .agg #[.slice va ((netOf C).1.length + 1) vc, .slice a5 (netOf C).2.length c5]) (u' := u) ?_ (Kp.refl _ _) ⟨va, vc, rfl, hvr⟩
          go_simp
        | 22, ho =>
          obtain rfl := Option.some.inj ho
          have e25 : a.tmps[25]?.getD undef = .bool true := slot_at (hdep ⟨16, .guard⟩ (by simp) rfl _ 25 rfl rfl)
          refine lg_on (x := 25) rfl rfl e25 ?_
          refine lw_value (v := (.pointer (some ⟨p, 0, none⟩))) (u' := u) ?_ (Kp.refl _ _) rfl
          go_simp
        | 23, ho =>
          obtain rfl := Option.some.inj ho
          have e31 : a.tmps[31]?.getD undef = (.pointer (some ⟨p, 0, none⟩)) := slot_at (hdep ⟨22, .data⟩ (by simp) rfl _ 31 rfl rfl)
          have e25 : a.tmps[25]?.getD undef = .bool true := slot_at (hdep ⟨16, .guard⟩ (by simp) rfl _ 25 rfl rfl)
          refine lg_on (x := 25) rfl rfl e25 ?_
          refine lw_value (v := .pointer (some ⟨p, 0, none⟩)) (u' := u) ?_ (Kp.refl _ _) rfl
          go_simp
        | 24, ho =>
          obtain rfl := Option.some.inj ho
          have e32 : a.tmps[32]?.getD undef = .pointer (some ⟨p, 0, none⟩) := slot_at (hdep ⟨23, .data⟩ (by simp) rfl _ 32 rfl rfl)
          have e25 : a.tmps[25]?.getD undef = .bool true := slot_at (hdep ⟨16, .guard⟩ (by simp) rfl _ 25 rfl rfl)
          refine lg_on (x := 25) rfl rfl e25 ?_
          refine lw_value (v := .pointer (some ⟨p, 0, none⟩)) (u' := u) ?_ (Kp.refl _ _) rfl
          go_simp
        | 25, ho =>
          obtain rfl := Option.some.inj ho
          have e33 : a.tmps[33]?.getD undef = .pointer (some ⟨p, 0, none⟩) := slot_at (hdep ⟨24, .data⟩ (by simp) rfl _ 33 rfl rfl)
          have e25 : a.tmps[25]?.getD undef = .bool true := slot_at (hdep ⟨16, .guard⟩ (by simp) rfl _ 25 rfl rfl)
          refine lg_on (x := 25) rfl rfl e25 ?_
          refine lw_value (v := .pointer (some ⟨p, 4, none⟩)) (u' := u) ?_ (Kp.refl _ _) rfl
          go_simp
        | 26, ho =>
          obtain rfl := Option.some.inj ho
          have e34 : a.tmps[34]?.getD undef = .pointer (some ⟨p, 4, none⟩) := slot_at (hdep ⟨25, .data⟩ (by simp) rfl _ 34 rfl rfl)
          have e25 : a.tmps[25]?.getD undef = .bool true := slot_at (hdep ⟨16, .guard⟩ (by simp) rfl _ 25 rfl rfl)
          refine lg_on (x := 25) rfl rfl e25 ?_
          have c1 := (HB.out.kp hk (fun h => h)).cell (i := 4) (v := .slice (some ⟨b, off, none⟩) nb V.cb) rfl
          refine lw_value (v := .slice (some ⟨b, off, none⟩) nb V.cb) (u' := u) ?_ (Kp.refl _ _) rfl
          go_simp
        | 27, ho =>
          obtain rfl := Option.some.inj ho
          have e25 : a.tmps[25]?.getD undef = .bool true := slot_at (hdep ⟨16, .guard⟩ (by simp) rfl _ 25 rfl rfl)
          refine lg_on (x := 25) rfl rfl e25 ?_
          refine lw_value (v := (.int .i64 (k : Int))) (u' := u) ?_ (Kp.refl _ _) rfl
          go_simp
        | 28, ho =>
          obtain rfl := Option.some.inj ho
          have e35 : a.tmps[35]?.getD undef = .slice (some ⟨b, off, none⟩) nb V.cb := slot_at (hdep ⟨26, .data⟩ (by simp) rfl _ 35 rfl rfl)
          have e36 : a.tmps[36]?.getD undef = (.int .i64 (k : Int)) := slot_at (hdep ⟨27, .data⟩ (by simp) rfl _ 36 rfl rfl)
          have e25 : a.tmps[25]?.getD undef = .bool true := slot_at (hdep ⟨16, .guard⟩ (by simp) rfl _ 25 rfl rfl)
          refine lg_on (x := 25) rfl rfl e25 ?_
          refine lw_value (v := .pointer (some ⟨b, off + k * 1, none⟩)) (u' := u) ?_ (Kp.refl _ _) rfl
          go_simp
        | 29, ho =>
          obtain rfl := Option.some.inj ho
          have e37 : a.tmps[37]?.getD undef = .pointer (some ⟨b, off + k * 1, none⟩) := slot_at (hdep ⟨28, .data⟩ (by simp) rfl _ 37 rfl rfl)
          have e25 : a.tmps[25]?.getD undef = .bool true := slot_at (hdep ⟨16, .guard⟩ (by simp) rfl _ 25 rfl rfl)
          refine lg_on (x := 25) rfl rfl e25 ?_
          have c1 := hk.cellK E0.out
          refine lw_value (v := .int .i64 x) (u' := u) ?_ (Kp.refl _ _) rfl
          go_simp
        | 30, ho =>
          obtain rfl := Option.some.inj ho
          have e38 : a.tmps[38]?.getD undef = .int .i64 x := slot_at (hdep ⟨29, .data⟩ (by simp) rfl _ 38 rfl rfl)
          have e25 : a.tmps[25]?.getD undef = .bool true := slot_at (hdep ⟨16, .guard⟩ (by simp) rfl _ 25 rfl rfl)
          refine lg_on (x := 25) rfl rfl e25 ?_
          obtain ⟨va, vc, ev, hvr⟩ : ∃ va vc, (a.tmps.getD 30 undef) = .agg #[.slice va ((netOf C).1.length + 1) vc, .slice a5 (netOf C).2.length c5] ∧ RowAt u va (bv (valsM C st ip)) := hdep ⟨21, .data⟩ (by simp) rfl _ 30 rfl rfl
          have e30 := slot_at ev
          refine lw_call (f := 67) (args := #[.agg #[.slice va ((netOf C).1.length + 1) vc, .slice a5 (netOf C).2.length c5], .int .i64 x]) ?_ ?_
          · go_simp
          · exact (HIs.out u hk va vc hvr).mono (by
              rintro e u' ⟨rfl, hK⟩
              exact ⟨_, rfl, hK, rfl⟩)
        | 31, ho =>
          obtain rfl := Option.some.inj ho
          have e25 : a.tmps[25]?.getD undef = .bool true := slot_at (hdep ⟨16, .data⟩ (by simp) rfl _ 25 rfl rfl)
          have e39 : a.tmps[39]?.getD undef = .bool r := slot_at (hdep ⟨30, .data⟩ (by simp) rfl _ 39 rfl rfl)
          refine lg_none rfl ?_
          refine lw_value (v := .bool r) (u' := u) ?_ (Kp.refl _ _) rfl
          go_simp
        | n + 32, _ => exact absurd hp (by simp [upTo])
      intro a u hI
      have hsz : a.tmps.size = 41 := hI.size
      have hdf : a.defers = [] := hI.defers
      have f0 : a.tmps.getD 0 undef = _ := hI.off 0 (noDst_spec (p := upTo 32) (by kernel_rfl))
      have f1 : a.tmps.getD 1 undef = _ := hI.off 1 (noDst_spec (p := upTo 32) (by kernel_rfl))
      have f2 : a.tmps.getD 2 undef = _ := hI.off 2 (noDst_spec (p := upTo 32) (by kernel_rfl))
      have f3 : a.tmps.getD 3 undef = _ := hI.off 3 (noDst_spec (p := upTo 32) (by kernel_rfl))
      have f4 : a.tmps.getD 4 undef = _ := hI.off 4 (noDst_spec (p := upTo 32) (by kernel_rfl))
      have f5 : a.tmps.getD 5 undef = _ := hI.off 5 (noDst_spec (p := upTo 32) (by kernel_rfl))
      have f6 : a.tmps.getD 6 undef = _ := hI.off 6 (noDst_spec (p := upTo 32) (by kernel_rfl))
      have f7 : a.tmps.getD 7 undef = _ := hI.off 7 (noDst_spec (p := upTo 32) (by kernel_rfl))
      have f8 : a.tmps.getD 8 undef = _ := hI.off 8 (noDst_spec (p := upTo 32) (by kernel_rfl))
      have f9 : a.tmps.getD 9 undef = (.pointer (some ⟨p, 0, none⟩)) := hI.val 0 _ 9 rfl rfl rfl
      have f10 : a.tmps.getD 10 undef = .bool true := hI.val 1 _ 10 rfl rfl rfl
      have f11 : a.tmps.getD 11 undef = .bool true := hI.val 2 _ 11 rfl rfl rfl
      have f12 : a.tmps.getD 12 undef = (.int .i64 (k : Int)) := hI.val 3 _ 12 rfl rfl rfl
      have f13 : a.tmps.getD 13 undef = .bool true := hI.val 4 _ 13 rfl rfl rfl
      have f14 : a.tmps.getD 14 undef = .bool true := hI.val 5 _ 14 rfl rfl rfl
      have f15 : a.tmps.getD 15 undef = .bool true := hI.val 6 _ 15 rfl rfl rfl
      have f16 : a.tmps.getD 16 undef = (.int .i64 (k : Int)) := hI.val 7 _ 16 rfl rfl rfl
      have f17 : a.tmps.getD 17 undef = (.pointer (some ⟨p, 0, none⟩)) := hI.val 8 _ 17 rfl rfl rfl
      have f18 : a.tmps.getD 18 undef = .pointer (some ⟨p, 0, none⟩) := hI.val 9 _ 18 rfl rfl rfl
      have f19 : a.tmps.getD 19 undef = .pointer (some ⟨p, 0, none⟩) := hI.val 10 _ 19 rfl rfl rfl
      have f20 : a.tmps.getD 20 undef = .pointer (some ⟨p, 4, none⟩) := hI.val 11 _ 20 rfl rfl rfl
      have f21 : a.tmps.getD 21 undef = .slice (some ⟨b, off, none⟩) nb V.cb := hI.val 12 _ 21 rfl rfl rfl
      have f22 : a.tmps.getD 22 undef = .int .i64 (nb : Int) := hI.val 13 _ 22 rfl rfl rfl
      have f23 : a.tmps.getD 23 undef = .bool true := hI.val 14 _ 23 rfl rfl rfl
      have f24 : a.tmps.getD 24 undef = .bool true := hI.val 15 _ 24 rfl rfl rfl
      have f25 : a.tmps.getD 25 undef = .bool true := hI.val 16 _ 25 rfl rfl rfl
      have f26 : a.tmps.getD 26 undef = (.pointer (some ⟨p, 0, none⟩)) := hI.val 17 _ 26 rfl rfl rfl
      have f27 : a.tmps.getD 27 undef = (.slice sa sn sc) := hI.val 18 _ 27 rfl rfl rfl
      have f28 : a.tmps.getD 28 undef = (.slice ia in_ ic) := hI.val 19 _ 28 rfl rfl rfl
      have g29 : ((fun u v => ∃ va vc, v = .agg #[.pointer (some ⟨p, 0, none⟩), .slice va ((netOf C).1.length + 1) vc, .slice a5 (netOf C).2.length c5] ∧ RowAt u va (bv (valsM C st ip)))) u (a.tmps.getD 29 undef) := hI.val 20 _ 29 rfl rfl rfl
      have g30 : ((fun u v => ∃ va vc, v = .agg #[.slice va ((netOf C).1.length + 1) vc, .slice a5 (netOf C).2.length c5] ∧ RowAt u va (bv (valsM C st ip)))) u (a.tmps.getD 30 undef) := hI.val 21 _ 30 rfl rfl rfl
      have f31 : a.tmps.getD 31 undef = (.pointer (some ⟨p, 0, none⟩)) := hI.val 22 _ 31 rfl rfl rfl
      have f32 : a.tmps.getD 32 undef = .pointer (some ⟨p, 0, none⟩) := hI.val 23 _ 32 rfl rfl rfl
      have f33 : a.tmps.getD 33 undef = .pointer (some ⟨p, 0, none⟩) := hI.val 24 _ 33 rfl rfl rfl
      have f34 : a.tmps.getD 34 undef = .pointer (some ⟨p, 4, none⟩) := hI.val 25 _ 34 rfl rfl rfl
      have f35 : a.tmps.getD 35 undef = .slice (some ⟨b, off, none⟩) nb V.cb := hI.val 26 _ 35 rfl rfl rfl
      have f36 : a.tmps.getD 36 undef = (.int .i64 (k : Int)) := hI.val 27 _ 36 rfl rfl rfl
      have f37 : a.tmps.getD 37 undef = .pointer (some ⟨b, off + k * 1, none⟩) := hI.val 28 _ 37 rfl rfl rfl
      have f38 : a.tmps.getD 38 undef = .int .i64 x := hI.val 29 _ 38 rfl rfl rfl
      have f39 : a.tmps.getD 39 undef = .bool r := hI.val 30 _ 39 rfl rfl rfl
      have f40 : a.tmps.getD 40 undef = .bool r := hI.val 31 _ 40 rfl rfl rfl
      have ha : a = ⟨#[a.tmps.getD 0 undef, a.tmps.getD 1 undef, a.tmps.getD 2 undef, a.tmps.getD 3 undef, a.tmps.getD 4 undef, a.tmps.getD 5 undef, a.tmps.getD 6 undef, a.tmps.getD 7 undef, a.tmps.getD 8 undef, a.tmps.getD 9 undef, a.tmps.getD 10 undef, a.tmps.getD 11 undef, a.tmps.getD 12 undef, a.tmps.getD 13 undef, a.tmps.getD 14 undef, a.tmps.getD 15 undef, a.tmps.getD 16 undef, a.tmps.getD 17 undef, a.tmps.getD 18 undef, a.tmps.getD 19 undef, a.tmps.getD 20 undef, a.tmps.getD 21 undef, a.tmps.getD 22 undef, a.tmps.getD 23 undef, a.tmps.getD 24 undef, a.tmps.getD 25 undef, a.tmps.getD 26 undef, a.tmps.getD 27 undef, a.tmps.getD 28 undef, a.tmps.getD 29 undef, a.tmps.getD 30 undef, a.tmps.getD 31 undef, a.tmps.getD 32 undef, a.tmps.getD 33 undef, a.tmps.getD 34 undef, a.tmps.getD 35 undef, a.tmps.getD 36 undef, a.tmps.getD 37 undef, a.tmps.getD 38 undef, a.tmps.getD 39 undef, a.tmps.getD 40 undef], a.defers⟩ := act_list a 41 hsz
      rw [hdf, f0, f1, f2, f3, f4, f5, f6, f7, f8, f9, f10, f11, f12, f13, f14, f15, f16, f17, f18, f19, f20, f21, f22, f23, f24, f25, f26, f27, f28, f31, f32, f33, f34, f35, f36, f37, f38, f39, f40] at ha
      obtain ⟨x29, hx29⟩ : ∃ x, a.tmps.getD 29 undef = x := ⟨_, rfl⟩
      obtain ⟨x30, hx30⟩ : ∃ x, a.tmps.getD 30 undef = x := ⟨_, rfl⟩
      rw [hx29, hx30] at ha
      rw [hx29] at g29
      rw [hx30] at g30
      have hku := hI.kp
      clear hI hsz hdf f0 f1 f2 f3 f4 f5 f6 f7 f8 f9 f10 f11 f12 f13 f14 f15 f16 f17 f18 f19 f20 f21 f22 f23 f24 f25 f26 f27 f28 f31 f32 f33 f34 f35 f36 f37 f38 f39 f40 hx29 hx30
      subst ha
      refine wpAny_tail 32 rfl (by kernel_rfl) ?_
      simp only [List.drop_succ_cons, List.drop_zero]
      have HKu := Lib.hid hku
      clear hku g29 g30
      go_wp2_with fail
      go_ret
      exact ⟨rfl, HKu.out⟩
    · have hd : decide (pr < (nb : Int)) = false := decide_eq_false h1
      have hd0 : decide (0 ≤ pr) = true := decide_eq_true h0
      rw [decide_eq_false (fun h => h1 h.2), Bool.false_and] at hr
      subst hr
      clear HIn HL
      go_enter Tryz.func42, Tryz.ntmps42
      go_upto_region 1 with fail
      go_quiet (fail)
      go_wp2_with fail
      go_ret
      exact ⟨rfl, (Kp.refl _ _).drewN _⟩
  · have hd : decide (0 ≤ pr) = false := decide_eq_false h0
    rw [decide_eq_false (fun h => h0 h.1), Bool.false_and] at hr
    subst hr
    clear HIn HL
    go_enter Tryz.func42, Tryz.ntmps42
    go_upto_region 1 with fail
    go_quiet (fail)
    go_wp2_with fail
    go_ret
    exact ⟨rfl, (Kp.refl _ _).drewN _⟩

set_option maxRecDepth 100000 in
set_option maxHeartbeats 4000000 in
theorem step_Holds (V : CV) (C : Circ) (p : Nat) (a4 a5 : Option Addr) (c4 c5 : Nat) (sa : Option Addr) (sn sc : Nat) (ia : Option Addr) (in_ ic : Nat) (st ip : List Bool) (w : World) (hM : MAt w 82 V C p a4 c4 a5 c5) (hf : CFew C 1000000) (hg : GoodC C) (hs : BS w sa sn st) (hi : BS w ia in_ ip) :
    Calls Tryz.prog 41 #[.pointer (some ⟨p, 0, none⟩), .slice sa sn sc, .slice ia in_ ic] w fun e w' => e = .returned (.bool (holdsM C st ip)) ∧ Kp (fun _ => False) w w' := by
  have HIn := Lib.hid (fun u (hu : Kp (fun _ => False) w u) => step_in V C p a4 a5 c4 c5 sa sn sc ia in_ ic st ip u (hM.kp hu) hf hg (hs.kp hu) (hi.kp hu))
  obtain ⟨nc, hnc⟩ : ∃ n, C.cons.length = n := ⟨_, rfl⟩
  have hnc1 : nc ≤ 1000000 := by have := hf.c; omega
  obtain ⟨r, hr⟩ : ∃ r, holdsM C st ip = r := ⟨_, rfl⟩
  rw [hr]
  unfold holdsM at hr
  have HAll := Lib.hid (fun u (hu : Kp (fun _ => False) w u) va vc (hv : RowAt u va (bv (valsM C st ip))) => by
    have h := step_all #[.slice va ((netOf C).1.length + 1) vc, .slice a5 (netOf C).2.length c5] _ _ rfl V.ac nc V.cc C.cons (litM C st ip) u ((hM.kp hu).circ.c) hnc hnc1 rfl rfl (fun u' hu' l hl => step_lit (vc := vc) (c5 := c5) hf hg ((hM.kp hu).ats) hv u' hu' l (by
      unfold Circ.used
      simp only [List.mem_append]
      exact .inl (.inl (.inr hl)))) va a5 _ vc _ c5 rfl rfl
    rw [hr] at h
    exact h)
  have HB : Hid (Blk w p #[.int .i64 C.max, .slice V.ai C.ins.length V.ci, .slice V.al C.lats.length V.cl, .slice V.ao C.outs.length V.co, .slice V.ab C.bads.length V.cb, .slice V.ac nc V.cc, .slice V.ag C.gates.length V.cg, .slice V.ay V.ny V.cy, .string V.cm, .slice a4 (netOf C).1.length c4, .slice a5 (netOf C).2.length c5] 82) := Lib.hid (by
    have h := hM.blk
    unfold cvals at h
    rw [hnc] at h
    exact h)
  clear hM hf hg hs hi hnc hr
  go_enter Tryz.func41, Tryz.ntmps41
  go_upto_region 1 with fail
  refine wp_region_looseG (p := upTo 15) (V := atV [EqV ((.pointer (some ⟨p, 0, none⟩))), EqV (.bool true), EqV (.bool true), EqV ((.pointer (some ⟨p, 0, none⟩))), EqV ((.slice sa sn sc)), EqV ((.slice ia in_ ic)), (fun u v => ∃ va vc, v = .agg #[.pointer (some ⟨p, 0, none⟩), .slice va ((netOf C).1.length + 1) vc, .slice a5 (netOf C).2.length c5] ∧ RowAt u va (bv (valsM C st ip))), (fun u v => ∃ va vc, v = .agg #[.slice va ((netOf C).1.length + 1) vc, .slice a5 (netOf C).2.length c5] ∧ RowAt u va (bv (valsM C st ip))), EqV ((.pointer (some ⟨p, 0, none⟩))), EqV (.pointer (some ⟨p, 0, none⟩)), EqV (.pointer (some ⟨p, 0, none⟩)), EqV (.pointer (some ⟨p, 5, none⟩)), EqV (.slice V.ac nc V.cc), EqV (.bool r), EqV (.bool r)]) (LP := #[true, true, true, true, true, true, true, true, true, true, true, true, true, true, true, false]) (K := 1) (by kernel_rfl) (by kernel_rfl) (atV_st ?hstL2) ?hstepL2 (by kernel_rfl) ?hLPL2 (by kernel_rfl) ?hendL2
  case hstL2 =>
    intro W h
    simp only [List.mem_cons, List.not_mem_nil, or_false] at h
    rcases h with rfl | rfl | rfl | rfl | rfl | rfl | rfl | rfl | rfl | rfl | rfl | rfl | rfl | rfl | rfl <;> first | exact EqV.st _ | exact fun _ _ _ k ⟨va, vc, h1, h2⟩ => ⟨va, vc, h1, h2.kp k (fun _ _ h => h)⟩
  case hLPL2 => exact upTo_spec (by kernel_rfl)
  case hstepL2 =>
    intro i o ho hp a u hk hoff hdep
    have e0 : a.tmps[0]?.getD undef = (.pointer (some ⟨p, 0, none⟩)) := slot_at (hoff 0 (noDst_spec (by kernel_rfl)))
    have e1 : a.tmps[1]?.getD undef = (.slice sa sn sc) := slot_at (hoff 1 (noDst_spec (by kernel_rfl)))
    have e2 : a.tmps[2]?.getD undef = (.slice ia in_ ic) := slot_at (hoff 2 (noDst_spec (by kernel_rfl)))
    clear hoff
    match i, ho with
    | 0, ho =>
      obtain rfl := Option.some.inj ho
      refine lg_none rfl ?_
      refine lw_value (v := (.pointer (some ⟨p, 0, none⟩))) (u' := u) ?_ (Kp.refl _ _) rfl
      go_simp
    | 1, ho =>
      obtain rfl := Option.some.inj ho
      have e7 : a.tmps[7]?.getD undef = (.pointer (some ⟨p, 0, none⟩)) := slot_at (hdep ⟨0, .data⟩ (by simp) rfl _ 7 rfl rfl)
      refine lg_none rfl ?_
      refine lw_value (v := .bool true) (u' := u) ?_ (Kp.refl _ _) rfl
      go_simp
    | 2, ho =>
      obtain rfl := Option.some.inj ho
      have e8 : a.tmps[8]?.getD undef = .bool true := slot_at (hdep ⟨1, .data⟩ (by simp) rfl _ 8 rfl rfl)
      refine lg_none rfl ?_
      refine lw_value (v := .bool true) (u' := u) ?_ (Kp.refl _ _) rfl
      go_simp
    | 3, ho =>
      obtain rfl := Option.some.inj ho
      have e9 : a.tmps[9]?.getD undef = .bool true := slot_at (hdep ⟨2, .guard⟩ (by simp) rfl _ 9 rfl rfl)
      refine lg_on (x := 9) rfl rfl e9 ?_
      refine lw_value (v := (.pointer (some ⟨p, 0, none⟩))) (u' := u) ?_ (Kp.refl _ _) rfl
      go_simp
    | 4, ho =>
      obtain rfl := Option.some.inj ho
      have e9 : a.tmps[9]?.getD undef = .bool true := slot_at (hdep ⟨2, .guard⟩ (by simp) rfl _ 9 rfl rfl)
      refine lg_on (x := 9) rfl rfl e9 ?_
      refine lw_value (v := (.slice sa sn sc)) (u' := u) ?_ (Kp.refl _ _) rfl
      go_simp
    | 5, ho =>
      obtain rfl := Option.some.inj ho
      have e9 : a.tmps[9]?.getD undef = .bool true := slot_at (hdep ⟨2, .guard⟩ (by simp) rfl _ 9 rfl rfl)
      refine lg_on (x := 9) rfl rfl e9 ?_
      refine lw_value (v := (.slice ia in_ ic)) (u' := u) ?_ (Kp.refl _ _) rfl
      go_simp
    | 6, ho =>
      obtain rfl := Option.some.inj ho
      have e10 : a.tmps[10]?.getD undef = (.pointer (some ⟨p, 0, none⟩)) := slot_at (hdep ⟨3, .data⟩ (by simp) rfl _ 10 rfl rfl)
      have e11 : a.tmps[11]?.getD undef = (.slice sa sn sc) := slot_at (hdep ⟨4, .data⟩ (by simp) rfl _ 11 rfl rfl)
      have e12 : a.tmps[12]?.getD undef = (.slice ia in_ ic) := slot_at (hdep ⟨5, .data⟩ (by simp) rfl _ 12 rfl rfl)
      have e9 : a.tmps[9]?.getD undef = .bool true := slot_at (hdep ⟨2, .chain⟩ (by simp) rfl _ 9 rfl rfl)
      refine lg_on (x := 9) rfl rfl e9 ?_
      refine lw_call (f := 65) (args := #[.pointer (some ⟨p, 0, none⟩), .slice sa sn sc, .slice ia in_ ic]) ?_ ?_
      · go_simp
      · exact (HIn.out u hk).mono (by
          rintro e u' ⟨⟨va, vc, rfl, hv⟩, hK⟩
          exact ⟨_, rfl, hK, va, vc, rfl, hv⟩)
    | 7, ho =>
      obtain rfl := Option.some.inj ho
      have e9 : a.tmps[9]?.getD undef = .bool true := slot_at (hdep ⟨2, .guard⟩ (by simp) rfl _ 9 rfl rfl)
      refine lg_on (x := 9) rfl rfl e9 ?_
      obtain ⟨va, vc, ev, hvr⟩ : ∃ va vc, (a.tmps.getD 13 undef) = .agg #[.pointer (some ⟨p, 0, none⟩), .slice va ((netOf C).1.length + 1) vc, .slice a5 (netOf C).2.length c5] ∧ RowAt u va (bv (valsM C st ip)) := hdep ⟨6, .data⟩ (by simp) rfl _ 13 rfl rfl
      have e13 := slot_at ev
      have hfd : ∀ W, (Instr.field 109 (.agg #[.pointer (some ⟨p, 0, none⟩), .slice va ((netOf C).1.length + 1) vc, .slice a5 (netOf C).2.length c5]) 1).run Tryz.prog W = .ok (.agg #[.slice va ((netOf C).1.length + 1) vc, .slice a5 (netOf C).2.length c5]) W := fun _ => by kernel_rfl
      refine lw_value (v := .agg #[.slice va ((netOf C).1.length + 1) vc, .slice a5 (netOf C).2.length c5]) (u' := u) ?_ (Kp.refl _ _) ⟨va, vc, rfl, hvr⟩
      go_simp
    | 8, ho =>
      obtain rfl := Option.some.inj ho
      have e9 : a.tmps[9]?.getD undef = .bool true := slot_at (hdep ⟨2, .guard⟩ (by simp) rfl _ 9 rfl rfl)
      refine lg_on (x := 9) rfl rfl e9 ?_
      refine lw_value (v := (.pointer (some ⟨p, 0, none⟩))) (u' := u) ?_ (Kp.refl _ _) rfl
      go_simp
    | 9, ho =>
      obtain rfl := Option.some.inj ho
      have e15 : a.tmps[15]?.getD undef = (.pointer (some ⟨p, 0, none⟩)) := slot_at (hdep ⟨8, .data⟩ (by simp) rfl _ 15 rfl rfl)
      have e9 : a.tmps[9]?.getD undef = .bool true := slot_at (hdep ⟨2, .guard⟩ (by simp) rfl _ 9 rfl rfl)
      refine lg_on (x := 9) rfl rfl e9 ?_
      refine lw_value (v := .pointer (some ⟨p, 0, none⟩)) (u' := u) ?_ (Kp.refl _ _) rfl
      go_simp
    | 10, ho =>
      obtain rfl := Option.some.inj ho
      have e16 : a.tmps[16]?.getD undef = .pointer (some ⟨p, 0, none⟩) := slot_at (hdep ⟨9, .data⟩ (by simp) rfl _ 16 rfl rfl)
      have e9 : a.tmps[9]?.getD undef = .bool true := slot_at (hdep ⟨2, .guard⟩ (by simp) rfl _ 9 rfl rfl)
      refine lg_on (x := 9) rfl rfl e9 ?_
      refine lw_value (v := .pointer (some ⟨p, 0, none⟩)) (u' := u) ?_ (Kp.refl _ _) rfl
      go_simp
    | 11, ho =>
      obtain rfl := Option.some.inj ho
      have e17 : a.tmps[17]?.getD undef = .pointer (some ⟨p, 0, none⟩) := slot_at (hdep ⟨10, .data⟩ (by simp) rfl _ 17 rfl rfl)
      have e9 : a.tmps[9]?.getD undef = .bool true := slot_at (hdep ⟨2, .guard⟩ (by simp) rfl _ 9 rfl rfl)
      refine lg_on (x := 9) rfl rfl e9 ?_
      refine lw_value (v := .pointer (some ⟨p, 5, none⟩)) (u' := u) ?_ (Kp.refl _ _) rfl
      go_simp
    | 12, ho =>
      obtain rfl := Option.some.inj ho
      have e18 : a.tmps[18]?.getD undef = .pointer (some ⟨p, 5, none⟩) := slot_at (hdep ⟨11, .data⟩ (by simp) rfl _ 18 rfl rfl)
      have e9 : a.tmps[9]?.getD undef = .bool true := slot_at (hdep ⟨2, .guard⟩ (by simp) rfl _ 9 rfl rfl)
      refine lg_on (x := 9) rfl rfl e9 ?_
      have c1 := (HB.out.kp hk (fun h => h)).cell (i := 5) (v := .slice V.ac nc V.cc) rfl
      refine lw_value (v := .slice V.ac nc V.cc) (u' := u) ?_ (Kp.refl _ _) rfl
      go_simp
    | 13, ho =>
      obtain rfl := Option.some.inj ho
      have e19 : a.tmps[19]?.getD undef = .slice V.ac nc V.cc := slot_at (hdep ⟨12, .data⟩ (by simp) rfl _ 19 rfl rfl)
      have e9 : a.tmps[9]?.getD undef = .bool true := slot_at (hdep ⟨2, .guard⟩ (by simp) rfl _ 9 rfl rfl)
      refine lg_on (x := 9) rfl rfl e9 ?_
      obtain ⟨va, vc, ev, hvr⟩ : ∃ va vc, (a.tmps.getD 14 undef) = .agg #[.slice va ((netOf C).1.length + 1) vc, .slice a5 (netOf C).2.length c5] ∧ RowAt u va (bv (valsM C st ip)) := hdep ⟨7, .data⟩ (by simp) rfl _ 14 rfl rfl
      have e14 := slot_at ev
      refine lw_call (f := 66) (args := #[.agg #[.slice va ((netOf C).1.length + 1) vc, .slice a5 (netOf C).2.length c5], .slice V.ac nc V.cc]) ?_ ?_
      · go_simp
      · exact (HAll.out u hk va vc hvr).mono (by
          rintro e u' ⟨rfl, hK⟩
          exact ⟨_, rfl, hK, rfl⟩)
    | 14, ho =>
      obtain rfl := Option.some.inj ho
      have e9 : a.tmps[9]?.getD undef = .bool true := slot_at (hdep ⟨2, .data⟩ (by simp) rfl _ 9 rfl rfl)
      have e20 : a.tmps[20]?.getD undef = .bool r := slot_at (hdep ⟨13, .data⟩ (by simp) rfl _ 20 rfl rfl)
      refine lg_none rfl ?_
      refine lw_value (v := .bool r) (u' := u) ?_ (Kp.refl _ _) rfl
      go_simp
    | n + 15, _ => exact absurd hp (by simp [upTo])
  intro a u hI
  have hsz : a.tmps.size = 22 := hI.size
  have hdf : a.defers = [] := hI.defers
  have f0 : a.tmps.getD 0 undef = _ := hI.off 0 (noDst_spec (p := upTo 15) (by kernel_rfl))
  have f1 : a.tmps.getD 1 undef = _ := hI.off 1 (noDst_spec (p := upTo 15) (by kernel_rfl))
  have f2 : a.tmps.getD 2 undef = _ := hI.off 2 (noDst_spec (p := upTo 15) (by kernel_rfl))
  have f3 : a.tmps.getD 3 undef = _ := hI.off 3 (noDst_spec (p := upTo 15) (by kernel_rfl))
  have f4 : a.tmps.getD 4 undef = _ := hI.off 4 (noDst_spec (p := upTo 15) (by kernel_rfl))
  have f5 : a.tmps.getD 5 undef = _ := hI.off 5 (noDst_spec (p := upTo 15) (by kernel_rfl))
  have f6 : a.tmps.getD 6 undef = _ := hI.off 6 (noDst_spec (p := upTo 15) (by kernel_rfl))
  have f7 : a.tmps.getD 7 undef = (.pointer (some ⟨p, 0, none⟩)) := hI.val 0 _ 7 rfl rfl rfl
  have f8 : a.tmps.getD 8 undef = .bool true := hI.val 1 _ 8 rfl rfl rfl
  have f9 : a.tmps.getD 9 undef = .bool true := hI.val 2 _ 9 rfl rfl rfl
  have f10 : a.tmps.getD 10 undef = (.pointer (some ⟨p, 0, none⟩)) := hI.val 3 _ 10 rfl rfl rfl
  have f11 : a.tmps.getD 11 undef = (.slice sa sn sc) := hI.val 4 _ 11 rfl rfl rfl
  have f12 : a.tmps.getD 12 undef = (.slice ia in_ ic) := hI.val 5 _ 12 rfl rfl rfl
  have g13 : ((fun u v => ∃ va vc, v = .agg #[.pointer (some ⟨p, 0, none⟩), .slice va ((netOf C).1.length + 1) vc, .slice a5 (netOf C).2.length c5] ∧ RowAt u va (bv (valsM C st ip)))) u (a.tmps.getD 13 undef) := hI.val 6 _ 13 rfl rfl rfl
  have g14 : ((fun u v => ∃ va vc, v = .agg #[.slice va ((netOf C).1.length + 1) vc, .slice a5 (netOf C).2.length c5] ∧ RowAt u va (bv (valsM C st ip)))) u (a.tmps.getD 14 undef) := hI.val 7 _ 14 rfl rfl rfl
  have f15 : a.tmps.getD 15 undef = (.pointer (some ⟨p, 0, none⟩)) := hI.val 8 _ 15 rfl rfl rfl
  have f16 : a.tmps.getD 16 undef = .pointer (some ⟨p, 0, none⟩) := hI.val 9 _ 16 rfl rfl rfl
  have f17 : a.tmps.getD 17 undef = .pointer (some ⟨p, 0, none⟩) := hI.val 10 _ 17 rfl rfl rfl
  have f18 : a.tmps.getD 18 undef = .pointer (some ⟨p, 5, none⟩) := hI.val 11 _ 18 rfl rfl rfl
  have f19 : a.tmps.getD 19 undef = .slice V.ac nc V.cc := hI.val 12 _ 19 rfl rfl rfl
  have f20 : a.tmps.getD 20 undef = .bool r := hI.val 13 _ 20 rfl rfl rfl
  have f21 : a.tmps.getD 21 undef = .bool r := hI.val 14 _ 21 rfl rfl rfl
  have ha : a = ⟨#[a.tmps.getD 0 undef, a.tmps.getD 1 undef, a.tmps.getD 2 undef, a.tmps.getD 3 undef, a.tmps.getD 4 undef, a.tmps.getD 5 undef, a.tmps.getD 6 undef, a.tmps.getD 7 undef, a.tmps.getD 8 undef, a.tmps.getD 9 undef, a.tmps.getD 10 undef, a.tmps.getD 11 undef, a.tmps.getD 12 undef, a.tmps.getD 13 undef, a.tmps.getD 14 undef, a.tmps.getD 15 undef, a.tmps.getD 16 undef, a.tmps.getD 17 undef, a.tmps.getD 18 undef, a.tmps.getD 19 undef, a.tmps.getD 20 undef, a.tmps.getD 21 undef], a.defers⟩ := act_list a 22 hsz
  rw [hdf, f0, f1, f2, f3, f4, f5, f6, f7, f8, f9, f10, f11, f12, f15, f16, f17, f18, f19, f20, f21] at ha
  obtain ⟨x13, hx13⟩ : ∃ x, a.tmps.getD 13 undef = x := ⟨_, rfl⟩
  obtain ⟨x14, hx14⟩ : ∃ x, a.tmps.getD 14 undef = x := ⟨_, rfl⟩
  rw [hx13, hx14] at ha
  rw [hx13] at g13
  rw [hx14] at g14
  have hku := hI.kp
  clear hI hsz hdf f0 f1 f2 f3 f4 f5 f6 f7 f8 f9 f10 f11 f12 f15 f16 f17 f18 f19 f20 f21 hx13 hx14
  subst ha
  refine wpAny_tail 15 rfl (by kernel_rfl) ?_
  simp only [List.drop_succ_cons, List.drop_zero]
  have HKu := Lib.hid hku
  clear hku g13 g14
  go_wp2_with fail
  go_ret
  exact ⟨rfl, HKu.out⟩

end Go.Proofs.YtcnegeggecmncaaGreatDoor

/-
  (*latchet/step.Machine).Breaks.
-/
namespace Go.Proofs.YtcnegeggecmncaaGreatDoor
open Go.RowKit

set_option maxRecDepth 100000 in
set_option maxHeartbeats 8000000 in
theorem step_Breaks (V : CV) (C : Circ) (p : Nat) (a4 a5 : Option Addr) (c4 c5 : Nat) (sa : Option Addr) (sn sc : Nat) (ga : Option Addr) (gn_ gc : Nat) (st : List Bool) (rows : List (List Bool)) (pr : Int) (w : World) (hM : MAt w 82 V C p a4 c4 a5 c5) (hf : CFew C 1000000) (hg : GoodC C) (hs : BS w sa sn st) (hi : GS w ga gn_ gc rows) :
    Calls Tryz.prog 24 #[.pointer (some ⟨p, 0, none⟩), .agg #[.slice sa sn sc, .slice ga gn_ gc], .int .i64 pr] w fun e w' => e = .returned (.bool (breaksM C st rows pr)) ∧ Kp (fun _ => False) w w' := by
  obtain ⟨wz, hwz⟩ : ∃ wz : World, wz = w.alloc (.cells #[.slice sa sn sc, .slice ga gn_ gc] 31) := ⟨_, rfl⟩
  have HK0 := Lib.hid (show Kp (fun _ => False) w wz by rw [hwz]; exact (Kp.refl _ w).alloc _)
  have HRb0 := Lib.hid (show Blk wz w.heap.size #[.slice sa sn sc, .slice ga gn_ gc] 31 by rw [hwz]; exact Blk.new _ _ _)
  have HSz0 := Lib.hid (show w.heap.size ≤ wz.heap.size by rw [hwz]; simp)
  have HZ := Lib.hid hwz
  have hgn := hi.most
  have HSt := Lib.hid (step_Starts V C p a4 a5 c4 c5 sa sn sc st wz (hM.kp HK0.out) hf hg (hs.kp HK0.out))
  have HSts0 := Lib.hid (fun u (hu : Kp (fun _ => False) w u) => step_States V C p a4 a5 c4 c5 sa sn sc ga gn_ gc st rows u (hM.kp hu) hf hg (hs.kp hu) (hi.kp hu))
  have HHo := Lib.hid (fun u (hu : Kp (fun _ => False) w u) b1 m1 d1 s1 b2 m2 d2 s2 (h1 : BS u b1 m1 s1) (h2 : BS u b2 m2 s2) => step_Holds V C p a4 a5 c4 c5 b1 m1 d1 b2 m2 d2 s1 s2 u (hM.kp hu) hf hg h1 h2)
  have HBa := Lib.hid (fun u (hu : Kp (fun _ => False) w u) b1 m1 d1 s1 b2 m2 d2 s2 (h1 : BS u b1 m1 s1) (h2 : BS u b2 m2 s2) => step_Bad V C p a4 a5 c4 c5 b1 m1 d1 b2 m2 d2 s1 s2 pr u (hM.kp hu) hf hg h1 h2)
  have HInp := Lib.hid (fun u (hu : Kp (fun _ => False) w u) => step_Inputs V C p a4 a5 c4 c5 u (hM.kp hu) hf)
  obtain ⟨ni, hni⟩ : ∃ n, C.ins.length = n := ⟨_, rfl⟩
  have hni1 : ni ≤ 1000000 := by have := hf.i; omega
  have HNi := Lib.hid hni
  have hfl := Lib.hid hf.l
  have HMb := Lib.hid (show ∀ u, Kp (fun _ => False) w u → u.cell? ⟨p, 1, none⟩ = some (.slice V.ai ni V.ci) from fun u hu => (hM.blk.kp hu (fun h => h)).cell (i := 1) (by rw [← hni]; rfl))
  obtain ⟨r, hr⟩ : ∃ r, breaksM C st rows pr = r := ⟨_, rfl⟩
  have HGs := Lib.hid hi
  have hlen := hi.len
  have R1 := Lib.hid (fun h => hr ▸ breaksM_start (C := C) (st := st) (rows := rows) (pr := pr) h)
  have R2 := Lib.hid (fun h => hr ▸ breaksM_none (C := C) (st := st) (rows := rows) (pr := pr) h)
  have R3 := Lib.hid (fun k hk h => hr ▸ breaksM_not (C := C) (st := st) (rows := rows) (pr := pr) (k := k) hk h)
  have R4 := Lib.hid (fun g h0 h1 h2 => hr ▸ (breaksM_end (C := C) (st := st) (rows := rows) (pr := pr) (g := g) h0 h1 h2).symm)
  have HLen := Lib.hid hlen
  rw [hr]
  obtain ⟨b0, hb0⟩ : ∃ b, startsM C st = b := ⟨_, rfl⟩
  rw [hb0] at HSt
  have HB0 := Lib.hid hb0
  clear hM hf hg hs hi hni hr hlen hwz hb0
  go_enter Tryz.func24, Tryz.ntmps24
  go_upto_region 1 with fail
  rw [← HZ.out]
  clear HZ
  have z0 := HRb0.out.cell (i := 0) (v := .slice sa sn sc) rfl
  have z1 := HRb0.out.cell (i := 1) (v := .slice ga gn_ gc) rfl
  cases b0 with
  | false =>
    have hrf := R1.out HB0.out
    subst hrf
    go_wp2_with (go_at_call 38; with_reducible refine Calls.mono HSt.out ?_; rintro e w1 ⟨rfl, hK1⟩)
    go_ret
    exact ⟨rfl, HK0.out.trans hK1 (fun _ _ h => h)⟩
  | true =>
  by_cases hz : gn_ = 0
  · have hrf := R2.out (by rw [HLen.out]; exact hz)
    subst hrf
    have hq : ((gn_ : Int) == 0) = true := by simp [hz]
    have HZz := Lib.hid hz
    clear hz
    go_wp2_with (go_at_call 38; with_reducible refine Calls.mono HSt.out ?_; rintro e w1 ⟨rfl, hK1⟩; have z1 := (HRb0.out.kp hK1 (fun h => h)).cell (i := 1) (v := .slice ga gn_ gc) rfl)
    go_ret
    exact ⟨rfl, HK0.out.trans hK1 (fun _ _ h => h)⟩
  obtain ⟨gl, hgl⟩ : ∃ gl, gn_ = gl + 1 := ⟨gn_ - 1, by omega⟩
  have hq : ((gn_ : Int) == 0) = false := by simp [hz]
  have HGl := Lib.hid (show (gn_ : Int) - 1 = (gl : Int) by omega)
  have HGl2 := Lib.hid hgl
  clear hz hgl
  go_upto_region 3 with (go_at_call 38; with_reducible refine Calls.mono HSt.out ?_; rintro e w1 ⟨rfl, hK1⟩; have z1 := (HRb0.out.kp hK1 (fun h => h)).cell (i := 1) (v := .slice ga gn_ gc) rfl)
  have HKs := Lib.hid (HK0.out.trans hK1 (fun _ _ h => h))
  have HRb := Lib.hid (HRb0.out.kp hK1 (fun h => h))
  have HSts := Lib.hid (fun u (hu : Kp (fun _ => False) w1 u) => HSts0.out u (HKs.out.trans hu (fun _ _ h => h)))
  have HSz := Lib.hid (show w.heap.size ≤ w1.heap.size by have := hK1.size; have := HSz0.out; omega)
  clear HSt HSts0 hK1
  clear hq
  refine wp_region_loose (p := upTo 8) (V := atV [EqV ((.pointer (some ⟨p, 0, none⟩))), EqV (.agg #[.slice sa sn sc, .slice ga gn_ gc]), (fun u v => ∃ v6, SL C st rows w.heap.size gn_ v v6 u), EqV (.pointer (some ⟨w.heap.size, 1, none⟩)), EqV (.slice ga gn_ gc), EqV (.int .i64 (gn_ : Int)), EqV (.int .i64 (gl : Int)), (fun u v => ∃ v6, SL C st rows w.heap.size gn_ v v6 u)]) (LP := #[true, true, true, true, true, true, true, true, false]) (K := 1) (by kernel_rfl) (by kernel_rfl) (atV_st ?hstL1) ?hstepL1 (by kernel_rfl) ?hLPL1 (by kernel_rfl) ?hendL1
  case hstL1 =>
    intro W h
    simp only [List.mem_cons, List.not_mem_nil, or_false] at h
    rcases h with rfl | rfl | rfl | rfl | rfl | rfl | rfl | rfl <;> first | exact EqV.st _ | exact fun _ _ _ k ⟨v6, h⟩ => ⟨v6, h.kp k⟩
  case hLPL1 => exact upTo_spec (by kernel_rfl)
  case hstepL1 =>
    intro i o ho hp a u hk hoff hdep
    have e0 : a.tmps[0]?.getD undef = (.pointer (some ⟨p, 0, none⟩)) := slot_at (hoff 0 (noDst_spec (by kernel_rfl)))
    have e4 : a.tmps[4]?.getD undef = (.pointer (some ⟨w.heap.size, 0, none⟩)) := slot_at (hoff 4 (noDst_spec (by kernel_rfl)))
    clear hoff
    match i, ho with
    | 0, ho =>
      obtain rfl := Option.some.inj ho
      refine lw_value (v := (.pointer (some ⟨p, 0, none⟩))) (u' := u) ?_ (Kp.refl _ _) rfl
      go_simp
    | 1, ho =>
      obtain rfl := Option.some.inj ho
      have c0 := (HRb.out.kp hk (fun h => h)).cell (i := 0) (v := .slice sa sn sc) rfl
      have c1 := (HRb.out.kp hk (fun h => h)).cell (i := 1) (v := .slice ga gn_ gc) rfl
      refine lw_value (v := .agg #[.slice sa sn sc, .slice ga gn_ gc]) (u' := u) ?_ (Kp.refl _ _) rfl
      go_simp
    | 2, ho =>
      obtain rfl := Option.some.inj ho
      have e22 : a.tmps[22]?.getD undef = (.pointer (some ⟨p, 0, none⟩)) := slot_at (hdep ⟨0, .data⟩ (by simp) rfl _ 22 rfl rfl)
      have e23 : a.tmps[23]?.getD undef = .agg #[.slice sa sn sc, .slice ga gn_ gc] := slot_at (hdep ⟨1, .data⟩ (by simp) rfl _ 23 rfl rfl)
      refine lw_call (f := 39) (args := #[.pointer (some ⟨p, 0, none⟩), .agg #[.slice sa sn sc, .slice ga gn_ gc]]) ?_ ?_
      · go_simp
      · exact (HSts.out u hk).mono (by
          rintro e u' ⟨v, rfl, ⟨v6, hs⟩, hK⟩
          exact ⟨v, rfl, hK, v6, hs.low (by have := hk.size; have := HSz.out; omega)⟩)
    | 3, ho =>
      obtain rfl := Option.some.inj ho
      refine lw_value (v := .pointer (some ⟨w.heap.size, 1, none⟩)) (u' := u) ?_ (Kp.refl _ _) rfl
      go_simp
    | 4, ho =>
      obtain rfl := Option.some.inj ho
      have e25 : a.tmps[25]?.getD undef = .pointer (some ⟨w.heap.size, 1, none⟩) := slot_at (hdep ⟨3, .data⟩ (by simp) rfl _ 25 rfl rfl)
      have c1 := (HRb.out.kp hk (fun h => h)).cell (i := 1) (v := .slice ga gn_ gc) rfl
      refine lw_value (v := .slice ga gn_ gc) (u' := u) ?_ (Kp.refl _ _) rfl
      go_simp
    | 5, ho =>
      obtain rfl := Option.some.inj ho
      have e26 : a.tmps[26]?.getD undef = .slice ga gn_ gc := slot_at (hdep ⟨4, .data⟩ (by simp) rfl _ 26 rfl rfl)
      refine lw_value (v := .int .i64 (gn_ : Int)) (u' := u) ?_ (Kp.refl _ _) rfl
      go_simp
    | 6, ho =>
      obtain rfl := Option.some.inj ho
      have e27 : a.tmps[27]?.getD undef = .int .i64 (gn_ : Int) := slot_at (hdep ⟨5, .data⟩ (by simp) rfl _ 27 rfl rfl)
      have hgl := HGl.out
      have hg2 : gl ≤ 1000000 := by omega
      refine lw_value (v := .int .i64 (gl : Int)) (u' := u) ?_ (Kp.refl _ _) rfl
      go_simp
      unfold IntKind.wrap
      simp [IntKind.signed, IntKind.bits]
      omega
    | 7, ho =>
      obtain rfl := Option.some.inj ho
      have hV := hdep ⟨2, .data⟩ (by simp) rfl _ 24 rfl rfl
      obtain ⟨x, hx⟩ : ∃ x, a.tmps.getD 24 undef = x := ⟨_, rfl⟩
      have e24 := slot_at hx
      rw [hx] at hV
      refine lw_value (v := x) (u' := u) ?_ (Kp.refl _ _) hV
      go_simp
    | n + 8, _ => exact absurd hp (by simp [upTo])
  intro a u hI
  have hsz : a.tmps.size = 65 := hI.size
  have hdf : a.defers = [] := hI.defers
  have f0 : a.tmps.getD 0 undef = _ := hI.off 0 (noDst_spec (p := upTo 8) (by kernel_rfl))
  have f1 : a.tmps.getD 1 undef = _ := hI.off 1 (noDst_spec (p := upTo 8) (by kernel_rfl))
  have f2 : a.tmps.getD 2 undef = _ := hI.off 2 (noDst_spec (p := upTo 8) (by kernel_rfl))
  have f3 : a.tmps.getD 3 undef = _ := hI.off 3 (noDst_spec (p := upTo 8) (by kernel_rfl))
  have f4 : a.tmps.getD 4 undef = _ := hI.off 4 (noDst_spec (p := upTo 8) (by kernel_rfl))
  have f5 : a.tmps.getD 5 undef = _ := hI.off 5 (noDst_spec (p := upTo 8) (by kernel_rfl))
  have f6 : a.tmps.getD 6 undef = _ := hI.off 6 (noDst_spec (p := upTo 8) (by kernel_rfl))
  have f8 : a.tmps.getD 8 undef = _ := hI.off 8 (noDst_spec (p := upTo 8) (by kernel_rfl))
  have f9 : a.tmps.getD 9 undef = _ := hI.off 9 (noDst_spec (p := upTo 8) (by kernel_rfl))
  have f10 : a.tmps.getD 10 undef = _ := hI.off 10 (noDst_spec (p := upTo 8) (by kernel_rfl))
  have f11 : a.tmps.getD 11 undef = _ := hI.off 11 (noDst_spec (p := upTo 8) (by kernel_rfl))
  have f12 : a.tmps.getD 12 undef = _ := hI.off 12 (noDst_spec (p := upTo 8) (by kernel_rfl))
  have f13 : a.tmps.getD 13 undef = _ := hI.off 13 (noDst_spec (p := upTo 8) (by kernel_rfl))
  have f14 : a.tmps.getD 14 undef = _ := hI.off 14 (noDst_spec (p := upTo 8) (by kernel_rfl))
  have f15 : a.tmps.getD 15 undef = _ := hI.off 15 (noDst_spec (p := upTo 8) (by kernel_rfl))
  have f16 : a.tmps.getD 16 undef = _ := hI.off 16 (noDst_spec (p := upTo 8) (by kernel_rfl))
  have f17 : a.tmps.getD 17 undef = _ := hI.off 17 (noDst_spec (p := upTo 8) (by kernel_rfl))
  have f18 : a.tmps.getD 18 undef = _ := hI.off 18 (noDst_spec (p := upTo 8) (by kernel_rfl))
  have f19 : a.tmps.getD 19 undef = _ := hI.off 19 (noDst_spec (p := upTo 8) (by kernel_rfl))
  have f20 : a.tmps.getD 20 undef = _ := hI.off 20 (noDst_spec (p := upTo 8) (by kernel_rfl))
  have f21 : a.tmps.getD 21 undef = _ := hI.off 21 (noDst_spec (p := upTo 8) (by kernel_rfl))
  have f29 : a.tmps.getD 29 undef = _ := hI.off 29 (noDst_spec (p := upTo 8) (by kernel_rfl))
  have f30 : a.tmps.getD 30 undef = _ := hI.off 30 (noDst_spec (p := upTo 8) (by kernel_rfl))
  have f31 : a.tmps.getD 31 undef = _ := hI.off 31 (noDst_spec (p := upTo 8) (by kernel_rfl))
  have f32 : a.tmps.getD 32 undef = _ := hI.off 32 (noDst_spec (p := upTo 8) (by kernel_rfl))
  have f33 : a.tmps.getD 33 undef = _ := hI.off 33 (noDst_spec (p := upTo 8) (by kernel_rfl))
  have f34 : a.tmps.getD 34 undef = _ := hI.off 34 (noDst_spec (p := upTo 8) (by kernel_rfl))
  have f35 : a.tmps.getD 35 undef = _ := hI.off 35 (noDst_spec (p := upTo 8) (by kernel_rfl))
  have f36 : a.tmps.getD 36 undef = _ := hI.off 36 (noDst_spec (p := upTo 8) (by kernel_rfl))
  have f37 : a.tmps.getD 37 undef = _ := hI.off 37 (noDst_spec (p := upTo 8) (by kernel_rfl))
  have f38 : a.tmps.getD 38 undef = _ := hI.off 38 (noDst_spec (p := upTo 8) (by kernel_rfl))
  have f39 : a.tmps.getD 39 undef = _ := hI.off 39 (noDst_spec (p := upTo 8) (by kernel_rfl))
  have f40 : a.tmps.getD 40 undef = _ := hI.off 40 (noDst_spec (p := upTo 8) (by kernel_rfl))
  have f41 : a.tmps.getD 41 undef = _ := hI.off 41 (noDst_spec (p := upTo 8) (by kernel_rfl))
  have f42 : a.tmps.getD 42 undef = _ := hI.off 42 (noDst_spec (p := upTo 8) (by kernel_rfl))
  have f43 : a.tmps.getD 43 undef = _ := hI.off 43 (noDst_spec (p := upTo 8) (by kernel_rfl))
  have f44 : a.tmps.getD 44 undef = _ := hI.off 44 (noDst_spec (p := upTo 8) (by kernel_rfl))
  have f45 : a.tmps.getD 45 undef = _ := hI.off 45 (noDst_spec (p := upTo 8) (by kernel_rfl))
  have f46 : a.tmps.getD 46 undef = _ := hI.off 46 (noDst_spec (p := upTo 8) (by kernel_rfl))
  have f47 : a.tmps.getD 47 undef = _ := hI.off 47 (noDst_spec (p := upTo 8) (by kernel_rfl))
  have f48 : a.tmps.getD 48 undef = _ := hI.off 48 (noDst_spec (p := upTo 8) (by kernel_rfl))
  have f49 : a.tmps.getD 49 undef = _ := hI.off 49 (noDst_spec (p := upTo 8) (by kernel_rfl))
  have f50 : a.tmps.getD 50 undef = _ := hI.off 50 (noDst_spec (p := upTo 8) (by kernel_rfl))
  have f51 : a.tmps.getD 51 undef = _ := hI.off 51 (noDst_spec (p := upTo 8) (by kernel_rfl))
  have f52 : a.tmps.getD 52 undef = _ := hI.off 52 (noDst_spec (p := upTo 8) (by kernel_rfl))
  have f53 : a.tmps.getD 53 undef = _ := hI.off 53 (noDst_spec (p := upTo 8) (by kernel_rfl))
  have f54 : a.tmps.getD 54 undef = _ := hI.off 54 (noDst_spec (p := upTo 8) (by kernel_rfl))
  have f55 : a.tmps.getD 55 undef = _ := hI.off 55 (noDst_spec (p := upTo 8) (by kernel_rfl))
  have f56 : a.tmps.getD 56 undef = _ := hI.off 56 (noDst_spec (p := upTo 8) (by kernel_rfl))
  have f57 : a.tmps.getD 57 undef = _ := hI.off 57 (noDst_spec (p := upTo 8) (by kernel_rfl))
  have f58 : a.tmps.getD 58 undef = _ := hI.off 58 (noDst_spec (p := upTo 8) (by kernel_rfl))
  have f59 : a.tmps.getD 59 undef = _ := hI.off 59 (noDst_spec (p := upTo 8) (by kernel_rfl))
  have f60 : a.tmps.getD 60 undef = _ := hI.off 60 (noDst_spec (p := upTo 8) (by kernel_rfl))
  have f61 : a.tmps.getD 61 undef = _ := hI.off 61 (noDst_spec (p := upTo 8) (by kernel_rfl))
  have f62 : a.tmps.getD 62 undef = _ := hI.off 62 (noDst_spec (p := upTo 8) (by kernel_rfl))
  have f63 : a.tmps.getD 63 undef = _ := hI.off 63 (noDst_spec (p := upTo 8) (by kernel_rfl))
  have f64 : a.tmps.getD 64 undef = _ := hI.off 64 (noDst_spec (p := upTo 8) (by kernel_rfl))
  have g7 : ((fun u v => ∃ v6, SL C st rows w.heap.size gn_ v v6 u)) u (a.tmps.getD 7 undef) := hI.val 7 _ 7 rfl rfl rfl
  have f22 : a.tmps.getD 22 undef = (.pointer (some ⟨p, 0, none⟩)) := hI.val 0 _ 22 rfl rfl rfl
  have f23 : a.tmps.getD 23 undef = .agg #[.slice sa sn sc, .slice ga gn_ gc] := hI.val 1 _ 23 rfl rfl rfl
  have g24 : ((fun u v => ∃ v6, SL C st rows w.heap.size gn_ v v6 u)) u (a.tmps.getD 24 undef) := hI.val 2 _ 24 rfl rfl rfl
  have f25 : a.tmps.getD 25 undef = .pointer (some ⟨w.heap.size, 1, none⟩) := hI.val 3 _ 25 rfl rfl rfl
  have f26 : a.tmps.getD 26 undef = .slice ga gn_ gc := hI.val 4 _ 26 rfl rfl rfl
  have f27 : a.tmps.getD 27 undef = .int .i64 (gn_ : Int) := hI.val 5 _ 27 rfl rfl rfl
  have f28 : a.tmps.getD 28 undef = .int .i64 (gl : Int) := hI.val 6 _ 28 rfl rfl rfl
  have ha : a = ⟨#[a.tmps.getD 0 undef, a.tmps.getD 1 undef, a.tmps.getD 2 undef, a.tmps.getD 3 undef, a.tmps.getD 4 undef, a.tmps.getD 5 undef, a.tmps.getD 6 undef, a.tmps.getD 7 undef, a.tmps.getD 8 undef, a.tmps.getD 9 undef, a.tmps.getD 10 undef, a.tmps.getD 11 undef, a.tmps.getD 12 undef, a.tmps.getD 13 undef, a.tmps.getD 14 undef, a.tmps.getD 15 undef, a.tmps.getD 16 undef, a.tmps.getD 17 undef, a.tmps.getD 18 undef, a.tmps.getD 19 undef, a.tmps.getD 20 undef, a.tmps.getD 21 undef, a.tmps.getD 22 undef, a.tmps.getD 23 undef, a.tmps.getD 24 undef, a.tmps.getD 25 undef, a.tmps.getD 26 undef, a.tmps.getD 27 undef, a.tmps.getD 28 undef, a.tmps.getD 29 undef, a.tmps.getD 30 undef, a.tmps.getD 31 undef, a.tmps.getD 32 undef, a.tmps.getD 33 undef, a.tmps.getD 34 undef, a.tmps.getD 35 undef, a.tmps.getD 36 undef, a.tmps.getD 37 undef, a.tmps.getD 38 undef, a.tmps.getD 39 undef, a.tmps.getD 40 undef, a.tmps.getD 41 undef, a.tmps.getD 42 undef, a.tmps.getD 43 undef, a.tmps.getD 44 undef, a.tmps.getD 45 undef, a.tmps.getD 46 undef, a.tmps.getD 47 undef, a.tmps.getD 48 undef, a.tmps.getD 49 undef, a.tmps.getD 50 undef, a.tmps.getD 51 undef, a.tmps.getD 52 undef, a.tmps.getD 53 undef, a.tmps.getD 54 undef, a.tmps.getD 55 undef, a.tmps.getD 56 undef, a.tmps.getD 57 undef, a.tmps.getD 58 undef, a.tmps.getD 59 undef, a.tmps.getD 60 undef, a.tmps.getD 61 undef, a.tmps.getD 62 undef, a.tmps.getD 63 undef, a.tmps.getD 64 undef], a.defers⟩ := act_list a 65 hsz
  rw [hdf, f0, f1, f2, f3, f4, f5, f6, f8, f9, f10, f11, f12, f13, f14, f15, f16, f17, f18, f19, f20, f21, f22, f23, f25, f26, f27, f28, f29, f30, f31, f32, f33, f34, f35, f36, f37, f38, f39, f40, f41, f42, f43, f44, f45, f46, f47, f48, f49, f50, f51, f52, f53, f54, f55, f56, f57, f58, f59, f60, f61, f62, f63, f64] at ha
  obtain ⟨x7, hx7⟩ : ∃ x, a.tmps.getD 7 undef = x := ⟨_, rfl⟩
  obtain ⟨x24, hx24⟩ : ∃ x, a.tmps.getD 24 undef = x := ⟨_, rfl⟩
  rw [hx7, hx24] at ha
  rw [hx7] at g7
  rw [hx24] at g24
  have hku := hI.kp
  clear hI hsz hdf f0 f1 f2 f3 f4 f5 f6 f8 f9 f10 f11 f12 f13 f14 f15 f16 f17 f18 f19 f20 f21 f22 f23 f25 f26 f27 f28 f29 f30 f31 f32 f33 f34 f35 f36 f37 f38 f39 f40 f41 f42 f43 f44 f45 f46 f47 f48 f49 f50 f51 f52 f53 f54 f55 f56 f57 f58 f59 f60 f61 f62 f63 f64 hx7 hx24
  subst ha
  refine wpAny_tail 8 rfl (by kernel_rfl) ?_
  simp only [List.drop_succ_cons, List.drop_zero]
  simp only [Array.getD_eq_getD_getElem?, List.getElem?_toArray, List.getElem?_cons_zero, List.getElem?_cons_succ, Option.getD_some]
  obtain ⟨v6, hSL⟩ := g7
  obtain ⟨ta, tc, rfl, hTS⟩ := hSL.grid hfl.out hgn
  have HTS := Lib.hid hTS
  have HKu := Lib.hid (HKs.out.trans hku (fun _ _ h => h))
  have HRu := Lib.hid (HRb.out.kp hku (fun h => h))
  have z1 := HRu.out.cell (i := 1) (v := .slice ga gn_ gc) rfl
  clear hku hSL hTS g24 z0 HRb HSz0 HSts HSz HKs HRb0 HK0
  go_wp2_with fail
  go_loopw [9, 10, 32] (fun v9 v10 v32 wr => ∃ k : Nat, v32 = .int .i64 k ∧ k ≤ gn_ ∧ (∀ j, j < k → okM C st rows j = true) ∧ Kp (fun _ => False) u wr) (fun _ _ v32 _ => gn_ - (intOf v32).toNat)
  case atStart => exact ⟨0, rfl, by omega, fun j hj => by omega, Kp.refl _ _⟩
  case round =>
    obtain ⟨k, rfl, hk, hall, hK⟩ := hrel
    obtain ⟨wp, rfl⟩ : ∃ wp : World, wp = wr := ⟨_, rfl⟩
    clear z1
    have z1 := (HRu.out.kp hK (fun h => h)).cell (i := 1) (v := .slice ga gn_ gc) rfl
    have HK := Lib.hid hK
    have HAll := Lib.hid hall
    clear hK hall
    by_cases hlt : k < gn_
    · obtain ⟨bg, og, b, m, d, ega, eg2, hbs⟩ := (HGs.out.kp (HKu.out.trans HK.out (fun _ _ h => h))).at hlt
      obtain ⟨bt, ot, b2, m2, d2, eta, et2, hts⟩ := (HTS.out.kp HK.out).states hlt
      have hlm := hbs.len
      have hmm := hbs.most
      have HIp := Lib.hid (HInp.out wp (HKu.out.trans HK.out (fun _ _ h => h)))
      rw [HNi.out] at HIp
      subst ega eta
      have i0 : (0 : Int) ≤ (k : Int) := by omega
      have i2 : (k : Int) < (gn_ : Int) := by omega
      obtain ⟨bh, hbh⟩ : ∃ x, holdsM C (stateM C st rows k) (rows[k]?.getD []) = x := ⟨_, rfl⟩
      have HW := Lib.hid (HHo.out wp (HKu.out.trans HK.out (fun _ _ h => h)) b2 m2 d2 _ b m d _ hts hbs)
      rw [hbh] at HW
      have HBh := Lib.hid hbh
      have HLm := Lib.hid hlm
      clear hbs hts hbh hlm
      by_cases hq : m = ni
      · subst hq
        cases bh with
        | false =>
          have hrf := R3.out k (by rw [HLen.out]; exact hlt) (by unfold okM; rw [HBh.out, Bool.and_false])
          subst hrf
          go_wp2_with (first
            | (go_at_call 40; with_reducible refine Calls.mono HIp.out ?_; rintro e w1 ⟨rfl, rfl⟩)
            | (go_at_call 41; with_reducible refine Calls.mono HW.out ?_; rintro e w2 ⟨rfl, hK2⟩; have HE := Lib.hid (HKu.out.trans (HK.out.trans hK2 (fun _ _ h => h)) (fun _ _ h => h)); clear hK2))
          go_ret
          exact ⟨rfl, HE.out⟩
        | true =>
          go_wp2_with (first
            | (go_at_call 40; with_reducible refine Calls.mono HIp.out ?_; rintro e w1 ⟨rfl, rfl⟩)
            | (go_at_call 41; with_reducible refine Calls.mono HW.out ?_; rintro e w2 ⟨rfl, hK2⟩; have HE := Lib.hid (show (∀ j, j < k + 1 → okM C st rows j = true) ∧ Kp (fun _ => False) u w2 from ⟨fun j hj => by
            by_cases e : j < k
            · exact HAll.out j e
            · obtain rfl : j = k := by omega
              unfold okM
              rw [HBh.out, HLm.out, HNi.out]
              simp, HK.out.trans hK2 (fun _ _ h => h)⟩); clear hK2))
          go_roundw
          case rel => exact ⟨k + 1, by go_num, by omega, HE.out⟩
          case measure => simp [intOf]; omega
      · have hrf := R3.out k (by rw [HLen.out]; exact hlt) (by unfold okM; rw [HLm.out, HNi.out, decide_eq_false hq, Bool.false_and])
        subst hrf
        have hq2 : ((m : Int) != (ni : Int)) = true := by simp; omega
        have HQ := Lib.hid hq
        clear hq
        have HE := Lib.hid (HKu.out.trans HK.out (fun _ _ h => h))
        go_wp2_with (go_at_call 40; with_reducible refine Calls.mono HIp.out ?_; rintro e w1 ⟨rfl, rfl⟩)
        go_ret
        exact ⟨rfl, HE.out⟩
    · obtain rfl : k = gn_ := by omega
      have hrf := R4.out gl HB0.out (by rw [HLen.out]; exact HGl2.out) (fun j hj => HAll.out j (by rw [HGl2.out]; exact hj))
      have hltl : gl < k := by rw [HGl2.out]; omega
      obtain ⟨bg, og, b, m, d, ega, eg2, hbs⟩ := (HGs.out.kp (HKu.out.trans HK.out (fun _ _ h => h))).at hltl
      obtain ⟨bt, ot, b2, m2, d2, eta, et2, hts⟩ := (HTS.out.kp HK.out).states hltl
      obtain ⟨F, hF1, hF2⟩ := still_class wp
      have HF1 := Lib.hid hF1
      have HF2 := Lib.hid hF2
      have m0 : ∀ y, (F y).cell? ⟨w.heap.size, 1, none⟩ = some (.slice ga k gc) := fun y => ((HRu.out.kp HK.out (fun h => h)).kp (HF1.out y) (fun h => h)).cell rfl
      have m1 : ∀ y, (F y).cell? ⟨bg, og + gl, none⟩ = some (.slice b m d) := fun y => (HF1.out y).cellK eg2
      have m2' : ∀ y, (F y).cell? ⟨bt, ot + gl, none⟩ = some (.slice b2 m2 d2) := fun y => (HF1.out y).cellK et2
      subst ega eta
      have i0 : (0 : Int) ≤ (gl : Int) := by omega
      have i2 : (gl : Int) < (k : Int) := by omega
      have HW := Lib.hid (fun y => HBa.out (F y) ((HKu.out.trans HK.out (fun _ _ h => h)).trans (HF1.out y) (fun _ _ h => h)) b2 m2 d2 _ b m d _ (hts.kp (HF1.out y)) (hbs.kp (HF1.out y)))
      rw [hrf] at HW
      have HK1 := Lib.hid (fun y => HK.out.trans (HF1.out y) (fun _ _ h => h))
      clear hF1 hF2 hbs hts eg2 et2 hrf
      go_upto_region 10 with fail
      clear z1
      refine wp_region_kept (by kernel_rfl) (by kernel_rfl) HF2.out ?_
      repeat (go_big_quiet_step (with_reducible first | exact Calls.still_of HF1.out HF2.out (HW.out _)))
      refine wpQuiet_nil ?_
      rintro wB ⟨y, rfl⟩
      have HE := Lib.hid (HKu.out.trans (HK1.out y) (fun _ _ h => h))
      clear m0 m1 m2'
      go_wp2_with fail
      go_ret
      exact ⟨rfl, HE.out⟩

end Go.Proofs.YtcnegeggecmncaaGreatDoor

/-
  wit.Replay.
-/
namespace Go.Proofs.YtcnegeggecmncaaGreatDoor
open Go.RowKit

def replayB (C : Circ) (kind prop : Int) (st : List Bool) (rows : List (List Bool)) : Bool := decide (ckCode C = 0) && decide (kind = 1) && breaksM C st rows prop

set_option maxRecDepth 100000 in
set_option maxHeartbeats 8000000 in
theorem wit_Replay (V : CV) (C : Circ) (kind prop : Int) (sa : Option Addr) (sn sc : Nat) (ga : Option Addr) (gn_ gc : Nat) (st : List Bool) (rows : List (List Bool)) (w : World) (h : CAt w V C) (hf : CFew C 1000000) (hy : V.ny ≤ 1000000) (hs : BS w sa sn st) (hi : GS w ga gn_ gc rows) :
    Calls Tryz.prog 10 #[.agg (cvals V C), .agg #[.int .i64 kind, .int .i64 prop, .slice sa sn sc, .slice ga gn_ gc]] w fun e w' => e = .returned (.bool (replayB C kind prop st rows)) ∧ Kp (fun _ => False) w w' := by
  obtain ⟨wz, hwz⟩ : ∃ wz : World, wz = (w.alloc (.cells (cvals V C) 27)).alloc (.cells #[.int .i64 kind, .int .i64 prop, .slice sa sn sc, .slice ga gn_ gc] 33) := ⟨_, rfl⟩
  have HK0 := Lib.hid (show Kp (fun _ => False) w wz by rw [hwz]; exact ((Kp.refl _ w).alloc _).alloc _)
  have HC0 := Lib.hid (show Blk wz w.heap.size #[.int .i64 C.max, .slice V.ai C.ins.length V.ci, .slice V.al C.lats.length V.cl, .slice V.ao C.outs.length V.co, .slice V.ab C.bads.length V.cb, .slice V.ac C.cons.length V.cc, .slice V.ag C.gates.length V.cg, .slice V.ay V.ny V.cy, .string V.cm] 27 by rw [hwz]; exact (Blk.new w (cvals V C) _).alloc _)
  have HW0 := Lib.hid (show Blk wz (w.heap.size + 1) #[.int .i64 kind, .int .i64 prop, .slice sa sn sc, .slice ga gn_ gc] 33 by rw [hwz]; exact two_blk _ _ _ _ _)
  obtain ⟨d0, d1, d2, d3, d4, d5, d6, d7, d8⟩ := Blk.cells9 HC0.out
  have HZ := Lib.hid hwz
  obtain ⟨r, hr⟩ : ∃ r, replayB C kind prop st rows = r := ⟨_, rfl⟩
  rw [hr]
  unfold replayB at hr
  by_cases hc : ckCode C = 0
  · rw [decide_eq_true hc, Bool.true_and] at hr
    have HN := Lib.hid (step_New V C wz (h.kp HK0.out) hf hy (GoodC.of hc))
    have HBr := Lib.hid (fun V' p a4 c4 a5 c5 u (hu : Kp (fun _ => False) w u) hM => step_Breaks V' C p a4 a5 c4 c5 sa sn sc ga gn_ gc st rows prop u hM hf (GoodC.of hc) (hs.kp hu) (hi.kp hu))
    unfold cvals at HN
    by_cases hk : kind = 1
    · subst hk
      rw [decide_eq_true rfl, Bool.true_and] at hr
      rw [hr] at HBr
      clear h hf hy hs hi hr hc hwz
      go_enter Tryz.func10, Tryz.ntmps10
      go_upto_region 1 with fail
      rw [← HZ.out]
      clear HZ
      go_upto_region 2 with (go_at_call 23; refine Calls.mono HN.out ?_; rintro e w1 ⟨V', p, a4, c4, a5, c5, rfl, hM, hK1⟩)
      have HBr1 := Lib.hid (HBr.out V' p a4 c4 a5 c5 w1 (HK0.out.trans hK1 (fun _ _ h => h)) hM)
      have hW1 := HW0.out.kp hK1 (fun h => h)
      have x0 := hW1.cell (i := 0) (v := .int .i64 1) rfl
      have x1 := hW1.cell (i := 1) (v := .int .i64 prop) rfl
      have x2 := hW1.cell (i := 2) (v := .slice sa sn sc) rfl
      have x3 := hW1.cell (i := 3) (v := .slice ga gn_ gc) rfl
      have HK1 := Lib.hid (HK0.out.trans hK1 (fun _ _ h => h))
      clear hW1 hK1 hM HBr HN d0 d1 d2 d3 d4 d5 d6 d7 d8 HC0
      go_wp2_with (go_at_call 24; with_reducible refine Calls.mono HBr1.out ?_; rintro e w2 ⟨rfl, hK2⟩; have HK2 := Lib.hid (HK1.out.trans hK2 (fun _ _ h => h)); clear hK2)
      go_ret
      exact ⟨rfl, HK2.out⟩
    · rw [decide_eq_false hk, Bool.false_and] at hr
      subst hr
      have q : ((kind : Int) == 1) = false := by simp [hk]
      clear h hf hy hs hi hc hwz hk HBr
      go_enter Tryz.func10, Tryz.ntmps10
      go_upto_region 1 with fail
      rw [← HZ.out]
      clear HZ
      go_upto_region 2 with (go_at_call 23; refine Calls.mono HN.out ?_; rintro e w1 ⟨V', p, a4, c4, a5, c5, rfl, hM, hK1⟩)
      have hW1 := HW0.out.kp hK1 (fun h => h)
      have x0 := hW1.cell (i := 0) (v := .int .i64 kind) rfl
      have HK1 := Lib.hid (HK0.out.trans hK1 (fun _ _ h => h))
      clear hW1 hK1 hM HN d0 d1 d2 d3 d4 d5 d6 d7 d8 HC0
      go_wp2_with fail
      go_ret
      exact ⟨rfl, HK1.out⟩
  · rw [decide_eq_false hc, Bool.false_and, Bool.false_and] at hr
    subst hr
    have HN := Lib.hid (step_New_bad V C wz (h.kp HK0.out) hf hc)
    unfold cvals at HN
    obtain ⟨k, hk⟩ : ∃ k, ckCode C = k := ⟨_, rfl⟩
    rw [hk] at HN hc
    have q : ((k : Int) == 0) = false := by simp [hc]
    clear h hf hy hs hi hc hwz hk
    go_enter Tryz.func10, Tryz.ntmps10
    go_upto_region 1 with fail
    rw [← HZ.out]
    clear HZ
    go_upto_region 2 with (go_at_call 23; refine Calls.mono HN.out ?_; rintro e w1 ⟨rfl, hK1⟩)
    have HK1 := Lib.hid (HK0.out.trans hK1 (fun _ _ h => h))
    clear hK1 HN d0 d1 d2 d3 d4 d5 d6 d7 d8 HC0
    go_wp2_with fail
    go_ret
    exact ⟨rfl, HK1.out⟩

end Go.Proofs.YtcnegeggecmncaaGreatDoor

/-
  Layer 1 in plain words: bytes of a string, the number at a place.
-/
namespace Go.Proofs.YtcnegeggecmncaaGreatDoor
open Go.RowKit

/-- the byte at a place -/
def bt (s : ByteArray) (i : Nat) : Nat := if h : i < s.size then (s[i]'h).toNat else 0

theorem bt_eq {s : ByteArray} {i : Nat} (h : i < s.size) : (s[i]'h).toNat = bt s i := by simp [bt, h]
theorem bt_lt (s : ByteArray) (i : Nat) : bt s i < 256 := by
  unfold bt
  split
  · exact UInt8.toNat_lt _
  · decide

/-- the number at a place, by digits of seven bits: r rounds are left, k are done, n is what they came to -/
def getR (s : ByteArray) (at_ : Nat) : Nat → Nat → Nat → Nat × Nat × Nat
  | 0, _, _ => (0, 0, 5)
  | r + 1, k, n =>
    if at_ + k = s.size then (0, 0, 3)
    else if k = 4 ∧ 15 < bt s (at_ + k) then (0, 0, 5)
    else if 0 < k ∧ bt s (at_ + k) = 0 then (0, 0, 2)
    else if bt s (at_ + k) < 128 then (n + bt s (at_ + k) % 128 * 128 ^ k, at_ + k + 1, 0)
    else getR s at_ r (k + 1) (n + bt s (at_ + k) % 128 * 128 ^ k)

def getN (s : ByteArray) (at_ : Nat) : Nat × Nat × Nat := getR s at_ 5 0 0

/-- what Get tells, of any place -/
def getT (s : ByteArray) (x : Int) : Nat × Nat × Nat := if x < 0 ∨ (s.size : Int) < x then (0, 0, 1) else getN s x.toNat

theorem nat_or_add {n k y : Nat} (h : n < 2 ^ k) : n ||| (y * 2 ^ k) = n + y * 2 ^ k := by
  have h1 := Nat.two_pow_add_eq_or_of_lt h y
  rw [Nat.or_comm, Nat.mul_comm y, ← h1]
  omega

theorem or_u32 {n y : Nat} (hn : n < 4294967296) (hy : y < 4294967296) : bits .or .u32 (n : Int) (y : Int) = ((n ||| y : Nat) : Int) := Go.u32_or_nat n y hn hy

theorem and_127 (b : Nat) (h : b < 256) : bits .and .u8 (b : Int) 127 = ((b % 128 : Nat) : Int) := by
  have h1 := Go.u8_and_nat b 127 h (by decide)
  have h2 : b &&& 127 = b % 128 := by
    have := Nat.and_two_pow_sub_one_eq_mod b 7
    simpa using this
  rw [h2] at h1
  exact h1

theorem pow_128 (k : Nat) : 128 ^ k = 2 ^ (7 * k) := by rw [Nat.pow_mul]

/-- one digit is put to the number -/
theorem digit_step {n c k : Nat} (hn : n < 128 ^ k) (hc : c * 128 ^ k < 4294967296) (hk : 128 ^ k ≤ 4294967296) :
    bits .or .u32 (n : Int) (((c : Nat) : Int) % 4294967296 * 2 ^ (7 * k) % 4294967296) = ((n + c * 128 ^ k : Nat) : Int) := by
  have e1 : (((c : Nat) : Int) % 4294967296 * 2 ^ (7 * k) % 4294967296) = ((c * 128 ^ k : Nat) : Int) := by
    have hc' : c < 4294967296 := by
      have : c * 1 ≤ c * 128 ^ k := Nat.mul_le_mul_left c (Nat.pos_of_ne_zero (by simp))
      omega
    rw [pow_128] at hc ⊢
    rw [show ((c : Nat) : Int) % 4294967296 = (c : Int) from Int.emod_eq_of_lt (by omega) (by omega)]
    have : ((c : Nat) : Int) * 2 ^ (7 * k) = ((c * 2 ^ (7 * k) : Nat) : Int) := by simp
    rw [this]
    generalize c * 2 ^ (7 * k) = z at hc
    omega
  rw [e1, or_u32 (by omega) hc]
  rw [pow_128] at hn ⊢
  rw [nat_or_add hn]

theorem digit_step2 {n B k : Nat} (hn : n < 128 ^ k) (hc : B % 128 * 128 ^ k < 4294967296) (hk : 128 ^ k ≤ 4294967296) :
    bits .or .u32 (n : Int) ((B : Int) % 128 * 2 ^ (7 * k) % 4294967296) = ((n + B % 128 * 128 ^ k : Nat) : Int) := by
  have h := digit_step hn hc hk
  rw [← h]
  congr 3
  omega

end Go.Proofs.YtcnegeggecmncaaGreatDoor

/-
  Layer 1 in plain words: the number whose digits stand at a place.
-/
namespace Go.Proofs.YtcnegeggecmncaaGreatDoor
open Go.RowKit

/-- whether the byte at a place is a digit -/
def isDig (s : ByteArray) (i : Nat) : Prop := 48 ≤ bt s i ∧ bt s i ≤ 57

/-- how many digits stand from a place on -/
def runL (s : ByteArray) : Nat → Nat → Nat
  | 0, _ => 0
  | f + 1, i => if 48 ≤ bt s i ∧ bt s i ≤ 57 then runL s f (i + 1) + 1 else 0

def endOf (s : ByteArray) (i : Nat) : Nat := i + runL s (s.size - i) i

theorem runL_le (s : ByteArray) (f : Nat) : ∀ i, runL s f i ≤ f := by
  induction f with
  | zero => intro i; simp [runL]
  | succ f ih => intro i; simp only [runL]; split; (have := ih (i + 1); omega); omega

theorem runL_dig (s : ByteArray) (f : Nat) : ∀ i j, j < runL s f i → isDig s (i + j) := by
  induction f with
  | zero => intro i j h; simp [runL] at h
  | succ f ih =>
    intro i j h
    simp only [runL] at h
    split at h
    · rename_i hd
      cases j with
      | zero => exact hd
      | succ j => have := ih (i + 1) j (by omega); rw [show i + (j + 1) = i + 1 + j from by omega]; exact this
    · omega

theorem runL_stop (s : ByteArray) (f : Nat) : ∀ i, runL s f i < f → ¬ isDig s (i + runL s f i) := by
  induction f with
  | zero => intro i h; omega
  | succ f ih =>
    intro i h
    simp only [runL] at h ⊢
    split
    · rename_i hd
      rw [if_pos hd] at h
      have := ih (i + 1) (by omega)
      rw [show i + (runL s f (i + 1) + 1) = i + 1 + runL s f (i + 1) from by omega]
      exact this
    · rename_i hd; rw [Nat.add_zero]; exact hd

theorem endOf_ge (s : ByteArray) (i : Nat) : i ≤ endOf s i := by unfold endOf; omega
theorem endOf_le {s : ByteArray} {i : Nat} (h : i ≤ s.size) : endOf s i ≤ s.size := by
  have := runL_le s (s.size - i) i
  unfold endOf; omega

/-- where digits stand up to j and none at j, j is the end -/
theorem endOf_is {s : ByteArray} {i j : Nat} (hij : i ≤ j) (hj : j ≤ s.size) (h : ∀ k, i ≤ k → k < j → isDig s k) (hs : j = s.size ∨ ¬ isDig s j) : endOf s i = j := by
  have h1 := runL_le s (s.size - i) i
  unfold endOf
  rcases Nat.lt_trichotomy (i + runL s (s.size - i) i) j with h2 | h2 | h2
  · exact absurd (h _ (by omega) h2) (runL_stop s (s.size - i) i (by omega))
  · exact h2
  · have := runL_dig s (s.size - i) i (j - i) (by omega)
    rw [show i + (j - i) = j from by omega] at this
    rcases hs with e | e
    · omega
    · exact absurd this e

/-- the number of k digits -/
def numb (s : ByteArray) (i : Nat) : Nat → Nat
  | 0 => 0
  | k + 1 => 10 * numb s i k + (bt s (i + k) - 48)

theorem numb_lt {s : ByteArray} {i : Nat} (k : Nat) (h : ∀ j, j < k → isDig s (i + j)) : numb s i k < 10 ^ k := by
  induction k with
  | zero => simp [numb]
  | succ k ih =>
    have h1 := ih (fun j hj => h j (by omega))
    have h2 := h k (by omega)
    unfold isDig at h2
    simp only [numb]
    rw [Nat.pow_succ]
    omega

def natN (s : ByteArray) (i : Nat) : Nat × Nat × Nat :=
  if i = s.size then (0, 0, 3)
  else if endOf s i = i ∨ bt s i = 48 ∧ i + 1 < endOf s i then (0, 0, 2)
  else if 9 < endOf s i - i then (0, 0, 5)
  else (numb s i (endOf s i - i), endOf s i, 0)

def natT (s : ByteArray) (x : Int) : Nat × Nat × Nat := if x < 0 ∨ (s.size : Int) < x then (0, 0, 1) else natN s x.toNat

theorem byte_at {s : ByteArray} {i : Nat} (h : i < s.size) : ∃ b : UInt8, s.data.toList[i]? = some b ∧ b.toNat = bt s i := by
  refine ⟨s[i]'h, ?_, bt_eq h⟩
  have h2 : i < s.data.size := h
  rw [Array.getElem?_toList, Array.getElem?_eq_getElem h2]
  rfl

theorem word_dec {s : ByteArray} {i : Nat} (k : Nat) (hk : i + k ≤ s.size) (h : ∀ j, j < k → isDig s (i + j)) : Lib.decFrom 0 ((s.data.toList.drop i).take k) = some (numb s i k) := by
  induction k with
  | zero => simp [Lib.decFrom, numb]
  | succ k ih =>
    have h1 := ih (by omega) (fun j hj => h j (by omega))
    obtain ⟨b, hb, hb2⟩ := byte_at (s := s) (i := i + k) (by omega)
    have hd := h k (by omega)
    unfold isDig at hd
    have hv : Lib.digitVal b = some (bt s (i + k) - 48) := by
      unfold Lib.digitVal
      rw [if_pos ⟨by omega, by omega⟩, hb2]
    have := Lib.decFrom_take (s.data.toList.drop i) k 0 (numb s i k) b _ h1 (by rw [List.getElem?_drop]; exact hb) hv
    rw [this]
    simp only [numb]
    congr 1
    omega

theorem word_atoi {s : ByteArray} {i k : Nat} (hk0 : 0 < k) (hk : i + k ≤ s.size) (h : ∀ j, j < k → isDig s (i + j)) : Lib.atoi ((s.data.toList.drop i).take k) = some (numb s i k : Int) := by
  obtain ⟨b, hb, hb2⟩ := byte_at (s := s) (i := i) (by omega)
  have h0 := h 0 hk0
  unfold isDig at h0
  rw [Nat.add_zero] at h0
  have hd := word_dec k hk h
  have hlen : i < s.data.toList.length := by rw [← Lib.size_eq]; omega
  have e : (s.data.toList.drop i).take k = b :: ((s.data.toList.drop (i + 1)).take (k - 1)) := by
    obtain ⟨k', rfl⟩ : ∃ k', k = k' + 1 := ⟨k - 1, by omega⟩
    rw [List.drop_eq_getElem_cons hlen, List.take_succ_cons]
    rw [List.getElem?_eq_getElem hlen] at hb
    simp only [Option.some.injEq] at hb
    rw [hb]
    rfl
  rw [e] at hd ⊢
  have n1 : (b == 45) = false := by
    rw [beq_eq_false_iff_ne]; intro h; subst h; simp at hb2; omega
  have n2 : (b == 43) = false := by
    rw [beq_eq_false_iff_ne]; intro h; subst h; simp at hb2; omega
  simp only [Lib.atoi, n1, n2, Bool.false_eq_true, if_false, Lib.decNat, List.isEmpty_cons, hd, Option.map_some]

theorem cut_size {s : ByteArray} {i n : Nat} (h : i + n ≤ s.size) : (s.extract i (i + n)).size = n := by
  rw [ByteArray.size_extract]; omega

theorem cut_list {s : ByteArray} {i n : Nat} : (s.extract i (i + n)).data.toList = (s.data.toList.drop i).take n := by
  rw [Lib.extract_data, show i + n - i = n from by omega]

theorem cut_empty (s : ByteArray) (i : Nat) : (s.extract i i).toList = [] := by
  rw [Lib.extract_toList]; simp

theorem cut_first {s : ByteArray} {i n : Nat} (h : i + n ≤ s.size) (h0 : 0 < (s.extract i (i + n)).size) : ((s.extract i (i + n))[0]'h0).toNat = bt s i := by
  have hn : 0 < n := by rw [cut_size h] at h0; exact h0
  rw [ByteArray.getElem_extract]
  simp only [Nat.add_zero]
  exact bt_eq (by omega)

theorem cut_some {s : ByteArray} {i n : Nat} (h : i + n ≤ s.size) (hn : 0 < n) : (s.extract i (i + n)).toList ≠ [] := by
  intro e
  have h1 := congrArg List.length e
  rw [Lib.toList_data, ← Lib.size_eq, cut_size h] at h1
  simp at h1
  omega

end Go.Proofs.YtcnegeggecmncaaGreatDoor

/-
  Lines and words in plain words.
-/
namespace Go.Proofs.YtcnegeggecmncaaGreatDoor
open Go.RowKit

/-- the first feed from a place on -/
def feedAt (s : ByteArray) (at_ : Nat) : Option Nat := (List.range s.size).find? (fun i => decide (at_ ≤ i) && (bt s i == 10))

theorem feed_some {s : ByteArray} {at_ i : Nat} (hi : i < s.size) (h : at_ ≤ i) (hb : bt s i = 10) (hn : ∀ j, at_ ≤ j → j < i → bt s j ≠ 10) : feedAt s at_ = some i := by
  unfold feedAt
  rw [List.find?_range_eq_some]
  refine ⟨by simp [h, hb], by simpa using hi, fun j hj => ?_⟩
  simp
  by_cases h' : j < at_
  · exact .inl h'
  · exact .inr (hn j (by omega) hj)

theorem feed_none {s : ByteArray} {at_ : Nat} (hn : ∀ j, at_ ≤ j → j < s.size → bt s j ≠ 10) : feedAt s at_ = none := by
  unfold feedAt
  rw [List.find?_range_eq_none]
  intro j hj
  simp
  by_cases h' : j < at_
  · exact .inl h'
  · exact .inr (hn j (by omega) hj)

theorem feed_cases (s : ByteArray) (at_ : Nat) : (∃ i, feedAt s at_ = some i ∧ at_ ≤ i ∧ i < s.size ∧ bt s i = 10 ∧ ∀ j, at_ ≤ j → j < i → bt s j ≠ 10) ∨ feedAt s at_ = none ∧ ∀ j, at_ ≤ j → j < s.size → bt s j ≠ 10 := by
  cases h : feedAt s at_ with
  | some i =>
    left
    unfold feedAt at h
    rw [List.find?_range_eq_some] at h
    obtain ⟨h1, h2, h3⟩ := h
    simp at h1 h2 h3
    exact ⟨i, rfl, h1.1, h2, h1.2, fun j h4 h5 => (h3 j h5).resolve_left (by omega)⟩
  | none =>
    right
    unfold feedAt at h
    rw [List.find?_range_eq_none] at h
    simp at h
    exact ⟨rfl, fun j h1 h2 => (h j h2).resolve_left (by omega)⟩

/-- what Line tells, of any place -/
def lineT (s : ByteArray) (x : Int) : ByteArray × Nat × Nat :=
  if x < 0 ∨ (s.size : Int) < x then (⟨#[]⟩, 0, 1)
  else match feedAt s x.toNat with
    | some i => (s.extract x.toNat i, i + 1, 0)
    | none => (⟨#[]⟩, 0, 3)

theorem bt_feed {s : ByteArray} {i : Nat} : s.data.toList[i]? = some 10 ↔ i < s.size ∧ bt s i = 10 := by
  constructor
  · intro h
    have hi : i < s.data.toList.length := (List.getElem?_eq_some_iff.1 h).1
    have hi' : i < s.size := by simpa using hi
    refine ⟨hi', ?_⟩
    rw [← bt_eq hi']
    have h2 := (List.getElem?_eq_some_iff.1 h).2
    have : s[i] = 10 := h2
    rw [this]; rfl
  · rintro ⟨hi, hb⟩
    rw [List.getElem?_eq_getElem (by simpa using hi)]
    rw [← bt_eq hi] at hb
    have : s[i] = 10 := UInt8.toNat_inj.1 hb
    exact congrArg some this

/-- the library's word for the first feed behind a place -/
theorem feed_index (s : ByteArray) (at_ : Nat) : Lib.indexByte (s.extract at_ s.size).data.toList 10 = match feedAt s at_ with | some i => ((i - at_ : Nat) : Int) | none => -1 := by
  have he : (s.extract at_ s.size).data.toList = s.data.toList.drop at_ := by
    rw [Lib.extract_to_end]
  rw [he]
  have hge := Lib.indexByte_ge (s.data.toList.drop at_) 10
  rcases (show Lib.indexByte (s.data.toList.drop at_) 10 = -1 ∨ ∃ o : Nat, Lib.indexByte (s.data.toList.drop at_) 10 = o by
    by_cases e : Lib.indexByte (s.data.toList.drop at_) 10 = -1
    · exact .inl e
    · exact .inr ⟨(Lib.indexByte (s.data.toList.drop at_) 10).toNat, by omega⟩) with e | ⟨o, e⟩
  · have hn := Lib.indexByte_none e
    rw [e, feed_none]
    intro j h1 h2 hb
    refine hn (j - at_) ?_
    rw [List.getElem?_drop, show at_ + (j - at_) = j by omega]
    exact bt_feed.2 ⟨h2, hb⟩
  · obtain ⟨h1, h2⟩ := Lib.indexByte_some e
    rw [List.getElem?_drop] at h1
    obtain ⟨h3, h4⟩ := bt_feed.1 h1
    rw [e, feed_some h3 (Nat.le_add_right _ _) h4]
    · simp
    · intro j h5 h6 hb
      refine h2 (j - at_) (by omega) ?_
      rw [List.getElem?_drop, show at_ + (j - at_) = j by omega]
      exact bt_feed.2 ⟨by omega, hb⟩

/-- what stands between blanks -/
def wordsF : List UInt8 → List (List UInt8)
  | [] => [[]]
  | b :: l => if b = 32 then [] :: wordsF l else match wordsF l with
    | [] => [[b]]
    | x :: r => (b :: x) :: r

theorem words_app : ∀ {a : List UInt8} (r : List UInt8), (∀ b ∈ a, b ≠ 32) → wordsF (a ++ 32 :: r) = a :: wordsF r
  | [], r, _ => by simp [wordsF]
  | b :: a, r, h => by
    have hb : b ≠ 32 := h b (by simp)
    rw [List.cons_append, wordsF, if_neg hb, words_app r (fun x hx => h x (by simp [hx]))]

theorem words_none : ∀ {a : List UInt8}, (∀ b ∈ a, b ≠ 32) → wordsF a = [a]
  | [], _ => rfl
  | b :: a, h => by
    rw [wordsF, if_neg (h b (by simp)), words_none (fun x hx => h x (by simp [hx]))]

/-- words with blanks between -/
def jn : List (List UInt8) → List UInt8
  | [] => []
  | [a] => a
  | a :: b :: r => a ++ 32 :: jn (b :: r)

theorem words_ne (l : List UInt8) : wordsF l ≠ [] := by
  cases l with
  | nil => simp [wordsF]
  | cons b l => unfold wordsF; split; · simp
                split <;> simp

theorem jn_cons {a : List UInt8} {r : List (List UInt8)} (h : r ≠ []) : jn (a :: r) = a ++ 32 :: jn r := by
  cases r with
  | nil => exact absurd rfl h
  | cons b r => rfl

theorem jn_words : ∀ l : List UInt8, jn (wordsF l) = l
  | [] => rfl
  | b :: l => by
    have ih := jn_words l
    unfold wordsF
    split
    · rename_i h
      rw [jn_cons (words_ne l), ih, h]; rfl
    · cases hw : wordsF l with
      | nil => exact absurd hw (words_ne l)
      | cons x r =>
        rw [hw] at ih
        simp only
        cases r with
        | nil => simp [jn] at ih ⊢; exact ih
        | cons y r => simp [jn] at ih ⊢; exact ih

theorem jn_snoc : ∀ {xs : List (List UInt8)} {a : List UInt8}, xs ≠ [] → jn (xs ++ [a]) = jn xs ++ 32 :: a
  | [], _, h => absurd rfl h
  | [x], a, _ => by simp [jn]
  | x :: y :: r, a, _ => by
    have := jn_snoc (xs := y :: r) (a := a) (by simp)
    simp only [List.cons_append] at this ⊢
    rw [jn, this, jn]; simp

theorem split_words : ∀ (n : Nat) (l : List UInt8), l.length ≤ n → Lib.splitK [32] 0 (Lib.count l [32]) l = wordsF l
  | n, l, hl => by
    have hge := Lib.indexByte_ge l 32
    by_cases e : Lib.indexByte l 32 = -1
    · have hi : Lib.index l [32] = -1 := by rw [Lib.index_one]; exact e
      have hc : Lib.count l [32] = 0 := Lib.count_miss hi
      rw [hc, words_none]
      · rfl
      · intro b hb hb2
        obtain ⟨k, hk⟩ := List.mem_iff_getElem?.1 hb
        exact Lib.indexByte_none e k (by rw [hk, hb2])
    · obtain ⟨o, ho⟩ : ∃ o : Nat, Lib.indexByte l 32 = o := ⟨(Lib.indexByte l 32).toNat, by omega⟩
      obtain ⟨h1, h2⟩ := Lib.indexByte_some ho
      have hi : Lib.index l [32] = o := by rw [Lib.index_one]; exact ho
      have hlt : o < l.length := (List.getElem?_eq_some_iff.1 h1).1
      have hsp : l = l.take o ++ 32 :: l.drop (o + 1) := by
        have h3 := (List.getElem?_eq_some_iff.1 h1).2
        conv => lhs; rw [← List.take_append_drop o l, List.drop_eq_getElem_cons hlt, h3]
      have hw : wordsF l = l.take o :: wordsF (l.drop (o + 1)) := by
        conv => lhs; rw [hsp]
        apply words_app
        intro b hb hb2
        obtain ⟨k, hk⟩ := List.mem_iff_getElem?.1 hb
        rw [List.getElem?_take] at hk
        split at hk
        · exact h2 k (by assumption) (by rw [hk, hb2])
        · cases hk
      match n with
      | 0 => omega
      | n + 1 =>
        have hcnt : Lib.count l [32] = Lib.count (l.drop (o + 1)) [32] + 1 := by
          have := Lib.count_hit (s := l) (sub := [32]) (i := o) (by simp) hi
          simp at this
          omega
        rw [hcnt, Lib.splitK, if_neg (by rw [hi]; simp), hi, hw]
        simp only [Int.toNat_natCast, Nat.add_zero, List.length_singleton]
        rw [split_words n (l.drop (o + 1)) (by simp; omega)]

end Go.Proofs.YtcnegeggecmncaaGreatDoor

/-
  Symbols and a comment behind a circuit: what is read. No program in sight.
-/
namespace Go.Proofs.YtcnegeggecmncaaGreatDoor
open Go.RowKit

structure Sym where
  kind : Nat
  idx : Nat
  name : ByteArray

structure Hd where
  bin : Bool
  m : Int
  i : Int
  l : Int
  o : Int
  a : Int
  b : Int
  c : Int

/-- how many there are of a kind -/
def cnt (h : Hd) (k : Nat) : Int := if k = 105 then h.i else if k = 108 then h.l else if k = 111 then h.o else if k = 98 then h.b else if k = 99 then h.c else 0

def isKind (k : Nat) : Prop := k = 105 ∨ k = 108 ∨ k = 111 ∨ k = 98 ∨ k = 99
instance (k : Nat) : Decidable (isKind k) := by unfold isKind; infer_instance

inductive SymR where
  | bad (p e : Nat)
  | ok (x : Sym) (next : Nat)

/-- the symbol of the line at a place -/
def symT (h : Hd) (s : ByteArray) (p : Nat) : SymR :=
  if ¬ isKind (bt s p) then .bad p 2
  else if (natN s (p + 1)).2.2 ≠ 0 then .bad (p + 1) (natN s (p + 1)).2.2
  else if cnt h (bt s p) ≤ (natN s (p + 1)).1 then .bad (p + 1) 5
  else if (natN s (p + 1)).2.1 = s.size then .bad (natN s (p + 1)).2.1 3
  else if bt s (natN s (p + 1)).2.1 ≠ 32 then .bad (natN s (p + 1)).2.1 2
  else if (lineT s ((natN s (p + 1)).2.1 + 1 : Nat)).2.2 ≠ 0 then .bad ((natN s (p + 1)).2.1 + 1) (lineT s ((natN s (p + 1)).2.1 + 1 : Nat)).2.2
  else if (lineT s ((natN s (p + 1)).2.1 + 1 : Nat)).1.size = 0 then .bad ((natN s (p + 1)).2.1 + 1) 2
  else if 64 < (lineT s ((natN s (p + 1)).2.1 + 1 : Nat)).1.size then .bad ((natN s (p + 1)).2.1 + 1) 4
  else .ok ⟨bt s p, (natN s (p + 1)).1, (lineT s ((natN s (p + 1)).2.1 + 1 : Nat)).1⟩ (lineT s ((natN s (p + 1)).2.1 + 1 : Nat)).2.1

def markAt (s : ByteArray) (p : Nat) : Prop := bt s p = 99 ∧ p + 1 < s.size ∧ bt s (p + 1) = 10
instance (s : ByteArray) (p : Nat) : Decidable (markAt s p) := by unfold markAt; infer_instance

def alike (x y : Sym) : Bool := x.kind == y.kind && x.idx == y.idx

structure TailR where
  l : List Sym
  c : ByteArray
  «to» : Nat
  e : Nat

def readR (h : Hd) (s : ByteArray) : Nat → List Sym → Nat → TailR
  | 0, L, _ => ⟨L, ⟨#[]⟩, s.size, 0⟩
  | f + 1, L, p =>
    if s.size ≤ p then ⟨L, ⟨#[]⟩, s.size, 0⟩
    else if markAt s p then ⟨L, s.extract (p + 2) s.size, s.size, 0⟩
    else match symT h s p with
      | .bad p' e => ⟨[], ⟨#[]⟩, p', e⟩
      | .ok x next => if L.any (fun y => alike y x) then ⟨[], ⟨#[]⟩, p, 7⟩ else readR h s f (L ++ [x]) next

/-- what is read from a place on -/
def readT (h : Hd) (s : ByteArray) (x : Int) : TailR := if x < 0 ∨ (s.size : Int) < x then ⟨[], ⟨#[]⟩, 0, 1⟩ else readR h s (s.size + 1) [] x.toNat

theorem natN_end {s : ByteArray} {p : Nat} (hp : p ≤ s.size) (h : (natN s p).2.2 = 0) : p < (natN s p).2.1 ∧ (natN s p).2.1 ≤ s.size ∧ (natN s p).1 < 1000000000 := by
  have h1 := endOf_ge s p
  have h2 := endOf_le hp
  unfold natN at h ⊢
  by_cases c1 : p = s.size
  · rw [if_pos c1] at h; simp at h
  · rw [if_neg c1] at h ⊢
    by_cases c2 : endOf s p = p ∨ bt s p = 48 ∧ p + 1 < endOf s p
    · rw [if_pos c2] at h; simp at h
    · rw [if_neg c2] at h ⊢
      by_cases c3 : 9 < endOf s p - p
      · rw [if_pos c3] at h; simp at h
      · rw [if_neg c3]
        refine ⟨by simp only; omega, h2, ?_⟩
        have hd : ∀ j, j < endOf s p - p → isDig s (p + j) := by
          intro j hj
          have : j < runL s (s.size - p) p := by unfold endOf at hj; omega
          exact runL_dig s _ p j this
        have := numb_lt (endOf s p - p) hd
        have h9 : 10 ^ (endOf s p - p) ≤ 10 ^ 9 := Nat.pow_le_pow_right (by decide) (by omega)
        simp only
        omega

theorem lineT_end {s : ByteArray} {p : Nat} (hp : p ≤ s.size) (h : (lineT s (p : Nat)).2.2 = 0) : p < (lineT s (p : Nat)).2.1 ∧ (lineT s (p : Nat)).2.1 ≤ s.size ∧ (lineT s (p : Nat)).1.size ≤ s.size := by
  unfold lineT at h ⊢
  rw [if_neg (by omega)] at h ⊢
  rw [Int.toNat_natCast] at h ⊢
  rcases feed_cases s p with ⟨i, hf, h1, h2, _⟩ | ⟨hf, _⟩
  · rw [hf]
    simp only
    refine ⟨by omega, by omega, ?_⟩
    rw [ByteArray.size_extract]
    omega
  · rw [hf] at h
    simp at h

theorem symT_ok {h : Hd} {s : ByteArray} {p : Nat} (hp : p < s.size) {x : Sym} {next : Nat} (e : symT h s p = .ok x next) : p < next ∧ next ≤ s.size ∧ x.kind < 256 ∧ x.idx < 1000000000 ∧ x.name.size ≤ 64 := by
  unfold symT at e
  by_cases c1 : ¬ isKind (bt s p)
  · rw [if_pos c1] at e; cases e
  rw [if_neg c1] at e
  by_cases c2 : (natN s (p + 1)).2.2 ≠ 0
  · rw [if_pos c2] at e; cases e
  rw [if_neg c2] at e
  have hn := natN_end (s := s) (p := p + 1) (by omega) (by simpa using c2)
  by_cases c3 : cnt h (bt s p) ≤ (natN s (p + 1)).1
  · rw [if_pos c3] at e; cases e
  rw [if_neg c3] at e
  by_cases c4 : (natN s (p + 1)).2.1 = s.size
  · rw [if_pos c4] at e; cases e
  rw [if_neg c4] at e
  by_cases c5 : bt s (natN s (p + 1)).2.1 ≠ 32
  · rw [if_pos c5] at e; cases e
  rw [if_neg c5] at e
  by_cases c6 : (lineT s ((natN s (p + 1)).2.1 + 1 : Nat)).2.2 ≠ 0
  · rw [if_pos c6] at e; cases e
  rw [if_neg c6] at e
  have hl := lineT_end (s := s) (p := (natN s (p + 1)).2.1 + 1) (by omega) (by simpa using c6)
  by_cases c7 : (lineT s ((natN s (p + 1)).2.1 + 1 : Nat)).1.size = 0
  · rw [if_pos c7] at e; cases e
  rw [if_neg c7] at e
  by_cases c8 : 64 < (lineT s ((natN s (p + 1)).2.1 + 1 : Nat)).1.size
  · rw [if_pos c8] at e; cases e
  rw [if_neg c8] at e
  injection e with e1 e2
  subst e1 e2
  exact ⟨by omega, hl.2.1, bt_lt _ _, hn.2.2, by simp only; omega⟩

section
variable {h : Hd} {s : ByteArray} {p n en er nx f : Nat} {nm : ByteArray}
theorem sym1 (c1 : isKind (bt s p)) (hN : natN s (p + 1) = (n, en, er)) (c2 : er ≠ 0) : symT h s p = .bad (p + 1) er := by
  unfold symT; rw [if_neg (by simpa using c1), hN, if_pos c2]
theorem sym2 (c1 : isKind (bt s p)) (hN : natN s (p + 1) = (n, en, er)) (c2 : er = 0) (c3 : cnt h (bt s p) ≤ n) : symT h s p = .bad (p + 1) 5 := by
  unfold symT; rw [if_neg (by simpa using c1), hN, if_neg (by simpa using c2), if_pos c3]
theorem sym3 (c1 : isKind (bt s p)) (hN : natN s (p + 1) = (n, en, er)) (c2 : er = 0) (c3 : ¬ cnt h (bt s p) ≤ n) (c4 : en = s.size) : symT h s p = .bad en 3 := by
  unfold symT; rw [if_neg (by simpa using c1), hN, if_neg (by simpa using c2), if_neg c3, if_pos c4]
theorem sym4 (c1 : isKind (bt s p)) (hN : natN s (p + 1) = (n, en, er)) (c2 : er = 0) (c3 : ¬ cnt h (bt s p) ≤ n) (c4 : ¬ en = s.size) (c5 : bt s en ≠ 32) : symT h s p = .bad en 2 := by
  unfold symT; rw [if_neg (by simpa using c1), hN, if_neg (by simpa using c2), if_neg c3, if_neg c4, if_pos c5]
theorem sym5 (c1 : isKind (bt s p)) (hN : natN s (p + 1) = (n, en, er)) (c2 : er = 0) (c3 : ¬ cnt h (bt s p) ≤ n) (c4 : ¬ en = s.size) (c5 : bt s en = 32) (hL : lineT s (en + 1 : Nat) = (nm, nx, f)) (c6 : f ≠ 0) : symT h s p = .bad (en + 1) f := by
  unfold symT; rw [if_neg (by simpa using c1), hN, if_neg (by simpa using c2), if_neg c3, if_neg c4, if_neg (by simpa using c5), hL, if_pos c6]
theorem sym6 (c1 : isKind (bt s p)) (hN : natN s (p + 1) = (n, en, er)) (c2 : er = 0) (c3 : ¬ cnt h (bt s p) ≤ n) (c4 : ¬ en = s.size) (c5 : bt s en = 32) (hL : lineT s (en + 1 : Nat) = (nm, nx, f)) (c6 : f = 0) (c7 : nm.size = 0) : symT h s p = .bad (en + 1) 2 := by
  unfold symT; rw [if_neg (by simpa using c1), hN, if_neg (by simpa using c2), if_neg c3, if_neg c4, if_neg (by simpa using c5), hL, if_neg (by simpa using c6), if_pos c7]
theorem sym7 (c1 : isKind (bt s p)) (hN : natN s (p + 1) = (n, en, er)) (c2 : er = 0) (c3 : ¬ cnt h (bt s p) ≤ n) (c4 : ¬ en = s.size) (c5 : bt s en = 32) (hL : lineT s (en + 1 : Nat) = (nm, nx, f)) (c6 : f = 0) (c7 : ¬ nm.size = 0) (c8 : 64 < nm.size) : symT h s p = .bad (en + 1) 4 := by
  unfold symT; rw [if_neg (by simpa using c1), hN, if_neg (by simpa using c2), if_neg c3, if_neg c4, if_neg (by simpa using c5), hL, if_neg (by simpa using c6), if_neg c7, if_pos c8]
theorem sym8 (c1 : isKind (bt s p)) (hN : natN s (p + 1) = (n, en, er)) (c2 : er = 0) (c3 : ¬ cnt h (bt s p) ≤ n) (c4 : ¬ en = s.size) (c5 : bt s en = 32) (hL : lineT s (en + 1 : Nat) = (nm, nx, f)) (c6 : f = 0) (c7 : ¬ nm.size = 0) (c8 : ¬ 64 < nm.size) : symT h s p = .ok ⟨bt s p, n, nm⟩ nx := by
  unfold symT; rw [if_neg (by simpa using c1), hN, if_neg (by simpa using c2), if_neg c3, if_neg c4, if_neg (by simpa using c5), hL, if_neg (by simpa using c6), if_neg c7, if_neg c8]
end

theorem readR_len (h : Hd) (s : ByteArray) : ∀ (f : Nat) (L : List Sym) (p : Nat), L.length ≤ p → p ≤ s.size → (readR h s f L p).l.length ≤ s.size
  | 0, L, p, hL, hp => by simp only [readR]; omega
  | f + 1, L, p, hL, hp => by
    unfold readR
    by_cases c1 : s.size ≤ p
    · rw [if_pos c1]; simp only; omega
    rw [if_neg c1]
    by_cases c2 : markAt s p
    · rw [if_pos c2]; simp only; omega
    rw [if_neg c2]
    cases hs : symT h s p with
    | bad p' e => simp
    | ok x next =>
      have h1 := symT_ok (by omega) hs
      simp only
      by_cases c3 : L.any (fun y => alike y x) = true
      · rw [if_pos c3]; simp
      · rw [if_neg c3]
        exact readR_len h s f _ next (by rw [List.length_append]; simp; omega) h1.2.1

theorem readT_len (h : Hd) (s : ByteArray) (x : Int) : (readT h s x).l.length ≤ s.size := by
  unfold readT
  by_cases c : x < 0 ∨ (s.size : Int) < x
  · rw [if_pos c]; simp
  · rw [if_neg c]; exact readR_len h s _ _ _ (by simp) (by omega)

end Go.Proofs.YtcnegeggecmncaaGreatDoor

/-
  Numerals: a number's digits, and the number that digits stand for, there and back. No program in sight.
-/
namespace Go.Proofs.YtcnegeggecmncaaGreatDoor
open Go.RowKit

theorem dd_one {u : Nat} (h : u < 10) : Lib.decDigits u = [UInt8.ofNat (48 + u)] := Lib.decDigits_one h
theorem dd_more {u : Nat} (h : ¬ u < 10) : Lib.decDigits u = Lib.decDigits (u / 10) ++ [UInt8.ofNat (48 + u % 10)] := by
  conv => lhs; rw [Lib.decDigits, dif_neg h]

theorem dd_byte {d : Nat} (h : d < 10) : (UInt8.ofNat (48 + d)).toNat = 48 + d := by
  rw [UInt8.toNat_ofNat']; omega

theorem dd_digit : ∀ (u : Nat), ∀ b ∈ Lib.decDigits u, 48 ≤ b.toNat ∧ b.toNat ≤ 57 := by
  intro u
  induction u using Nat.strongRecOn with
  | _ u ih =>
    intro b hb
    by_cases h : u < 10
    · rw [dd_one h] at hb
      simp only [List.mem_singleton] at hb
      subst hb
      rw [dd_byte h]; omega
    · rw [dd_more h] at hb
      rcases List.mem_append.1 hb with hb | hb
      · exact ih (u / 10) (by omega) b hb
      · simp only [List.mem_singleton] at hb
        subst hb
        rw [dd_byte (by omega)]; omega

theorem dd_pos (u : Nat) : 0 < (Lib.decDigits u).length := by
  by_cases h : u < 10
  · rw [dd_one h]; simp
  · rw [dd_more h]; simp

theorem dd_head : ∀ (u : Nat), 0 < u → ∃ b r, Lib.decDigits u = b :: r ∧ b.toNat ≠ 48 := by
  intro u
  induction u using Nat.strongRecOn with
  | _ u ih =>
    intro h0
    by_cases h : u < 10
    · exact ⟨_, [], dd_one h, by rw [dd_byte h]; omega⟩
    · obtain ⟨b, r, e, hb⟩ := ih (u / 10) (by omega) (by omega)
      exact ⟨b, r ++ [UInt8.ofNat (48 + u % 10)], by rw [dd_more h, e]; rfl, hb⟩

theorem dd_len : ∀ (k u : Nat), u < 10 ^ (k + 1) → (Lib.decDigits u).length ≤ k + 1
  | 0, u, h => by rw [dd_one (by simpa using h)]; simp
  | k + 1, u, h => by
    by_cases hu : u < 10
    · rw [dd_one hu]; simp
    · rw [dd_more hu]
      have := dd_len k (u / 10) (by rw [Nat.pow_succ] at h; omega)
      simp; omega

theorem decFrom_snoc : ∀ (l : List UInt8) (acc : Nat) (b : UInt8), Lib.decFrom acc (l ++ [b]) = match Lib.decFrom acc l with
    | some n => match Lib.digitVal b with
      | some d => some (n * 10 + d)
      | none => none
    | none => none
  | [], acc, b => by
    simp only [List.nil_append, Lib.decFrom]
    cases Lib.digitVal b <;> rfl
  | c :: l, acc, b => by
    rw [List.cons_append]
    simp only [Lib.decFrom]
    cases Lib.digitVal c with
    | none => rfl
    | some d => exact decFrom_snoc l _ b

theorem digitVal_of {d : Nat} (h : d < 10) : Lib.digitVal (UInt8.ofNat (48 + d)) = some d := by
  unfold Lib.digitVal
  rw [dd_byte h, if_pos ⟨by omega, by omega⟩, show 48 + d - 48 = d by omega]

theorem dd_from : ∀ (u : Nat), Lib.decFrom 0 (Lib.decDigits u) = some u := by
  intro u
  induction u using Nat.strongRecOn with
  | _ u ih =>
    by_cases h : u < 10
    · rw [dd_one h]
      simp only [Lib.decFrom, digitVal_of h]
      simp
    · rw [dd_more h, decFrom_snoc, ih (u / 10) (by omega), digitVal_of (by omega)]
      simp only [Option.some.injEq]; omega

theorem dd_inj {u v : Nat} (h : Lib.decDigits u = Lib.decDigits v) : u = v := by
  have := dd_from u
  rw [h, dd_from v] at this
  exact (Option.some.inj this).symm

/-- digits without a nought ahead are their number's numeral -/
theorem numb_dd {s : ByteArray} {i : Nat} : ∀ (k : Nat), i + (k + 1) ≤ s.size → (∀ j, j < k + 1 → isDig s (i + j)) → (k = 0 ∨ bt s i ≠ 48) →
    (s.data.toList.drop i).take (k + 1) = Lib.decDigits (numb s i (k + 1)) ∧ (bt s i ≠ 48 → 0 < numb s i (k + 1))
  | 0, hs, hd, _ => by
    have h := hd 0 (by omega)
    unfold isDig at h
    rw [Nat.add_zero] at h
    obtain ⟨b, hb, hb2⟩ := byte_at (s := s) (i := i) (by omega)
    simp only [numb, Nat.mul_zero, Nat.zero_add, Nat.add_zero]
    refine ⟨?_, fun h48 => by omega⟩
    rw [dd_one (by omega), show 48 + (bt s i - 48) = b.toNat by omega]
    obtain ⟨hi, hb3⟩ := List.getElem?_eq_some_iff.1 hb
    rw [List.drop_eq_getElem_cons hi, hb3]
    simp
  | k + 1, hs, hd, hz => by
    have h48 : bt s i ≠ 48 := by rcases hz with h | h; omega; exact h
    obtain ⟨h1, h2⟩ := numb_dd k (by omega) (fun j hj => hd j (by omega)) (.inr h48)
    have h2 := h2 h48
    have h := hd (k + 1) (by omega)
    unfold isDig at h
    obtain ⟨b, hb, hb2⟩ := byte_at (s := s) (i := i + (k + 1)) (by omega)
    have e : numb s i (k + 1 + 1) = 10 * numb s i (k + 1) + (bt s (i + (k + 1)) - 48) := rfl
    refine ⟨?_, fun _ => by omega⟩
    have hl : (s.data.toList.drop i)[k + 1]? = some b := by rw [List.getElem?_drop]; exact hb
    obtain ⟨hi, hb3⟩ := List.getElem?_eq_some_iff.1 hl
    rw [List.take_succ_eq_append_getElem hi, hb3, h1, dd_more (u := numb s i (k + 1 + 1)) (by omega), e,
      show (10 * numb s i (k + 1) + (bt s (i + (k + 1)) - 48)) / 10 = numb s i (k + 1) by omega,
      show 48 + (10 * numb s i (k + 1) + (bt s (i + (k + 1)) - 48)) % 10 = b.toNat by omega]
    simp

theorem endOf_dig {s : ByteArray} {i j : Nat} (h : j < endOf s i - i) : isDig s (i + j) := by
  have : j < runL s (s.size - i) i := by unfold endOf at h; omega
  exact runL_dig s _ i j this

/-- a number that is read is the digits' numeral -/
theorem dec_natN {s : ByteArray} {p v q : Nat} (hp : p ≤ s.size) (h : natN s p = (v, q, 0)) : p < q ∧ q ≤ s.size ∧ v < 1000000000 ∧ (s.data.toList.drop p).take (q - p) = Lib.decDigits v := by
  have h0 := natN_end hp (by rw [h])
  rw [h] at h0
  simp only at h0
  refine ⟨h0.1, h0.2.1, h0.2.2, ?_⟩
  unfold natN at h
  by_cases c1 : p = s.size
  · rw [if_pos c1] at h; simp at h
  rw [if_neg c1] at h
  by_cases c2 : endOf s p = p ∨ bt s p = 48 ∧ p + 1 < endOf s p
  · rw [if_pos c2] at h; simp at h
  rw [if_neg c2] at h
  by_cases c3 : 9 < endOf s p - p
  · rw [if_pos c3] at h; simp at h
  rw [if_neg c3] at h
  simp only [Prod.mk.injEq, and_true] at h
  obtain ⟨h1, h2⟩ := h
  rw [h2] at h1 c2
  have hd : ∀ j, j < q - p → isDig s (p + j) := fun j hj => endOf_dig (by rw [h2]; exact hj)
  obtain ⟨k, hk⟩ : ∃ k, q - p = k + 1 := ⟨q - p - 1, by omega⟩
  rw [hk] at h1 hd ⊢
  rw [← h1]
  exact (numb_dd k (by omega) hd (by omega)).1

/-- a numeral is read as its number -/
theorem natN_dec {s : ByteArray} {p u : Nat} (hu : u < 1000000000) (hp : p + (Lib.decDigits u).length ≤ s.size)
    (hs : (s.data.toList.drop p).take (Lib.decDigits u).length = Lib.decDigits u) (he : p + (Lib.decDigits u).length = s.size ∨ ¬ isDig s (p + (Lib.decDigits u).length)) :
    natN s p = (u, p + (Lib.decDigits u).length, 0) := by
  have hpos := dd_pos u
  have hlen : (Lib.decDigits u).length ≤ 9 := dd_len 8 u (by omega)
  obtain ⟨n, hn⟩ : ∃ n, (Lib.decDigits u).length = n := ⟨_, rfl⟩
  rw [hn] at hpos hlen hp hs he ⊢
  have hbyte : ∀ j b, (Lib.decDigits u)[j]? = some b → bt s (p + j) = b.toNat := by
    intro j b hb
    have hj : j < n := by rw [← hn]; exact (List.getElem?_eq_some_iff.1 hb).1
    rw [← hs, List.getElem?_take, if_pos hj, List.getElem?_drop] at hb
    obtain ⟨c, hc, hc2⟩ := byte_at (s := s) (i := p + j) (by omega)
    rw [hb] at hc
    rw [← hc2, Option.some.inj hc]
  have hd : ∀ j, j < n → isDig s (p + j) := by
    intro j hj
    have hj' : j < (Lib.decDigits u).length := by omega
    have := dd_digit u _ (List.getElem_mem hj')
    have hb := hbyte j _ (List.getElem?_eq_getElem hj')
    unfold isDig
    rw [hb]; exact this
  have hend : endOf s p = p + n := endOf_is (by omega) hp (fun k h1 h2 => by have := hd (k - p) (by omega); rwa [show p + (k - p) = k by omega] at this) he
  unfold natN
  rw [if_neg (by omega), hend, if_neg ?_, if_neg (by omega), show p + n - p = n by omega]
  · have h1 := word_dec (s := s) (i := p) n hp hd
    rw [hs, dd_from] at h1
    rw [← Option.some.inj h1]
  · rintro (h | ⟨h1, h2⟩)
    · omega
    · have hu10 : ¬ u < 10 := by intro h; rw [dd_one h] at hn; simp at hn; omega
      obtain ⟨b, r, e, hb⟩ := dd_head u (by omega)
      have := hbyte 0 b (by rw [e]; rfl)
      rw [Nat.add_zero] at this
      omega

theorem itoa_nat (u : Nat) : Lib.itoa (u : Int) = Lib.decDigits u := by unfold Lib.itoa; rw [if_neg (by omega), Int.toNat_natCast]

end Go.Proofs.YtcnegeggecmncaaGreatDoor

/-
  A number read from a place of a text is the number read from the rest of it. No program in sight.
-/
namespace Go.Proofs.YtcnegeggecmncaaGreatDoor
open Go.RowKit

theorem bt_rest (s : ByteArray) (p i : Nat) : bt (s.extract p s.size) i = bt s (p + i) := by
  by_cases h : i < (s.extract p s.size).size
  · have h2 : p + i < s.size := by rw [ByteArray.size_extract] at h; omega
    obtain ⟨b, hb, hb2⟩ := byte_at h
    obtain ⟨c, hc, hc2⟩ := byte_at h2
    rw [Lib.extract_to_end, List.getElem?_drop, hc] at hb
    rw [← hb2, ← hc2, Option.some.inj hb]
  · have h2 : ¬ p + i < s.size := by rw [ByteArray.size_extract] at h; omega
    unfold bt
    rw [dif_neg h, dif_neg h2]

theorem runL_rest (s : ByteArray) (p : Nat) : ∀ f i, runL (s.extract p s.size) f i = runL s f (p + i)
  | 0, i => rfl
  | f + 1, i => by
    simp only [runL, bt_rest]
    rw [runL_rest s p f (i + 1), Nat.add_assoc]

theorem endOf_rest {s : ByteArray} {p i : Nat} (h : p + i ≤ s.size) : endOf (s.extract p s.size) i + p = endOf s (p + i) := by
  unfold endOf
  rw [runL_rest, ByteArray.size_extract, show min s.size s.size - p - i = s.size - (p + i) by omega]
  omega

theorem numb_rest (s : ByteArray) (p i : Nat) : ∀ k, numb (s.extract p s.size) i k = numb s (p + i) k
  | 0 => rfl
  | k + 1 => by
    simp only [numb, bt_rest]
    rw [numb_rest s p i k, Nat.add_assoc]

/-- the number at a place, by the rest's -/
theorem natN_rest {s : ByteArray} {p : Nat} (h : p ≤ s.size) :
    natN s p = ((natN (s.extract p s.size) 0).1, if (natN (s.extract p s.size) 0).2.2 = 0 then (natN (s.extract p s.size) 0).2.1 + p else 0, (natN (s.extract p s.size) 0).2.2) := by
  have he := endOf_rest (s := s) (p := p) (i := 0) (by omega)
  rw [Nat.add_zero] at he
  have hz : (s.extract p s.size).size = s.size - p := by rw [ByteArray.size_extract]; omega
  have hge := endOf_ge (s.extract p s.size) 0
  have hb : bt (s.extract p s.size) 0 = bt s p := by rw [bt_rest, Nat.add_zero]
  obtain ⟨E, hE⟩ : ∃ E, endOf (s.extract p s.size) 0 = E := ⟨_, rfl⟩
  rw [hE] at he hge
  have hR : natN (s.extract p s.size) 0 = if 0 = s.size - p then (0, 0, 3) else if E = 0 ∨ bt s p = 48 ∧ 0 + 1 < E then (0, 0, 2) else if 9 < E - 0 then (0, 0, 5) else (numb s p (E - 0), E, 0) := by
    unfold natN
    rw [hz, hb, hE, numb_rest]; rfl
  have hL : natN s p = if p = s.size then (0, 0, 3) else if E + p = p ∨ bt s p = 48 ∧ p + 1 < E + p then (0, 0, 2) else if 9 < E + p - p then (0, 0, 5) else (numb s p (E + p - p), E + p, 0) := by
    unfold natN
    rw [← he]
  by_cases c1 : p = s.size
  · rw [if_pos c1] at hL; rw [if_pos (by omega)] at hR
    rw [hL, hR]; rfl
  rw [if_neg c1] at hL; rw [if_neg (by omega)] at hR
  by_cases c2 : E = 0 ∨ bt s p = 48 ∧ 0 + 1 < E
  · rw [if_pos (by omega)] at hL; rw [if_pos c2] at hR
    rw [hL, hR]; rfl
  rw [if_neg (by omega)] at hL; rw [if_neg c2] at hR
  by_cases c3 : 9 < E - 0
  · rw [if_pos (by omega)] at hL; rw [if_pos c3] at hR
    rw [hL, hR]; rfl
  rw [if_neg (by omega)] at hL; rw [if_neg c3] at hR
  rw [hL, hR]
  simp only [if_true]
  rw [show E + p - p = E - 0 by omega]

end Go.Proofs.YtcnegeggecmncaaGreatDoor
