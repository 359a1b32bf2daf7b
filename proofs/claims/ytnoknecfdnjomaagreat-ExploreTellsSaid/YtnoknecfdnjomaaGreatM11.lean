/-
  latchetlaw43.ExploreTells: all states of any circuit.
-/
import Derived.Test.YtnoknecfdnjomaaGreatM8
import Derived.Test.YtnoknecfdnjomaaGreatM9
import Derived.Test.YtnoknecfdnjomaaGreatM10
set_option linter.unusedVariables false
set_option linter.unusedSimpArgs false
namespace Go.Proofs.YtnoknecfdnjomaaGreat
open Go.RowKit

theorem dist_stable {n m : Nat} {st : Nat → Bool} {E : Nat → Nat → Bool} (hm : n ≤ m) (t : Nat) : distG n st E m t = distG n st E n t := by
 have hk : ∃ k, k ≤ n ∧ ∀ t, t < n → distG n st E n t ≠ k := by
  apply Classical.byContradiction
  intro h
  have : n < n := layers_cnt (n := n) (st := st) (E := E) (m := n) (fun k hk => by
   apply Classical.byContradiction
   intro q
   exact h ⟨k, hk, fun t ht e => q ⟨t, ht, e⟩⟩)
  exact absurd this (Nat.lt_irrefl n)
 obtain ⟨k, hk, h⟩ := hk
 have h2 : ∀ t, t < n → distG n st E k t ≠ k := fun t ht e => h t ht (by rw [distG_le (m := k) (k := n) (by rw [e]; omega) hk, e])
 obtain ⟨d1, e1⟩ : ∃ d, m = k + d := ⟨m - k, by omega⟩
 obtain ⟨d2, e2⟩ : ∃ d, n = k + d := ⟨n - k, by omega⟩
 have a1 := distG_still h2 d1 t
 have a2 := distG_still h2 d2 t
 rw [← e1] at a1
 rw [← e2] at a2
 rw [a1, a2]
theorem first_steps {C : Circ} {pr : Int} (h : nS C ≤ 200) : atS (nS C) (dstS C pr) (beg (nS C) (rchS C) (dstS C pr)) = leastG (canG (nS C) (stS C) (bdS C pr) (fun s t => decide (t ∈ nxL C s))) 200 := by
 rw [nxL_edge]
 have e : (fun t => decide (rchS C t = 0)) = stS C := funext fun t => rch_zero
 have eD : dstS C pr = distG (nS C) (bdS C pr) (revG (edS C)) 200 := funext fun t => (dist_stable h t).symm
 obtain ⟨b, hb⟩ : ∃ b, beg (nS C) (rchS C) (dstS C pr) = b := ⟨_, rfl⟩
 have hb' : b = bestG (stS C) (distG (nS C) (bdS C pr) (revG (edS C)) 200) (nS C) := by
  rw [← hb]
  unfold beg
  rw [e, eD]
 have hf := first_least hb'
 rw [hb, ← hf]
 rcases bestG_cases (st := stS C) (d := distG (nS C) (bdS C pr) (revG (edS C)) 200) (nS C) with ⟨q, -⟩ | ⟨s, hs, q, -⟩
 ·rw [hb', q, if_pos rfl, atS_out (by omega)]
 ·rw [hb', q, if_neg (by omega), atS_in hs, Int.toNat_natCast, eD]
theorem step_beh {C : Circ} {t : Nat} (ht : t < nS C) : stepS (nS C) (rowF2 C) (t : Int) = natV (behN (nS C) (nxL C t)) := by
 unfold stepS
 rw [if_pos ⟨by omega, by omega⟩, Int.toNat_natCast]
 unfold stepL stepN natV behN
 congr 1
 refine List.filter_congr fun u _ => ?_
 exact (congrFun (congrFun (nxL_edge C) t) u).symm

def inK (c : List Int) (S : Nat → List Bool) (R : Nat → Int) (k : Nat) : Bool := (List.range k).any (fun t => decide (0 ≤ R t) && hasC c (S t))
theorem inK_succ (c : List Int) (S : Nat → List Bool) (R : Nat → Int) (k : Nat) : inK c S R (k + 1) = (inK c S R k || (decide (0 ≤ R k) && hasC c (S k))) := by
 unfold inK; rw [List.range_succ, List.any_append]; simp
theorem inv_in {c : List Int} {S : Nat → List Bool} {R : Nat → Int} {n : Nat} (h : ∀ t, -1 ≤ R t) : invG c S R n = !inK c S R n := by
 unfold invG inK
 rw [Bool.eq_iff_iff, List.all_eq_true, Bool.not_eq_true', ← Bool.not_eq_true, List.any_eq_true]
 constructor
 ·rintro h1 ⟨t, ht, h2⟩
  rw [Bool.and_eq_true, decide_eq_true_eq] at h2
  have := h1 t ht
  rw [h2.2, decide_eq_true (show R t ≠ -1 by omega)] at this
  cases this
 ·intro h1 t ht
  cases e : (decide (R t ≠ -1) && hasC c (S t))
  ·rfl
  ·rw [Bool.and_eq_true, decide_eq_true_eq] at e
   exact absurd ⟨t, ht, by rw [e.2, decide_eq_true (show 0 ≤ R t by have := h t; omega)]; rfl⟩ h1

def SlN (n : Nat) (Q : Nat → Int) (u : World) (v : Value) : Prop := ∃ g, v = .slice (some ⟨g, 0, none⟩) n n ∧ NumB u g n Q
theorem SlN.st (n : Nat) (Q : Nat → Int) : Stable (SlN n Q) := fun _ _ _ k ⟨g, h1, h2⟩ => ⟨g, h1, h2.kp k (fun h => h)⟩
def SlZ (L : List Int) (u : World) (v : Value) : Prop := ∃ a c, v = .slice a L.length c ∧ IntsAt u a L
theorem SlZ.st (L : List Int) : Stable (SlZ L) := fun _ _ _ k ⟨a, c, h1, h2⟩ => ⟨a, c, h1, RowAt.kp h2 k (fun _ _ h => h)⟩

set_option maxRecDepth 100000 in
set_option maxHeartbeats 16000000 in
theorem tells_notfew {V : CV} {C : Circ} {w : World} (h : CAt w V C) (pr pn : Int) (a : Option Addr) (m cap : Nat) (hF : ¬ FewP V C 14) :
  Calls Tryz.prog 3 #[.agg (cvals V C), .int .i64 pr, .int .i64 pn, .slice a m cap] w fun e w' => e = .returned (.bool true) ∧ Kp (fun _ => False) w w' := by
 obtain ⟨wz, hwz⟩ : ∃ wz : World, wz = w.alloc (.cells (cvals V C) 27) := ⟨_, rfl⟩
 have HK0 := Lib.hid (show Kp (fun _ => False) w wz by rw [hwz]; exact (Kp.refl _ w).alloc _)
 have HC0 := Lib.hid (fun u (hu : Kp (fun _ => False) wz u) => Blk.cells9 (show Blk u w.heap.size #[.int .i64 C.max, .slice V.ai C.ins.length V.ci, .slice V.al C.lats.length V.cl, .slice V.ao C.outs.length V.co, .slice V.ab C.bads.length V.cb, .slice V.ac C.cons.length V.cc, .slice V.ag C.gates.length V.cg, .slice V.ay V.ny V.cy, .string V.cm] 27 from (show Blk wz w.heap.size (cvals V C) 27 by rw [hwz]; exact Blk.new _ _ _).kp hu (fun h => h)))
 have hM := h.kp HK0.out
 have HLi := Lib.hid (fun u => law43_lives u)
 obtain ⟨d0, d1, d2, d3, d4, d5, d6, d7, d8⟩ := HC0.out wz (Kp.refl _ _)
 have HZ := Lib.hid hwz
 have HFe := Lib.hid (few_no (w := wz) hF)
 unfold cvals at HFe
 clear h hwz hM hF
 go_enter Tryz.func3, Tryz.ntmps3
 go_upto_region 1 with fail
 rw [← HZ.out]
 clear HZ
 go_wp2_with (first
  |(go_at_call 5; with_reducible refine Calls.mono HFe.out ?_; rintro e w1 ⟨rfl, hK1⟩; have HK1 := Lib.hid hK1; clear d0 d1 d2 d3 d4 d5 d6 d7 d8; obtain ⟨d0, d1, d2, d3, d4, d5, d6, d7, d8⟩ := HC0.out w1 hK1; clear hK1)
  |(go_at_call 6; refine Calls.mono (HLi.out _) ?_; rintro e w9 ⟨rfl, hK9⟩; have HK9 := Lib.hid ((HK0.out.trans HK1.out (fun _ _ h => h)).trans hK9 (fun _ _ h => h)); clear hK9))
 go_ret
 exact ⟨rfl, HK9.out⟩

set_option maxRecDepth 100000 in
set_option maxHeartbeats 16000000 in
theorem tells_long {V : CV} {C : Circ} {w : World} (h : CAt w V C) (pr pn : Int) (a : Option Addr) (m cap : Nat) (hF : FewP V C 14) (hm : 30 < m) :
  Calls Tryz.prog 3 #[.agg (cvals V C), .int .i64 pr, .int .i64 pn, .slice a m cap] w fun e w' => e = .returned (.bool true) ∧ Kp (fun _ => False) w w' := by
 obtain ⟨wz, hwz⟩ : ∃ wz : World, wz = w.alloc (.cells (cvals V C) 27) := ⟨_, rfl⟩
 have HK0 := Lib.hid (show Kp (fun _ => False) w wz by rw [hwz]; exact (Kp.refl _ w).alloc _)
 have HC0 := Lib.hid (fun u (hu : Kp (fun _ => False) wz u) => Blk.cells9 (show Blk u w.heap.size #[.int .i64 C.max, .slice V.ai C.ins.length V.ci, .slice V.al C.lats.length V.cl, .slice V.ao C.outs.length V.co, .slice V.ab C.bads.length V.cb, .slice V.ac C.cons.length V.cc, .slice V.ag C.gates.length V.cg, .slice V.ay V.ny V.cy, .string V.cm] 27 from (show Blk wz w.heap.size (cvals V C) 27 by rw [hwz]; exact Blk.new _ _ _).kp hu (fun h => h)))
 have hM := h.kp HK0.out
 have HLi := Lib.hid (fun u => law43_lives u)
 obtain ⟨d0, d1, d2, d3, d4, d5, d6, d7, d8⟩ := HC0.out wz (Kp.refl _ _)
 have HZ := Lib.hid hwz
 have HFe := Lib.hid (few_ok (w := wz) hF)
 have q1 : ((m : Nat) : Int) > 30 := by omega
 unfold cvals at HFe
 clear h hwz hM hF hm
 go_enter Tryz.func3, Tryz.ntmps3
 go_upto_region 1 with fail
 rw [← HZ.out]
 clear HZ
 go_wp2_with (first
  |(go_at_call 5; with_reducible refine Calls.mono HFe.out ?_; rintro e w1 ⟨rfl, hK1⟩; have HK1 := Lib.hid hK1; clear d0 d1 d2 d3 d4 d5 d6 d7 d8; obtain ⟨d0, d1, d2, d3, d4, d5, d6, d7, d8⟩ := HC0.out w1 hK1; clear hK1)
  |(go_at_call 6; refine Calls.mono (HLi.out _) ?_; rintro e w9 ⟨rfl, hK9⟩; have HK9 := Lib.hid ((HK0.out.trans HK1.out (fun _ _ h => h)).trans hK9 (fun _ _ h => h)); clear hK9))
 go_ret
 exact ⟨rfl, HK9.out⟩

set_option maxRecDepth 100000 in
set_option maxHeartbeats 16000000 in
theorem tells_many {V : CV} {C : Circ} {w : World} (h : CAt w V C) (pr pn : Int) (a : Option Addr) (m cap : Nat) (hF : FewP V C 14) (hm : m ≤ 30) (hc : ckCode C = 0) (h7 : 7 < C.lats.length + C.ins.length) (h10 : C.lats.length ≤ 10) (h8 : C.ins.length ≤ 8) :
  Calls Tryz.prog 3 #[.agg (cvals V C), .int .i64 pr, .int .i64 pn, .slice a m cap] w fun e w' => e = .returned (.bool true) ∧ Kp (fun _ => False) w w' := by
 obtain ⟨wz, hwz⟩ : ∃ wz : World, wz = w.alloc (.cells (cvals V C) 27) := ⟨_, rfl⟩
 have HK0 := Lib.hid (show Kp (fun _ => False) w wz by rw [hwz]; exact (Kp.refl _ w).alloc _)
 have HC0 := Lib.hid (fun u (hu : Kp (fun _ => False) wz u) => Blk.cells9 (show Blk u w.heap.size #[.int .i64 C.max, .slice V.ai C.ins.length V.ci, .slice V.al C.lats.length V.cl, .slice V.ao C.outs.length V.co, .slice V.ab C.bads.length V.cb, .slice V.ac C.cons.length V.cc, .slice V.ag C.gates.length V.cg, .slice V.ay V.ny V.cy, .string V.cm] 27 from (show Blk wz w.heap.size (cvals V C) 27 by rw [hwz]; exact Blk.new _ _ _).kp hu (fun h => h)))
 have hM := h.kp HK0.out
 have HLi := Lib.hid (fun u => law43_lives u)
 obtain ⟨d0, d1, d2, d3, d4, d5, d6, d7, d8⟩ := HC0.out wz (Kp.refl _ _)
 have HZ := Lib.hid hwz
 have HFe := Lib.hid (few_ok (w := wz) hF)
 have HCk := Lib.hid (fun u (hu : Kp (fun _ => False) wz u) => ref11_Chk V C u (hM.kp hu) (hF.few (by decide)))
 rw [hc] at HCk
 have q1 : ¬ ((m : Nat) : Int) > 30 := by omega
 have q2 : ((C.lats.length : Nat) : Int) + ((C.ins.length : Nat) : Int) > 7 := by omega
 have q3 : ((C.lats.length : Nat) : Int) ≤ 10 := by omega
 have q4 : ((C.ins.length : Nat) : Int) ≤ 8 := by omega
 have HOw := Lib.hid (fun (u : World) (_ : Kp (fun _ => False) wz u) => True.intro)
 unfold cvals at HFe HCk
 clear h hwz hM hF hm hc
 go_enter Tryz.func3, Tryz.ntmps3
 go_upto_region 1 with fail
 rw [← HZ.out]
 clear HZ
 go_wp2_with (first
  |(go_at_call 5; with_reducible refine Calls.mono HFe.out ?_; rintro e w1 ⟨rfl, hK1⟩; have HK1 := Lib.hid hK1; clear d0 d1 d2 d3 d4 d5 d6 d7 d8; obtain ⟨d0, d1, d2, d3, d4, d5, d6, d7, d8⟩ := HC0.out w1 hK1; clear hK1)
  |(go_at_call 7; with_reducible refine Calls.mono (HCk.out w1 HK1.out) ?_; rintro e w2 ⟨rfl, hK⟩; have HK2 := Lib.hid (HK1.out.trans hK (fun _ _ h => h)); clear d0 d1 d2 d3 d4 d5 d6 d7 d8; obtain ⟨d0, d1, d2, d3, d4, d5, d6, d7, d8⟩ := HC0.out w2 HK2.out; have HOw2 := Lib.hid (HOw.out w2 HK2.out); clear hK)
  |(go_at_call 6; refine Calls.mono (HLi.out _) ?_; rintro e w9 ⟨rfl, hK9⟩; have HK9 := Lib.hid ((HK0.out.trans HK2.out (fun _ _ h => h)).trans hK9 (fun _ _ h => h)); clear hK9))
 go_ret
 exact ⟨rfl, HK9.out⟩

set_option maxRecDepth 100000 in
set_option maxHeartbeats 16000000 in
theorem tells_bad {V : CV} {C : Circ} {w : World} (h : CAt w V C) (pr pn : Int) (a : Option Addr) (m cap : Nat) (hF : FewP V C 14) (hm : m ≤ 30) (hc : ckCode C ≠ 0) :
  Calls Tryz.prog 3 #[.agg (cvals V C), .int .i64 pr, .int .i64 pn, .slice a m cap] w fun e w' => e = .returned (.bool true) ∧ Kp (fun _ => False) w w' := by
 obtain ⟨wz, hwz⟩ : ∃ wz : World, wz = w.alloc (.cells (cvals V C) 27) := ⟨_, rfl⟩
 have HK0 := Lib.hid (show Kp (fun _ => False) w wz by rw [hwz]; exact (Kp.refl _ w).alloc _)
 have HC0 := Lib.hid (fun u (hu : Kp (fun _ => False) wz u) => Blk.cells9 (show Blk u w.heap.size #[.int .i64 C.max, .slice V.ai C.ins.length V.ci, .slice V.al C.lats.length V.cl, .slice V.ao C.outs.length V.co, .slice V.ab C.bads.length V.cb, .slice V.ac C.cons.length V.cc, .slice V.ag C.gates.length V.cg, .slice V.ay V.ny V.cy, .string V.cm] 27 from (show Blk wz w.heap.size (cvals V C) 27 by rw [hwz]; exact Blk.new _ _ _).kp hu (fun h => h)))
 have hM := h.kp HK0.out
 have HLi := Lib.hid (fun u => law43_lives u)
 obtain ⟨d0, d1, d2, d3, d4, d5, d6, d7, d8⟩ := HC0.out wz (Kp.refl _ _)
 have HZ := Lib.hid hwz
 have HFe := Lib.hid (few_ok (w := wz) hF)
 have HCk := Lib.hid (fun u (hu : Kp (fun _ => False) wz u) => ref11_Chk V C u (hM.kp hu) (hF.few (by decide)))
 have HOw := Lib.hid (fun u (hu : Kp (fun _ => False) wz u) => law11_Own V C u (hM.kp hu) (hF.few (by decide)) (Nat.le_trans hF.y (by decide)))
 have HNw := Lib.hid (fun (V' : CV) u (h' : CAt u V' C) (_ : V'.ny = V.ny) => ex_New_bad V' C u h' (hF.few (by decide)) hc pr)
 have q1 : ¬ ((m : Nat) : Int) > 30 := by omega
 obtain ⟨k, hk⟩ : ∃ k, ckCode C = k := ⟨_, rfl⟩
 simp only [hk] at HCk HNw
 rw [hk] at hc
 have q2 : ((k : Int) == 0) = false := by simp [hc]
 have q3 : ((k : Int) != 0) = true := by simp [hc]
 unfold cvals at HFe HCk HOw HNw
 clear h hwz hM hF hm hk
 go_enter Tryz.func3, Tryz.ntmps3
 go_upto_region 1 with fail
 rw [← HZ.out]
 clear HZ
 go_wp2_with (first
  |(go_at_call 5; with_reducible refine Calls.mono HFe.out ?_; rintro e w1 ⟨rfl, hK1⟩; have HK1 := Lib.hid hK1; clear d0 d1 d2 d3 d4 d5 d6 d7 d8; obtain ⟨d0, d1, d2, d3, d4, d5, d6, d7, d8⟩ := HC0.out w1 hK1; clear hK1)
  |(go_at_call 7; with_reducible refine Calls.mono (HCk.out w1 HK1.out) ?_; rintro e w2 ⟨rfl, hK⟩; have HK2 := Lib.hid (HK1.out.trans hK (fun _ _ h => h)); clear d0 d1 d2 d3 d4 d5 d6 d7 d8; obtain ⟨d0, d1, d2, d3, d4, d5, d6, d7, d8⟩ := HC0.out w2 HK2.out; have HOw2 := Lib.hid (HOw.out w2 HK2.out); clear hK)
  |(go_at_call 9; with_reducible refine Calls.mono HOw2.out ?_; rintro e w3 ⟨V', rfl, hA2, hy2, hK⟩; have HK3 := Lib.hid (HK2.out.trans hK (fun _ _ h => h)); have HNw3 := Lib.hid (HNw.out V' w3 hA2 hy2); clear d0 d1 d2 d3 d4 d5 d6 d7 d8 hA2 hy2 hK; obtain ⟨d0, d1, d2, d3, d4, d5, d6, d7, d8⟩ := HC0.out w3 HK3.out; unfold cvals)
  |(go_at_call 8; with_reducible refine Calls.mono HNw3.out ?_; rintro e w4 ⟨rfl, hK⟩; have HK4 := Lib.hid (HK3.out.trans hK (fun _ _ h => h)); clear d0 d1 d2 d3 d4 d5 d6 d7 d8; obtain ⟨d0, d1, d2, d3, d4, d5, d6, d7, d8⟩ := HC0.out w4 HK4.out; clear hK)
  |(go_at_call 6; refine Calls.mono (HLi.out _) ?_; rintro e w9 ⟨rfl, hK9⟩; have HK9 := Lib.hid ((HK0.out.trans HK4.out (fun _ _ h => h)).trans hK9 (fun _ _ h => h)); clear hK9))
 go_ret
 exact ⟨rfl, HK9.out⟩

set_option maxRecDepth 100000 in
set_option maxHeartbeats 16000000 in
theorem tells_lats {V : CV} {C : Circ} {w : World} (h : CAt w V C) (pr pn : Int) (a : Option Addr) (m cap : Nat) (hF : FewP V C 14) (hm : m ≤ 30) (hc : ckCode C = 0) (h10 : 10 < C.lats.length) :
  Calls Tryz.prog 3 #[.agg (cvals V C), .int .i64 pr, .int .i64 pn, .slice a m cap] w fun e w' => e = .returned (.bool true) ∧ Kp (fun _ => False) w w' := by
 obtain ⟨wz, hwz⟩ : ∃ wz : World, wz = w.alloc (.cells (cvals V C) 27) := ⟨_, rfl⟩
 have HK0 := Lib.hid (show Kp (fun _ => False) w wz by rw [hwz]; exact (Kp.refl _ w).alloc _)
 have HC0 := Lib.hid (fun u (hu : Kp (fun _ => False) wz u) => Blk.cells9 (show Blk u w.heap.size #[.int .i64 C.max, .slice V.ai C.ins.length V.ci, .slice V.al C.lats.length V.cl, .slice V.ao C.outs.length V.co, .slice V.ab C.bads.length V.cb, .slice V.ac C.cons.length V.cc, .slice V.ag C.gates.length V.cg, .slice V.ay V.ny V.cy, .string V.cm] 27 from (show Blk wz w.heap.size (cvals V C) 27 by rw [hwz]; exact Blk.new _ _ _).kp hu (fun h => h)))
 have hM := h.kp HK0.out
 have HLi := Lib.hid (fun u => law43_lives u)
 obtain ⟨d0, d1, d2, d3, d4, d5, d6, d7, d8⟩ := HC0.out wz (Kp.refl _ _)
 have HZ := Lib.hid hwz
 have HFe := Lib.hid (few_ok (w := wz) hF)
 have HCk := Lib.hid (fun u (hu : Kp (fun _ => False) wz u) => ref11_Chk V C u (hM.kp hu) (hF.few (by decide)))
 rw [hc] at HCk
 have HOw := Lib.hid (fun u (hu : Kp (fun _ => False) wz u) => law11_Own V C u (hM.kp hu) (hF.few (by decide)) (Nat.le_trans hF.y (by decide)))
 have HNw := Lib.hid (fun (V' : CV) u (h' : CAt u V' C) (hy : V'.ny = V.ny) => ex_New_long V' C u h' (hF.few (by decide)) (by rw [hy]; exact Nat.le_trans hF.y (by decide)) (GoodC.of hc) (by omega) pr)
 have q1 : ¬ ((m : Nat) : Int) > 30 := by omega
 have hl := hF.l
 have hi := hF.i
 have q2 : ((C.lats.length : Nat) : Int) + ((C.ins.length : Nat) : Int) > 7 := by omega
 have q3 : ¬ ((C.lats.length : Nat) : Int) ≤ 10 := by omega
 have q4 : ((C.lats.length : Nat) : Int) > 10 := by omega
 unfold cvals at HFe HCk HOw HNw
 clear h hwz hM hF hm hc
 go_enter Tryz.func3, Tryz.ntmps3
 go_upto_region 1 with fail
 rw [← HZ.out]
 clear HZ
 go_wp2_with (first
  |(go_at_call 5; with_reducible refine Calls.mono HFe.out ?_; rintro e w1 ⟨rfl, hK1⟩; have HK1 := Lib.hid hK1; clear d0 d1 d2 d3 d4 d5 d6 d7 d8; obtain ⟨d0, d1, d2, d3, d4, d5, d6, d7, d8⟩ := HC0.out w1 hK1; clear hK1)
  |(go_at_call 7; with_reducible refine Calls.mono (HCk.out w1 HK1.out) ?_; rintro e w2 ⟨rfl, hK⟩; have HK2 := Lib.hid (HK1.out.trans hK (fun _ _ h => h)); clear d0 d1 d2 d3 d4 d5 d6 d7 d8; obtain ⟨d0, d1, d2, d3, d4, d5, d6, d7, d8⟩ := HC0.out w2 HK2.out; have HOw2 := Lib.hid (HOw.out w2 HK2.out); clear hK)
  |(go_at_call 9; with_reducible refine Calls.mono HOw2.out ?_; rintro e w3 ⟨V', rfl, hA2, hy2, hK⟩; have HK3 := Lib.hid (HK2.out.trans hK (fun _ _ h => h)); have HNw3 := Lib.hid (HNw.out V' w3 hA2 hy2); clear d0 d1 d2 d3 d4 d5 d6 d7 d8 hA2 hy2 hK; obtain ⟨d0, d1, d2, d3, d4, d5, d6, d7, d8⟩ := HC0.out w3 HK3.out; unfold cvals)
  |(go_at_call 8; with_reducible refine Calls.mono HNw3.out ?_; rintro e w4 ⟨rfl, hK⟩; have HK4 := Lib.hid (HK3.out.trans hK (fun _ _ h => h)); clear d0 d1 d2 d3 d4 d5 d6 d7 d8; obtain ⟨d0, d1, d2, d3, d4, d5, d6, d7, d8⟩ := HC0.out w4 HK4.out; clear hK)
  |(go_at_call 6; refine Calls.mono (HLi.out _) ?_; rintro e w9 ⟨rfl, hK9⟩; have HK9 := Lib.hid ((HK0.out.trans HK4.out (fun _ _ h => h)).trans hK9 (fun _ _ h => h)); clear hK9))
 go_ret
 exact ⟨rfl, HK9.out⟩

set_option maxRecDepth 100000 in
set_option maxHeartbeats 16000000 in
theorem tells_ins {V : CV} {C : Circ} {w : World} (h : CAt w V C) (pr pn : Int) (a : Option Addr) (m cap : Nat) (hF : FewP V C 14) (hm : m ≤ 30) (hc : ckCode C = 0) (h10 : C.lats.length ≤ 10) (h8 : 8 < C.ins.length) :
  Calls Tryz.prog 3 #[.agg (cvals V C), .int .i64 pr, .int .i64 pn, .slice a m cap] w fun e w' => e = .returned (.bool true) ∧ Kp (fun _ => False) w w' := by
 obtain ⟨wz, hwz⟩ : ∃ wz : World, wz = w.alloc (.cells (cvals V C) 27) := ⟨_, rfl⟩
 have HK0 := Lib.hid (show Kp (fun _ => False) w wz by rw [hwz]; exact (Kp.refl _ w).alloc _)
 have HC0 := Lib.hid (fun u (hu : Kp (fun _ => False) wz u) => Blk.cells9 (show Blk u w.heap.size #[.int .i64 C.max, .slice V.ai C.ins.length V.ci, .slice V.al C.lats.length V.cl, .slice V.ao C.outs.length V.co, .slice V.ab C.bads.length V.cb, .slice V.ac C.cons.length V.cc, .slice V.ag C.gates.length V.cg, .slice V.ay V.ny V.cy, .string V.cm] 27 from (show Blk wz w.heap.size (cvals V C) 27 by rw [hwz]; exact Blk.new _ _ _).kp hu (fun h => h)))
 have hM := h.kp HK0.out
 have HLi := Lib.hid (fun u => law43_lives u)
 obtain ⟨d0, d1, d2, d3, d4, d5, d6, d7, d8⟩ := HC0.out wz (Kp.refl _ _)
 have HZ := Lib.hid hwz
 have HFe := Lib.hid (few_ok (w := wz) hF)
 have HCk := Lib.hid (fun u (hu : Kp (fun _ => False) wz u) => ref11_Chk V C u (hM.kp hu) (hF.few (by decide)))
 rw [hc] at HCk
 have HOw := Lib.hid (fun u (hu : Kp (fun _ => False) wz u) => law11_Own V C u (hM.kp hu) (hF.few (by decide)) (Nat.le_trans hF.y (by decide)))
 have HNw := Lib.hid (fun (V' : CV) u (h' : CAt u V' C) (hy : V'.ny = V.ny) => ex_New_long V' C u h' (hF.few (by decide)) (by rw [hy]; exact Nat.le_trans hF.y (by decide)) (GoodC.of hc) (by omega) pr)
 have q1 : ¬ ((m : Nat) : Int) > 30 := by omega
 have hl := hF.l
 have hi := hF.i
 have q2 : ((C.lats.length : Nat) : Int) + ((C.ins.length : Nat) : Int) > 7 := by omega
 have q3 : ((C.lats.length : Nat) : Int) ≤ 10 := by omega
 have q4 : ¬ ((C.ins.length : Nat) : Int) ≤ 8 := by omega
 have q5 : ¬ ((C.lats.length : Nat) : Int) > 10 := by omega
 have q6 : ((C.ins.length : Nat) : Int) > 8 := by omega
 unfold cvals at HFe HCk HOw HNw
 clear h hwz hM hF hm hc
 go_enter Tryz.func3, Tryz.ntmps3
 go_upto_region 1 with fail
 rw [← HZ.out]
 clear HZ
 go_wp2_with (first
  |(go_at_call 5; with_reducible refine Calls.mono HFe.out ?_; rintro e w1 ⟨rfl, hK1⟩; have HK1 := Lib.hid hK1; clear d0 d1 d2 d3 d4 d5 d6 d7 d8; obtain ⟨d0, d1, d2, d3, d4, d5, d6, d7, d8⟩ := HC0.out w1 hK1; clear hK1)
  |(go_at_call 7; with_reducible refine Calls.mono (HCk.out w1 HK1.out) ?_; rintro e w2 ⟨rfl, hK⟩; have HK2 := Lib.hid (HK1.out.trans hK (fun _ _ h => h)); clear d0 d1 d2 d3 d4 d5 d6 d7 d8; obtain ⟨d0, d1, d2, d3, d4, d5, d6, d7, d8⟩ := HC0.out w2 HK2.out; have HOw2 := Lib.hid (HOw.out w2 HK2.out); clear hK)
  |(go_at_call 9; with_reducible refine Calls.mono HOw2.out ?_; rintro e w3 ⟨V', rfl, hA2, hy2, hK⟩; have HK3 := Lib.hid (HK2.out.trans hK (fun _ _ h => h)); have HNw3 := Lib.hid (HNw.out V' w3 hA2 hy2); clear d0 d1 d2 d3 d4 d5 d6 d7 d8 hA2 hy2 hK; obtain ⟨d0, d1, d2, d3, d4, d5, d6, d7, d8⟩ := HC0.out w3 HK3.out; unfold cvals)
  |(go_at_call 8; with_reducible refine Calls.mono HNw3.out ?_; rintro e w4 ⟨rfl, hK⟩; have HK4 := Lib.hid (HK3.out.trans hK (fun _ _ h => h)); clear d0 d1 d2 d3 d4 d5 d6 d7 d8; obtain ⟨d0, d1, d2, d3, d4, d5, d6, d7, d8⟩ := HC0.out w4 HK4.out; clear hK)
  |(go_at_call 6; refine Calls.mono (HLi.out _) ?_; rintro e w9 ⟨rfl, hK9⟩; have HK9 := Lib.hid ((HK0.out.trans HK4.out (fun _ _ h => h)).trans hK9 (fun _ _ h => h)); clear hK9))
 go_ret
 exact ⟨rfl, HK9.out⟩

set_option maxRecDepth 100000 in
set_option maxHeartbeats 16000000 in
theorem tells_main {V : CV} {C : Circ} {w : World} (h : CAt w V C) (pr pn : Int) (a : Option Addr) (m cap : Nat) (hF : FewP V C 14) (hm : m ≤ 30) (hc : ckCode C = 0) (h7 : C.lats.length + C.ins.length ≤ 7) (c : List Int) (hk : IntsAt w a c) (hcl : c.length = m) (hok : ∀ x ∈ c, okInt x) :
  Calls Tryz.prog 3 #[.agg (cvals V C), .int .i64 pr, .int .i64 pn, .slice a m cap] w fun e w' => e = .returned (.bool true) ∧ Kp (fun _ => False) w w' := by
 obtain ⟨wz, hwz⟩ : ∃ wz : World, wz = w.alloc (.cells (cvals V C) 27) := ⟨_, rfl⟩
 have HK0 := Lib.hid (show Kp (fun _ => False) w wz by rw [hwz]; exact (Kp.refl _ w).alloc _)
 have HC0 := Lib.hid (fun u (hu : Kp (fun _ => False) wz u) => Blk.cells9 (show Blk u w.heap.size #[.int .i64 C.max, .slice V.ai C.ins.length V.ci, .slice V.al C.lats.length V.cl, .slice V.ao C.outs.length V.co, .slice V.ab C.bads.length V.cb, .slice V.ac C.cons.length V.cc, .slice V.ag C.gates.length V.cg, .slice V.ay V.ny V.cy, .string V.cm] 27 from (show Blk wz w.heap.size (cvals V C) 27 by rw [hwz]; exact Blk.new _ _ _).kp hu (fun h => h)))
 have hM := h.kp HK0.out
 have HLi := Lib.hid (fun u => law43_lives u)
 have HFe := Lib.hid (few_ok (w := wz) hF)
 have HCk := Lib.hid (fun u (hu : Kp (fun _ => False) wz u) => ref11_Chk V C u (hM.kp hu) (hF.few (by decide)))
 rw [hc] at HCk
 have HOw := Lib.hid (fun u (hu : Kp (fun _ => False) wz u) => law11_Own V C u (hM.kp hu) (hF.few (by decide)) (Nat.le_trans hF.y (by decide)))
 have HNw := Lib.hid (fun (V' : CV) u (h' : CAt u V' C) (hy : V'.ny = V.ny) => ex_New V' C u h' (hF.few (by decide)) (by rw [hy]; exact Nat.le_trans hF.y (by decide)) (GoodC.of hc) (by omega) (by omega) pr)
 have HNm := Lib.hid (fun u (hu : Kp (fun _ => False) wz u) => ref17_New V C u (hM.kp hu) (hF.few (by decide)) (GoodC.of hc))
 have HWh := Lib.hid (fun u p a4 c4 a5 c5 (hMp : MAt u 81 V C p a4 c4 a5 c5) => ref17_Whole hMp (hF.few (by decide)) (GoodC.of hc) (by omega) (by omega) pr)
 have hn2 : nS C ≤ 200 := Nat.le_trans (Nat.pow_le_pow_right (n := 2) (by decide) (show C.lats.length ≤ 7 by omega)) (by decide)
 have hn1 : 0 < nS C := Nat.pow_pos (by decide)
 have hOk : NxOk (nS C) (nxL C) := nxOk C (by omega) (by omega)
 have HRe0 := Lib.hid (fun u gA gB gD (hA : AllR u gA gB gD (nS C) (stS C) (bdS C pr) (nxL C)) => show Calls Tryz.prog 12 #[.agg (allV gA gB gD (nS C) (nS C) (nS C) (nS C))] u (fun e w' => ∃ g, e = .returned (.slice (some ⟨g, 0, none⟩) (nS C) (nS C)) ∧ NumB w' g (nS C) (rchS C) ∧ Kp (fun _ => False) u w') from by
  have := ref43_Reached (ca := nS C) (cb := nS C) (cd := nS C) hA hOk
  rw [nxL_edge] at this
  exact this)
 have HDi0 := Lib.hid (fun u gA gB gD (hA : AllR u gA gB gD (nS C) (stS C) (bdS C pr) (nxL C)) => show Calls Tryz.prog 13 #[.agg (allV gA gB gD (nS C) (nS C) (nS C) (nS C)), .int .i64 200] u (fun e w' => ∃ g, e = .returned (.slice (some ⟨g, 0, none⟩) (nS C) (nS C)) ∧ NumB w' g (nS C) (dstS C pr) ∧ Kp (fun _ => False) u w') from by
  have := ref35_Distances (ca := nS C) (cb := nS C) (cd := nS C) hA hOk 200 (by decide)
  rw [nxL_edge, show distG (nS C) (bdS C pr) (revG (edS C)) 200 = dstS C pr from funext fun t => dist_stable hn2 t] at this
  exact this)
 have HSe0 := Lib.hid (fun u gA gB gD (hA : AllR u gA gB gD (nS C) (stS C) (bdS C pr) (nxL C)) => show Calls Tryz.prog 16 #[.agg (allV gA gB gD (nS C) (nS C) (nS C) (nS C)), .slice (some ⟨gA, 0, none⟩) (nS C) (nS C), .int .i64 200] u (fun e w' => e = .returned (.int .i64 (atS (nS C) (dstS C pr) (beg (nS C) (rchS C) (dstS C pr)))) ∧ Kp (fun _ => False) u w') from by
  rw [first_steps hn2]
  exact ref17_Steps (ca := nS C) (cb := nS C) (cd := nS C) hA hOk hn1 200 (by decide))
 have HBe0 := Lib.hid (fun u gA gB gD (hA : AllR u gA gB gD (nS C) (stS C) (bdS C pr) (nxL C)) t (ht : t < nS C) => show Calls Tryz.prog 21 #[.agg (allV gA gB gD (nS C) (nS C) (nS C) (nS C)), .int .i64 (t : Int)] u (fun e w' => ∃ a c, e = .returned (.slice a (stepS (nS C) (rowF2 C) (t : Int)).length c) ∧ IntsAt w' a (stepS (nS C) (rowF2 C) (t : Int)) ∧ Kp (fun _ => False) u w') from (ref43_Behind (ca := nS C) (cb := nS C) (cd := nS C) hA hOk t ht).mono (by
  rintro e w' ⟨v, rfl, hO, hK⟩
  rw [← step_beh ht] at hO
  obtain ⟨a, c, e, -, -, -, hr⟩ := hO.form
  rw [iv_length] at e
  exact ⟨a, c, by rw [e], hr, hK⟩))
 have HStl := Lib.hid (fun t => show (stepS (nS C) (rowF2 C) t).length ≤ 1000 from by
  unfold stepS
  split
  ·unfold stepL
   rw [List.length_map]
   exact Nat.le_trans stepN_len (Nat.le_trans hn2 (by decide))
  ·exact Nat.zero_le _)
 have HSto := Lib.hid (fun t (ht : ¬ (0 ≤ t ∧ t < (nS C : Int))) => show (stepS (nS C) (rowF2 C) t).length = 0 from by unfold stepS; rw [if_neg ht]; rfl)
 have HSta := Lib.hid (fun u {sp} (hs : SpcAt u C pr sp) => sp_States hs)
 have HFi := Lib.hid (fun u {sp} (hs : SpcAt u C pr sp) => sp_First hs (by omega))
 have HRch := Lib.hid (fun u {sp} (hs : SpcAt u C pr sp) (t : Nat) (ht : t < nS C) => (atS_in (R := rchS C) ht) ▸ sp_Reached hs (t : Int))
 have HDst := Lib.hid (fun u {sp} (hs : SpcAt u C pr sp) (t : Nat) (ht : t < nS C) => (atS_in (R := dstS C pr) ht) ▸ sp_Distance hs (t : Int))
 have HRo := Lib.hid (fun u {sp} (hs : SpcAt u C pr sp) (t : Int) (ht : ¬ (0 ≤ t ∧ t < (nS C : Int))) => (atS_out (R := rchS C) ht) ▸ sp_Reached hs t)
 have HDo := Lib.hid (fun u {sp} (hs : SpcAt u C pr sp) (t : Int) (ht : ¬ (0 ≤ t ∧ t < (nS C : Int))) => (atS_out (R := dstS C pr) ht) ▸ sp_Distance hs t)
 have HStp0 := Lib.hid (fun u {sp} (hs : SpcAt u C pr sp) (t : Int) => sp_Step hs (by omega) t)
 have HRb := Lib.hid (fun t => show -1 ≤ rchS C t from by
  rcases distG_cases (n := nS C) (st := stS C) (E := edS C) (nS C) t with ⟨_, q⟩ | ⟨_, q1, q2⟩
  ·have : rchS C t = -1 := q
   omega
  ·have h1 : 0 ≤ rchS C t := q1
   omega)
 have HKc := Lib.hid (fun u (hu : Kp (fun _ => False) wz u) => show IntsAt u a c from RowAt.kp hk (HK0.out.trans hu (fun _ _ h => h)) (fun _ _ h => h))
 have HInv0 := Lib.hid (fun u {sp} (hs : SpcAt u C pr sp) (hk' : IntsAt u a c) => (inv_in (c := c) (S := stN C) (n := nS C) HRb.out) ▸ ex_Invariant hs (hF.few (by decide)) (by omega) a m cap c hk' hcl (by unfold maxLen; omega) hok)
 have HIk := Lib.hid (fun k => inK_succ c (stN C) (rchS C) k)
 have HI0 := Lib.hid (show inK c (stN C) (rchS C) 0 = false from rfl)
 have HBits := Lib.hid (fun u t (ht : t < nS C) => show Calls Tryz.prog 23 #[.int .i64 t, .int .i64 C.lats.length] u (fun e w' => ∃ sa sc, e = .returned (.slice sa C.lats.length sc) ∧ RowAt w' sa (bv (stN C t)) ∧ Kp (fun _ => False) u w') from (ref17_Bits t C.lats.length (Nat.le_trans (Nat.le_of_lt ht) (Nat.le_trans hn2 (by decide))) (by omega) u).mono (by
  rintro e w' ⟨v, rfl, hO, hK⟩
  obtain ⟨sa, sc, e, -, -, -, hr⟩ := hO.form
  rw [bv_length, bitsP_len] at e
  subst e
  exact ⟨sa, sc, rfl, hr, hK⟩))
 have HHas := Lib.hid (fun u t sa sc (hk' : IntsAt u a c) (hr : RowAt u sa (bv (stN C t))) => ref32_Has a m cap c sa C.lats.length sc (stN C t) u hk' hcl (by unfold maxLen; omega) hok hr (stN_len C t) (by omega))
 obtain ⟨n, hn⟩ : ∃ n, nS C = n := ⟨_, rfl⟩
 simp only [hn] at HWh HRe0 HDi0 HSe0 HBe0 HStl HSto HSta HFi HRch HDst HRo HDo HStp0 HInv0 HBits
 rw [hn] at hn1 hn2
 obtain ⟨R, hR⟩ : ∃ R, rchS C = R := ⟨_, rfl⟩
 simp only [hR] at HRe0 HSe0 HFi HRch HRo HRb HInv0 HIk HI0
 obtain ⟨D, hD⟩ : ∃ D, dstS C pr = D := ⟨_, rfl⟩
 simp only [hD] at HDi0 HSe0 HFi HDst HDo
 obtain ⟨f, hf⟩ : ∃ f, atS n D (beg n R D) = f := ⟨_, rfl⟩
 simp only [hf] at HSe0 HFi
 obtain ⟨ST, hST⟩ : ∃ ST, (fun t => stepS n (rowF2 C) t) = ST := ⟨_, rfl⟩
 have eST : ∀ t, stepS n (rowF2 C) t = ST t := fun t => congrFun hST t
 simp only [eST] at HBe0 HStl HSto HStp0
 obtain ⟨IK, hIK⟩ : ∃ IK, inK c (stN C) R = IK := ⟨_, rfl⟩
 simp only [hIK] at HInv0 HIk HI0
 obtain ⟨sS, hsS⟩ : ∃ f, stS C = f := ⟨_, rfl⟩
 obtain ⟨sB, hsB⟩ : ∃ f, bdS C pr = f := ⟨_, rfl⟩
 obtain ⟨sN, hsN⟩ : ∃ f, nxL C = f := ⟨_, rfl⟩
 simp only [hsS, hsB, hsN] at HWh HRe0 HDi0 HSe0 HBe0
 have q1 : ¬ ((m : Nat) : Int) > 30 := by omega
 have q2 : ¬ ((C.lats.length : Nat) : Int) + ((C.ins.length : Nat) : Int) > 7 := by omega
 have q3 : ¬ ((C.lats.length : Nat) : Int) > 10 := by omega
 have q4 : ¬ ((C.ins.length : Nat) : Int) > 8 := by omega
 unfold cvals at HFe HCk HOw HNw HNm
 unfold allV at HWh HRe0 HDi0 HSe0 HBe0
 obtain ⟨d0, d1, d2, d3, d4, d5, d6, d7, d8⟩ := HC0.out wz (Kp.refl _ _)
 have HZ := Lib.hid hwz
 clear h hwz hM hF hm hc hk hcl hok hOk hn hR hD hf hST eST hIK hsS hsB hsN
 go_enter Tryz.func3, Tryz.ntmps3
 go_upto_region 1 with fail
 rw [← HZ.out]
 clear HZ
 go_upto_region 14 with (first
  |(go_at_call 5; with_reducible refine Calls.mono HFe.out ?_; rintro e w1 ⟨rfl, hK1⟩; have HK1 := Lib.hid hK1; clear d0 d1 d2 d3 d4 d5 d6 d7 d8; obtain ⟨d0, d1, d2, d3, d4, d5, d6, d7, d8⟩ := HC0.out w1 hK1; clear hK1)
  |(go_at_call 7; with_reducible refine Calls.mono (HCk.out w1 HK1.out) ?_; rintro e w2 ⟨rfl, hK⟩; have HK2 := Lib.hid (HK1.out.trans hK (fun _ _ h => h)); clear d0 d1 d2 d3 d4 d5 d6 d7 d8; obtain ⟨d0, d1, d2, d3, d4, d5, d6, d7, d8⟩ := HC0.out w2 HK2.out; have HOw2 := Lib.hid (HOw.out w2 HK2.out); clear hK)
  |(go_at_call 9; with_reducible refine Calls.mono HOw2.out ?_; rintro e w3 ⟨V', rfl, hA2, hy2, hK⟩; have HK3 := Lib.hid (HK2.out.trans hK (fun _ _ h => h)); have HNw3 := Lib.hid (HNw.out V' w3 hA2 hy2); clear d0 d1 d2 d3 d4 d5 d6 d7 d8 hA2 hy2 hK; obtain ⟨d0, d1, d2, d3, d4, d5, d6, d7, d8⟩ := HC0.out w3 HK3.out; unfold cvals)
  |(go_at_call 8; with_reducible refine Calls.mono HNw3.out ?_; rintro e w4 ⟨sp, rfl, hSp, hK⟩; have HSp := Lib.hid hSp; have HK4 := Lib.hid (HK3.out.trans hK (fun _ _ h => h)); clear d0 d1 d2 d3 d4 d5 d6 d7 d8; obtain ⟨d0, d1, d2, d3, d4, d5, d6, d7, d8⟩ := HC0.out w4 HK4.out; have HNm4 := Lib.hid (HNm.out w4 HK4.out); clear hK hSp)
  |(go_at_call 10; with_reducible refine Calls.mono HNm4.out ?_; rintro e w5 ⟨p, a4, c4, a5, c5, rfl, hMp, hK⟩; have HSp5 := Lib.hid (HSp.out.kp hK); have HK5 := Lib.hid (HK4.out.trans hK (fun _ _ h => h)); have HWh5 := Lib.hid (HWh.out w5 p a4 c4 a5 c5 hMp); clear hK hMp d0 d1 d2 d3 d4 d5 d6 d7 d8))
 go_upto_region 15 with (go_at_call 11; with_reducible refine Calls.mono HWh5.out ?_; rintro e w6 ⟨gA, gB, gD, rfl, hAll, hK⟩; have HSp6 := Lib.hid (HSp5.out.kp hK); have HK6 := Lib.hid (HK5.out.trans hK (fun _ _ h => h)); have HA6 := Lib.hid hAll; clear hK hAll)
 obtain ⟨w7, hw7⟩ : ∃ w7 : World, w7 = w6.alloc (.cells #[.slice (some ⟨gA, 0, none⟩) n n, .slice (some ⟨gB, 0, none⟩) n n, .slice (some ⟨gD, 0, none⟩) n n] 41) := ⟨_, rfl⟩
 obtain ⟨b13, hb13⟩ : ∃ b, w6.heap.size = b := ⟨_, rfl⟩
 have k67 : Kp (fun _ => False) w6 w7 := by rw [hw7]; exact (Kp.refl _ w6).alloc _
 have HB7 := Lib.hid (show Blk w7 b13 #[.slice (some ⟨gA, 0, none⟩) n n, .slice (some ⟨gB, 0, none⟩) n n, .slice (some ⟨gD, 0, none⟩) n n] 41 by rw [hw7, ← hb13]; exact Blk.new _ _ _)
 have HK7 := Lib.hid (HK6.out.trans k67 (fun _ _ h => h))
 have HS7 := Lib.hid (HSp6.out.kp k67)
 have HRe := Lib.hid (fun u (hu : Kp (fun _ => False) w7 u) => HRe0.out u gA gB gD ((HA6.out.kp k67).kp hu))
 have HDi := Lib.hid (fun u (hu : Kp (fun _ => False) w7 u) => HDi0.out u gA gB gD ((HA6.out.kp k67).kp hu))
 have HSe7 := Lib.hid (fun u (hu : Kp (fun _ => False) w7 u) => HSe0.out u gA gB gD ((HA6.out.kp k67).kp hu))
 have HBe7 := Lib.hid (fun u (hu : Kp (fun _ => False) w7 u) => HBe0.out u gA gB gD ((HA6.out.kp k67).kp hu))
 rw [← hw7, hb13]
 clear hw7 hb13 k67 HK1 HK2 HK3 HK4 HK5 HK6 HSp HSp5 HSp6 HA6 HRe0 HDi0 HSe0 HBe0 HWh HWh5 HNm HNm4 HNw HNw3 HOw HOw2 HCk HFe
 refine wp_region_looseD (p := upTo 6) (V := atV [EqV (.agg #[.slice (some ⟨gA, 0, none⟩) n n, .slice (some ⟨gB, 0, none⟩) n n, .slice (some ⟨gD, 0, none⟩) n n]), SlN n R, EqV (.agg #[.slice (some ⟨gA, 0, none⟩) n n, .slice (some ⟨gB, 0, none⟩) n n, .slice (some ⟨gD, 0, none⟩) n n]), SlN n D, SlN n R, SlN n D]) (LP := #[true, true, true, true, true, true]) (K := 0) (by kernel_rfl) (by kernel_rfl) (atV_st ?hstW15) ?hstepW15 (by kernel_rfl) ?hLPW15 (by kernel_rfl) ?hendW15
 case hstW15 =>
  intro W h
  simp only [List.mem_cons, List.not_mem_nil, or_false] at h
  rcases h with rfl | rfl | rfl | rfl | rfl | rfl <;> first | exact EqV.st _ | exact SlN.st _ _ | exact SlZ.st _
 case hLPW15 => exact upTo_spec (by kernel_rfl)
 case hstepW15 =>
  intro i o ho hp a u hk hoff hdep
  have e13 : a.tmps[13]?.getD undef = (.pointer (some ⟨b13, 0, none⟩)) := slot_at (hoff 13 (noDst_spec (by kernel_rfl)))
  clear hoff
  match i, ho with
  |0, ho =>
   obtain rfl := Option.some.inj ho
   have kc0 := (HB7.out.kp hk (fun h => h)).cell (i := 0) (v := .slice (some ⟨gA, 0, none⟩) n n) rfl
   have kc1 := (HB7.out.kp hk (fun h => h)).cell (i := 1) (v := .slice (some ⟨gB, 0, none⟩) n n) rfl
   have kc2 := (HB7.out.kp hk (fun h => h)).cell (i := 2) (v := .slice (some ⟨gD, 0, none⟩) n n) rfl
   refine lw_value (v := .agg #[.slice (some ⟨gA, 0, none⟩) n n, .slice (some ⟨gB, 0, none⟩) n n, .slice (some ⟨gD, 0, none⟩) n n]) (u' := u) ?_ (Kp.refl _ _) rfl
   go_simp
  |1, ho =>
   obtain rfl := Option.some.inj ho
   have e93 : a.tmps[93]?.getD undef = .agg #[.slice (some ⟨gA, 0, none⟩) n n, .slice (some ⟨gB, 0, none⟩) n n, .slice (some ⟨gD, 0, none⟩) n n] := slot_at (hdep ⟨0, .data⟩ (by simp) rfl _ 93 rfl rfl)
   refine lw_call (f := 12) (args := #[.agg #[.slice (some ⟨gA, 0, none⟩) n n, .slice (some ⟨gB, 0, none⟩) n n, .slice (some ⟨gD, 0, none⟩) n n]]) ?_ ?_
   ·go_simp
   ·exact (HRe.out u hk).mono (by
     rintro e u' ⟨g, rfl, hN, hK⟩
     exact ⟨_, rfl, hK, g, rfl, hN⟩)
  |2, ho =>
   obtain rfl := Option.some.inj ho
   have kc0 := (HB7.out.kp hk (fun h => h)).cell (i := 0) (v := .slice (some ⟨gA, 0, none⟩) n n) rfl
   have kc1 := (HB7.out.kp hk (fun h => h)).cell (i := 1) (v := .slice (some ⟨gB, 0, none⟩) n n) rfl
   have kc2 := (HB7.out.kp hk (fun h => h)).cell (i := 2) (v := .slice (some ⟨gD, 0, none⟩) n n) rfl
   refine lw_value (v := .agg #[.slice (some ⟨gA, 0, none⟩) n n, .slice (some ⟨gB, 0, none⟩) n n, .slice (some ⟨gD, 0, none⟩) n n]) (u' := u) ?_ (Kp.refl _ _) rfl
   go_simp
  |3, ho =>
   obtain rfl := Option.some.inj ho
   have e95 : a.tmps[95]?.getD undef = .agg #[.slice (some ⟨gA, 0, none⟩) n n, .slice (some ⟨gB, 0, none⟩) n n, .slice (some ⟨gD, 0, none⟩) n n] := slot_at (hdep ⟨2, .data⟩ (by simp) rfl _ 95 rfl rfl)
   refine lw_call (f := 13) (args := #[.agg #[.slice (some ⟨gA, 0, none⟩) n n, .slice (some ⟨gB, 0, none⟩) n n, .slice (some ⟨gD, 0, none⟩) n n], .int .i64 200]) ?_ ?_
   ·go_simp
   ·exact (HDi.out u hk).mono (by
     rintro e u' ⟨g, rfl, hN, hK⟩
     exact ⟨_, rfl, hK, g, rfl, hN⟩)
  |4, ho =>
   obtain rfl := Option.some.inj ho
   obtain ⟨gz, ez, hN⟩ := hdep ⟨1, .data⟩ (by simp) rfl _ 94 rfl rfl
   have e94 := slot_at ez
   refine lw_value (v := .slice (some ⟨gz, 0, none⟩) n n) (u' := u) ?_ (Kp.refl _ _) ⟨gz, rfl, hN⟩
   clear hN
   go_simp
  |5, ho =>
   obtain rfl := Option.some.inj ho
   obtain ⟨gz, ez, hN⟩ := hdep ⟨3, .data⟩ (by simp) rfl _ 96 rfl rfl
   have e96 := slot_at ez
   refine lw_value (v := .slice (some ⟨gz, 0, none⟩) n n) (u' := u) ?_ (Kp.refl _ _) ⟨gz, rfl, hN⟩
   clear hN
   go_simp
  |n + 6, _ => exact absurd hp (by simp [upTo])
 case hendW15 =>
  intro a u hI
  have hsz : a.tmps.size = 206 := hI.size
  have hdf : a.defers = [] := hI.defers
  have f0 := hI.o 0 (by kernel_rfl)
  have f1 := hI.o 1 (by kernel_rfl)
  have f2 := hI.o 2 (by kernel_rfl)
  have f3 := hI.o 3 (by kernel_rfl)
  have f4 := hI.o 4 (by kernel_rfl)
  have f5 := hI.o 5 (by kernel_rfl)
  have f6 := hI.o 6 (by kernel_rfl)
  have f7 := hI.o 7 (by kernel_rfl)
  have f8 := hI.o 8 (by kernel_rfl)
  have f9 := hI.o 9 (by kernel_rfl)
  have f10 := hI.o 10 (by kernel_rfl)
  have f11 := hI.o 11 (by kernel_rfl)
  have f12 := hI.o 12 (by kernel_rfl)
  have f13 := hI.o 13 (by kernel_rfl)
  have f16 := hI.o 16 (by kernel_rfl)
  have f17 := hI.o 17 (by kernel_rfl)
  have f18 := hI.o 18 (by kernel_rfl)
  have f19 := hI.o 19 (by kernel_rfl)
  have f20 := hI.o 20 (by kernel_rfl)
  have f21 := hI.o 21 (by kernel_rfl)
  have f22 := hI.o 22 (by kernel_rfl)
  have f23 := hI.o 23 (by kernel_rfl)
  have f24 := hI.o 24 (by kernel_rfl)
  have f25 := hI.o 25 (by kernel_rfl)
  have f26 := hI.o 26 (by kernel_rfl)
  have f27 := hI.o 27 (by kernel_rfl)
  have f28 := hI.o 28 (by kernel_rfl)
  have f29 := hI.o 29 (by kernel_rfl)
  have f30 := hI.o 30 (by kernel_rfl)
  have f31 := hI.o 31 (by kernel_rfl)
  have f32 := hI.o 32 (by kernel_rfl)
  have f33 := hI.o 33 (by kernel_rfl)
  have f34 := hI.o 34 (by kernel_rfl)
  have f35 := hI.o 35 (by kernel_rfl)
  have f36 := hI.o 36 (by kernel_rfl)
  have f37 := hI.o 37 (by kernel_rfl)
  have f38 := hI.o 38 (by kernel_rfl)
  have f39 := hI.o 39 (by kernel_rfl)
  have f40 := hI.o 40 (by kernel_rfl)
  have f41 := hI.o 41 (by kernel_rfl)
  have f42 := hI.o 42 (by kernel_rfl)
  have f43 := hI.o 43 (by kernel_rfl)
  have f44 := hI.o 44 (by kernel_rfl)
  have f45 := hI.o 45 (by kernel_rfl)
  have f46 := hI.o 46 (by kernel_rfl)
  have f47 := hI.o 47 (by kernel_rfl)
  have f48 := hI.o 48 (by kernel_rfl)
  have f49 := hI.o 49 (by kernel_rfl)
  have f50 := hI.o 50 (by kernel_rfl)
  have f51 := hI.o 51 (by kernel_rfl)
  have f52 := hI.o 52 (by kernel_rfl)
  have f53 := hI.o 53 (by kernel_rfl)
  have f54 := hI.o 54 (by kernel_rfl)
  have f55 := hI.o 55 (by kernel_rfl)
  have f56 := hI.o 56 (by kernel_rfl)
  have f57 := hI.o 57 (by kernel_rfl)
  have f58 := hI.o 58 (by kernel_rfl)
  have f59 := hI.o 59 (by kernel_rfl)
  have f60 := hI.o 60 (by kernel_rfl)
  have f61 := hI.o 61 (by kernel_rfl)
  have f62 := hI.o 62 (by kernel_rfl)
  have f63 := hI.o 63 (by kernel_rfl)
  have f64 := hI.o 64 (by kernel_rfl)
  have f65 := hI.o 65 (by kernel_rfl)
  have f66 := hI.o 66 (by kernel_rfl)
  have f67 := hI.o 67 (by kernel_rfl)
  have f68 := hI.o 68 (by kernel_rfl)
  have f69 := hI.o 69 (by kernel_rfl)
  have f70 := hI.o 70 (by kernel_rfl)
  have f71 := hI.o 71 (by kernel_rfl)
  have f72 := hI.o 72 (by kernel_rfl)
  have f73 := hI.o 73 (by kernel_rfl)
  have f74 := hI.o 74 (by kernel_rfl)
  have f75 := hI.o 75 (by kernel_rfl)
  have f76 := hI.o 76 (by kernel_rfl)
  have f77 := hI.o 77 (by kernel_rfl)
  have f78 := hI.o 78 (by kernel_rfl)
  have f79 := hI.o 79 (by kernel_rfl)
  have f80 := hI.o 80 (by kernel_rfl)
  have f81 := hI.o 81 (by kernel_rfl)
  have f82 := hI.o 82 (by kernel_rfl)
  have f83 := hI.o 83 (by kernel_rfl)
  have f84 := hI.o 84 (by kernel_rfl)
  have f85 := hI.o 85 (by kernel_rfl)
  have f86 := hI.o 86 (by kernel_rfl)
  have f87 := hI.o 87 (by kernel_rfl)
  have f88 := hI.o 88 (by kernel_rfl)
  have f89 := hI.o 89 (by kernel_rfl)
  have f90 := hI.o 90 (by kernel_rfl)
  have f91 := hI.o 91 (by kernel_rfl)
  have f92 := hI.o 92 (by kernel_rfl)
  have f97 := hI.o 97 (by kernel_rfl)
  have f98 := hI.o 98 (by kernel_rfl)
  have f99 := hI.o 99 (by kernel_rfl)
  have f100 := hI.o 100 (by kernel_rfl)
  have f101 := hI.o 101 (by kernel_rfl)
  have f102 := hI.o 102 (by kernel_rfl)
  have f103 := hI.o 103 (by kernel_rfl)
  have f104 := hI.o 104 (by kernel_rfl)
  have f105 := hI.o 105 (by kernel_rfl)
  have f106 := hI.o 106 (by kernel_rfl)
  have f107 := hI.o 107 (by kernel_rfl)
  have f108 := hI.o 108 (by kernel_rfl)
  have f109 := hI.o 109 (by kernel_rfl)
  have f110 := hI.o 110 (by kernel_rfl)
  have f111 := hI.o 111 (by kernel_rfl)
  have f112 := hI.o 112 (by kernel_rfl)
  have f113 := hI.o 113 (by kernel_rfl)
  have f114 := hI.o 114 (by kernel_rfl)
  have f115 := hI.o 115 (by kernel_rfl)
  have f116 := hI.o 116 (by kernel_rfl)
  have f117 := hI.o 117 (by kernel_rfl)
  have f118 := hI.o 118 (by kernel_rfl)
  have f119 := hI.o 119 (by kernel_rfl)
  have f120 := hI.o 120 (by kernel_rfl)
  have f121 := hI.o 121 (by kernel_rfl)
  have f122 := hI.o 122 (by kernel_rfl)
  have f123 := hI.o 123 (by kernel_rfl)
  have f124 := hI.o 124 (by kernel_rfl)
  have f125 := hI.o 125 (by kernel_rfl)
  have f126 := hI.o 126 (by kernel_rfl)
  have f127 := hI.o 127 (by kernel_rfl)
  have f128 := hI.o 128 (by kernel_rfl)
  have f129 := hI.o 129 (by kernel_rfl)
  have f130 := hI.o 130 (by kernel_rfl)
  have f131 := hI.o 131 (by kernel_rfl)
  have f132 := hI.o 132 (by kernel_rfl)
  have f133 := hI.o 133 (by kernel_rfl)
  have f134 := hI.o 134 (by kernel_rfl)
  have f135 := hI.o 135 (by kernel_rfl)
  have f136 := hI.o 136 (by kernel_rfl)
  have f137 := hI.o 137 (by kernel_rfl)
  have f138 := hI.o 138 (by kernel_rfl)
  have f139 := hI.o 139 (by kernel_rfl)
  have f140 := hI.o 140 (by kernel_rfl)
  have f141 := hI.o 141 (by kernel_rfl)
  have f142 := hI.o 142 (by kernel_rfl)
  have f143 := hI.o 143 (by kernel_rfl)
  have f144 := hI.o 144 (by kernel_rfl)
  have f145 := hI.o 145 (by kernel_rfl)
  have f146 := hI.o 146 (by kernel_rfl)
  have f147 := hI.o 147 (by kernel_rfl)
  have f148 := hI.o 148 (by kernel_rfl)
  have f149 := hI.o 149 (by kernel_rfl)
  have f150 := hI.o 150 (by kernel_rfl)
  have f151 := hI.o 151 (by kernel_rfl)
  have f152 := hI.o 152 (by kernel_rfl)
  have f153 := hI.o 153 (by kernel_rfl)
  have f154 := hI.o 154 (by kernel_rfl)
  have f155 := hI.o 155 (by kernel_rfl)
  have f156 := hI.o 156 (by kernel_rfl)
  have f157 := hI.o 157 (by kernel_rfl)
  have f158 := hI.o 158 (by kernel_rfl)
  have f159 := hI.o 159 (by kernel_rfl)
  have f160 := hI.o 160 (by kernel_rfl)
  have f161 := hI.o 161 (by kernel_rfl)
  have f162 := hI.o 162 (by kernel_rfl)
  have f163 := hI.o 163 (by kernel_rfl)
  have f164 := hI.o 164 (by kernel_rfl)
  have f165 := hI.o 165 (by kernel_rfl)
  have f166 := hI.o 166 (by kernel_rfl)
  have f167 := hI.o 167 (by kernel_rfl)
  have f168 := hI.o 168 (by kernel_rfl)
  have f169 := hI.o 169 (by kernel_rfl)
  have f170 := hI.o 170 (by kernel_rfl)
  have f171 := hI.o 171 (by kernel_rfl)
  have f172 := hI.o 172 (by kernel_rfl)
  have f173 := hI.o 173 (by kernel_rfl)
  have f174 := hI.o 174 (by kernel_rfl)
  have f175 := hI.o 175 (by kernel_rfl)
  have f176 := hI.o 176 (by kernel_rfl)
  have f177 := hI.o 177 (by kernel_rfl)
  have f178 := hI.o 178 (by kernel_rfl)
  have f179 := hI.o 179 (by kernel_rfl)
  have f180 := hI.o 180 (by kernel_rfl)
  have f181 := hI.o 181 (by kernel_rfl)
  have f182 := hI.o 182 (by kernel_rfl)
  have f183 := hI.o 183 (by kernel_rfl)
  have f184 := hI.o 184 (by kernel_rfl)
  have f185 := hI.o 185 (by kernel_rfl)
  have f186 := hI.o 186 (by kernel_rfl)
  have f187 := hI.o 187 (by kernel_rfl)
  have f188 := hI.o 188 (by kernel_rfl)
  have f189 := hI.o 189 (by kernel_rfl)
  have f190 := hI.o 190 (by kernel_rfl)
  have f191 := hI.o 191 (by kernel_rfl)
  have f192 := hI.o 192 (by kernel_rfl)
  have f193 := hI.o 193 (by kernel_rfl)
  have f194 := hI.o 194 (by kernel_rfl)
  have f195 := hI.o 195 (by kernel_rfl)
  have f196 := hI.o 196 (by kernel_rfl)
  have f197 := hI.o 197 (by kernel_rfl)
  have f198 := hI.o 198 (by kernel_rfl)
  have f199 := hI.o 199 (by kernel_rfl)
  have f200 := hI.o 200 (by kernel_rfl)
  have f201 := hI.o 201 (by kernel_rfl)
  have f202 := hI.o 202 (by kernel_rfl)
  have f203 := hI.o 203 (by kernel_rfl)
  have f204 := hI.o 204 (by kernel_rfl)
  have f205 := hI.o 205 (by kernel_rfl)
  have g14 : (SlN n R) u (a.tmps.getD 14 undef) := hI.val 4 _ 14 rfl rfl rfl
  have g15 : (SlN n D) u (a.tmps.getD 15 undef) := hI.val 5 _ 15 rfl rfl rfl
  have f93 : a.tmps.getD 93 undef = .agg #[.slice (some ⟨gA, 0, none⟩) n n, .slice (some ⟨gB, 0, none⟩) n n, .slice (some ⟨gD, 0, none⟩) n n] := hI.val 0 _ 93 rfl rfl rfl
  have g94 : (SlN n R) u (a.tmps.getD 94 undef) := hI.val 1 _ 94 rfl rfl rfl
  have f95 : a.tmps.getD 95 undef = .agg #[.slice (some ⟨gA, 0, none⟩) n n, .slice (some ⟨gB, 0, none⟩) n n, .slice (some ⟨gD, 0, none⟩) n n] := hI.val 2 _ 95 rfl rfl rfl
  have g96 : (SlN n D) u (a.tmps.getD 96 undef) := hI.val 3 _ 96 rfl rfl rfl
  have ha := act_list206 a hsz
  rw [hdf, f0, f1, f2, f3, f4, f5, f6, f7, f8, f9, f10, f11, f12, f13, f16, f17, f18, f19, f20, f21, f22, f23, f24, f25, f26, f27, f28, f29, f30, f31, f32, f33, f34, f35, f36, f37, f38, f39, f40, f41, f42, f43, f44, f45, f46, f47, f48, f49, f50, f51, f52, f53, f54, f55, f56, f57, f58, f59, f60, f61, f62, f63, f64, f65, f66, f67, f68, f69, f70, f71, f72, f73, f74, f75, f76, f77, f78, f79, f80, f81, f82, f83, f84, f85, f86, f87, f88, f89, f90, f91, f92, f93, f95, f97, f98, f99, f100, f101, f102, f103, f104, f105, f106, f107, f108, f109, f110, f111, f112, f113, f114, f115, f116, f117, f118, f119, f120, f121, f122, f123, f124, f125, f126, f127, f128, f129, f130, f131, f132, f133, f134, f135, f136, f137, f138, f139, f140, f141, f142, f143, f144, f145, f146, f147, f148, f149, f150, f151, f152, f153, f154, f155, f156, f157, f158, f159, f160, f161, f162, f163, f164, f165, f166, f167, f168, f169, f170, f171, f172, f173, f174, f175, f176, f177, f178, f179, f180, f181, f182, f183, f184, f185, f186, f187, f188, f189, f190, f191, f192, f193, f194, f195, f196, f197, f198, f199, f200, f201, f202, f203, f204, f205] at ha
  obtain ⟨x14, hx14⟩ : ∃ x, a.tmps.getD 14 undef = x := ⟨_, rfl⟩
  obtain ⟨x15, hx15⟩ : ∃ x, a.tmps.getD 15 undef = x := ⟨_, rfl⟩
  obtain ⟨x94, hx94⟩ : ∃ x, a.tmps.getD 94 undef = x := ⟨_, rfl⟩
  obtain ⟨x96, hx96⟩ : ∃ x, a.tmps.getD 96 undef = x := ⟨_, rfl⟩
  rw [hx14, hx15, hx94, hx96] at ha
  rw [hx14] at g14
  rw [hx15] at g15
  rw [hx94] at g94
  rw [hx96] at g96
  have hku := hI.kp
  clear hI hsz hdf f0 f1 f2 f3 f4 f5 f6 f7 f8 f9 f10 f11 f12 f13 f16 f17 f18 f19 f20 f21 f22 f23 f24 f25 f26 f27 f28 f29 f30 f31 f32 f33 f34 f35 f36 f37 f38 f39 f40 f41 f42 f43 f44 f45 f46 f47 f48 f49 f50 f51 f52 f53 f54 f55 f56 f57 f58 f59 f60 f61 f62 f63 f64 f65 f66 f67 f68 f69 f70 f71 f72 f73 f74 f75 f76 f77 f78 f79 f80 f81 f82 f83 f84 f85 f86 f87 f88 f89 f90 f91 f92 f93 f95 f97 f98 f99 f100 f101 f102 f103 f104 f105 f106 f107 f108 f109 f110 f111 f112 f113 f114 f115 f116 f117 f118 f119 f120 f121 f122 f123 f124 f125 f126 f127 f128 f129 f130 f131 f132 f133 f134 f135 f136 f137 f138 f139 f140 f141 f142 f143 f144 f145 f146 f147 f148 f149 f150 f151 f152 f153 f154 f155 f156 f157 f158 f159 f160 f161 f162 f163 f164 f165 f166 f167 f168 f169 f170 f171 f172 f173 f174 f175 f176 f177 f178 f179 f180 f181 f182 f183 f184 f185 f186 f187 f188 f189 f190 f191 f192 f193 f194 f195 f196 f197 f198 f199 f200 f201 f202 f203 f204 f205 hx14 hx15 hx94 hx96
  subst ha
  refine wpAny_done (by kernel_rfl) ?_ _
  simp only [Array.getD_eq_getD_getElem?, List.getElem?_toArray, List.getElem?_cons_zero, List.getElem?_cons_succ, Option.getD_some]
  obtain ⟨gR, rfl, hRn⟩ := g14
  obtain ⟨gE, rfl, hDn⟩ := g15
  have HRn := Lib.hid hRn
  have HDn := Lib.hid hDn
  obtain ⟨w8, rfl⟩ : ∃ w8 : World, w8 = u := ⟨_, rfl⟩
  have HS8 := Lib.hid (HS7.out.kp hku)
  have HB8 := Lib.hid (HB7.out.kp hku (fun h => h))
  have HK8z := Lib.hid (HK7.out.trans hku (fun _ _ h => h))
  have HK8 := Lib.hid hku
  have HSe := Lib.hid (fun u (hu : Kp (fun _ => False) w7 u) => HSe7.out u hu)
  clear hRn hDn hku g94 g96
  go_upto_region 16 with fail
  refine wp_region_looseG (p := upTo 15) (V := atV [EqV ((.pointer (some ⟨sp, 0, none⟩))), EqV (.int .i64 (n : Int)), EqV (.pointer (some ⟨b13, 0, none⟩)), EqV (.slice (some ⟨gA, 0, none⟩) n n), EqV (.int .i64 (n : Int)), EqV (.bool false), EqV (.bool false), EqV ((.pointer (some ⟨sp, 0, none⟩))), EqV (.int .i64 f), EqV (.agg #[.slice (some ⟨gA, 0, none⟩) n n, .slice (some ⟨gB, 0, none⟩) n n, .slice (some ⟨gD, 0, none⟩) n n]), EqV (.pointer (some ⟨b13, 0, none⟩)), EqV (.slice (some ⟨gA, 0, none⟩) n n), EqV (.int .i64 f), EqV (.bool false), EqV (.bool false)]) (LP := #[true, true, true, true, true, true, true, true, true, true, true, true, true, true, true]) (K := 0) (by kernel_rfl) (by kernel_rfl) (atV_st ?hstW16) ?hstepW16 (by kernel_rfl) ?hLPW16 (by kernel_rfl) ?hendW16
  case hstW16 =>
   intro W h
   simp only [List.mem_cons, List.not_mem_nil, or_false] at h
   rcases h with rfl | rfl | rfl | rfl | rfl | rfl | rfl | rfl | rfl | rfl | rfl | rfl | rfl | rfl | rfl <;> first | exact EqV.st _ | exact SlN.st _ _ | exact SlZ.st _
  case hLPW16 => exact upTo_spec (by kernel_rfl)
  case hstepW16 =>
   intro i o ho hp a u hk hoff hdep
   have e10 : a.tmps[10]?.getD undef = (.pointer (some ⟨sp, 0, none⟩)) := slot_at (hoff 10 (noDst_spec (by kernel_rfl)))
   have e13 : a.tmps[13]?.getD undef = (.pointer (some ⟨b13, 0, none⟩)) := slot_at (hoff 13 (noDst_spec (by kernel_rfl)))
   clear hoff
   match i, ho with
   |0, ho =>
    obtain rfl := Option.some.inj ho
    refine lg_none rfl ?_
    refine lw_value (v := (.pointer (some ⟨sp, 0, none⟩))) (u' := u) ?_ (Kp.refl _ _) rfl
    go_simp
   |1, ho =>
    obtain rfl := Option.some.inj ho
    have e97 : a.tmps[97]?.getD undef = (.pointer (some ⟨sp, 0, none⟩)) := slot_at (hdep ⟨0, .data⟩ (by simp) rfl _ 97 rfl rfl)
    refine lg_none rfl ?_
    refine lw_call (f := 14) (args := #[.pointer (some ⟨sp, 0, none⟩)]) ?_ ?_
    ·go_simp
    ·exact (HSta.out u (HS8.out.kp hk)).mono (by
      rintro e u' ⟨rfl, rfl⟩
      exact ⟨_, rfl, Kp.refl _ _, rfl⟩)
   |2, ho =>
    obtain rfl := Option.some.inj ho
    refine lg_none rfl ?_
    refine lw_value (v := .pointer (some ⟨b13, 0, none⟩)) (u' := u) ?_ (Kp.refl _ _) rfl
    go_simp
   |3, ho =>
    obtain rfl := Option.some.inj ho
    have e99 : a.tmps[99]?.getD undef = .pointer (some ⟨b13, 0, none⟩) := slot_at (hdep ⟨2, .data⟩ (by simp) rfl _ 99 rfl rfl)
    refine lg_none rfl ?_
    have kc0 := (HB8.out.kp hk (fun h => h)).cell (i := 0) (v := .slice (some ⟨gA, 0, none⟩) n n) rfl
    have kc1 := (HB8.out.kp hk (fun h => h)).cell (i := 1) (v := .slice (some ⟨gB, 0, none⟩) n n) rfl
    have kc2 := (HB8.out.kp hk (fun h => h)).cell (i := 2) (v := .slice (some ⟨gD, 0, none⟩) n n) rfl
    refine lw_value (v := .slice (some ⟨gA, 0, none⟩) n n) (u' := u) ?_ (Kp.refl _ _) rfl
    go_simp
   |4, ho =>
    obtain rfl := Option.some.inj ho
    have e100 : a.tmps[100]?.getD undef = .slice (some ⟨gA, 0, none⟩) n n := slot_at (hdep ⟨3, .data⟩ (by simp) rfl _ 100 rfl rfl)
    refine lg_none rfl ?_
    refine lw_value (v := .int .i64 (n : Int)) (u' := u) ?_ (Kp.refl _ _) rfl
    go_simp
   |5, ho =>
    obtain rfl := Option.some.inj ho
    have e98 : a.tmps[98]?.getD undef = .int .i64 (n : Int) := slot_at (hdep ⟨1, .data⟩ (by simp) rfl _ 98 rfl rfl)
    have e101 : a.tmps[101]?.getD undef = .int .i64 (n : Int) := slot_at (hdep ⟨4, .data⟩ (by simp) rfl _ 101 rfl rfl)
    refine lg_none rfl ?_
    refine lw_value (v := .bool false) (u' := u) ?_ (Kp.refl _ _) rfl
    go_simp
   |6, ho =>
    obtain rfl := Option.some.inj ho
    have e102 : a.tmps[102]?.getD undef = .bool false := slot_at (hdep ⟨5, .data⟩ (by simp) rfl _ 102 rfl rfl)
    refine lg_none rfl ?_
    refine lw_value (v := .bool false) (u' := u) ?_ (Kp.refl _ _) rfl
    go_simp
   |7, ho =>
    obtain rfl := Option.some.inj ho
    have e103 : a.tmps[103]?.getD undef = .bool false := slot_at (hdep ⟨6, .guard⟩ (by simp) rfl _ 103 rfl rfl)
    refine lg_on (x := 103) rfl rfl e103 ?_
    refine lw_value (v := (.pointer (some ⟨sp, 0, none⟩))) (u' := u) ?_ (Kp.refl _ _) rfl
    go_simp
   |8, ho =>
    obtain rfl := Option.some.inj ho
    have e104 : a.tmps[104]?.getD undef = (.pointer (some ⟨sp, 0, none⟩)) := slot_at (hdep ⟨7, .data⟩ (by simp) rfl _ 104 rfl rfl)
    have e103 : a.tmps[103]?.getD undef = .bool false := slot_at (hdep ⟨6, .chain⟩ (by simp) rfl _ 103 rfl rfl)
    refine lg_on (x := 103) rfl rfl e103 ?_
    refine lw_call (f := 15) (args := #[.pointer (some ⟨sp, 0, none⟩)]) ?_ ?_
    ·go_simp
    ·exact (HFi.out u (HS8.out.kp hk)).mono (by
      rintro e u' ⟨rfl, hK⟩
      exact ⟨_, rfl, hK, rfl⟩)
   |9, ho =>
    obtain rfl := Option.some.inj ho
    have e103 : a.tmps[103]?.getD undef = .bool false := slot_at (hdep ⟨6, .guard⟩ (by simp) rfl _ 103 rfl rfl)
    refine lg_on (x := 103) rfl rfl e103 ?_
    have kc0 := (HB8.out.kp hk (fun h => h)).cell (i := 0) (v := .slice (some ⟨gA, 0, none⟩) n n) rfl
    have kc1 := (HB8.out.kp hk (fun h => h)).cell (i := 1) (v := .slice (some ⟨gB, 0, none⟩) n n) rfl
    have kc2 := (HB8.out.kp hk (fun h => h)).cell (i := 2) (v := .slice (some ⟨gD, 0, none⟩) n n) rfl
    refine lw_value (v := .agg #[.slice (some ⟨gA, 0, none⟩) n n, .slice (some ⟨gB, 0, none⟩) n n, .slice (some ⟨gD, 0, none⟩) n n]) (u' := u) ?_ (Kp.refl _ _) rfl
    go_simp
   |10, ho =>
    obtain rfl := Option.some.inj ho
    have e103 : a.tmps[103]?.getD undef = .bool false := slot_at (hdep ⟨6, .guard⟩ (by simp) rfl _ 103 rfl rfl)
    refine lg_on (x := 103) rfl rfl e103 ?_
    refine lw_value (v := .pointer (some ⟨b13, 0, none⟩)) (u' := u) ?_ (Kp.refl _ _) rfl
    go_simp
   |11, ho =>
    obtain rfl := Option.some.inj ho
    have e107 : a.tmps[107]?.getD undef = .pointer (some ⟨b13, 0, none⟩) := slot_at (hdep ⟨10, .data⟩ (by simp) rfl _ 107 rfl rfl)
    have e103 : a.tmps[103]?.getD undef = .bool false := slot_at (hdep ⟨6, .guard⟩ (by simp) rfl _ 103 rfl rfl)
    refine lg_on (x := 103) rfl rfl e103 ?_
    have kc0 := (HB8.out.kp hk (fun h => h)).cell (i := 0) (v := .slice (some ⟨gA, 0, none⟩) n n) rfl
    have kc1 := (HB8.out.kp hk (fun h => h)).cell (i := 1) (v := .slice (some ⟨gB, 0, none⟩) n n) rfl
    have kc2 := (HB8.out.kp hk (fun h => h)).cell (i := 2) (v := .slice (some ⟨gD, 0, none⟩) n n) rfl
    refine lw_value (v := .slice (some ⟨gA, 0, none⟩) n n) (u' := u) ?_ (Kp.refl _ _) rfl
    go_simp
   |12, ho =>
    obtain rfl := Option.some.inj ho
    have e106 : a.tmps[106]?.getD undef = .agg #[.slice (some ⟨gA, 0, none⟩) n n, .slice (some ⟨gB, 0, none⟩) n n, .slice (some ⟨gD, 0, none⟩) n n] := slot_at (hdep ⟨9, .data⟩ (by simp) rfl _ 106 rfl rfl)
    have e108 : a.tmps[108]?.getD undef = .slice (some ⟨gA, 0, none⟩) n n := slot_at (hdep ⟨11, .data⟩ (by simp) rfl _ 108 rfl rfl)
    have e103 : a.tmps[103]?.getD undef = .bool false := slot_at (hdep ⟨6, .guard⟩ (by simp) rfl _ 103 rfl rfl)
    refine lg_on (x := 103) rfl rfl e103 ?_
    refine lw_call (f := 16) (args := #[.agg #[.slice (some ⟨gA, 0, none⟩) n n, .slice (some ⟨gB, 0, none⟩) n n, .slice (some ⟨gD, 0, none⟩) n n], .slice (some ⟨gA, 0, none⟩) n n, .int .i64 200]) ?_ ?_
    ·go_simp
    ·exact (HSe.out u (HK8.out.trans hk (fun _ _ h => h))).mono (by
      rintro e u' ⟨rfl, hK⟩
      exact ⟨_, rfl, hK, rfl⟩)
   |13, ho =>
    obtain rfl := Option.some.inj ho
    have e105 : a.tmps[105]?.getD undef = .int .i64 f := slot_at (hdep ⟨8, .data⟩ (by simp) rfl _ 105 rfl rfl)
    have e109 : a.tmps[109]?.getD undef = .int .i64 f := slot_at (hdep ⟨12, .data⟩ (by simp) rfl _ 109 rfl rfl)
    have e103 : a.tmps[103]?.getD undef = .bool false := slot_at (hdep ⟨6, .guard⟩ (by simp) rfl _ 103 rfl rfl)
    refine lg_on (x := 103) rfl rfl e103 ?_
    refine lw_value (v := .bool false) (u' := u) ?_ (Kp.refl _ _) rfl
    go_simp
   |14, ho =>
    obtain rfl := Option.some.inj ho
    have e103 : a.tmps[103]?.getD undef = .bool false := slot_at (hdep ⟨6, .data⟩ (by simp) rfl _ 103 rfl rfl)
    have e110 : a.tmps[110]?.getD undef = .bool false := slot_at (hdep ⟨13, .data⟩ (by simp) rfl _ 110 rfl rfl)
    refine lg_none rfl ?_
    refine lw_value (v := .bool false) (u' := u) ?_ (Kp.refl _ _) rfl
    go_simp
   |n + 15, _ => exact absurd hp (by simp [upTo])
  case hendW16 =>
   intro a u hI
   have hsz : a.tmps.size = 206 := hI.size
   have hdf : a.defers = [] := hI.defers
   have f0 := hI.o 0 (by kernel_rfl)
   have f1 := hI.o 1 (by kernel_rfl)
   have f2 := hI.o 2 (by kernel_rfl)
   have f3 := hI.o 3 (by kernel_rfl)
   have f4 := hI.o 4 (by kernel_rfl)
   have f5 := hI.o 5 (by kernel_rfl)
   have f6 := hI.o 6 (by kernel_rfl)
   have f7 := hI.o 7 (by kernel_rfl)
   have f8 := hI.o 8 (by kernel_rfl)
   have f9 := hI.o 9 (by kernel_rfl)
   have f10 := hI.o 10 (by kernel_rfl)
   have f11 := hI.o 11 (by kernel_rfl)
   have f12 := hI.o 12 (by kernel_rfl)
   have f13 := hI.o 13 (by kernel_rfl)
   have f14 := hI.o 14 (by kernel_rfl)
   have f15 := hI.o 15 (by kernel_rfl)
   have f16 := hI.o 16 (by kernel_rfl)
   have f17 := hI.o 17 (by kernel_rfl)
   have f18 := hI.o 18 (by kernel_rfl)
   have f19 := hI.o 19 (by kernel_rfl)
   have f20 := hI.o 20 (by kernel_rfl)
   have f21 := hI.o 21 (by kernel_rfl)
   have f22 := hI.o 22 (by kernel_rfl)
   have f23 := hI.o 23 (by kernel_rfl)
   have f24 := hI.o 24 (by kernel_rfl)
   have f25 := hI.o 25 (by kernel_rfl)
   have f26 := hI.o 26 (by kernel_rfl)
   have f27 := hI.o 27 (by kernel_rfl)
   have f28 := hI.o 28 (by kernel_rfl)
   have f29 := hI.o 29 (by kernel_rfl)
   have f30 := hI.o 30 (by kernel_rfl)
   have f31 := hI.o 31 (by kernel_rfl)
   have f32 := hI.o 32 (by kernel_rfl)
   have f33 := hI.o 33 (by kernel_rfl)
   have f34 := hI.o 34 (by kernel_rfl)
   have f35 := hI.o 35 (by kernel_rfl)
   have f36 := hI.o 36 (by kernel_rfl)
   have f37 := hI.o 37 (by kernel_rfl)
   have f38 := hI.o 38 (by kernel_rfl)
   have f39 := hI.o 39 (by kernel_rfl)
   have f40 := hI.o 40 (by kernel_rfl)
   have f41 := hI.o 41 (by kernel_rfl)
   have f42 := hI.o 42 (by kernel_rfl)
   have f43 := hI.o 43 (by kernel_rfl)
   have f44 := hI.o 44 (by kernel_rfl)
   have f45 := hI.o 45 (by kernel_rfl)
   have f46 := hI.o 46 (by kernel_rfl)
   have f47 := hI.o 47 (by kernel_rfl)
   have f48 := hI.o 48 (by kernel_rfl)
   have f49 := hI.o 49 (by kernel_rfl)
   have f50 := hI.o 50 (by kernel_rfl)
   have f51 := hI.o 51 (by kernel_rfl)
   have f52 := hI.o 52 (by kernel_rfl)
   have f53 := hI.o 53 (by kernel_rfl)
   have f54 := hI.o 54 (by kernel_rfl)
   have f55 := hI.o 55 (by kernel_rfl)
   have f56 := hI.o 56 (by kernel_rfl)
   have f57 := hI.o 57 (by kernel_rfl)
   have f58 := hI.o 58 (by kernel_rfl)
   have f59 := hI.o 59 (by kernel_rfl)
   have f60 := hI.o 60 (by kernel_rfl)
   have f61 := hI.o 61 (by kernel_rfl)
   have f62 := hI.o 62 (by kernel_rfl)
   have f63 := hI.o 63 (by kernel_rfl)
   have f64 := hI.o 64 (by kernel_rfl)
   have f65 := hI.o 65 (by kernel_rfl)
   have f66 := hI.o 66 (by kernel_rfl)
   have f67 := hI.o 67 (by kernel_rfl)
   have f68 := hI.o 68 (by kernel_rfl)
   have f69 := hI.o 69 (by kernel_rfl)
   have f70 := hI.o 70 (by kernel_rfl)
   have f71 := hI.o 71 (by kernel_rfl)
   have f72 := hI.o 72 (by kernel_rfl)
   have f73 := hI.o 73 (by kernel_rfl)
   have f74 := hI.o 74 (by kernel_rfl)
   have f75 := hI.o 75 (by kernel_rfl)
   have f76 := hI.o 76 (by kernel_rfl)
   have f77 := hI.o 77 (by kernel_rfl)
   have f78 := hI.o 78 (by kernel_rfl)
   have f79 := hI.o 79 (by kernel_rfl)
   have f80 := hI.o 80 (by kernel_rfl)
   have f81 := hI.o 81 (by kernel_rfl)
   have f82 := hI.o 82 (by kernel_rfl)
   have f83 := hI.o 83 (by kernel_rfl)
   have f84 := hI.o 84 (by kernel_rfl)
   have f85 := hI.o 85 (by kernel_rfl)
   have f86 := hI.o 86 (by kernel_rfl)
   have f87 := hI.o 87 (by kernel_rfl)
   have f88 := hI.o 88 (by kernel_rfl)
   have f89 := hI.o 89 (by kernel_rfl)
   have f90 := hI.o 90 (by kernel_rfl)
   have f91 := hI.o 91 (by kernel_rfl)
   have f92 := hI.o 92 (by kernel_rfl)
   have f93 := hI.o 93 (by kernel_rfl)
   have f94 := hI.o 94 (by kernel_rfl)
   have f95 := hI.o 95 (by kernel_rfl)
   have f96 := hI.o 96 (by kernel_rfl)
   have f112 := hI.o 112 (by kernel_rfl)
   have f113 := hI.o 113 (by kernel_rfl)
   have f114 := hI.o 114 (by kernel_rfl)
   have f115 := hI.o 115 (by kernel_rfl)
   have f116 := hI.o 116 (by kernel_rfl)
   have f117 := hI.o 117 (by kernel_rfl)
   have f118 := hI.o 118 (by kernel_rfl)
   have f119 := hI.o 119 (by kernel_rfl)
   have f120 := hI.o 120 (by kernel_rfl)
   have f121 := hI.o 121 (by kernel_rfl)
   have f122 := hI.o 122 (by kernel_rfl)
   have f123 := hI.o 123 (by kernel_rfl)
   have f124 := hI.o 124 (by kernel_rfl)
   have f125 := hI.o 125 (by kernel_rfl)
   have f126 := hI.o 126 (by kernel_rfl)
   have f127 := hI.o 127 (by kernel_rfl)
   have f128 := hI.o 128 (by kernel_rfl)
   have f129 := hI.o 129 (by kernel_rfl)
   have f130 := hI.o 130 (by kernel_rfl)
   have f131 := hI.o 131 (by kernel_rfl)
   have f132 := hI.o 132 (by kernel_rfl)
   have f133 := hI.o 133 (by kernel_rfl)
   have f134 := hI.o 134 (by kernel_rfl)
   have f135 := hI.o 135 (by kernel_rfl)
   have f136 := hI.o 136 (by kernel_rfl)
   have f137 := hI.o 137 (by kernel_rfl)
   have f138 := hI.o 138 (by kernel_rfl)
   have f139 := hI.o 139 (by kernel_rfl)
   have f140 := hI.o 140 (by kernel_rfl)
   have f141 := hI.o 141 (by kernel_rfl)
   have f142 := hI.o 142 (by kernel_rfl)
   have f143 := hI.o 143 (by kernel_rfl)
   have f144 := hI.o 144 (by kernel_rfl)
   have f145 := hI.o 145 (by kernel_rfl)
   have f146 := hI.o 146 (by kernel_rfl)
   have f147 := hI.o 147 (by kernel_rfl)
   have f148 := hI.o 148 (by kernel_rfl)
   have f149 := hI.o 149 (by kernel_rfl)
   have f150 := hI.o 150 (by kernel_rfl)
   have f151 := hI.o 151 (by kernel_rfl)
   have f152 := hI.o 152 (by kernel_rfl)
   have f153 := hI.o 153 (by kernel_rfl)
   have f154 := hI.o 154 (by kernel_rfl)
   have f155 := hI.o 155 (by kernel_rfl)
   have f156 := hI.o 156 (by kernel_rfl)
   have f157 := hI.o 157 (by kernel_rfl)
   have f158 := hI.o 158 (by kernel_rfl)
   have f159 := hI.o 159 (by kernel_rfl)
   have f160 := hI.o 160 (by kernel_rfl)
   have f161 := hI.o 161 (by kernel_rfl)
   have f162 := hI.o 162 (by kernel_rfl)
   have f163 := hI.o 163 (by kernel_rfl)
   have f164 := hI.o 164 (by kernel_rfl)
   have f165 := hI.o 165 (by kernel_rfl)
   have f166 := hI.o 166 (by kernel_rfl)
   have f167 := hI.o 167 (by kernel_rfl)
   have f168 := hI.o 168 (by kernel_rfl)
   have f169 := hI.o 169 (by kernel_rfl)
   have f170 := hI.o 170 (by kernel_rfl)
   have f171 := hI.o 171 (by kernel_rfl)
   have f172 := hI.o 172 (by kernel_rfl)
   have f173 := hI.o 173 (by kernel_rfl)
   have f174 := hI.o 174 (by kernel_rfl)
   have f175 := hI.o 175 (by kernel_rfl)
   have f176 := hI.o 176 (by kernel_rfl)
   have f177 := hI.o 177 (by kernel_rfl)
   have f178 := hI.o 178 (by kernel_rfl)
   have f179 := hI.o 179 (by kernel_rfl)
   have f180 := hI.o 180 (by kernel_rfl)
   have f181 := hI.o 181 (by kernel_rfl)
   have f182 := hI.o 182 (by kernel_rfl)
   have f183 := hI.o 183 (by kernel_rfl)
   have f184 := hI.o 184 (by kernel_rfl)
   have f185 := hI.o 185 (by kernel_rfl)
   have f186 := hI.o 186 (by kernel_rfl)
   have f187 := hI.o 187 (by kernel_rfl)
   have f188 := hI.o 188 (by kernel_rfl)
   have f189 := hI.o 189 (by kernel_rfl)
   have f190 := hI.o 190 (by kernel_rfl)
   have f191 := hI.o 191 (by kernel_rfl)
   have f192 := hI.o 192 (by kernel_rfl)
   have f193 := hI.o 193 (by kernel_rfl)
   have f194 := hI.o 194 (by kernel_rfl)
   have f195 := hI.o 195 (by kernel_rfl)
   have f196 := hI.o 196 (by kernel_rfl)
   have f197 := hI.o 197 (by kernel_rfl)
   have f198 := hI.o 198 (by kernel_rfl)
   have f199 := hI.o 199 (by kernel_rfl)
   have f200 := hI.o 200 (by kernel_rfl)
   have f201 := hI.o 201 (by kernel_rfl)
   have f202 := hI.o 202 (by kernel_rfl)
   have f203 := hI.o 203 (by kernel_rfl)
   have f204 := hI.o 204 (by kernel_rfl)
   have f205 := hI.o 205 (by kernel_rfl)
   have f97 : a.tmps.getD 97 undef = (.pointer (some ⟨sp, 0, none⟩)) := hI.val 0 _ 97 rfl rfl rfl
   have f98 : a.tmps.getD 98 undef = .int .i64 (n : Int) := hI.val 1 _ 98 rfl rfl rfl
   have f99 : a.tmps.getD 99 undef = .pointer (some ⟨b13, 0, none⟩) := hI.val 2 _ 99 rfl rfl rfl
   have f100 : a.tmps.getD 100 undef = .slice (some ⟨gA, 0, none⟩) n n := hI.val 3 _ 100 rfl rfl rfl
   have f101 : a.tmps.getD 101 undef = .int .i64 (n : Int) := hI.val 4 _ 101 rfl rfl rfl
   have f102 : a.tmps.getD 102 undef = .bool false := hI.val 5 _ 102 rfl rfl rfl
   have f103 : a.tmps.getD 103 undef = .bool false := hI.val 6 _ 103 rfl rfl rfl
   have f104 : a.tmps.getD 104 undef = (.pointer (some ⟨sp, 0, none⟩)) := hI.val 7 _ 104 rfl rfl rfl
   have f105 : a.tmps.getD 105 undef = .int .i64 f := hI.val 8 _ 105 rfl rfl rfl
   have f106 : a.tmps.getD 106 undef = .agg #[.slice (some ⟨gA, 0, none⟩) n n, .slice (some ⟨gB, 0, none⟩) n n, .slice (some ⟨gD, 0, none⟩) n n] := hI.val 9 _ 106 rfl rfl rfl
   have f107 : a.tmps.getD 107 undef = .pointer (some ⟨b13, 0, none⟩) := hI.val 10 _ 107 rfl rfl rfl
   have f108 : a.tmps.getD 108 undef = .slice (some ⟨gA, 0, none⟩) n n := hI.val 11 _ 108 rfl rfl rfl
   have f109 : a.tmps.getD 109 undef = .int .i64 f := hI.val 12 _ 109 rfl rfl rfl
   have f110 : a.tmps.getD 110 undef = .bool false := hI.val 13 _ 110 rfl rfl rfl
   have f111 : a.tmps.getD 111 undef = .bool false := hI.val 14 _ 111 rfl rfl rfl
   have ha := act_list206 a hsz
   rw [hdf, f0, f1, f2, f3, f4, f5, f6, f7, f8, f9, f10, f11, f12, f13, f14, f15, f16, f17, f18, f19, f20, f21, f22, f23, f24, f25, f26, f27, f28, f29, f30, f31, f32, f33, f34, f35, f36, f37, f38, f39, f40, f41, f42, f43, f44, f45, f46, f47, f48, f49, f50, f51, f52, f53, f54, f55, f56, f57, f58, f59, f60, f61, f62, f63, f64, f65, f66, f67, f68, f69, f70, f71, f72, f73, f74, f75, f76, f77, f78, f79, f80, f81, f82, f83, f84, f85, f86, f87, f88, f89, f90, f91, f92, f93, f94, f95, f96, f97, f98, f99, f100, f101, f102, f103, f104, f105, f106, f107, f108, f109, f110, f111, f112, f113, f114, f115, f116, f117, f118, f119, f120, f121, f122, f123, f124, f125, f126, f127, f128, f129, f130, f131, f132, f133, f134, f135, f136, f137, f138, f139, f140, f141, f142, f143, f144, f145, f146, f147, f148, f149, f150, f151, f152, f153, f154, f155, f156, f157, f158, f159, f160, f161, f162, f163, f164, f165, f166, f167, f168, f169, f170, f171, f172, f173, f174, f175, f176, f177, f178, f179, f180, f181, f182, f183, f184, f185, f186, f187, f188, f189, f190, f191, f192, f193, f194, f195, f196, f197, f198, f199, f200, f201, f202, f203, f204, f205] at ha
   have hku := hI.kp
   clear hI hsz hdf f0 f1 f2 f3 f4 f5 f6 f7 f8 f9 f10 f11 f12 f13 f14 f15 f16 f17 f18 f19 f20 f21 f22 f23 f24 f25 f26 f27 f28 f29 f30 f31 f32 f33 f34 f35 f36 f37 f38 f39 f40 f41 f42 f43 f44 f45 f46 f47 f48 f49 f50 f51 f52 f53 f54 f55 f56 f57 f58 f59 f60 f61 f62 f63 f64 f65 f66 f67 f68 f69 f70 f71 f72 f73 f74 f75 f76 f77 f78 f79 f80 f81 f82 f83 f84 f85 f86 f87 f88 f89 f90 f91 f92 f93 f94 f95 f96 f97 f98 f99 f100 f101 f102 f103 f104 f105 f106 f107 f108 f109 f110 f111 f112 f113 f114 f115 f116 f117 f118 f119 f120 f121 f122 f123 f124 f125 f126 f127 f128 f129 f130 f131 f132 f133 f134 f135 f136 f137 f138 f139 f140 f141 f142 f143 f144 f145 f146 f147 f148 f149 f150 f151 f152 f153 f154 f155 f156 f157 f158 f159 f160 f161 f162 f163 f164 f165 f166 f167 f168 f169 f170 f171 f172 f173 f174 f175 f176 f177 f178 f179 f180 f181 f182 f183 f184 f185 f186 f187 f188 f189 f190 f191 f192 f193 f194 f195 f196 f197 f198 f199 f200 f201 f202 f203 f204 f205 
   subst ha
   refine wpAny_done (by kernel_rfl) ?_ _
   simp only [Array.getD_eq_getD_getElem?, List.getElem?_toArray, List.getElem?_cons_zero, List.getElem?_cons_succ, Option.getD_some]
   obtain ⟨w9, rfl⟩ : ∃ w9 : World, w9 = u := ⟨_, rfl⟩
   have HS9 := Lib.hid (HS8.out.kp hku)
   have HB9 := Lib.hid (HB8.out.kp hku (fun h => h))
   have HRn9 := Lib.hid (HRn.out.kp hku (fun h => h))
   have HDn9 := Lib.hid (HDn.out.kp hku (fun h => h))
   have HK9z := Lib.hid (HK8z.out.trans hku (fun _ _ h => h))
   have HBe9 := Lib.hid (fun u (hu : Kp (fun _ => False) w9 u) => HBe7.out u (HK8.out.trans (hku.trans hu (fun _ _ h => h)) (fun _ _ h => h)))
   clear hku HS8 HB8 HRn HDn HK8z HBe7 HK8 HS7 HB7 HK7 HRe HDi HSe7 HSe
   go_upto_region 20 with fail
   go_wp2_with fail
   go_loopw [16, 17] (fun v16 v17 wr => ∃ t : Nat, v17 = .int .i64 (t : Int) ∧ t ≤ n ∧ v16 = .bool (IK t) ∧ Kp (fun _ => False) w9 wr) (fun _ v17 _ => n - (intOf v17).toNat)
   case atStart => exact ⟨0, rfl, Nat.zero_le _, by rw [HI0.out], Kp.refl _ _⟩
   case round =>
    obtain ⟨t, rfl, ht, rfl, hK⟩ := hrel
    have HKl := Lib.hid hK
    clear hK
    obtain ⟨w10, rfl⟩ : ∃ w10 : World, w10 = wr := ⟨_, rfl⟩
    by_cases hlt : t < n
    ·have t0 : (0 : Int) ≤ (t : Int) := by omega
     have t1 : (t : Int) < (n : Int) := by omega
     have HRt := Lib.hid (fun u (hu : Kp (fun _ => False) w10 u) => HRch.out u (HS9.out.kp (HKl.out.trans hu (fun _ _ h => h))) t hlt)
     have HDt := Lib.hid (fun u (hu : Kp (fun _ => False) w10 u) => HDst.out u (HS9.out.kp (HKl.out.trans hu (fun _ _ h => h))) t hlt)
     have HRx := Lib.hid (fun u (hu : Kp (fun _ => False) w10 u) => (HRn9.out.kp (HKl.out.trans hu (fun _ _ h => h)) (fun h => h)).at hlt)
     have HDx := Lib.hid (fun u (hu : Kp (fun _ => False) w10 u) => (HDn9.out.kp (HKl.out.trans hu (fun _ _ h => h)) (fun h => h)).at hlt)
     have HStp := Lib.hid (fun u (hu : Kp (fun _ => False) w10 u) => HStp0.out u (HS9.out.kp (HKl.out.trans hu (fun _ _ h => h))) (t : Int))
     have HBt := Lib.hid (fun u (hu : Kp (fun _ => False) w10 u) => HBe9.out u (HKl.out.trans hu (fun _ _ h => h)) t hlt)
     have HIkt := Lib.hid (HIk.out t)
     have hrb := HRb.out t
     obtain ⟨x, hx⟩ : ∃ x, R t = x := ⟨_, rfl⟩
     obtain ⟨y, hy⟩ : ∃ y, D t = y := ⟨_, rfl⟩
     rw [hx] at hrb HIkt
     simp only [hx] at HRt HRx
     simp only [hy] at HDt HDx
     have hLl := HStl.out (t : Int)
     obtain ⟨L, hL⟩ : ∃ L, ST (t : Int) = L := ⟨_, rfl⟩
     rw [hL] at hLl
     simp only [hL] at HStp HBt
     obtain ⟨ik, hik⟩ : ∃ ik, IK t = ik := ⟨_, rfl⟩
     rw [hik] at HIkt ⊢
     have HBitst := Lib.hid (fun u => HBits.out u t hlt)
     clear hx hy hL hik
     go_upto_region 22 with fail
     refine wp_region_looseG (p := upTo 28) (V := atV [EqV ((.pointer (some ⟨sp, 0, none⟩))), EqV ((.int .i64 (t : Int))), EqV (.int .i64 x), EqV ((.slice (some ⟨gR, 0, none⟩) n n)), EqV ((.int .i64 (t : Int))), EqV (.pointer (some ⟨gR, t, none⟩)), EqV (.int .i64 x), EqV (.bool false), EqV (.bool false), EqV ((.pointer (some ⟨sp, 0, none⟩))), EqV ((.int .i64 (t : Int))), EqV (.int .i64 y), EqV ((.slice (some ⟨gE, 0, none⟩) n n)), EqV ((.int .i64 (t : Int))), EqV (.pointer (some ⟨gE, t, none⟩)), EqV (.int .i64 y), EqV (.bool false), EqV (.bool false), EqV (.bool false), EqV ((.pointer (some ⟨sp, 0, none⟩))), EqV ((.int .i64 (t : Int))), SlZ L, EqV (.agg #[.slice (some ⟨gA, 0, none⟩) n n, .slice (some ⟨gB, 0, none⟩) n n, .slice (some ⟨gD, 0, none⟩) n n]), EqV ((.int .i64 (t : Int))), SlZ L, EqV (.bool true), EqV (.bool false), EqV (.bool false)]) (LP := #[true, true, true, true, true, true, true, true, true, true, true, true, true, true, true, true, true, true, true, true, true, true, true, true, true, true, true, true]) (K := 0) (by kernel_rfl) (by kernel_rfl) (atV_st ?hstW22) ?hstepW22 (by kernel_rfl) ?hLPW22 (by kernel_rfl) ?hendW22
     case hstW22 =>
      intro W h
      simp only [List.mem_cons, List.not_mem_nil, or_false] at h
      rcases h with rfl | rfl | rfl | rfl | rfl | rfl | rfl | rfl | rfl | rfl | rfl | rfl | rfl | rfl | rfl | rfl | rfl | rfl | rfl | rfl | rfl | rfl | rfl | rfl | rfl | rfl | rfl | rfl <;> first | exact EqV.st _ | exact SlN.st _ _ | exact SlZ.st _
     case hLPW22 => exact upTo_spec (by kernel_rfl)
     case hstepW22 =>
      intro i o ho hp a u hk hoff hdep
      have e10 : a.tmps[10]?.getD undef = (.pointer (some ⟨sp, 0, none⟩)) := slot_at (hoff 10 (noDst_spec (by kernel_rfl)))
      have e13 : a.tmps[13]?.getD undef = (.pointer (some ⟨b13, 0, none⟩)) := slot_at (hoff 13 (noDst_spec (by kernel_rfl)))
      have e14 : a.tmps[14]?.getD undef = (.slice (some ⟨gR, 0, none⟩) n n) := slot_at (hoff 14 (noDst_spec (by kernel_rfl)))
      have e15 : a.tmps[15]?.getD undef = (.slice (some ⟨gE, 0, none⟩) n n) := slot_at (hoff 15 (noDst_spec (by kernel_rfl)))
      have e17 : a.tmps[17]?.getD undef = (.int .i64 (t : Int)) := slot_at (hoff 17 (noDst_spec (by kernel_rfl)))
      clear hoff
      match i, ho with
      |0, ho =>
       obtain rfl := Option.some.inj ho
       refine lg_none rfl ?_
       refine lw_value (v := (.pointer (some ⟨sp, 0, none⟩))) (u' := u) ?_ (Kp.refl _ _) rfl
       go_simp
      |1, ho =>
       obtain rfl := Option.some.inj ho
       refine lg_none rfl ?_
       refine lw_value (v := (.int .i64 (t : Int))) (u' := u) ?_ (Kp.refl _ _) rfl
       go_simp
      |2, ho =>
       obtain rfl := Option.some.inj ho
       have e118 : a.tmps[118]?.getD undef = (.pointer (some ⟨sp, 0, none⟩)) := slot_at (hdep ⟨0, .data⟩ (by simp) rfl _ 118 rfl rfl)
       have e119 : a.tmps[119]?.getD undef = (.int .i64 (t : Int)) := slot_at (hdep ⟨1, .data⟩ (by simp) rfl _ 119 rfl rfl)
       refine lg_none rfl ?_
       refine lw_call (f := 17) (args := #[.pointer (some ⟨sp, 0, none⟩), .int .i64 (t : Int)]) ?_ ?_
       ·go_simp
       ·exact (HRt.out u hk).mono (by
         rintro e u' ⟨rfl, rfl⟩
         exact ⟨_, rfl, Kp.refl _ _, rfl⟩)
      |3, ho =>
       obtain rfl := Option.some.inj ho
       refine lg_none rfl ?_
       refine lw_value (v := (.slice (some ⟨gR, 0, none⟩) n n)) (u' := u) ?_ (Kp.refl _ _) rfl
       go_simp
      |4, ho =>
       obtain rfl := Option.some.inj ho
       refine lg_none rfl ?_
       refine lw_value (v := (.int .i64 (t : Int))) (u' := u) ?_ (Kp.refl _ _) rfl
       go_simp
      |5, ho =>
       obtain rfl := Option.some.inj ho
       have e121 : a.tmps[121]?.getD undef = (.slice (some ⟨gR, 0, none⟩) n n) := slot_at (hdep ⟨3, .data⟩ (by simp) rfl _ 121 rfl rfl)
       have e122 : a.tmps[122]?.getD undef = (.int .i64 (t : Int)) := slot_at (hdep ⟨4, .data⟩ (by simp) rfl _ 122 rfl rfl)
       refine lg_none rfl ?_
       refine lw_value (v := .pointer (some ⟨gR, t, none⟩)) (u' := u) ?_ (Kp.refl _ _) rfl
       go_simp
      |6, ho =>
       obtain rfl := Option.some.inj ho
       have e123 : a.tmps[123]?.getD undef = .pointer (some ⟨gR, t, none⟩) := slot_at (hdep ⟨5, .data⟩ (by simp) rfl _ 123 rfl rfl)
       refine lg_none rfl ?_
       have kc := HRx.out u hk
       refine lw_value (v := .int .i64 x) (u' := u) ?_ (Kp.refl _ _) rfl
       go_simp
      |7, ho =>
       obtain rfl := Option.some.inj ho
       have e120 : a.tmps[120]?.getD undef = .int .i64 x := slot_at (hdep ⟨2, .data⟩ (by simp) rfl _ 120 rfl rfl)
       have e124 : a.tmps[124]?.getD undef = .int .i64 x := slot_at (hdep ⟨6, .data⟩ (by simp) rfl _ 124 rfl rfl)
       refine lg_none rfl ?_
       refine lw_value (v := .bool false) (u' := u) ?_ (Kp.refl _ _) rfl
       go_simp
      |8, ho =>
       obtain rfl := Option.some.inj ho
       have e125 : a.tmps[125]?.getD undef = .bool false := slot_at (hdep ⟨7, .data⟩ (by simp) rfl _ 125 rfl rfl)
       refine lg_none rfl ?_
       refine lw_value (v := .bool false) (u' := u) ?_ (Kp.refl _ _) rfl
       go_simp
      |9, ho =>
       obtain rfl := Option.some.inj ho
       have e126 : a.tmps[126]?.getD undef = .bool false := slot_at (hdep ⟨8, .guard⟩ (by simp) rfl _ 126 rfl rfl)
       refine lg_on (x := 126) rfl rfl e126 ?_
       refine lw_value (v := (.pointer (some ⟨sp, 0, none⟩))) (u' := u) ?_ (Kp.refl _ _) rfl
       go_simp
      |10, ho =>
       obtain rfl := Option.some.inj ho
       have e126 : a.tmps[126]?.getD undef = .bool false := slot_at (hdep ⟨8, .guard⟩ (by simp) rfl _ 126 rfl rfl)
       refine lg_on (x := 126) rfl rfl e126 ?_
       refine lw_value (v := (.int .i64 (t : Int))) (u' := u) ?_ (Kp.refl _ _) rfl
       go_simp
      |11, ho =>
       obtain rfl := Option.some.inj ho
       have e127 : a.tmps[127]?.getD undef = (.pointer (some ⟨sp, 0, none⟩)) := slot_at (hdep ⟨9, .data⟩ (by simp) rfl _ 127 rfl rfl)
       have e128 : a.tmps[128]?.getD undef = (.int .i64 (t : Int)) := slot_at (hdep ⟨10, .data⟩ (by simp) rfl _ 128 rfl rfl)
       have e126 : a.tmps[126]?.getD undef = .bool false := slot_at (hdep ⟨8, .chain⟩ (by simp) rfl _ 126 rfl rfl)
       refine lg_on (x := 126) rfl rfl e126 ?_
       refine lw_call (f := 18) (args := #[.pointer (some ⟨sp, 0, none⟩), .int .i64 (t : Int)]) ?_ ?_
       ·go_simp
       ·exact (HDt.out u hk).mono (by
         rintro e u' ⟨rfl, rfl⟩
         exact ⟨_, rfl, Kp.refl _ _, rfl⟩)
      |12, ho =>
       obtain rfl := Option.some.inj ho
       have e126 : a.tmps[126]?.getD undef = .bool false := slot_at (hdep ⟨8, .guard⟩ (by simp) rfl _ 126 rfl rfl)
       refine lg_on (x := 126) rfl rfl e126 ?_
       refine lw_value (v := (.slice (some ⟨gE, 0, none⟩) n n)) (u' := u) ?_ (Kp.refl _ _) rfl
       go_simp
      |13, ho =>
       obtain rfl := Option.some.inj ho
       have e126 : a.tmps[126]?.getD undef = .bool false := slot_at (hdep ⟨8, .guard⟩ (by simp) rfl _ 126 rfl rfl)
       refine lg_on (x := 126) rfl rfl e126 ?_
       refine lw_value (v := (.int .i64 (t : Int))) (u' := u) ?_ (Kp.refl _ _) rfl
       go_simp
      |14, ho =>
       obtain rfl := Option.some.inj ho
       have e130 : a.tmps[130]?.getD undef = (.slice (some ⟨gE, 0, none⟩) n n) := slot_at (hdep ⟨12, .data⟩ (by simp) rfl _ 130 rfl rfl)
       have e131 : a.tmps[131]?.getD undef = (.int .i64 (t : Int)) := slot_at (hdep ⟨13, .data⟩ (by simp) rfl _ 131 rfl rfl)
       have e126 : a.tmps[126]?.getD undef = .bool false := slot_at (hdep ⟨8, .guard⟩ (by simp) rfl _ 126 rfl rfl)
       refine lg_on (x := 126) rfl rfl e126 ?_
       refine lw_value (v := .pointer (some ⟨gE, t, none⟩)) (u' := u) ?_ (Kp.refl _ _) rfl
       go_simp
      |15, ho =>
       obtain rfl := Option.some.inj ho
       have e132 : a.tmps[132]?.getD undef = .pointer (some ⟨gE, t, none⟩) := slot_at (hdep ⟨14, .data⟩ (by simp) rfl _ 132 rfl rfl)
       have e126 : a.tmps[126]?.getD undef = .bool false := slot_at (hdep ⟨8, .guard⟩ (by simp) rfl _ 126 rfl rfl)
       refine lg_on (x := 126) rfl rfl e126 ?_
       have kc := HDx.out u hk
       refine lw_value (v := .int .i64 y) (u' := u) ?_ (Kp.refl _ _) rfl
       go_simp
      |16, ho =>
       obtain rfl := Option.some.inj ho
       have e129 : a.tmps[129]?.getD undef = .int .i64 y := slot_at (hdep ⟨11, .data⟩ (by simp) rfl _ 129 rfl rfl)
       have e133 : a.tmps[133]?.getD undef = .int .i64 y := slot_at (hdep ⟨15, .data⟩ (by simp) rfl _ 133 rfl rfl)
       have e126 : a.tmps[126]?.getD undef = .bool false := slot_at (hdep ⟨8, .guard⟩ (by simp) rfl _ 126 rfl rfl)
       refine lg_on (x := 126) rfl rfl e126 ?_
       refine lw_value (v := .bool false) (u' := u) ?_ (Kp.refl _ _) rfl
       go_simp
      |17, ho =>
       obtain rfl := Option.some.inj ho
       have e126 : a.tmps[126]?.getD undef = .bool false := slot_at (hdep ⟨8, .data⟩ (by simp) rfl _ 126 rfl rfl)
       have e134 : a.tmps[134]?.getD undef = .bool false := slot_at (hdep ⟨16, .data⟩ (by simp) rfl _ 134 rfl rfl)
       refine lg_none rfl ?_
       refine lw_value (v := .bool false) (u' := u) ?_ (Kp.refl _ _) rfl
       go_simp
      |18, ho =>
       obtain rfl := Option.some.inj ho
       have e135 : a.tmps[135]?.getD undef = .bool false := slot_at (hdep ⟨17, .data⟩ (by simp) rfl _ 135 rfl rfl)
       refine lg_none rfl ?_
       refine lw_value (v := .bool false) (u' := u) ?_ (Kp.refl _ _) rfl
       go_simp
      |19, ho =>
       obtain rfl := Option.some.inj ho
       have e136 : a.tmps[136]?.getD undef = .bool false := slot_at (hdep ⟨18, .guard⟩ (by simp) rfl _ 136 rfl rfl)
       refine lg_on (x := 136) rfl rfl e136 ?_
       refine lw_value (v := (.pointer (some ⟨sp, 0, none⟩))) (u' := u) ?_ (Kp.refl _ _) rfl
       go_simp
      |20, ho =>
       obtain rfl := Option.some.inj ho
       have e136 : a.tmps[136]?.getD undef = .bool false := slot_at (hdep ⟨18, .guard⟩ (by simp) rfl _ 136 rfl rfl)
       refine lg_on (x := 136) rfl rfl e136 ?_
       refine lw_value (v := (.int .i64 (t : Int))) (u' := u) ?_ (Kp.refl _ _) rfl
       go_simp
      |21, ho =>
       obtain rfl := Option.some.inj ho
       have e137 : a.tmps[137]?.getD undef = (.pointer (some ⟨sp, 0, none⟩)) := slot_at (hdep ⟨19, .data⟩ (by simp) rfl _ 137 rfl rfl)
       have e138 : a.tmps[138]?.getD undef = (.int .i64 (t : Int)) := slot_at (hdep ⟨20, .data⟩ (by simp) rfl _ 138 rfl rfl)
       have e136 : a.tmps[136]?.getD undef = .bool false := slot_at (hdep ⟨18, .chain⟩ (by simp) rfl _ 136 rfl rfl)
       refine lg_on (x := 136) rfl rfl e136 ?_
       refine lw_call (f := 20) (args := #[.pointer (some ⟨sp, 0, none⟩), .int .i64 (t : Int)]) ?_ ?_
       ·go_simp
       ·exact (HStp.out u hk).mono (by
         rintro e u' ⟨a2, c2, rfl, h1, hK⟩
         exact ⟨_, rfl, hK, a2, c2, rfl, h1⟩)
      |22, ho =>
       obtain rfl := Option.some.inj ho
       have e136 : a.tmps[136]?.getD undef = .bool false := slot_at (hdep ⟨18, .guard⟩ (by simp) rfl _ 136 rfl rfl)
       refine lg_on (x := 136) rfl rfl e136 ?_
       have kc0 := (HB9.out.kp (HKl.out.trans hk (fun _ _ h => h)) (fun h => h)).cell (i := 0) (v := .slice (some ⟨gA, 0, none⟩) n n) rfl
       have kc1 := (HB9.out.kp (HKl.out.trans hk (fun _ _ h => h)) (fun h => h)).cell (i := 1) (v := .slice (some ⟨gB, 0, none⟩) n n) rfl
       have kc2 := (HB9.out.kp (HKl.out.trans hk (fun _ _ h => h)) (fun h => h)).cell (i := 2) (v := .slice (some ⟨gD, 0, none⟩) n n) rfl
       refine lw_value (v := .agg #[.slice (some ⟨gA, 0, none⟩) n n, .slice (some ⟨gB, 0, none⟩) n n, .slice (some ⟨gD, 0, none⟩) n n]) (u' := u) ?_ (Kp.refl _ _) rfl
       go_simp
      |23, ho =>
       obtain rfl := Option.some.inj ho
       have e136 : a.tmps[136]?.getD undef = .bool false := slot_at (hdep ⟨18, .guard⟩ (by simp) rfl _ 136 rfl rfl)
       refine lg_on (x := 136) rfl rfl e136 ?_
       refine lw_value (v := (.int .i64 (t : Int))) (u' := u) ?_ (Kp.refl _ _) rfl
       go_simp
      |24, ho =>
       obtain rfl := Option.some.inj ho
       have e140 : a.tmps[140]?.getD undef = .agg #[.slice (some ⟨gA, 0, none⟩) n n, .slice (some ⟨gB, 0, none⟩) n n, .slice (some ⟨gD, 0, none⟩) n n] := slot_at (hdep ⟨22, .data⟩ (by simp) rfl _ 140 rfl rfl)
       have e141 : a.tmps[141]?.getD undef = (.int .i64 (t : Int)) := slot_at (hdep ⟨23, .data⟩ (by simp) rfl _ 141 rfl rfl)
       have e136 : a.tmps[136]?.getD undef = .bool false := slot_at (hdep ⟨18, .guard⟩ (by simp) rfl _ 136 rfl rfl)
       refine lg_on (x := 136) rfl rfl e136 ?_
       refine lw_call (f := 21) (args := #[.agg #[.slice (some ⟨gA, 0, none⟩) n n, .slice (some ⟨gB, 0, none⟩) n n, .slice (some ⟨gD, 0, none⟩) n n], .int .i64 (t : Int)]) ?_ ?_
       ·go_simp
       ·exact (HBt.out u hk).mono (by
         rintro e u' ⟨a2, c2, rfl, h1, hK⟩
         exact ⟨_, rfl, hK, a2, c2, rfl, h1⟩)
      |25, ho =>
       obtain rfl := Option.some.inj ho
       have e136 : a.tmps[136]?.getD undef = .bool false := slot_at (hdep ⟨18, .guard⟩ (by simp) rfl _ 136 rfl rfl)
       refine lg_on (x := 136) rfl rfl e136 ?_
       obtain ⟨a2, c2, ez2, hz2⟩ := hdep ⟨21, .data⟩ (by simp) rfl _ 139 rfl rfl
       obtain ⟨a3, c3, ez3, hz3⟩ := hdep ⟨24, .data⟩ (by simp) rfl _ 142 rfl rfl
       have e139 := slot_at ez2
       have e142 := slot_at ez3
       have HZ2 := Lib.hid hz2
       have HZ3 := Lib.hid hz3
       clear hz2 hz3 ez2 ez3
       refine lw_call (f := 19) (args := #[.slice a2 L.length c2, .slice a3 L.length c3]) ?_ ?_
       ·go_simp
       ·exact (ref_Ints a2 a3 _ _ c2 c3 L L u HZ2.out HZ3.out rfl rfl (by omega)).mono (by
         rintro e u' ⟨rfl, q, rfl⟩
         exact ⟨_, rfl, (Kp.refl _ _).drewN q, by show Value.bool (L == L) = Value.bool true; simp⟩)
      |26, ho =>
       obtain rfl := Option.some.inj ho
       have e143 : a.tmps[143]?.getD undef = .bool true := slot_at (hdep ⟨25, .data⟩ (by simp) rfl _ 143 rfl rfl)
       have e136 : a.tmps[136]?.getD undef = .bool false := slot_at (hdep ⟨18, .guard⟩ (by simp) rfl _ 136 rfl rfl)
       refine lg_on (x := 136) rfl rfl e136 ?_
       refine lw_value (v := .bool false) (u' := u) ?_ (Kp.refl _ _) rfl
       go_simp
      |27, ho =>
       obtain rfl := Option.some.inj ho
       have e136 : a.tmps[136]?.getD undef = .bool false := slot_at (hdep ⟨18, .data⟩ (by simp) rfl _ 136 rfl rfl)
       have e144 : a.tmps[144]?.getD undef = .bool false := slot_at (hdep ⟨26, .data⟩ (by simp) rfl _ 144 rfl rfl)
       refine lg_none rfl ?_
       refine lw_value (v := .bool false) (u' := u) ?_ (Kp.refl _ _) rfl
       go_simp
      |n + 28, _ => exact absurd hp (by simp [upTo])
     case hendW22 =>
      intro a u hI
      have hsz : a.tmps.size = 206 := hI.size
      have hdf : a.defers = [] := hI.defers
      have f0 := hI.o 0 (by kernel_rfl)
      have f1 := hI.o 1 (by kernel_rfl)
      have f2 := hI.o 2 (by kernel_rfl)
      have f3 := hI.o 3 (by kernel_rfl)
      have f4 := hI.o 4 (by kernel_rfl)
      have f5 := hI.o 5 (by kernel_rfl)
      have f6 := hI.o 6 (by kernel_rfl)
      have f7 := hI.o 7 (by kernel_rfl)
      have f8 := hI.o 8 (by kernel_rfl)
      have f9 := hI.o 9 (by kernel_rfl)
      have f10 := hI.o 10 (by kernel_rfl)
      have f11 := hI.o 11 (by kernel_rfl)
      have f12 := hI.o 12 (by kernel_rfl)
      have f13 := hI.o 13 (by kernel_rfl)
      have f14 := hI.o 14 (by kernel_rfl)
      have f15 := hI.o 15 (by kernel_rfl)
      have f16 := hI.o 16 (by kernel_rfl)
      have f17 := hI.o 17 (by kernel_rfl)
      have f18 := hI.o 18 (by kernel_rfl)
      have f19 := hI.o 19 (by kernel_rfl)
      have f20 := hI.o 20 (by kernel_rfl)
      have f21 := hI.o 21 (by kernel_rfl)
      have f22 := hI.o 22 (by kernel_rfl)
      have f23 := hI.o 23 (by kernel_rfl)
      have f24 := hI.o 24 (by kernel_rfl)
      have f25 := hI.o 25 (by kernel_rfl)
      have f26 := hI.o 26 (by kernel_rfl)
      have f27 := hI.o 27 (by kernel_rfl)
      have f28 := hI.o 28 (by kernel_rfl)
      have f29 := hI.o 29 (by kernel_rfl)
      have f30 := hI.o 30 (by kernel_rfl)
      have f31 := hI.o 31 (by kernel_rfl)
      have f32 := hI.o 32 (by kernel_rfl)
      have f33 := hI.o 33 (by kernel_rfl)
      have f34 := hI.o 34 (by kernel_rfl)
      have f35 := hI.o 35 (by kernel_rfl)
      have f36 := hI.o 36 (by kernel_rfl)
      have f37 := hI.o 37 (by kernel_rfl)
      have f38 := hI.o 38 (by kernel_rfl)
      have f39 := hI.o 39 (by kernel_rfl)
      have f40 := hI.o 40 (by kernel_rfl)
      have f41 := hI.o 41 (by kernel_rfl)
      have f42 := hI.o 42 (by kernel_rfl)
      have f43 := hI.o 43 (by kernel_rfl)
      have f44 := hI.o 44 (by kernel_rfl)
      have f45 := hI.o 45 (by kernel_rfl)
      have f46 := hI.o 46 (by kernel_rfl)
      have f47 := hI.o 47 (by kernel_rfl)
      have f48 := hI.o 48 (by kernel_rfl)
      have f49 := hI.o 49 (by kernel_rfl)
      have f50 := hI.o 50 (by kernel_rfl)
      have f51 := hI.o 51 (by kernel_rfl)
      have f52 := hI.o 52 (by kernel_rfl)
      have f53 := hI.o 53 (by kernel_rfl)
      have f54 := hI.o 54 (by kernel_rfl)
      have f55 := hI.o 55 (by kernel_rfl)
      have f56 := hI.o 56 (by kernel_rfl)
      have f57 := hI.o 57 (by kernel_rfl)
      have f58 := hI.o 58 (by kernel_rfl)
      have f59 := hI.o 59 (by kernel_rfl)
      have f60 := hI.o 60 (by kernel_rfl)
      have f61 := hI.o 61 (by kernel_rfl)
      have f62 := hI.o 62 (by kernel_rfl)
      have f63 := hI.o 63 (by kernel_rfl)
      have f64 := hI.o 64 (by kernel_rfl)
      have f65 := hI.o 65 (by kernel_rfl)
      have f66 := hI.o 66 (by kernel_rfl)
      have f67 := hI.o 67 (by kernel_rfl)
      have f68 := hI.o 68 (by kernel_rfl)
      have f69 := hI.o 69 (by kernel_rfl)
      have f70 := hI.o 70 (by kernel_rfl)
      have f71 := hI.o 71 (by kernel_rfl)
      have f72 := hI.o 72 (by kernel_rfl)
      have f73 := hI.o 73 (by kernel_rfl)
      have f74 := hI.o 74 (by kernel_rfl)
      have f75 := hI.o 75 (by kernel_rfl)
      have f76 := hI.o 76 (by kernel_rfl)
      have f77 := hI.o 77 (by kernel_rfl)
      have f78 := hI.o 78 (by kernel_rfl)
      have f79 := hI.o 79 (by kernel_rfl)
      have f80 := hI.o 80 (by kernel_rfl)
      have f81 := hI.o 81 (by kernel_rfl)
      have f82 := hI.o 82 (by kernel_rfl)
      have f83 := hI.o 83 (by kernel_rfl)
      have f84 := hI.o 84 (by kernel_rfl)
      have f85 := hI.o 85 (by kernel_rfl)
      have f86 := hI.o 86 (by kernel_rfl)
      have f87 := hI.o 87 (by kernel_rfl)
      have f88 := hI.o 88 (by kernel_rfl)
      have f89 := hI.o 89 (by kernel_rfl)
      have f90 := hI.o 90 (by kernel_rfl)
      have f91 := hI.o 91 (by kernel_rfl)
      have f92 := hI.o 92 (by kernel_rfl)
      have f93 := hI.o 93 (by kernel_rfl)
      have f94 := hI.o 94 (by kernel_rfl)
      have f95 := hI.o 95 (by kernel_rfl)
      have f96 := hI.o 96 (by kernel_rfl)
      have f97 := hI.o 97 (by kernel_rfl)
      have f98 := hI.o 98 (by kernel_rfl)
      have f99 := hI.o 99 (by kernel_rfl)
      have f100 := hI.o 100 (by kernel_rfl)
      have f101 := hI.o 101 (by kernel_rfl)
      have f102 := hI.o 102 (by kernel_rfl)
      have f103 := hI.o 103 (by kernel_rfl)
      have f104 := hI.o 104 (by kernel_rfl)
      have f105 := hI.o 105 (by kernel_rfl)
      have f106 := hI.o 106 (by kernel_rfl)
      have f107 := hI.o 107 (by kernel_rfl)
      have f108 := hI.o 108 (by kernel_rfl)
      have f109 := hI.o 109 (by kernel_rfl)
      have f110 := hI.o 110 (by kernel_rfl)
      have f111 := hI.o 111 (by kernel_rfl)
      have f112 := hI.o 112 (by kernel_rfl)
      have f113 := hI.o 113 (by kernel_rfl)
      have f114 := hI.o 114 (by kernel_rfl)
      have f115 := hI.o 115 (by kernel_rfl)
      have f116 := hI.o 116 (by kernel_rfl)
      have f117 := hI.o 117 (by kernel_rfl)
      have f146 := hI.o 146 (by kernel_rfl)
      have f147 := hI.o 147 (by kernel_rfl)
      have f148 := hI.o 148 (by kernel_rfl)
      have f149 := hI.o 149 (by kernel_rfl)
      have f150 := hI.o 150 (by kernel_rfl)
      have f151 := hI.o 151 (by kernel_rfl)
      have f152 := hI.o 152 (by kernel_rfl)
      have f153 := hI.o 153 (by kernel_rfl)
      have f154 := hI.o 154 (by kernel_rfl)
      have f155 := hI.o 155 (by kernel_rfl)
      have f156 := hI.o 156 (by kernel_rfl)
      have f157 := hI.o 157 (by kernel_rfl)
      have f158 := hI.o 158 (by kernel_rfl)
      have f159 := hI.o 159 (by kernel_rfl)
      have f160 := hI.o 160 (by kernel_rfl)
      have f161 := hI.o 161 (by kernel_rfl)
      have f162 := hI.o 162 (by kernel_rfl)
      have f163 := hI.o 163 (by kernel_rfl)
      have f164 := hI.o 164 (by kernel_rfl)
      have f165 := hI.o 165 (by kernel_rfl)
      have f166 := hI.o 166 (by kernel_rfl)
      have f167 := hI.o 167 (by kernel_rfl)
      have f168 := hI.o 168 (by kernel_rfl)
      have f169 := hI.o 169 (by kernel_rfl)
      have f170 := hI.o 170 (by kernel_rfl)
      have f171 := hI.o 171 (by kernel_rfl)
      have f172 := hI.o 172 (by kernel_rfl)
      have f173 := hI.o 173 (by kernel_rfl)
      have f174 := hI.o 174 (by kernel_rfl)
      have f175 := hI.o 175 (by kernel_rfl)
      have f176 := hI.o 176 (by kernel_rfl)
      have f177 := hI.o 177 (by kernel_rfl)
      have f178 := hI.o 178 (by kernel_rfl)
      have f179 := hI.o 179 (by kernel_rfl)
      have f180 := hI.o 180 (by kernel_rfl)
      have f181 := hI.o 181 (by kernel_rfl)
      have f182 := hI.o 182 (by kernel_rfl)
      have f183 := hI.o 183 (by kernel_rfl)
      have f184 := hI.o 184 (by kernel_rfl)
      have f185 := hI.o 185 (by kernel_rfl)
      have f186 := hI.o 186 (by kernel_rfl)
      have f187 := hI.o 187 (by kernel_rfl)
      have f188 := hI.o 188 (by kernel_rfl)
      have f189 := hI.o 189 (by kernel_rfl)
      have f190 := hI.o 190 (by kernel_rfl)
      have f191 := hI.o 191 (by kernel_rfl)
      have f192 := hI.o 192 (by kernel_rfl)
      have f193 := hI.o 193 (by kernel_rfl)
      have f194 := hI.o 194 (by kernel_rfl)
      have f195 := hI.o 195 (by kernel_rfl)
      have f196 := hI.o 196 (by kernel_rfl)
      have f197 := hI.o 197 (by kernel_rfl)
      have f198 := hI.o 198 (by kernel_rfl)
      have f199 := hI.o 199 (by kernel_rfl)
      have f200 := hI.o 200 (by kernel_rfl)
      have f201 := hI.o 201 (by kernel_rfl)
      have f202 := hI.o 202 (by kernel_rfl)
      have f203 := hI.o 203 (by kernel_rfl)
      have f204 := hI.o 204 (by kernel_rfl)
      have f205 := hI.o 205 (by kernel_rfl)
      have f118 : a.tmps.getD 118 undef = (.pointer (some ⟨sp, 0, none⟩)) := hI.val 0 _ 118 rfl rfl rfl
      have f119 : a.tmps.getD 119 undef = (.int .i64 (t : Int)) := hI.val 1 _ 119 rfl rfl rfl
      have f120 : a.tmps.getD 120 undef = .int .i64 x := hI.val 2 _ 120 rfl rfl rfl
      have f121 : a.tmps.getD 121 undef = (.slice (some ⟨gR, 0, none⟩) n n) := hI.val 3 _ 121 rfl rfl rfl
      have f122 : a.tmps.getD 122 undef = (.int .i64 (t : Int)) := hI.val 4 _ 122 rfl rfl rfl
      have f123 : a.tmps.getD 123 undef = .pointer (some ⟨gR, t, none⟩) := hI.val 5 _ 123 rfl rfl rfl
      have f124 : a.tmps.getD 124 undef = .int .i64 x := hI.val 6 _ 124 rfl rfl rfl
      have f125 : a.tmps.getD 125 undef = .bool false := hI.val 7 _ 125 rfl rfl rfl
      have f126 : a.tmps.getD 126 undef = .bool false := hI.val 8 _ 126 rfl rfl rfl
      have f127 : a.tmps.getD 127 undef = (.pointer (some ⟨sp, 0, none⟩)) := hI.val 9 _ 127 rfl rfl rfl
      have f128 : a.tmps.getD 128 undef = (.int .i64 (t : Int)) := hI.val 10 _ 128 rfl rfl rfl
      have f129 : a.tmps.getD 129 undef = .int .i64 y := hI.val 11 _ 129 rfl rfl rfl
      have f130 : a.tmps.getD 130 undef = (.slice (some ⟨gE, 0, none⟩) n n) := hI.val 12 _ 130 rfl rfl rfl
      have f131 : a.tmps.getD 131 undef = (.int .i64 (t : Int)) := hI.val 13 _ 131 rfl rfl rfl
      have f132 : a.tmps.getD 132 undef = .pointer (some ⟨gE, t, none⟩) := hI.val 14 _ 132 rfl rfl rfl
      have f133 : a.tmps.getD 133 undef = .int .i64 y := hI.val 15 _ 133 rfl rfl rfl
      have f134 : a.tmps.getD 134 undef = .bool false := hI.val 16 _ 134 rfl rfl rfl
      have f135 : a.tmps.getD 135 undef = .bool false := hI.val 17 _ 135 rfl rfl rfl
      have f136 : a.tmps.getD 136 undef = .bool false := hI.val 18 _ 136 rfl rfl rfl
      have f137 : a.tmps.getD 137 undef = (.pointer (some ⟨sp, 0, none⟩)) := hI.val 19 _ 137 rfl rfl rfl
      have f138 : a.tmps.getD 138 undef = (.int .i64 (t : Int)) := hI.val 20 _ 138 rfl rfl rfl
      have g139 : (SlZ L) u (a.tmps.getD 139 undef) := hI.val 21 _ 139 rfl rfl rfl
      have f140 : a.tmps.getD 140 undef = .agg #[.slice (some ⟨gA, 0, none⟩) n n, .slice (some ⟨gB, 0, none⟩) n n, .slice (some ⟨gD, 0, none⟩) n n] := hI.val 22 _ 140 rfl rfl rfl
      have f141 : a.tmps.getD 141 undef = (.int .i64 (t : Int)) := hI.val 23 _ 141 rfl rfl rfl
      have g142 : (SlZ L) u (a.tmps.getD 142 undef) := hI.val 24 _ 142 rfl rfl rfl
      have f143 : a.tmps.getD 143 undef = .bool true := hI.val 25 _ 143 rfl rfl rfl
      have f144 : a.tmps.getD 144 undef = .bool false := hI.val 26 _ 144 rfl rfl rfl
      have f145 : a.tmps.getD 145 undef = .bool false := hI.val 27 _ 145 rfl rfl rfl
      have ha := act_list206 a hsz
      rw [hdf, f0, f1, f2, f3, f4, f5, f6, f7, f8, f9, f10, f11, f12, f13, f14, f15, f16, f17, f18, f19, f20, f21, f22, f23, f24, f25, f26, f27, f28, f29, f30, f31, f32, f33, f34, f35, f36, f37, f38, f39, f40, f41, f42, f43, f44, f45, f46, f47, f48, f49, f50, f51, f52, f53, f54, f55, f56, f57, f58, f59, f60, f61, f62, f63, f64, f65, f66, f67, f68, f69, f70, f71, f72, f73, f74, f75, f76, f77, f78, f79, f80, f81, f82, f83, f84, f85, f86, f87, f88, f89, f90, f91, f92, f93, f94, f95, f96, f97, f98, f99, f100, f101, f102, f103, f104, f105, f106, f107, f108, f109, f110, f111, f112, f113, f114, f115, f116, f117, f118, f119, f120, f121, f122, f123, f124, f125, f126, f127, f128, f129, f130, f131, f132, f133, f134, f135, f136, f137, f138, f140, f141, f143, f144, f145, f146, f147, f148, f149, f150, f151, f152, f153, f154, f155, f156, f157, f158, f159, f160, f161, f162, f163, f164, f165, f166, f167, f168, f169, f170, f171, f172, f173, f174, f175, f176, f177, f178, f179, f180, f181, f182, f183, f184, f185, f186, f187, f188, f189, f190, f191, f192, f193, f194, f195, f196, f197, f198, f199, f200, f201, f202, f203, f204, f205] at ha
      obtain ⟨x139, hx139⟩ : ∃ x, a.tmps.getD 139 undef = x := ⟨_, rfl⟩
      obtain ⟨x142, hx142⟩ : ∃ x, a.tmps.getD 142 undef = x := ⟨_, rfl⟩
      rw [hx139, hx142] at ha
      rw [hx139] at g139
      rw [hx142] at g142
      have hku := hI.kp
      clear hI hsz hdf f0 f1 f2 f3 f4 f5 f6 f7 f8 f9 f10 f11 f12 f13 f14 f15 f16 f17 f18 f19 f20 f21 f22 f23 f24 f25 f26 f27 f28 f29 f30 f31 f32 f33 f34 f35 f36 f37 f38 f39 f40 f41 f42 f43 f44 f45 f46 f47 f48 f49 f50 f51 f52 f53 f54 f55 f56 f57 f58 f59 f60 f61 f62 f63 f64 f65 f66 f67 f68 f69 f70 f71 f72 f73 f74 f75 f76 f77 f78 f79 f80 f81 f82 f83 f84 f85 f86 f87 f88 f89 f90 f91 f92 f93 f94 f95 f96 f97 f98 f99 f100 f101 f102 f103 f104 f105 f106 f107 f108 f109 f110 f111 f112 f113 f114 f115 f116 f117 f118 f119 f120 f121 f122 f123 f124 f125 f126 f127 f128 f129 f130 f131 f132 f133 f134 f135 f136 f137 f138 f140 f141 f143 f144 f145 f146 f147 f148 f149 f150 f151 f152 f153 f154 f155 f156 f157 f158 f159 f160 f161 f162 f163 f164 f165 f166 f167 f168 f169 f170 f171 f172 f173 f174 f175 f176 f177 f178 f179 f180 f181 f182 f183 f184 f185 f186 f187 f188 f189 f190 f191 f192 f193 f194 f195 f196 f197 f198 f199 f200 f201 f202 f203 f204 f205 hx139 hx142
      subst ha
      refine wpAny_done (by kernel_rfl) ?_ _
      simp only [Array.getD_eq_getD_getElem?, List.getElem?_toArray, List.getElem?_cons_zero, List.getElem?_cons_succ, Option.getD_some]
      have c14 := HRx.out u hku
      have HKu := Lib.hid (HKl.out.trans hku (fun _ _ h => h))
      have HKuz := Lib.hid (HK9z.out.trans HKu.out (fun _ _ h => h))
      obtain ⟨d0, d1, d2, d3, d4, d5, d6, d7, d8⟩ := HC0.out u HKuz.out
      clear hku
      cases ik
      ·by_cases hx0 : x ≥ 0
       ·obtain ⟨hh, hhe⟩ : ∃ hh, hasC c (stN C t) = hh := ⟨_, rfl⟩
        have HHt := Lib.hid (fun u sa sc (hu : Kp (fun _ => False) wz u) hr => HHas.out u t sa sc (HKc.out u hu) hr)
        rw [hhe, decide_eq_true (show 0 ≤ x from hx0)] at HIkt
        simp only [hhe] at HHt
        clear hhe
        go_wp2_with (first
         |(go_at_call 23; refine Calls.mono (HBitst.out _) ?_; rintro e w12 ⟨sa, sc, rfl, hr, hK⟩; have HK12 := Lib.hid (HKu.out.trans hK (fun _ _ h => h)); have HHt2 := Lib.hid (HHt.out w12 sa sc (HK9z.out.trans HK12.out (fun _ _ h => h)) hr); clear hr hK)
         |(go_at_call 22; refine Calls.mono HHt2.out ?_; rintro e w13 ⟨rfl, hK⟩; have HK13 := Lib.hid (HK12.out.trans hK (fun _ _ h => h)); clear hK))
        go_roundw
        case rel => exact ⟨t + 1, by go_num, by omega, by rw [HIkt.out]; rfl, HK13.out⟩
        case measure => simp [intOf]; omega
       ·rw [decide_eq_false (show ¬ 0 ≤ x from hx0)] at HIkt
        go_wp2_with fail
        go_roundw
        case rel => exact ⟨t + 1, by go_num, by omega, by rw [HIkt.out]; rfl, HKu.out⟩
        case measure => simp [intOf]; omega
      ·go_wp2_with fail
       go_roundw
       case rel => exact ⟨t + 1, by go_num, by omega, by rw [HIkt.out]; rfl, HKu.out⟩
       case measure => simp [intOf]; omega
    ·obtain rfl : t = n := by omega
     have HKlz := Lib.hid (HK9z.out.trans HKl.out (fun _ _ h => h))
     have HS10 := Lib.hid (HS9.out.kp HKl.out)
     have HInv := Lib.hid (fun u (hu : Kp (fun _ => False) w10 u) => HInv0.out u (HS10.out.kp hu) (HKc.out u (HKlz.out.trans hu (fun _ _ h => h))))
     obtain ⟨ik, hik⟩ : ∃ ik, IK t = ik := ⟨_, rfl⟩
     simp only [hik] at HInv
     rw [hik]
     have eik : ((!ik) == ik) = false := by cases ik <;> rfl
     have nik : ((!ik) != ik) = true := by cases ik <;> rfl
     clear hik
     by_cases hin : 0 ≤ pn ∧ pn < (t : Int)
     ·obtain ⟨p0, p1⟩ := hin
      have p0' : pn ≥ 0 := p0
      go_wp2_with (first
       |(go_at_call 24; refine Calls.mono (HInv.out w10 (Kp.refl _ _)) ?_; rintro e w12 ⟨rfl, hK⟩; have HK12 := Lib.hid hK; clear hK)
       |(go_at_call 24; refine Calls.mono (HInv.out w12 HK12.out) ?_; rintro e w13 ⟨rfl, hK⟩; have HK13 := Lib.hid (HK12.out.trans hK (fun _ _ h => h)); clear hK)
       |(go_at_call 6; refine Calls.mono (HLi.out _) ?_; rintro e w14 ⟨rfl, hK⟩; have HK14 := Lib.hid (HK13.out.trans hK (fun _ _ h => h)); clear hK))
      go_ret
      exact ⟨rfl, (HK0.out.trans HKlz.out (fun _ _ h => h)).trans HK14.out (fun _ _ h => h)⟩
     ·have HStp := Lib.hid (fun u (hu : Kp (fun _ => False) w10 u) => HStp0.out u (HS10.out.kp hu) pn)
      have HRt := Lib.hid (fun u (hu : Kp (fun _ => False) w10 u) => HRo.out u (HS10.out.kp hu) pn hin)
      have HDt := Lib.hid (fun u (hu : Kp (fun _ => False) w10 u) => HDo.out u (HS10.out.kp hu) pn hin)
      have hz := HSto.out pn hin
      simp only [hz] at HStp
      clear hz
      by_cases p0 : pn ≥ 0
      ·have p1 : ¬ pn < (t : Int) := fun q => hin ⟨p0, q⟩
       clear hin
       go_wp2_with (first
        |(go_at_call 24; refine Calls.mono (HInv.out w10 (Kp.refl _ _)) ?_; rintro e w12 ⟨rfl, hK⟩; have HK12 := Lib.hid hK; clear hK)
        |(go_at_call 20; refine Calls.mono (HStp.out w12 HK12.out) ?_; rintro e w13 ⟨a2, c2, rfl, -, hK⟩; have HK13 := Lib.hid (HK12.out.trans hK (fun _ _ h => h)); clear hK)
        |(go_at_call 17; refine Calls.mono (HRt.out w13 HK13.out) ?_; rintro e w14 ⟨rfl, rfl⟩)
        |(go_at_call 18; refine Calls.mono (HDt.out w13 HK13.out) ?_; rintro e w14 ⟨rfl, rfl⟩)
        |(go_at_call 6; refine Calls.mono (HLi.out _) ?_; rintro e w14 ⟨rfl, hK⟩; have HK14 := Lib.hid (HK13.out.trans hK (fun _ _ h => h)); clear hK))
       go_ret
       exact ⟨rfl, (HK0.out.trans HKlz.out (fun _ _ h => h)).trans HK14.out (fun _ _ h => h)⟩
      ·clear hin
       go_wp2_with (first
        |(go_at_call 24; refine Calls.mono (HInv.out w10 (Kp.refl _ _)) ?_; rintro e w12 ⟨rfl, hK⟩; have HK12 := Lib.hid hK; clear hK)
        |(go_at_call 20; refine Calls.mono (HStp.out w12 HK12.out) ?_; rintro e w13 ⟨a2, c2, rfl, -, hK⟩; have HK13 := Lib.hid (HK12.out.trans hK (fun _ _ h => h)); clear hK)
        |(go_at_call 17; refine Calls.mono (HRt.out w13 HK13.out) ?_; rintro e w14 ⟨rfl, rfl⟩)
        |(go_at_call 18; refine Calls.mono (HDt.out w13 HK13.out) ?_; rintro e w14 ⟨rfl, rfl⟩)
        |(go_at_call 6; refine Calls.mono (HLi.out _) ?_; rintro e w14 ⟨rfl, hK⟩; have HK14 := Lib.hid (HK13.out.trans hK (fun _ _ h => h)); clear hK))
       go_ret
       exact ⟨rfl, (HK0.out.trans HKlz.out (fun _ _ h => h)).trans HK14.out (fun _ _ h => h)⟩

end Go.Proofs.YtnoknecfdnjomaaGreat

/-
  latchetlaw43.ExploreTells: the walk.
-/
namespace Go.Proofs.YtnoknecfdnjomaaGreat
open Go.RowKit

theorem exploreTells_walk (W : World) (v : Value) (hv : CircArg W v) (pr : Int) (_wf : (Lit.int .i64 pr).wf = true) (pn : Int) (_wf2 : (Lit.int .i64 pn).wf = true) (k : Value) (hk : IntsArg W k) :
  Calls Tryz.prog 3 #[v, .int .i64 pr, .int .i64 pn, k] W fun e W' => e = .returned (.bool true) ∧ Below W.heap.size W W' := by
 obtain ⟨V, C, rfl, h, -⟩ := hv
 obtain ⟨a, m, cap, c, rfl, hcl, -, -, -, hc, hok⟩ := hk
 refine Calls.mono (R := fun e W' => e = .returned (.bool true) ∧ Kp (fun _ => False) W W') ?_ (fun e W' h => ⟨h.1, h.2.below (Nat.le_refl _) (fun _ _ h => h)⟩)
 by_cases hF : FewP V C 14
 ·by_cases hm : 30 < m
  ·exact tells_long h pr pn a m cap hF hm
  ·by_cases hck : ckCode C = 0
   ·by_cases h10 : 10 < C.lats.length
    ·exact tells_lats h pr pn a m cap hF (by omega) hck h10
    ·by_cases h8 : 8 < C.ins.length
     ·exact tells_ins h pr pn a m cap hF (by omega) hck (by omega) h8
     ·by_cases h7 : 7 < C.lats.length + C.ins.length
      ·exact tells_many h pr pn a m cap hF (by omega) hck h7 (by omega) (by omega)
      ·exact tells_main h pr pn a m cap hF (by omega) hck (by omega) c hc hcl hok
   ·exact tells_bad h pr pn a m cap hF (by omega) hck
 ·exact tells_notfew h pr pn a m cap hF

end Go.Proofs.YtnoknecfdnjomaaGreat
