/-
  latchetref18.Same of equal witnesses (no text in sight).
-/
import Derived.Test.YtnoknecfdnjomaaGreatM1
import Derived.Deep.QuietTactic
import Derived.BigQuiet
import Derived.Deep.RegionHeld3
import Derived.Test.YtnoknecfdnjomaaGreatM4
import Derived.Test.YtnoknecfdnjomaaGreatM2
import Derived.Test.YtnoknecfdnjomaaGreatM7
import Derived.Deep.CutBlock
import Derived.Test.YtnoknecfdnjomaaGreatRows
import Derived.ProofKit
import Derived.OpenShut
import Derived.Deep.Slices
import Derived.Lib.SmallJoins
import Derived.Test.YtnoknecfdnjomaaGreatM8
import Derived.Test.YtnoknecfdnjomaaGreatM5
set_option linter.unusedVariables false
set_option linter.unusedSimpArgs false
namespace Go.Proofs.YtnoknecfdnjomaaGreat
open Go.RowKit

def BoolsSl (w : World) (v : Value) (l : List Bool) : Prop := ∃ a cap, v = .slice a l.length cap ∧ l.length ≤ cap ∧ cap ≤ maxLen ∧ (a = none → cap = 0) ∧ RowAt w a (l.map Value.bool)

theorem BoolsSl.kp {w w' : World} {v : Value} {l : List Bool} (h : BoolsSl w v l) (k : Kp (fun _ => False) w w') : BoolsSl w' v l := by
 obtain ⟨a, cap, e, h1, h2, h3, h4⟩ := h
 exact ⟨a, cap, e, h1, h2, h3, h4.kp k (fun _ _ h => h)⟩

def GridAt (w : World) (a : Option Addr) (L : List (List Bool)) : Prop := ∃ rs : List Value, RowAt w a rs ∧ rs.length = L.length ∧ ∀ (k : Nat) (r : Value) (x : List Bool), rs[k]? = some r → L[k]? = some x → BoolsSl w r x
def GridSl (w : World) (v : Value) (L : List (List Bool)) : Prop := ∃ a cap, v = .slice a L.length cap ∧ L.length ≤ cap ∧ cap ≤ maxLen ∧ (a = none → cap = 0) ∧ GridAt w a L

theorem GridAt.kp {w w' : World} {a : Option Addr} {L : List (List Bool)} (h : GridAt w a L) (k : Kp (fun _ => False) w w') : GridAt w' a L := by
 obtain ⟨rs, h1, h2, h3⟩ := h
 exact ⟨rs, h1.kp k (fun _ _ h => h), h2, fun i r x hr hx => (h3 i r x hr hx).kp k⟩
theorem GridSl.kp {w w' : World} {v : Value} {L : List (List Bool)} (h : GridSl w v L) (k : Kp (fun _ => False) w w') : GridSl w' v L := by
 obtain ⟨a, cap, e, h1, h2, h3, h4⟩ := h
 exact ⟨a, cap, e, h1, h2, h3, h4.kp k⟩

def gb (L : List (List Bool)) (k : Nat) : List Bool := L[k]?.getD []
theorem gb_at {L : List (List Bool)} {k : Nat} (h : k < L.length) : L[k]? = some (gb L k) := by unfold gb; rw [List.getElem?_eq_getElem h]; rfl

theorem GridAt.row {w : World} {a : Option Addr} {L : List (List Bool)} (h : GridAt w a L) {k : Nat} (hk : k < L.length) : ∃ b off v, a = some ⟨b, off, none⟩ ∧ w.cell? ⟨b, off + k, none⟩ = some v ∧ BoolsSl w v (gb L k) := by
 obtain ⟨rs, h1, h2, h3⟩ := h
 have hk' : k < rs.length := by rw [h2]; exact hk
 have hr : rs[k]? = some rs[k] := List.getElem?_eq_getElem hk'
 obtain ⟨b, off, rfl, c⟩ := h1 k _ hr
 exact ⟨b, off, _, rfl, c, h3 k _ _ hr (gb_at hk)⟩

end Go.Proofs.YtnoknecfdnjomaaGreat

/-
  (*latchet/latchetref17.M).Breaks.
-/
namespace Go.Proofs.YtnoknecfdnjomaaGreat
open Go.RowKit

theorem SL.low {C : Circ} {st : List Bool} {rows : List (List Bool)} {B B' k : Nat} {v5 v6 : Value} {wr : World} (h : SL C st rows B k v5 v6 wr) (hb : B' ≤ B) : SL C st rows B' k v5 v6 wr := by
 obtain ⟨⟨vs, h1, h2, h3⟩, h4⟩ := h
 exact ⟨⟨vs, h1.mono hb, h2, fun j hj => by obtain ⟨x, e, hx⟩ := h3 j hj; exact ⟨x, e, hx.mono hb⟩⟩, h4.mono hb⟩

theorem GS.kp {w w' : World} {a : Option Addr} {n c : Nat} {L : List (List Bool)} (h : GS w a n c L) (k : Kp (fun _ => False) w w') : GS w' a n c L := by
 obtain ⟨⟨vs, h1, h2, h3⟩, h4, h5⟩ := h
 exact ⟨⟨vs, h1.kp k (fun _ _ h => h), h2, fun j hj => by obtain ⟨b, m, d, e, hb⟩ := h3 j hj; exact ⟨b, m, d, e, hb.kp k⟩⟩, h4, h5⟩

theorem GS.at {w : World} {a : Option Addr} {n c : Nat} {L : List (List Bool)} (h : GS w a n c L) {k : Nat} (hk : k < n) : ∃ bg og b m d, a = some ⟨bg, og, none⟩ ∧ w.cell? ⟨bg, og + k, none⟩ = some (.slice b m d) ∧ BS w b m (L[k]?.getD []) := by
 obtain ⟨⟨vs, h1, h2, h3⟩, h4, h5⟩ := h
 obtain ⟨b, m, d, e, hb⟩ := h3 k hk
 obtain ⟨bg, og, ea, ec⟩ := h1 k _ e
 exact ⟨bg, og, b, m, d, ea, ec, hb⟩

end Go.Proofs.YtnoknecfdnjomaaGreat

/-
  latchetlaw11.Few. (Printed by mkfew.py.)
-/
namespace Go.Proofs.YtnoknecfdnjomaaGreat
open Go Go.RowKit

structure FewP (V : CV) (C : Circ) (m : Nat) : Prop where
  i : C.ins.length ≤ m
  l : C.lats.length ≤ m
  g : C.gates.length ≤ m
  o : C.outs.length ≤ m
  b : C.bads.length ≤ m
  c : C.cons.length ≤ m
  y : V.ny ≤ m
  t : V.cm.size ≤ 300

theorem FewP.few {V : CV} {C : Circ} {m k : Nat} (h : FewP V C m) (hk : m ≤ k) : CFew C k := ⟨Nat.le_trans h.i hk, Nat.le_trans h.l hk, Nat.le_trans h.o hk, Nat.le_trans h.b hk, Nat.le_trans h.c hk, Nat.le_trans h.g hk⟩

set_option maxRecDepth 100000 in
set_option maxHeartbeats 4000000 in
theorem law11_Few (V : CV) (C : Circ) (m : Nat) (w : World) :
  Calls Tryz.prog 5 #[.agg (cvals V C), .int .i64 m] w fun e w' => ∃ r : Bool, e = .returned (.bool r) ∧ (r = true ↔ FewP V C m) ∧ Kp (fun _ => False) w w' := by
 obtain ⟨wz, hwz⟩ : ∃ wz : World, wz = w.alloc (.cells (cvals V C) 27) := ⟨_, rfl⟩
 have HK0 := Lib.hid (show Kp (fun _ => False) w wz by rw [hwz]; exact (Kp.refl _ w).alloc _)
 obtain ⟨ni, hni⟩ : ∃ n, C.ins.length = n := ⟨_, rfl⟩
 obtain ⟨nl, hnl⟩ : ∃ n, C.lats.length = n := ⟨_, rfl⟩
 obtain ⟨no, hno⟩ : ∃ n, C.outs.length = n := ⟨_, rfl⟩
 obtain ⟨nb, hnb⟩ : ∃ n, C.bads.length = n := ⟨_, rfl⟩
 obtain ⟨nc, hnc⟩ : ∃ n, C.cons.length = n := ⟨_, rfl⟩
 obtain ⟨ng, hng⟩ : ∃ n, C.gates.length = n := ⟨_, rfl⟩
 obtain ⟨ny, hny⟩ : ∃ n, V.ny = n := ⟨_, rfl⟩
 obtain ⟨cm, hcm⟩ : ∃ s, V.cm = s := ⟨_, rfl⟩
 have HF := Lib.hid (show FewP V C m ↔ ni ≤ m ∧ nl ≤ m ∧ ng ≤ m ∧ no ≤ m ∧ nb ≤ m ∧ nc ≤ m ∧ ny ≤ m ∧ cm.size ≤ 300 from ⟨fun ⟨h1, h2, h3, h4, h5, h6, h7, h8⟩ => ⟨hni ▸ h1, hnl ▸ h2, hng ▸ h3, hno ▸ h4, hnb ▸ h5, hnc ▸ h6, hny ▸ h7, hcm ▸ h8⟩, fun ⟨h1, h2, h3, h4, h5, h6, h7, h8⟩ => ⟨hni ▸ h1, hnl ▸ h2, hng ▸ h3, hno ▸ h4, hnb ▸ h5, hnc ▸ h6, hny ▸ h7, hcm ▸ h8⟩⟩)
 have HC0 : Hid (Blk wz w.heap.size #[.int .i64 C.max, .slice V.ai ni V.ci, .slice V.al nl V.cl, .slice V.ao no V.co, .slice V.ab nb V.cb, .slice V.ac nc V.cc, .slice V.ag ng V.cg, .slice V.ay ny V.cy, .string cm] 27) := Lib.hid (by
  have h := Blk.new w (cvals V C) 27
  rw [← hwz] at h
  unfold cvals at h
  rw [hni, hnl, hno, hnb, hnc, hng, hny, hcm] at h
  exact h)
 obtain ⟨d0, d1, d2, d3, d4, d5, d6, d7, d8⟩ := Blk.cells9 HC0.out
 have HZ := Lib.hid hwz
 clear hni hnl hno hnb hnc hng hny hcm hwz
 by_cases h0 : ni ≤ m
 case neg =>
  have HNo := Lib.hid (show ¬ (ni ≤ m ∧ nl ≤ m ∧ ng ≤ m ∧ no ≤ m ∧ nb ≤ m ∧ nc ≤ m ∧ ny ≤ m ∧ cm.size ≤ 300) from fun h => h0 h.1)
  go_enter Tryz.func5, Tryz.ntmps5
  go_upto_region 1 with fail
  rw [← HZ.out]
  clear HZ
  go_wp2_with fail
  go_ret
  exact ⟨false, rfl, ⟨fun h => (by cases h), fun h => absurd (HF.out.1 h) HNo.out⟩, HK0.out⟩
 by_cases h1 : nl ≤ m
 case neg =>
  have HNo := Lib.hid (show ¬ (ni ≤ m ∧ nl ≤ m ∧ ng ≤ m ∧ no ≤ m ∧ nb ≤ m ∧ nc ≤ m ∧ ny ≤ m ∧ cm.size ≤ 300) from fun h => h1 h.2.1)
  go_enter Tryz.func5, Tryz.ntmps5
  go_upto_region 1 with fail
  rw [← HZ.out]
  clear HZ
  go_wp2_with fail
  go_ret
  exact ⟨false, rfl, ⟨fun h => (by cases h), fun h => absurd (HF.out.1 h) HNo.out⟩, HK0.out⟩
 by_cases h2 : ng ≤ m
 case neg =>
  have HNo := Lib.hid (show ¬ (ni ≤ m ∧ nl ≤ m ∧ ng ≤ m ∧ no ≤ m ∧ nb ≤ m ∧ nc ≤ m ∧ ny ≤ m ∧ cm.size ≤ 300) from fun h => h2 h.2.2.1)
  go_enter Tryz.func5, Tryz.ntmps5
  go_upto_region 1 with fail
  rw [← HZ.out]
  clear HZ
  go_wp2_with fail
  go_ret
  exact ⟨false, rfl, ⟨fun h => (by cases h), fun h => absurd (HF.out.1 h) HNo.out⟩, HK0.out⟩
 by_cases h3 : no ≤ m
 case neg =>
  have HNo := Lib.hid (show ¬ (ni ≤ m ∧ nl ≤ m ∧ ng ≤ m ∧ no ≤ m ∧ nb ≤ m ∧ nc ≤ m ∧ ny ≤ m ∧ cm.size ≤ 300) from fun h => h3 h.2.2.2.1)
  go_enter Tryz.func5, Tryz.ntmps5
  go_upto_region 1 with fail
  rw [← HZ.out]
  clear HZ
  go_wp2_with fail
  go_ret
  exact ⟨false, rfl, ⟨fun h => (by cases h), fun h => absurd (HF.out.1 h) HNo.out⟩, HK0.out⟩
 by_cases h4 : nb ≤ m
 case neg =>
  have HNo := Lib.hid (show ¬ (ni ≤ m ∧ nl ≤ m ∧ ng ≤ m ∧ no ≤ m ∧ nb ≤ m ∧ nc ≤ m ∧ ny ≤ m ∧ cm.size ≤ 300) from fun h => h4 h.2.2.2.2.1)
  go_enter Tryz.func5, Tryz.ntmps5
  go_upto_region 1 with fail
  rw [← HZ.out]
  clear HZ
  go_wp2_with fail
  go_ret
  exact ⟨false, rfl, ⟨fun h => (by cases h), fun h => absurd (HF.out.1 h) HNo.out⟩, HK0.out⟩
 by_cases h5 : nc ≤ m
 case neg =>
  have HNo := Lib.hid (show ¬ (ni ≤ m ∧ nl ≤ m ∧ ng ≤ m ∧ no ≤ m ∧ nb ≤ m ∧ nc ≤ m ∧ ny ≤ m ∧ cm.size ≤ 300) from fun h => h5 h.2.2.2.2.2.1)
  go_enter Tryz.func5, Tryz.ntmps5
  go_upto_region 1 with fail
  rw [← HZ.out]
  clear HZ
  go_wp2_with fail
  go_ret
  exact ⟨false, rfl, ⟨fun h => (by cases h), fun h => absurd (HF.out.1 h) HNo.out⟩, HK0.out⟩
 by_cases h6 : ny ≤ m
 case neg =>
  have HNo := Lib.hid (show ¬ (ni ≤ m ∧ nl ≤ m ∧ ng ≤ m ∧ no ≤ m ∧ nb ≤ m ∧ nc ≤ m ∧ ny ≤ m ∧ cm.size ≤ 300) from fun h => h6 h.2.2.2.2.2.2.1)
  go_enter Tryz.func5, Tryz.ntmps5
  go_upto_region 1 with fail
  rw [← HZ.out]
  clear HZ
  go_wp2_with fail
  go_ret
  exact ⟨false, rfl, ⟨fun h => (by cases h), fun h => absurd (HF.out.1 h) HNo.out⟩, HK0.out⟩
 by_cases h7 : cm.size ≤ 300
 case neg =>
  have HNo := Lib.hid (show ¬ (ni ≤ m ∧ nl ≤ m ∧ ng ≤ m ∧ no ≤ m ∧ nb ≤ m ∧ nc ≤ m ∧ ny ≤ m ∧ cm.size ≤ 300) from fun h => h7 h.2.2.2.2.2.2.2)
  have hd : decide ((cm.size : Int) ≤ 300) = false := decide_eq_false (by omega)
  go_enter Tryz.func5, Tryz.ntmps5
  go_upto_region 1 with fail
  rw [← HZ.out]
  clear HZ
  go_wp2_with fail
  go_ret
  exact ⟨false, rfl, ⟨fun h => (by cases h), fun h => absurd (HF.out.1 h) HNo.out⟩, HK0.out⟩
 have HY := Lib.hid (show ni ≤ m ∧ nl ≤ m ∧ ng ≤ m ∧ no ≤ m ∧ nb ≤ m ∧ nc ≤ m ∧ ny ≤ m ∧ cm.size ≤ 300 from ⟨h0, h1, h2, h3, h4, h5, h6, h7⟩)
 have hd : decide ((cm.size : Int) ≤ 300) = true := decide_eq_true (by omega)
 go_enter Tryz.func5, Tryz.ntmps5
 go_upto_region 1 with fail
 rw [← HZ.out]
 clear HZ
 go_wp2_with fail
 go_ret
 exact ⟨true, rfl, ⟨fun _ => HF.out.2 HY.out, fun _ => rfl⟩, HK0.out⟩

end Go.Proofs.YtnoknecfdnjomaaGreat

/-
  latchetref11.Check: what is wrong with any circuit. (Printed by mkrefcheck.py.)
-/
namespace Go.Proofs.YtnoknecfdnjomaaGreat
open Go.RowKit

theorem ref02_HasQ (a : Option Addr) (n c q : Nat) (L : List Int) (x : Int) (w : World) (hr : IntsAt w a L) (hn : L.length = n) (hm : n ≤ 9000000000) :
  Calls Tryz.prog 31 #[.slice a n c, .int .i64 x] (w.drewN q) fun e w' => e = .returned (.bool (decide (x ∈ L))) ∧ w' = w.drewN q :=
 (ref02_Has a n c L x (w.drewN q) hr hn hm).mono fun _ _ ⟨h1, h2⟩ => ⟨h1, h2.symm⟩

theorem range_bad1 {C : Circ} {k : Nat} (hk : k < C.owned.length) (h : ownB C.max (gi C.owned k) = false) : rangeB C = false := by
 unfold rangeB
 have : C.owned.all (ownB C.max) = false := by
  rw [List.all_eq_false]
  refine ⟨gi C.owned k, ?_, by simp [h]⟩
  unfold gi; rw [List.getElem?_eq_getElem hk]; exact List.getElem_mem hk
 rw [this]; rfl
theorem range_bad2 {C : Circ} {k : Nat} (hk : k < C.used.length) (h : useB C.max (gi C.used k) = false) : rangeB C = false := by
 unfold rangeB
 have : C.used.all (useB C.max) = false := by
  rw [List.all_eq_false]
  refine ⟨gi C.used k, ?_, by simp [h]⟩
  unfold gi; rw [List.getElem?_eq_getElem hk]; exact List.getElem_mem hk
 rw [this, Bool.and_false]
theorem range_bad3 {C : Circ} {k : Nat} (hk : k < C.lats.length) (h : resB (g3 C.lats k) = false) : rangeB C = false := by
 unfold rangeB
 have : C.lats.all resB = false := by
  rw [List.all_eq_false]
  exact ⟨_, g3_mem hk, by simp [h]⟩
 rw [this, Bool.and_false, Bool.false_and]
theorem range_all {C : Circ} (h1 : C.owned.all (ownB C.max) = true) (h2 : C.used.all (useB C.max) = true) (h3 : C.lats.all resB = true) : rangeB C = true := by
 unfold rangeB; rw [h1, h2, h3]; rfl

theorem knownB_iff {C : Circ} (hR : InRange C) {x : Int} (hx : x ∈ C.used) : knownB C.owned x = (!(decide (1 < x)) || decide (x - x % 2 ∈ C.owned)) := by
 have h0 := hR.use x hx
 unfold knownB
 rw [Bool.eq_iff_iff]
 simp only [Bool.or_eq_true, decide_eq_true_eq, List.any_eq_true, Bool.not_eq_true', decide_eq_false_iff_not]
 constructor
 ·rintro (h | ⟨y, hy, e⟩)
  ·left; omega
  ·right
   have h1 := hR.own y hy
   have : y = x - x % 2 := by omega
   rw [← this]; exact hy
 ·rintro (h | h)
  ·left; omega
  ·by_cases h1 : x / 2 = 0
   ·exact .inl h1
   ·exact .inr ⟨_, h, by omega⟩

set_option maxRecDepth 100000 in
set_option maxHeartbeats 8000000 in
theorem ref11_Chk (V : CV) (C : Circ) (w : World) (h : CAt w V C) (hf : CFew C 1000000) :
  Calls Tryz.prog 7 #[.agg (cvals V C)] w fun e w' => e = .returned (.int .i64 (ckCode C)) ∧ Kp (fun _ => False) w w' := by
 obtain ⟨code, hcode⟩ : ∃ code, ckCode C = code := ⟨_, rfl⟩
 rw [hcode]
 have HCode := Lib.hid hcode
 clear hcode
 have HC0 := Lib.hid (Blk.new w (cvals V C) 27)
 have HK0 := Lib.hid ((Kp.refl (fun _ => False) w).alloc (.cells (cvals V C) 27))
 by_cases m0 : 0 ≤ C.max
 case neg =>
  have d1 : decide (C.max < 0) = true := decide_eq_true (by omega)
  obtain rfl : code = 5 := by rw [← HCode.out]; exact ck5 (.inl (by omega))
  have c0 := HC0.out.cell (i := 0) (v := .int .i64 C.max) rfl
  clear m0 h hf
  go_enter Tryz.func7, Tryz.ntmps7
  go_wp2_with fail
  go_ret
  exact ⟨rfl, HK0.out⟩
 have e1 : decide (C.max < 0) = false := decide_eq_false (by omega)
 by_cases m1 : C.max ≤ 16777216
 case neg =>
  have d1 : decide ((16777216 : Int) < C.max) = true := decide_eq_true (by omega)
  obtain rfl : code = 5 := by rw [← HCode.out]; exact ck5 (.inr (.inl (by omega)))
  have c0 := HC0.out.cell (i := 0) (v := .int .i64 C.max) rfl
  clear m1 h hf
  go_enter Tryz.func7, Tryz.ntmps7
  go_wp2_with fail
  go_ret
  exact ⟨rfl, HK0.out⟩
 have e2 : decide ((16777216 : Int) < C.max) = false := decide_eq_false (by omega)
 have HM := Lib.hid (And.intro m0 m1)
 have hl := (h.fl.le63).1
 have HA := Lib.hid h
 have HF := Lib.hid hf
 obtain ⟨n3, hn3⟩ : ∃ n, C.owned.length = n := ⟨_, rfl⟩
 obtain ⟨n4, hn4⟩ : ∃ n, C.used.length = n := ⟨_, rfl⟩
 obtain ⟨gn_, hgn⟩ : ∃ g, C.gates.length = g := ⟨_, rfl⟩
 have h3 : n3 ≤ 3000000 := by rw [← hn3]; have := hf.i; have := hf.l; have := hf.g; unfold Circ.owned; simp; omega
 have h4 : n4 ≤ 6000000 := by
  rw [← hn4]
  have := hf.o; have := hf.b; have := hf.c; have := hf.l; have := hf.g
  have e : (C.gates.flatMap (fun g => [g.2.1, g.2.2])).length = 2 * C.gates.length := by
   generalize C.gates = L
   induction L with
   |nil => rfl
   |cons a r ih => rw [List.flatMap_cons, List.length_append, ih]; simp; omega
  unfold Circ.used
  rw [List.length_append, e]
  simp
  omega
 have HN3 := Lib.hid hn3
 have HN4 := Lib.hid hn4
 have HGN := Lib.hid hgn
 have HU : Hid (cvals V C = #[.int .i64 C.max, .slice V.ai C.ins.length V.ci, .slice V.al C.lats.length V.cl, .slice V.ao C.outs.length V.co, .slice V.ab C.bads.length V.cb, .slice V.ac C.cons.length V.cc, .slice V.ag gn_ V.cg, .slice V.ay V.ny V.cy, .string V.cm]) := Lib.hid (by unfold cvals; rw [hgn])
 have HOw := Lib.hid (show ∀ u, Kp (fun _ => False) w u → Calls Tryz.prog 29 #[.agg #[.int .i64 C.max, .slice V.ai C.ins.length V.ci, .slice V.al C.lats.length V.cl, .slice V.ao C.outs.length V.co, .slice V.ab C.bads.length V.cb, .slice V.ac C.cons.length V.cc, .slice V.ag gn_ V.cg, .slice V.ay V.ny V.cy, .string V.cm]] u fun e u' => (∃ a c, e = .returned (.slice a n3 c) ∧ (n3 ≤ c ∧ c ≤ 9223372036854775807) ∧ IntsAt u' a C.owned) ∧ Kp (fun _ => False) u u' from fun u hu => by
  have := (ref11_Owned V C u (h.kp hu) hf).mono (R' := fun e u' => (∃ a c, e = .returned (.slice a n3 c) ∧ (n3 ≤ c ∧ c ≤ 9223372036854775807) ∧ IntsAt u' a C.owned) ∧ Kp (fun _ => False) u u') (by
   rintro e u' ⟨v, rfl, hO, hK⟩
   obtain ⟨a, c, e, hc1, hc2, -, hr⟩ := hO.form
   rw [iv_length, hn3] at e hc1
   unfold maxLen at hc2
   exact ⟨⟨a, c, by rw [e], ⟨hc1, hc2⟩, hr⟩, hK⟩)
  rw [HU.out] at this
  exact this)
 have HUs := Lib.hid (show ∀ u, Kp (fun _ => False) w u → Calls Tryz.prog 30 #[.agg #[.int .i64 C.max, .slice V.ai C.ins.length V.ci, .slice V.al C.lats.length V.cl, .slice V.ao C.outs.length V.co, .slice V.ab C.bads.length V.cb, .slice V.ac C.cons.length V.cc, .slice V.ag gn_ V.cg, .slice V.ay V.ny V.cy, .string V.cm]] u fun e u' => (∃ a c, e = .returned (.slice a n4 c) ∧ IntsAt u' a C.used) ∧ Kp (fun _ => False) u u' from fun u hu => by
  have := (ref11_Used V C u (h.kp hu) hf).mono (R' := fun e u' => (∃ a c, e = .returned (.slice a n4 c) ∧ IntsAt u' a C.used) ∧ Kp (fun _ => False) u u') (by
   rintro e u' ⟨v, rfl, hO, hK⟩
   obtain ⟨a, c, e, -, -, -, hr⟩ := hO.form
   rw [iv_length, hn4] at e
   exact ⟨⟨a, c, by rw [e], hr⟩, hK⟩)
  rw [HU.out] at this
  exact this)
 have HC1 : Hid (Blk (w.alloc (.cells (cvals V C) 27)) w.heap.size #[.int .i64 C.max, .slice V.ai C.ins.length V.ci, .slice V.al C.lats.length V.cl, .slice V.ao C.outs.length V.co, .slice V.ab C.bads.length V.cb, .slice V.ac C.cons.length V.cc, .slice V.ag gn_ V.cg, .slice V.ay V.ny V.cy, .string V.cm] 27) := Lib.hid (by have := HC0.out; rw [← HU.out]; exact this)
 clear h hf hn3 hn4 hgn
 have c0 := HC0.out.cell (i := 0) (v := .int .i64 C.max) rfl
 go_enter Tryz.func7, Tryz.ntmps7
 go_upto_region 3 with fail
 obtain ⟨wz, hwz⟩ : ∃ wz : World, wz = w.alloc (.cells (cvals V C) 27) := ⟨_, rfl⟩
 rw [← hwz] at HC1 HK0 c0 ⊢
 clear hwz HC0 e1 e2 c0
 go_cut [3, 4] from 19 to 22 (fun s3 s4 wx => ∃ a3 c3 a4 c4, s3 = .slice a3 n3 c3 ∧ s4 = .slice a4 n4 c4 ∧ (n3 ≤ c3 ∧ c3 ≤ 9223372036854775807) ∧ IntsAt wx a3 C.owned ∧ IntsAt wx a4 C.used ∧ Blk wx w.heap.size #[.int .i64 C.max, .slice V.ai C.ins.length V.ci, .slice V.al C.lats.length V.cl, .slice V.ao C.outs.length V.co, .slice V.ab C.bads.length V.cb, .slice V.ac C.cons.length V.cc, .slice V.ag gn_ V.cg, .slice V.ay V.ny V.cy, .string V.cm] 27 ∧ Kp (fun _ => False) w wx)
 case first =>
  go_region_held3 (fun u => u.cell? ⟨w.heap.size, 0, none⟩ = some (.int .i64 C.max) ∧ u.cell? ⟨w.heap.size, 1, none⟩ = some (.slice V.ai C.ins.length V.ci) ∧ u.cell? ⟨w.heap.size, 2, none⟩ = some (.slice V.al C.lats.length V.cl) ∧ u.cell? ⟨w.heap.size, 3, none⟩ = some (.slice V.ao C.outs.length V.co) ∧ u.cell? ⟨w.heap.size, 4, none⟩ = some (.slice V.ab C.bads.length V.cb) ∧ u.cell? ⟨w.heap.size, 5, none⟩ = some (.slice V.ac C.cons.length V.cc) ∧ u.cell? ⟨w.heap.size, 6, none⟩ = some (.slice V.ag gn_ V.cg) ∧ u.cell? ⟨w.heap.size, 7, none⟩ = some (.slice V.ay V.ny V.cy) ∧ u.cell? ⟨w.heap.size, 8, none⟩ = some (.string V.cm)) (with_reducible first | exact HC1.out.cells9 | exact HC1.out.drew.cells9 | exact HXa.out.cells9 | exact HXa.out.drew.cells9 | exact HXb.out.cells9 | exact HXb.out.drew.cells9) ((first
   |((with_reducible refine Calls.mono (HOw.out _ (by first | exact HK0.out | exact HK0.out.drew | exact HKb.out | exact HKb.out.drew)) ?_); rintro o u1 ⟨⟨a1, c1, rfl, hcp, hi1⟩, hK1⟩; have HCP := Lib.hid hcp; clear hcp; have HI1 := Lib.hid hi1; have HKK1 := Lib.hid hK1; have HXa := Lib.hid (by with_reducible first | exact HC1.out.kp hK1 (fun h => h) | exact HC1.out.drew.kp hK1 (fun h => h) | exact HXb.out.kp hK1 (fun h => h) | exact HXb.out.drew.kp hK1 (fun h => h)); have HKa := Lib.hid (by with_reducible first | exact HK0.out.trans hK1 (fun _ _ h => h) | exact HK0.out.drew.trans hK1 (fun _ _ h => h) | exact HKb.out.trans hK1 (fun _ _ h => h) | exact HKb.out.drew.trans hK1 (fun _ _ h => h)); clear hK1 hi1)
   |((with_reducible refine Calls.mono (HUs.out _ (by first | exact HK0.out | exact HK0.out.drew | exact HKa.out | exact HKa.out.drew)) ?_); rintro o u2 ⟨⟨a2, c2, rfl, hi2⟩, hK2⟩; have HI2 := Lib.hid hi2; have HKK2 := Lib.hid hK2; have HXb := Lib.hid (by with_reducible first | exact HC1.out.kp hK2 (fun h => h) | exact HC1.out.drew.kp hK2 (fun h => h) | exact HXa.out.kp hK2 (fun h => h) | exact HXa.out.drew.kp hK2 (fun h => h)); have HKb := Lib.hid (by with_reducible first | exact HK0.out.trans hK2 (fun _ _ h => h) | exact HK0.out.drew.trans hK2 (fun _ _ h => h) | exact HKa.out.trans hK2 (fun _ _ h => h) | exact HKa.out.drew.trans hK2 (fun _ _ h => h)); clear hK2 hi2)))
  all_goals go_wp2_with fail
  all_goals go_meet
  all_goals first
   |exact ⟨a1, c1, a2, c2, rfl, rfl, HCP.out, RowAt.kp HI1.out HKK2.out (fun _ _ h => h), HI2.out, HXb.out, HKb.out⟩
   |exact ⟨a1, c1, a2, c2, rfl, rfl, HCP.out, HI1.out, RowAt.kp HI2.out HKK1.out (fun _ _ h => h), HXa.out, HKa.out⟩
   |exact ⟨a1, c1, a2, c2, rfl, rfl, HCP.out, RowAt.kp HI1.out HKK2.out (fun _ _ h => h), HI2.out, HXb.out.drew, HKb.out.drew⟩
   |exact ⟨a1, c1, a2, c2, rfl, rfl, HCP.out, HI1.out, RowAt.kp HI2.out HKK1.out (fun _ _ h => h), HXa.out.drew, HKa.out.drew⟩
 case rest =>
 obtain ⟨a3, cp3, a4, cp4, rfl, rfl, ⟨hcp1, hcp2⟩, hi3, hi4, hC, hK⟩ := hcut
 obtain ⟨wa, rfl⟩ : ∃ wa : World, wa = wc := ⟨_, rfl⟩
 have HI3 := Lib.hid hi3
 have HI4 := Lib.hid hi4
 have HC := Lib.hid hC
 have HKa := Lib.hid hK
 clear HC1 HK0 HOw HUs hi3 hi4 hC hK
 have mm1 : IntKind.i64.wrap (2 * C.max) = 2 * C.max := IntWalk.i64_in _ (by omega)
 have mm2 : IntKind.i64.wrap (2 * C.max + 1) = 2 * C.max + 1 := IntWalk.i64_in _ (by omega)
 have HMM := Lib.hid (And.intro mm1 mm2)
 clear mm1 mm2
 go_wp2_with fail
 go_loopw [5] (fun v5 wr => ∃ k : Nat, v5 = .int .i64 k ∧ k ≤ n3 ∧ (C.owned.take k).all (ownB C.max) = true ∧ Kp (fun _ => False) wa wr) (fun v5 _ => n3 - (intOf v5).toNat)
 case atStart => exact ⟨0, rfl, by omega, by simp, Kp.refl _ _⟩
 case round =>
  obtain ⟨k, rfl, hk, hall, hK⟩ := hrel
  obtain ⟨wp, rfl⟩ : ∃ wp : World, wp = wr := ⟨_, rfl⟩
  have HK := Lib.hid hK
  by_cases hlt : k < n3
  ·have hkl : k < C.owned.length := by rw [HN3.out]; exact hlt
   obtain ⟨b, off, rfl, hcell⟩ := IntsAt.get (RowAt.kp HI3.out hK (fun _ _ h => h)) hkl
   have hat := all_take (take_gi hkl) (ownB C.max)
   rw [hall, Bool.true_and] at hat
   have HBad := Lib.hid (fun h => (range_bad1 (C := C) hkl h))
   obtain ⟨x, hx⟩ : ∃ x, gi C.owned k = x := ⟨_, rfl⟩
   rw [hx] at hcell hat HBad
   have HAt := Lib.hid hat
   have c0 := (HC.out.kp hK (fun h => h)).cell (i := 0) (v := .int .i64 C.max) rfl
   have i0 : (0 : Int) ≤ (k : Int) := by omega
   have i1 : (k : Int) < (n3 : Int) := by omega
   clear hall hat hx hK hkl
   by_cases g1 : x < 2
   ·obtain rfl : code = 5 := by rw [← HCode.out]; exact ck5 (.inr (.inr (HBad.out (by unfold ownB; rw [decide_eq_false (by omega)]; rfl))))
    have d1 : decide (x < 2) = true := decide_eq_true g1
    clear g1
    go_wp2_with fail
    go_quiet (fail)
    go_wp2_with fail
    go_ret
    exact ⟨rfl, HKa.out.trans (HK.out.drewN _) (fun _ _ h => h)⟩
   ·have d1 : decide (x < 2) = false := decide_eq_false g1
    have htm : x.tmod 2 = x % 2 := Int.tmod_eq_emod_of_nonneg (by omega)
    obtain ⟨r, hr⟩ : ∃ r, x % 2 = r := ⟨_, rfl⟩
    rw [hr] at htm
    by_cases g2 : r = 1
    ·obtain rfl : code = 5 := by rw [← HCode.out]; exact ck5 (.inr (.inr (HBad.out (by unfold ownB; rw [decide_eq_false (p := x % 2 = 0) (by omega)]; simp))))
     have d2 : ((r : Int) == 1) = true := by simp [g2]
     clear g1 g2 hr
     go_wp2_with fail
     go_quiet (fail)
     go_wp2_with fail
     go_ret
     exact ⟨rfl, HKa.out.trans (HK.out.drewN _) (fun _ _ h => h)⟩
    ·have d2 : ((r : Int) == 1) = false := by simp [g2]
     have mm1 := HMM.out.1
     by_cases g3 : 2 * C.max < x
     ·obtain rfl : code = 5 := by rw [← HCode.out]; exact ck5 (.inr (.inr (HBad.out (by unfold ownB; rw [decide_eq_false (p := x ≤ 2 * C.max) (by omega)]; simp))))
      have d3 : decide (2 * C.max < x) = true := decide_eq_true g3
      clear g1 g2 g3 hr
      go_wp2_with fail
      go_quiet (fail)
      go_wp2_with fail
      go_ret
      exact ⟨rfl, HKa.out.trans (HK.out.drewN _) (fun _ _ h => h)⟩
     ·have d3 : decide (2 * C.max < x) = false := decide_eq_false g3
      have HNx := Lib.hid (show (C.owned.take (k + 1)).all (ownB C.max) = true by rw [HAt.out]; unfold ownB; rw [decide_eq_true (by omega), decide_eq_true (p := x % 2 = 0) (by omega), decide_eq_true (by omega)]; rfl)
      clear g1 g2 g3 hr
      go_wp2_with fail
      go_quiet (fail)
      clear mm1
      go_wp2_with fail
      go_roundw
      case rel => exact ⟨k + 1, by go_num, by omega, HNx.out, HK.out.drewN _⟩
      case measure => simp [intOf]; omega
  ·have HAll1 := Lib.hid (show C.owned.all (ownB C.max) = true by rwa [List.take_of_length_le (by rw [HN3.out]; omega)] at hall)
   clear hall hK
   go_wp2_with fail
   go_loopw [6] (fun v6 wr => ∃ k : Nat, v6 = .int .i64 k ∧ k ≤ n4 ∧ (C.used.take k).all (useB C.max) = true ∧ Kp (fun _ => False) wa wr) (fun v6 _ => n4 - (intOf v6).toNat)
   case atStart => exact ⟨0, rfl, by omega, by simp, HK.out⟩
   case round =>
    obtain ⟨k, rfl, hk, hall, hK⟩ := hrel
    clear HK hlt
    obtain ⟨wp, rfl⟩ : ∃ wp : World, wp = wr := ⟨_, rfl⟩
    have HK := Lib.hid hK
    by_cases hlt : k < n4
    ·have hkl : k < C.used.length := by rw [HN4.out]; exact hlt
     obtain ⟨b, off, rfl, hcell⟩ := IntsAt.get (RowAt.kp HI4.out hK (fun _ _ h => h)) hkl
     have hat := all_take (take_gi hkl) (useB C.max)
     rw [hall, Bool.true_and] at hat
     have HBad := Lib.hid (fun h => (range_bad2 (C := C) hkl h))
     obtain ⟨x, hx⟩ : ∃ x, gi C.used k = x := ⟨_, rfl⟩
     rw [hx] at hcell hat HBad
     have HAt := Lib.hid hat
     have c0 := (HC.out.kp hK (fun h => h)).cell (i := 0) (v := .int .i64 C.max) rfl
     have i0 : (0 : Int) ≤ (k : Int) := by omega
     have i1 : (k : Int) < (n4 : Int) := by omega
     clear hall hat hx hK hkl
     by_cases g1 : x < 0
     ·obtain rfl : code = 5 := by rw [← HCode.out]; exact ck5 (.inr (.inr (HBad.out (by unfold useB; rw [decide_eq_false (by omega)]; rfl))))
      have d1 : decide (x < 0) = true := decide_eq_true g1
      clear g1
      go_wp2_with fail
      go_quiet (fail)
      go_wp2_with fail
      go_ret
      exact ⟨rfl, HKa.out.trans (HK.out.drewN _) (fun _ _ h => h)⟩
     ·have d1 : decide (x < 0) = false := decide_eq_false g1
      have mm1 := HMM.out.1
      have mm2 := HMM.out.2
      by_cases g3 : 2 * C.max + 1 < x
      ·obtain rfl : code = 5 := by rw [← HCode.out]; exact ck5 (.inr (.inr (HBad.out (by unfold useB; rw [decide_eq_false (p := x ≤ 2 * C.max + 1) (by omega)]; simp))))
       have d3 : decide (2 * C.max + 1 < x) = true := decide_eq_true g3
       clear g1 g3
       go_wp2_with fail
       go_quiet (fail)
       go_wp2_with fail
       go_ret
       exact ⟨rfl, HKa.out.trans (HK.out.drewN _) (fun _ _ h => h)⟩
      ·have d3 : decide (2 * C.max + 1 < x) = false := decide_eq_false g3
       have HNx := Lib.hid (show (C.used.take (k + 1)).all (useB C.max) = true by rw [HAt.out]; unfold useB; rw [decide_eq_true (by omega), decide_eq_true (by omega)]; rfl)
       clear g1 g3
       go_wp2_with fail
       go_quiet (fail)
       clear mm1 mm2
       go_wp2_with fail
       go_roundw
       case rel => exact ⟨k + 1, by go_num, by omega, HNx.out, HK.out.drewN _⟩
       case measure => simp [intOf]; omega
    ·have HAll2 := Lib.hid (show C.used.all (useB C.max) = true by rwa [List.take_of_length_le (by rw [HN4.out]; omega)] at hall)
     clear hall hK
     go_wp2_with fail
     go_loopw [7] (fun v7 wr => ∃ k : Nat, v7 = .int .i64 k ∧ k ≤ C.lats.length ∧ (C.lats.take k).all resB = true ∧ Kp (fun _ => False) wa wr) (fun v7 _ => C.lats.length - (intOf v7).toNat)
     case atStart => exact ⟨0, rfl, by omega, by simp, HK.out⟩
     case round =>
      obtain ⟨k, rfl, hk, hall, hK⟩ := hrel
      clear HK hlt
      obtain ⟨wp, rfl⟩ : ∃ wp : World, wp = wr := ⟨_, rfl⟩
      have HK := Lib.hid hK
      have c2 := (HC.out.kp hK (fun h => h)).cell (i := 2) (v := .slice V.al C.lats.length V.cl) rfl
      by_cases hlt : k < C.lats.length
      ·obtain ⟨b, off, ea, l0, l1, l2⟩ := tri_cells (HA.out.kp (HKa.out.trans hK (fun _ _ h => h))).l hlt
       have hat := all_take (take_g3 hlt) resB
       rw [hall, Bool.true_and] at hat
       have HBad := Lib.hid (fun h => (range_bad3 (C := C) hlt h))
       obtain ⟨x0, hx0⟩ : ∃ x, (g3 C.lats k).1 = x := ⟨_, rfl⟩
       obtain ⟨x2, hx2⟩ : ∃ x, (g3 C.lats k).2.2 = x := ⟨_, rfl⟩
       have hres : resB (g3 C.lats k) = (decide (x2 = 0) || (decide (x2 = 1) || decide (x2 = x0))) := by unfold resB; rw [hx0, hx2]
       rw [hres] at hat HBad
       rw [hx0] at l0
       rw [hx2] at l2
       rw [ea] at c2
       have HAt := Lib.hid hat
       have i0 : (0 : Int) ≤ (k : Int) := by omega
       have i1 : (k : Int) < (C.lats.length : Int) := by omega
       clear hall hat hx0 hx2 hres hK l1 ea
       by_cases g1 : x2 = 0
       ·have d1 : ((x2 : Int) != 0) = false := by simp [g1]
        have HNx := Lib.hid (show (C.lats.take (k + 1)).all resB = true by rw [HAt.out]; simp [g1])
        clear g1
        go_wp2_with fail
        go_roundw
        case rel => exact ⟨k + 1, by go_num, by omega, HNx.out, HK.out⟩
        case measure => simp [intOf]; omega
       ·have d1 : ((x2 : Int) != 0) = true := by simp [g1]
        by_cases g2 : x2 = 1
        ·have d2 : ((x2 : Int) != 1) = false := by simp [g2]
         have HNx := Lib.hid (show (C.lats.take (k + 1)).all resB = true by rw [HAt.out]; simp [g2])
         clear g1 g2
         go_wp2_with fail
         go_roundw
         case rel => exact ⟨k + 1, by go_num, by omega, HNx.out, HK.out⟩
         case measure => simp [intOf]; omega
        ·have d2 : ((x2 : Int) != 1) = true := by simp [g2]
         by_cases g3 : x2 = x0
         ·have d3 : ((x2 : Int) != x0) = false := by simp [g3]
          have HNx := Lib.hid (show (C.lats.take (k + 1)).all resB = true by rw [HAt.out]; simp [g3])
          clear g1 g2 g3
          go_wp2_with fail
          go_roundw
          case rel => exact ⟨k + 1, by go_num, by omega, HNx.out, HK.out⟩
          case measure => simp [intOf]; omega
         ·have d3 : ((x2 : Int) != x0) = true := by simp [g3]
          obtain rfl : code = 5 := by rw [← HCode.out]; exact ck5 (.inr (.inr (HBad.out (by simp [g1, g2, g3]))))
          clear g1 g2 g3
          go_wp2_with fail
          go_ret
          exact ⟨rfl, HKa.out.trans HK.out (fun _ _ h => h)⟩
      ·have HAll3 := Lib.hid (show C.lats.all resB = true by rwa [List.take_of_length_le (by omega)] at hall)
       have hrg := range_all HAll1.out HAll2.out HAll3.out
       have HIR := Lib.hid (InRange.of HM.out.1 HM.out.2 hrg)
       have HCk := Lib.hid (ckR HM.out.1 HM.out.2 hrg)
       rw [HCode.out] at HCk
       clear hall hK hrg HAll1 HAll2 HAll3 HCode
       go_wp2_with fail
       go_loopw [9] (fun v9 wr => ∃ k : Nat, v9 = .int .i64 k ∧ k ≤ n3 ∧ (C.owned.take k).Nodup ∧ Kp (fun _ => False) wa wr) (fun v9 _ => n3 - (intOf v9).toNat)
       case atStart => exact ⟨0, rfl, by omega, by simp, HK.out⟩
       case round =>
        obtain ⟨k, rfl, hk, hnd, hK⟩ := hrel
        clear HK hlt c2
        obtain ⟨wp, rfl⟩ : ∃ wp : World, wp = wr := ⟨_, rfl⟩
        have HK := Lib.hid hK
        by_cases hlt : k < n3
        ·have hkl : k < C.owned.length := by rw [HN3.out]; exact hlt
         have hi := RowAt.kp HI3.out hK (fun _ _ h => h)
         have hit : IntsAt wp a3 (C.owned.take k) := by
          have := RowAt.take hi k
          unfold IntsAt
          rw [List.map_take]
          exact this
         obtain ⟨b, off, rfl, hcell⟩ := IntsAt.get hi hkl
         have HND := Lib.hid (fun h => nodup_take hkl hnd h)
         have HNN := Lib.hid (fun h => not_nodup (l := C.owned) hkl h)
         obtain ⟨x, hx⟩ : ∃ x, gi C.owned k = x := ⟨_, rfl⟩
         rw [hx] at hcell HND HNN
         have HHas := Lib.hid (fun q => ref02_HasQ (some ⟨b, off, none⟩) k cp3 q (C.owned.take k) x wp hit (by simp; omega) (by omega))
         have i0 : (0 : Int) ≤ (k : Int) := by omega
         have i1 : (k : Int) < (n3 : Int) := by omega
         have i2 : (k : Int) ≤ (cp3 : Int) := by omega
         clear hx hi hit hnd hK hkl
         by_cases hin : x ∈ C.owned.take k
         ·obtain rfl : code = 7 := by have := HCk.out; rw [if_pos (HNN.out hin)] at this; exact this
          rw [decide_eq_true hin] at HHas
          clear hin
          go_wp2_with fail
          go_quiet ((go_at_call 31; exact Calls.quiet_of_same (HHas.out _)))
          go_wp2_with fail
          go_ret
          exact ⟨rfl, HKa.out.trans (HK.out.drewN _) (fun _ _ h => h)⟩
         ·have HNx := Lib.hid (HND.out hin)
          rw [decide_eq_false hin] at HHas
          clear hin
          go_wp2_with fail
          go_quiet ((go_at_call 31; exact Calls.quiet_of_same (HHas.out _)))
          go_wp2_with fail
          go_roundw
          case rel => exact ⟨k + 1, by go_num, by omega, HNx.out, HK.out.drewN _⟩
          case measure => simp [intOf]; omega
        ·have HNod := Lib.hid (show C.owned.Nodup by rwa [List.take_of_length_le (by rw [HN3.out]; omega)] at hnd)
         have HCk2 := Lib.hid (show code = if C.used.all (knownB C.owned) = false then 9 else if (ordO C.gates).length < C.gates.length then 8 else 0 by have := HCk.out; rw [if_neg (by simp; exact HNod.out)] at this; exact this)
         clear hnd hK HCk
         go_wp2_with fail
         go_loopw [10] (fun v10 wr => ∃ k : Nat, v10 = .int .i64 k ∧ k ≤ n4 ∧ (C.used.take k).all (knownB C.owned) = true ∧ Kp (fun _ => False) wa wr) (fun v10 _ => n4 - (intOf v10).toNat)
         case atStart => exact ⟨0, rfl, by omega, by simp, HK.out⟩
         case round =>
          obtain ⟨k, rfl, hk, hall, hK⟩ := hrel
          clear HK hlt
          obtain ⟨wp, rfl⟩ : ∃ wp : World, wp = wr := ⟨_, rfl⟩
          have HK := Lib.hid hK
          by_cases hlt : k < n4
          ·have hkl : k < C.used.length := by rw [HN4.out]; exact hlt
           have hi := RowAt.kp HI3.out hK (fun _ _ h => h)
           obtain ⟨b, off, rfl, hcell⟩ := IntsAt.get (RowAt.kp HI4.out hK (fun _ _ h => h)) hkl
           have hat := all_take (take_gi hkl) (knownB C.owned)
           rw [hall, Bool.true_and] at hat
           have hxu : gi C.used k ∈ C.used := by unfold gi; rw [List.getElem?_eq_getElem hkl]; exact List.getElem_mem hkl
           have hxr := HIR.out.use _ hxu
           have hkn := knownB_iff HIR.out hxu
           have HBad := Lib.hid (fun (h : knownB C.owned (gi C.used k) = false) => show C.used.all (knownB C.owned) = false by rw [List.all_eq_false]; exact ⟨_, hxu, by simp [h]⟩)
           obtain ⟨x, hx⟩ : ∃ x, gi C.used k = x := ⟨_, rfl⟩
           rw [hx] at hcell hat hkn hxr HBad
           rw [hkn] at hat HBad
           have HAt := Lib.hid hat
           have x0 : 0 ≤ x := hxr.1
           have x1 : x ≤ 100000000 := by have := hxr.2; have := HM.out; omega
           have i0 : (0 : Int) ≤ (k : Int) := by omega
           have i1 : (k : Int) < (n4 : Int) := by omega
           clear hall hat hx hK hkl hkn hxr hxu
           by_cases g1 : 1 < x
           ·have htm : x.tmod 2 = x % 2 := Int.tmod_eq_emod_of_nonneg x0
            obtain ⟨r, hr⟩ : ∃ r, x % 2 = r := ⟨_, rfl⟩
            have hr2 : 0 ≤ r ∧ r ≤ 1 := by omega
            rw [hr] at htm HAt HBad
            have hw : IntKind.i64.wrap (x - r) = x - r := IntWalk.i64_in _ (by omega)
            have HHas := Lib.hid (fun q => ref02_HasQ a3 n3 cp3 q C.owned (x - r) wp hi HN3.out (by omega))
            have d1 : decide (1 < x) = true := decide_eq_true g1
            rw [d1] at HAt HBad
            clear hi hr hr2
            by_cases hin : x - r ∈ C.owned
            ·rw [decide_eq_true hin] at HHas HAt
             clear hin g1
             go_wp2_with fail
             go_quiet ((go_at_call 31; exact Calls.quiet_of_same (HHas.out _)))
             clear hw htm
             go_wp2_with fail
             go_roundw
             case rel => exact ⟨k + 1, by go_num, by omega, HAt.out, HK.out.drewN _⟩
             case measure => simp [intOf]; omega
            ·rw [decide_eq_false hin] at HHas HBad
             obtain rfl : code = 9 := by have := HCk2.out; rw [if_pos (HBad.out rfl)] at this; exact this
             clear hin g1
             go_wp2_with fail
             go_quiet ((go_at_call 31; exact Calls.quiet_of_same (HHas.out _)))
             go_wp2_with fail
             go_ret
             exact ⟨rfl, HKa.out.trans (HK.out.drewN _) (fun _ _ h => h)⟩
           ·have d1 : decide (1 < x) = false := decide_eq_false g1
            rw [d1] at HAt
            clear hi g1
            go_wp2_with fail
            go_quiet (fail)
            go_wp2_with fail
            go_roundw
            case rel => exact ⟨k + 1, by go_num, by omega, HAt.out, HK.out.drewN _⟩
            case measure => simp [intOf]; omega
          ·have HAll := Lib.hid (show C.used.all (knownB C.owned) = true by rwa [List.take_of_length_le (by rw [HN4.out]; omega)] at hall)
           have HCk3 := Lib.hid (show code = if (ordO C.gates).length < C.gates.length then 8 else 0 by have := HCk2.out; rw [if_neg (by rw [HAll.out]; simp)] at this; exact this)
           obtain ⟨on_, hon⟩ : ∃ g, (ordO C.gates).length = g := ⟨_, rfl⟩
           have hle : on_ ≤ gn_ := by rw [← HGN.out, ← hon]; exact (ordO_at C.gates).len
           rw [HGN.out, hon] at HCk3
           have hgm : gn_ ≤ 1000000 := by rw [← HGN.out]; exact HF.out.g
           have HO := Lib.hid (show ∀ u, Kp (fun _ => False) w u → Calls Tryz.prog 32 #[.agg #[.int .i64 C.max, .slice V.ai C.ins.length V.ci, .slice V.al C.lats.length V.cl, .slice V.ao C.outs.length V.co, .slice V.ab C.bads.length V.cb, .slice V.ac C.cons.length V.cc, .slice V.ag gn_ V.cg, .slice V.ay V.ny V.cy, .string V.cm]] u fun e u' => (∃ a c, e = .returned (.slice a on_ c)) ∧ Kp (fun _ => False) u u' from fun u hu => by
            have hor := (ref11_Order V C u (HA.out.kp hu) HF.out.g (fun i hi => by
             have h1 := HIR.out.own _ (gate_own hi)
             have h2 := HIR.out.use _ (gate_useA hi)
             have h3 := HIR.out.use _ (gate_useB hi)
             have := HM.out
             omega)).mono (R' := fun e u' => (∃ a c, e = .returned (.slice a on_ c)) ∧ Kp (fun _ => False) u u') (by
              rintro e u' ⟨v, rfl, hO, hK⟩
              obtain ⟨a, c, e, -⟩ := hO.form
              rw [nv_length, hon] at e
              exact ⟨⟨a, c, by rw [e]⟩, hK⟩)
            rw [HU.out] at hor
            exact hor)
           have HXu := Lib.hid (HC.out.kp hK (fun h => h))
           have HK5 := Lib.hid (HKa.out.trans hK (fun _ _ h => h))
           clear hon hall hK HCk2 HK
           go_upto_region 30 with fail
           obtain ⟨wy, rfl⟩ : ∃ wy : World, wy = wp := ⟨_, rfl⟩
           go_region_held3 (fun u => u.cell? ⟨w.heap.size, 0, none⟩ = some (.int .i64 C.max) ∧ u.cell? ⟨w.heap.size, 1, none⟩ = some (.slice V.ai C.ins.length V.ci) ∧ u.cell? ⟨w.heap.size, 2, none⟩ = some (.slice V.al C.lats.length V.cl) ∧ u.cell? ⟨w.heap.size, 3, none⟩ = some (.slice V.ao C.outs.length V.co) ∧ u.cell? ⟨w.heap.size, 4, none⟩ = some (.slice V.ab C.bads.length V.cb) ∧ u.cell? ⟨w.heap.size, 5, none⟩ = some (.slice V.ac C.cons.length V.cc) ∧ u.cell? ⟨w.heap.size, 6, none⟩ = some (.slice V.ag gn_ V.cg) ∧ u.cell? ⟨w.heap.size, 7, none⟩ = some (.slice V.ay V.ny V.cy) ∧ u.cell? ⟨w.heap.size, 8, none⟩ = some (.string V.cm)) (with_reducible first | exact HXu.out.cells9 | exact HXu.out.drew.cells9 | exact HXb.out.cells9 | exact HXb.out.drew.cells9) (((with_reducible refine Calls.mono (HO.out _ (by first | exact HK5.out | exact HK5.out.drew)) ?_); rintro o u2 ⟨⟨a2, c2, rfl⟩, hK6⟩; have HXb := Lib.hid (by first | exact HXu.out.kp hK6 (fun h => h) | exact HXu.out.drew.kp hK6 (fun h => h)); have HKb := Lib.hid (by first | exact HK5.out.trans hK6 (fun _ _ h => h) | exact HK5.out.drew.trans hK6 (fun _ _ h => h)); clear hK6))
           all_goals
            by_cases hlt2 : on_ < gn_
            ·obtain rfl : code = 8 := by have := HCk3.out; rw [if_pos hlt2] at this; exact this
             have dd : decide ((on_ : Int) < (gn_ : Int)) = true := decide_eq_true (by omega)
             go_wp2_with fail
             go_ret
             exact ⟨rfl, by first | exact HKb.out | exact HKb.out.drew⟩
            ·obtain rfl : code = 0 := by have := HCk3.out; rw [if_neg hlt2] at this; exact this
             have dd : decide ((on_ : Int) < (gn_ : Int)) = false := decide_eq_false (by omega)
             go_wp2_with fail
             go_ret
             exact ⟨rfl, by first | exact HKb.out | exact HKb.out.drew⟩

end Go.Proofs.YtnoknecfdnjomaaGreat

/-
  latchetlaw11.Small.
-/
namespace Go.Proofs.YtnoknecfdnjomaaGreat
open Go.RowKit

theorem few_ok {V : CV} {C : Circ} {w : World} {m : Nat} (hF : FewP V C m) : Calls Tryz.prog 5 #[.agg (cvals V C), .int .i64 m] w fun e w' => e = .returned (.bool true) ∧ Kp (fun _ => False) w w' :=
 (law11_Few V C m w).mono (by
  rintro e w' ⟨r, rfl, hr, hK⟩
  obtain rfl := hr.2 hF
  exact ⟨rfl, hK⟩)
theorem few_no {V : CV} {C : Circ} {w : World} {m : Nat} (hF : ¬ FewP V C m) : Calls Tryz.prog 5 #[.agg (cvals V C), .int .i64 m] w fun e w' => e = .returned (.bool false) ∧ Kp (fun _ => False) w w' :=
 (law11_Few V C m w).mono (by
  rintro e w' ⟨r, rfl, hr, hK⟩
  cases r with
  |false => exact ⟨rfl, hK⟩
  |true => exact absurd (hr.1 rfl) hF)

end Go.Proofs.YtnoknecfdnjomaaGreat

/-
  How a circuit that came in is opened.
-/
namespace Go.Proofs.YtnoknecfdnjomaaGreat
open Go.RowKit Go.ChangeShapes Go.WideShapes Go.ChangeAt Go.Joins Go.Deep

section
variable {H : Type} {enc : TypeId × Value → H} {W : World}

theorem circ_ints {fuel : Nat} {v : Value} {x : DataW H × List MemPlace}
  (h : DataW.trod enc Tryz.prog W 0 (fun _ => true) true fuel 22 [v] = some x) : ∃ (a : Option Addr) (c : Nat) (L : List Int), v = .slice a L.length c ∧ SlOK a L.length c ∧ IntsAt W a L := by
 rcases open_ints Tryz.underlying22 Tryz.underlying3 (by kernel_rfl) h with ⟨hcs, _⟩ | ⟨a, len, cap, zs, hcs, _, hl, hm, hz, _, hcell, hwz⟩
 ·simp at hcs
  subst hcs
  exact ⟨none, 0, [], rfl, ⟨Nat.le_refl _, by simp [maxLen], fun _ => rfl⟩, RowAt.nil _ _⟩
 ·simp at hcs
  subst hcs
  simp only [if_true] at hz
  have hlen : (zs.take len).length = len := by rw [List.length_take, hz]; omega
  refine ⟨some a, cap, zs.take len, by rw [hlen], ⟨by rw [hlen]; exact hl, hm, (fun h => by cases h)⟩, ?_⟩
  intro j u hu
  rw [List.getElem?_map, List.getElem?_take] at hu
  split at hu
  ·rename_i hj
   have h0 := hcell 0 (by omega)
   have hs : a.spot = none := by
    have := World.cell?_spot h0
    simpa [Addr.add] using this
   obtain ⟨b, off, spot⟩ := a
   simp only at hs
   subst hs
   refine ⟨b, off, rfl, ?_⟩
   have hc := hcell j (by omega)
   rw [add_plain'] at hc
   rw [hc]
   rw [List.getElem?_eq_getElem (by omega)] at hu
   simp only [Option.map_some] at hu
   rw [← hu]
   simp [List.getD, List.getElem?_eq_getElem (show j < zs.length by omega)]
  ·simp at hu

def row3 (V0 V1 V2 : Nat → Value) (n : Nat) : List (List Value) := (List.range n).map (fun i => [V0 i, V1 i, V2 i])
theorem row3_len (V0 V1 V2 : Nat → Value) (n : Nat) : ∀ r ∈ row3 V0 V1 V2 n, r.length = 3 := fun r h => by
 unfold row3 at h
 obtain ⟨i, -, rfl⟩ := List.mem_map.1 h
 rfl

set_option maxRecDepth 100000 in
theorem circ_rows {t e : TypeId} {f0 f1 f2 : Field} {fuel : Nat} {v : Value} {x : DataW H × List MemPlace} (ht : Tryz.prog.underlying t = some (.slice e)) (he : Tryz.prog.underlying e = some (.struct #[f0, f1, f2]))
  (ce : Tryz.prog.cellsOf e = 3) (o0 : f0.offset = 0) (o1 : f1.offset = 1) (o2 : f2.offset = 2) (c0 : Tryz.prog.cellsOf f0.type = 1) (c1 : Tryz.prog.cellsOf f1.type = 1) (c2 : Tryz.prog.cellsOf f2.type = 1)
  (h : DataW.trod enc Tryz.prog W 0 (fun _ => true) true fuel t [v] = some x) : ∃ (a : Option Addr) (n c : Nat) (V0 V1 V2 : Nat → Value), v = .slice a n c ∧ SlOK a n c ∧ RowAt W a (row3 V0 V1 V2 n).flatten ∧
   ∀ i, i < n → (∃ m y, DataW.trod enc Tryz.prog W 0 (fun _ => true) true m f0.type [V0 i] = some y) ∧ (∃ m y, DataW.trod enc Tryz.prog W 0 (fun _ => true) true m f1.type [V1 i] = some y) ∧ (∃ m y, DataW.trod enc Tryz.prog W 0 (fun _ => true) true m f2.type [V2 i] = some y) := by
 rcases open_slice ht h with ⟨hcs, _⟩ | ⟨a, len, cap, m, n, D, Pl, hcs, _, hl, hm, hmm, _, hx⟩
 ·simp at hcs
  subst hcs
  exact ⟨none, 0, 0, fun _ => .bool false, fun _ => .bool false, fun _ => .bool false, rfl, ⟨Nat.le_refl _, by simp [maxLen], fun _ => rfl⟩, RowAt.nil _ _, fun i hi => by omega⟩
 ·simp at hcs
  subst hcs
  simp only [if_true] at hmm
  subst hmm
  have each : ∀ i, i < len → ∃ q : Value × Value × Value, W.cell? (a.add (i * 3)) = some q.1 ∧ W.cell? (a.add (i * 3 + 1)) = some q.2.1 ∧ W.cell? (a.add (i * 3 + 2)) = some q.2.2 ∧
    (∃ m y, DataW.trod enc Tryz.prog W 0 (fun _ => true) true m f0.type [q.1] = some y) ∧ (∃ m y, DataW.trod enc Tryz.prog W 0 (fun _ => true) true m f1.type [q.2.1] = some y) ∧ (∃ m y, DataW.trod enc Tryz.prog W 0 (fun _ => true) true m f2.type [q.2.2] = some y) := by
   intro i hi
   obtain ⟨cs', h1, h2⟩ := hx i (by omega)
   rw [ce] at h1
   obtain ⟨_, hlen, hcell⟩ := World.cells?_some h1
   obtain ⟨xs, k, _, _, _, hxl, hf⟩ := DataW.trod_struct he h2
   match xs, hxl, cs', hlen with
   |[y0, y1, y2], _, [v0, v1, v2], _ =>
    have g0 := hf 0 f0 rfl
    have g1 := hf 1 f1 rfl
    have g2 := hf 2 f2 rfl
    simp [o0, o1, o2, c0, c1, c2] at g0 g1 g2
    have e0 := hcell 0 (by omega)
    have e1 := hcell 1 (by omega)
    have e2 := hcell 2 (by omega)
    rw [add_add] at e0 e1 e2
    exact ⟨(v0, v1, v2), by simpa using e0, by simpa using e1, by simpa using e2, ⟨_, _, g0⟩, ⟨_, _, g1⟩, ⟨_, _, g2⟩⟩
  obtain ⟨q, hq⟩ := choose_lt each
  refine ⟨some a, len, m, fun i => (q i).1, fun i => (q i).2.1, fun i => (q i).2.2, rfl, ⟨hl, hm, fun h => by cases h⟩, ?_, fun i hi => (hq i hi).2.2.2⟩
  intro j u hu
  have hlen : (row3 (fun i => (q i).1) (fun i => (q i).2.1) (fun i => (q i).2.2) len).flatten.length = len * 3 := by
   rw [flat_length (row3_len _ _ _ _)]; simp [row3]
  have hj : j < len * 3 := by rw [← hlen]; exact (List.getElem?_eq_some_iff.1 hu).1
  have hr : (row3 (fun i => (q i).1) (fun i => (q i).2.1) (fun i => (q i).2.2) len)[j / 3]? = some [(q (j / 3)).1, (q (j / 3)).2.1, (q (j / 3)).2.2] := by
   have : j / 3 < len := by omega
   simp [row3, this]
  obtain ⟨q0, q1, q2, -⟩ := hq (j / 3) (by omega)
  have hs : a.spot = none := by
   have := World.cell?_spot (hq 0 (by omega)).1
   simpa [Addr.add] using this
  obtain ⟨b, off, spot⟩ := a
  simp only at hs
  subst hs
  refine ⟨b, off, rfl, ?_⟩
  rw [add_plain'] at q0 q1 q2
  have hc : j % 3 = 0 ∨ j % 3 = 1 ∨ j % 3 = 2 := by omega
  rcases hc with hp | hp | hp
  ·have h0 := flat_at (row3_len _ _ _ _) hr (i := 0) rfl
   rw [show j / 3 * 3 + 0 = j by omega, hu] at h0
   rw [show off + j = off + j / 3 * 3 by omega, q0]
   exact h0.symm
  ·have h0 := flat_at (row3_len _ _ _ _) hr (i := 1) rfl
   rw [show j / 3 * 3 + 1 = j by omega, hu] at h0
   rw [show off + j = off + (j / 3 * 3 + 1) by omega, q1]
   exact h0.symm
  ·have h0 := flat_at (row3_len _ _ _ _) hr (i := 2) rfl
   rw [show j / 3 * 3 + 2 = j by omega, hu] at h0
   rw [show off + j = off + (j / 3 * 3 + 2) by omega, q2]
   exact h0.symm

theorem trod_i64 {m : Nat} {u : Value} {y : DataW H × List MemPlace} (h : DataW.trod enc Tryz.prog W 0 (fun _ => true) true m 3 [u] = some y) : ∃ z : Int, u = .int .i64 z := by
 obtain ⟨z, e, _, _⟩ := DataW.trod_int Tryz.underlying3 h
 simp at e
 exact ⟨z, e⟩

theorem circ_tris {V0 V1 V2 : Nat → Value} {n : Nat} (h0 : ∀ i, i < n → ∃ z : Int, V0 i = .int .i64 z) (h1 : ∀ i, i < n → ∃ z : Int, V1 i = .int .i64 z) (h2 : ∀ i, i < n → ∃ z : Int, V2 i = .int .i64 z) :
  ∃ L : List (Int × Int × Int), L.length = n ∧ row3 V0 V1 V2 n = L.map tri := by
 obtain ⟨z0, e0⟩ := choose_lt h0
 obtain ⟨z1, e1⟩ := choose_lt h1
 obtain ⟨z2, e2⟩ := choose_lt h2
 refine ⟨(List.range n).map (fun i => (z0 i, z1 i, z2 i)), by simp, ?_⟩
 unfold row3
 rw [List.map_map]
 refine List.map_congr_left fun i hi => ?_
 have hi := List.mem_range.1 hi
 simp only [Function.comp_apply, e0 i hi, e1 i hi, e2 i hi]
 rfl

end

theorem circ_cells : Tryz.prog.cellsOf 27 = 9 := by kernel_rfl
theorem circ_c0 : Tryz.prog.cellsOf 3 = 1 := by kernel_rfl
theorem circ_c1 : Tryz.prog.cellsOf 22 = 1 := by kernel_rfl
theorem circ_c2 : Tryz.prog.cellsOf 23 = 1 := by kernel_rfl
theorem circ_c3 : Tryz.prog.cellsOf 24 = 1 := by kernel_rfl
theorem circ_c4 : Tryz.prog.cellsOf 25 = 1 := by kernel_rfl
theorem circ_c5 : Tryz.prog.cellsOf 9 = 1 := by kernel_rfl

def CircArg (W : World) (v : Value) : Prop := ∃ (V : CV) (C : Circ), v = .agg (cvals V C) ∧ CAt W V C ∧ V.cm.size ≤ maxLen
def CircArgS (W : World) (v : Value) : Prop := ∃ (V : CV) (C : Circ), v = .agg (cvals V C) ∧ CAt W V C ∧ V.cm.size ≤ maxLen ∧ (-9223372036854775808 ≤ C.max ∧ C.max ≤ 9223372036854775807) ∧
  ∃ rows : List (List Value), RowAt W V.ay rows.flatten ∧ rows.length = V.ny ∧ ∀ (k : Nat) (r : List Value), rows[k]? = some r → ∃ (a b : Int) (s : ByteArray), r = [.int .u8 a, .int .i64 b, .string s]

set_option maxRecDepth 100000 in
theorem open_circArgS {H : Type} {enc : TypeId × Value → H} {W : World} {base : Nat} {v : Value} {d : DataW H} {ps : List MemPlace}
  (hv : Value.okWide Tryz.prog W .any base 27 v) (h : DataW.Trod enc Tryz.prog W 0 (fun _ => true) true 27 v d ps) : CircArgS W v := by
 obtain ⟨cs, rfl, hsz⟩ := okWide_struct Tryz.underlying27 hv
 obtain ⟨l⟩ := cs
 match l, hsz.trans circ_cells with
 |[k0, k1, k2, k3, k4, k5, k6, k7, k8], _ =>
  obtain ⟨fuel, hf⟩ := h
  obtain ⟨xs, n, _, _, _, hlen, hg⟩ := DataW.trod_struct Tryz.underlying27 hf
  have g0 : DataW.trod enc Tryz.prog W 0 (fun _ => true) true n 3 [k0] = xs[0]? := by simpa [Value.cells, circ_c0, circ_c1, circ_c2, circ_c3, circ_c4, circ_c5] using hg 0 _ rfl
  have g1 : DataW.trod enc Tryz.prog W 0 (fun _ => true) true n 22 [k1] = xs[1]? := by simpa [Value.cells, circ_c0, circ_c1, circ_c2, circ_c3, circ_c4, circ_c5] using hg 1 _ rfl
  have g2 : DataW.trod enc Tryz.prog W 0 (fun _ => true) true n 23 [k2] = xs[2]? := by simpa [Value.cells, circ_c0, circ_c1, circ_c2, circ_c3, circ_c4, circ_c5] using hg 2 _ rfl
  have g3 : DataW.trod enc Tryz.prog W 0 (fun _ => true) true n 22 [k3] = xs[3]? := by simpa [Value.cells, circ_c0, circ_c1, circ_c2, circ_c3, circ_c4, circ_c5] using hg 3 _ rfl
  have g4 : DataW.trod enc Tryz.prog W 0 (fun _ => true) true n 22 [k4] = xs[4]? := by simpa [Value.cells, circ_c0, circ_c1, circ_c2, circ_c3, circ_c4, circ_c5] using hg 4 _ rfl
  have g5 : DataW.trod enc Tryz.prog W 0 (fun _ => true) true n 22 [k5] = xs[5]? := by simpa [Value.cells, circ_c0, circ_c1, circ_c2, circ_c3, circ_c4, circ_c5] using hg 5 _ rfl
  have g6 : DataW.trod enc Tryz.prog W 0 (fun _ => true) true n 24 [k6] = xs[6]? := by simpa [Value.cells, circ_c0, circ_c1, circ_c2, circ_c3, circ_c4, circ_c5] using hg 6 _ rfl
  have g7 : DataW.trod enc Tryz.prog W 0 (fun _ => true) true n 25 [k7] = xs[7]? := by simpa [Value.cells, circ_c0, circ_c1, circ_c2, circ_c3, circ_c4, circ_c5] using hg 7 _ rfl
  have g8 : DataW.trod enc Tryz.prog W 0 (fun _ => true) true n 9 [k8] = xs[8]? := by simpa [Value.cells, circ_c0, circ_c1, circ_c2, circ_c3, circ_c4, circ_c5] using hg 8 _ rfl
  match xs, hlen with
  |[y0, y1, y2, y3, y4, y5, y6, y7, y8], _ =>
   obtain ⟨mx, hmx, -, hmr⟩ := DataW.trod_int Tryz.underlying3 g0
   simp at hmx
   subst hmx
   obtain ⟨a1, c1, L1, rfl, s1, r1⟩ := circ_ints g1
   obtain ⟨a2, n2, c2, P0, P1, P2, rfl, s2, r2, t2⟩ := circ_rows Tryz.underlying23 Tryz.underlying64 (by kernel_rfl) rfl rfl rfl circ_c0 circ_c0 circ_c0 g2
   obtain ⟨a3, c3, L3, rfl, s3, r3⟩ := circ_ints g3
   obtain ⟨a4, c4, L4, rfl, s4, r4⟩ := circ_ints g4
   obtain ⟨a5, c5, L5, rfl, s5, r5⟩ := circ_ints g5
   obtain ⟨a6, n6, c6, Q0, Q1, Q2, rfl, s6, r6, t6⟩ := circ_rows Tryz.underlying24 Tryz.underlying95 (by kernel_rfl) rfl rfl rfl circ_c0 circ_c0 circ_c0 g6
   obtain ⟨a7, n7, c7, R0, R1, R2, rfl, s7, r7, t7⟩ := circ_rows Tryz.underlying25 Tryz.underlying113 (by kernel_rfl) rfl rfl rfl (by kernel_rfl) circ_c0 circ_c5 g7
   obtain ⟨sm, e8, _, w8⟩ := DataW.trod_string Tryz.underlying9 g8
   simp only [List.cons.injEq, and_true] at e8
   subst e8
   obtain ⟨L2, l2, m2⟩ := circ_tris (fun i hi => by obtain ⟨m, y, h⟩ := (t2 i hi).1; exact trod_i64 h) (fun i hi => by obtain ⟨m, y, h⟩ := (t2 i hi).2.1; exact trod_i64 h) (fun i hi => by obtain ⟨m, y, h⟩ := (t2 i hi).2.2; exact trod_i64 h)
   obtain ⟨L6, l6, m6⟩ := circ_tris (fun i hi => by obtain ⟨m, y, h⟩ := (t6 i hi).1; exact trod_i64 h) (fun i hi => by obtain ⟨m, y, h⟩ := (t6 i hi).2.1; exact trod_i64 h) (fun i hi => by obtain ⟨m, y, h⟩ := (t6 i hi).2.2; exact trod_i64 h)
   rw [m2] at r2
   rw [m6] at r6
   subst l2 l6
   refine ⟨⟨a1, c1, a2, c2, a3, c3, a4, c4, a5, c5, a6, c6, a7, n7, c7, sm⟩, ⟨mx, L1, L2, L3, L4, L5, L6⟩, rfl, ⟨r1, r2, r3, r4, r5, r6, ⟨_, r7, by simp [row3], row3_len _ _ _ _, fun r hr u hu => ?_⟩, s1, s2, s3, s4, s5, s6, s7⟩, w8, by simp [Lit.wf, IntKind.min, IntKind.max, IntKind.signed, IntKind.bits] at hmr; simp only; omega, ⟨_, r7, by simp [row3], fun k r hk => ?_⟩⟩
   rotate_left
   ·unfold row3 at hk
    obtain ⟨i, hi, rfl⟩ := List.mem_map.1 (List.mem_of_getElem? hk)
    have hi := List.mem_range.1 hi
    obtain ⟨⟨m0, y0, q0⟩, ⟨m1, y1, q1⟩, ⟨m2, y2, q2⟩⟩ := t7 i hi
    obtain ⟨z0, e0, _, _⟩ := DataW.trod_int Tryz.underlying5 q0
    obtain ⟨z1, e1⟩ := trod_i64 q1
    obtain ⟨z2, e2, _, _⟩ := DataW.trod_string Tryz.underlying9 q2
    simp at e0 e2
    exact ⟨z0, z1, z2, by rw [e0, e1, e2]⟩
   unfold row3 at hr
   obtain ⟨i, hi, rfl⟩ := List.mem_map.1 hr
   have hi := List.mem_range.1 hi
   obtain ⟨⟨m0, y0, q0⟩, ⟨m1, y1, q1⟩, ⟨m2, y2, q2⟩⟩ := t7 i hi
   obtain ⟨z0, e0, _, _⟩ := DataW.trod_int Tryz.underlying5 q0
   obtain ⟨z1, e1⟩ := trod_i64 q1
   obtain ⟨z2, e2, _, _⟩ := DataW.trod_string Tryz.underlying9 q2
   simp at e0 e2
   simp only [List.mem_cons, List.not_mem_nil, or_false] at hu
   rcases hu with rfl | rfl | rfl
   ·rw [e0]; rfl
   ·rw [e1]; rfl
   ·rw [e2]; rfl

set_option maxRecDepth 100000 in
theorem open_circArg {H : Type} {enc : TypeId × Value → H} {W : World} {base : Nat} {v : Value} {d : DataW H} {ps : List MemPlace}
  (hv : Value.okWide Tryz.prog W .any base 27 v) (h : DataW.Trod enc Tryz.prog W 0 (fun _ => true) true 27 v d ps) : CircArg W v := by
 obtain ⟨V, C, h1, h2, h3, -⟩ := open_circArgS hv h
 exact ⟨V, C, h1, h2, h3⟩

end Go.Proofs.YtnoknecfdnjomaaGreat

/-
  latchetlaw43.ExploreRuns: the run that is told.
-/
namespace Go.Proofs.YtnoknecfdnjomaaGreat
open Go.RowKit

def PtrM (V : CV) (C : Circ) (u : World) (v : Value) : Prop := ∃ p a4 c4 a5 c5, v = .pointer (some ⟨p, 0, none⟩) ∧ MAt u 81 V C p a4 c4 a5 c5
theorem PtrM.st (V : CV) (C : Circ) : Stable (PtrM V C) := fun _ _ _ k ⟨p, a4, c4, a5, c5, h1, h2⟩ => ⟨p, a4, c4, a5, c5, h1, h2.kp k⟩

end Go.Proofs.YtnoknecfdnjomaaGreat

/-
  How a slice of ints that came in is opened.
-/
namespace Go.Proofs.YtnoknecfdnjomaaGreat
open Go.RowKit Go.ChangeShapes Go.WideShapes Go.ChangeAt

set_option maxRecDepth 100000 in
theorem open_intsArg {H : Type} {enc : TypeId × Value → H} {W : World} {base : Nat} {v : Value} {d : DataW H} {ps : List MemPlace}
  (hv : Value.okWide Tryz.prog W .any base 22 v) (h : DataW.Trod enc Tryz.prog W 0 (fun _ => true) true 22 v d ps) : IntsArg W v := by
 obtain ⟨a0, len0, cap0, rfl⟩ := okWide_slice Tryz.underlying22 hv
 obtain ⟨fuel, hf⟩ := h
 rcases open_ints Tryz.underlying22 Tryz.underlying3 (by kernel_rfl) hf with ⟨hcs, _⟩ | ⟨a, len, cap, zs, hcs, _, hl, hm, hz, _, hcell, hwz⟩
 ·simp [Value.cells] at hcs
  obtain ⟨rfl, rfl, rfl⟩ := hcs
  exact ⟨none, 0, 0, [], rfl, rfl, by omega, by simp [maxLen], fun _ => rfl, RowAt.nil _ _, fun x hx => by cases hx⟩
 ·simp [Value.cells] at hcs
  obtain ⟨rfl, rfl, rfl⟩ := hcs
  simp only [if_true] at hz
  refine ⟨some a, len0, cap0, zs.take len0, rfl, by simp; omega, hl, hm, (fun h => by cases h), ?_, fun x hx => ?_⟩
  ·intro j u hu
   rw [List.getElem?_map, List.getElem?_take] at hu
   split at hu
   ·rename_i hj
    have h0 := hcell 0 (by omega)
    have hs : a.spot = none := by
     have := World.cell?_spot h0
     simpa [Addr.add] using this
    obtain ⟨b, off, spot⟩ := a
    simp only at hs
    subst hs
    refine ⟨b, off, rfl, ?_⟩
    have hc := hcell j (by omega)
    rw [add_plain'] at hc
    rw [hc]
    rw [List.getElem?_eq_getElem (by omega)] at hu
    simp only [Option.map_some] at hu
    rw [← hu]
    simp [List.getD, List.getElem?_eq_getElem (show j < zs.length by omega)]
   ·simp at hu
  ·have := hwz x (List.mem_of_mem_take hx)
   simp [Lit.wf, IntKind.min, IntKind.max, IntKind.signed, IntKind.bits] at this
   omega

end Go.Proofs.YtnoknecfdnjomaaGreat
