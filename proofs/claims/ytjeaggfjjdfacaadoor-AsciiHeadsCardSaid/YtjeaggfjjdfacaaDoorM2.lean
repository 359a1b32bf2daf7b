/-
  ascii.ReadHead: what it computes: the head with which a text begins. (Printed by mkahead.py.)
-/
import Derived.Test.YtjeaggfjjdfacaaDoorM1
import Derived.Deep.DeepCutAuto
import Derived.Deep.CutBlock
import Derived.RangeFuncCalls
import Derived.Deep.RegionHeld3
import Derived.Maps.AppendAt
import Derived.Laws.EntriesVeiled
import Derived.Test.YtjeaggfjjdfacaaDoorRows
import Derived.Deep.QuietTactic
import Derived.BigQuiet
import Derived.Laws.StructEq
import Derived.WalkSmall
import Derived.Deep.RegionWith
namespace Go.Proofs.YtjeaggfjjdfacaaDoor
open Go.RowKit

theorem headT_bad {s : ByteArray} {p e : Nat} (h1 : isHead s) (h : headL s 9 4 [] = ([], p, e)) (he : e ≠ 0) : headT s = (false, [], p, e) := by
  unfold headT
  rw [if_neg (by simpa using h1), h, if_pos (by simpa using he)]

theorem headL_stop {s : ByteArray} {l : List Nat} {p q e : Nat} (hl : l.length ≤ 8) (h : stepH s l.length p = (0, q, e, false)) (he : e ≠ 0) : headL s (9 - l.length) p l = ([], q, e) := by
  obtain ⟨f, hf⟩ : ∃ f, 9 - l.length = f + 1 := ⟨8 - l.length, by omega⟩
  rw [hf, headL, h, if_pos (by simpa using he)]

theorem headL_fin {s : ByteArray} {l : List Nat} {p q n : Nat} (hl : l.length ≤ 8) (h : stepH s l.length p = (n, q, 0, true)) : headL s (9 - l.length) p l = (l ++ [n], q, 0) := by
  obtain ⟨f, hf⟩ : ∃ f, 9 - l.length = f + 1 := ⟨8 - l.length, by omega⟩
  rw [hf, headL, h]; rfl

theorem headL_more {s : ByteArray} {l : List Nat} {p q n : Nat} (hl : l.length ≤ 8) (h : stepH s l.length p = (n, q, 0, false)) : headL s (9 - l.length) p l = headL s (9 - (l ++ [n]).length) q (l ++ [n]) := by
  obtain ⟨f, hf⟩ : ∃ f, 9 - l.length = f + 1 := ⟨8 - l.length, by omega⟩
  rw [hf, headL, h, show 9 - (l ++ [n]).length = f by simp; omega]
  simp

theorem stepH_num {s : ByteArray} {k p top E : Nat} (ht : (if 7 ≤ k then 0 else 16777216) = top) (hE : numE s p top = E) (he : E ≠ 0) : stepH s k p = (0, p, E, false) := by
  unfold numE at hE
  unfold stepH
  by_cases c1 : (natN s p).2.2 ≠ 0
  · rw [if_pos c1] at hE ⊢; rw [hE]
  · rw [if_neg c1] at hE ⊢
    rw [ht]
    by_cases c2 : top < (natN s p).1
    · rw [if_pos c2] at hE ⊢; rw [hE]
    · rw [if_neg c2] at hE; exact absurd hE.symm he

theorem numE_ok {s : ByteArray} {p top n q : Nat} (hp : p ≤ s.size) (hn : (natN s p).1 = n) (hq : (natN s p).2.1 = q) (hE : numE s p top = 0) : p < q ∧ q ≤ s.size ∧ n ≤ top := by
  unfold numE at hE
  by_cases c1 : (natN s p).2.2 ≠ 0
  · rw [if_pos c1] at hE; exact absurd hE c1
  · have := natN_end hp (by omega)
    rw [if_neg c1] at hE
    by_cases c2 : top < (natN s p).1
    · rw [if_pos c2] at hE; cases hE
    · omega

theorem stepH_sign {s : ByteArray} {k p top n q : Nat} (ht : (if 7 ≤ k then 0 else 16777216) = top) (hn : (natN s p).1 = n) (hq : (natN s p).2.1 = q) (hE : numE s p top = 0) :
    stepH s k p = if q = s.size then (0, q, 3, false) else if bt s q = 10 ∧ 4 ≤ k then (n, q + 1, 0, true) else if bt s q = 32 ∧ k < 8 then (n, q + 1, 0, false) else (0, q, 2, false) := by
  unfold numE at hE
  unfold stepH
  by_cases c1 : (natN s p).2.2 ≠ 0
  · rw [if_pos c1] at hE; exact absurd hE c1
  · rw [if_neg c1] at hE ⊢
    rw [ht]
    by_cases c2 : top < (natN s p).1
    · rw [if_pos c2] at hE; cases hE
    · rw [if_neg c2, hn, hq]

theorem HBlk.alloc {s : ByteArray} {w wr : World} {p : Nat} {l : List Nat} (h : HBlk s w wr p l) (o : Obj) : HBlk s w (wr.alloc o) p l :=
  ⟨h.b0.alloc _, h.b1.alloc _, h.b2.alloc _, h.b3.alloc _, h.b4.alloc _, h.kp.alloc _⟩

/-- the cells of a call -/
theorem HBlk.outs {s : ByteArray} {w wr : World} {p : Nat} {l : List Nat} (h : HBlk s w wr p l) : w.heap.size < wr.heap.size ∧ w.heap.size + 1 < wr.heap.size ∧ w.heap.size + 1 + 1 < wr.heap.size ∧ w.heap.size + 1 + 1 + 1 < wr.heap.size ∧ w.heap.size + 1 + 1 + 1 + 1 < wr.heap.size ∧
    (∀ i, wr.frozen? ⟨w.heap.size, i, none⟩ = false) ∧ wr.frozen? ⟨w.heap.size + 1, 0, none⟩ = false ∧ wr.frozen? ⟨w.heap.size + 1 + 1, 0, none⟩ = false ∧ wr.cell? ⟨w.heap.size + 1, 0, none⟩ = some (.int .i64 0) ∧ wr.cell? ⟨w.heap.size + 1 + 1, 0, none⟩ = some (.int .i64 0) ∧
    wr.cell? ⟨w.heap.size + 1 + 1 + 1, 1, none⟩ = some (.int .i64 p) :=
  ⟨h.b0.lt, h.b1.lt, h.b2.lt, h.b3.lt, h.b4.lt, h.b0.free, h.b1.free 0, h.b2.free 0, h.b1.cells1.1, h.b2.cells1.1, h.b3.cells2.2.1⟩

theorem HBlk.cells {s : ByteArray} {w wr : World} {p : Nat} {l : List Nat} (h : HBlk s w wr p l) : wr.cell? ⟨w.heap.size + 1 + 1 + 1 + 1, 0, none⟩ = some (.int .i64 (nth l 0)) ∧ wr.cell? ⟨w.heap.size + 1 + 1 + 1 + 1, 1, none⟩ = some (.int .i64 (nth l 1)) ∧ wr.cell? ⟨w.heap.size + 1 + 1 + 1 + 1, 2, none⟩ = some (.int .i64 (nth l 2)) ∧
    wr.cell? ⟨w.heap.size + 1 + 1 + 1 + 1, 3, none⟩ = some (.int .i64 (nth l 3)) ∧ wr.cell? ⟨w.heap.size + 1 + 1 + 1 + 1, 4, none⟩ = some (.int .i64 (nth l 4)) ∧ wr.cell? ⟨w.heap.size + 1 + 1 + 1 + 1, 5, none⟩ = some (.int .i64 (nth l 5)) ∧ wr.cell? ⟨w.heap.size + 1 + 1 + 1 + 1, 6, none⟩ = some (.int .i64 (nth l 6)) :=
  ⟨h.b4.cell (arr_get l 0 (by omega)), h.b4.cell (arr_get l 1 (by omega)), h.b4.cell (arr_get l 2 (by omega)), h.b4.cell (arr_get l 3 (by omega)), h.b4.cell (arr_get l 4 (by omega)), h.b4.cell (arr_get l 5 (by omega)), h.b4.cell (arr_get l 6 (by omega))⟩

theorem HBlk.at_ {s : ByteArray} {w wr : World} {p k : Nat} {l : List Nat} (h : HBlk s w wr p l) (hk : k < 9) :
    wr.cell? ⟨w.heap.size + 1 + 1 + 1 + 1, k, none⟩ = some (.int .i64 (nth l k)) ∧ wr.frozen? ⟨w.heap.size + 1 + 1 + 1 + 1, k, none⟩ = false := ⟨h.b4.cell (arr_get l k hk), h.b4.free k⟩

theorem HBlk.store' {s : ByteArray} {w wr : World} {p k : Nat} {l : List Nat} (h : HBlk s w wr p l) (n : Nat) (hk : l.length = k) (hl : k ≤ 8) :
    HBlk s w (wr.setCell ⟨w.heap.size + 1 + 1 + 1 + 1, k, none⟩ (.int .i64 (n : Nat))) p (l ++ [n]) := by
  subst hk; exact h.store n hl

theorem okS_no {s : ByteArray} {k n q : Nat} (hlt : q < s.size) (h : okS k (bt s q) = false) :
    (if q = s.size then ((0 : Nat), q, (3 : Nat), false) else if bt s q = 10 ∧ 4 ≤ k then (n, q + 1, 0, true) else if bt s q = 32 ∧ k < 8 then (n, q + 1, 0, false) else (0, q, 2, false)) = (0, q, 2, false) := by
  unfold okS at h
  simp only [decide_eq_false_iff_not] at h
  rw [if_neg (by omega), if_neg (fun e => h (.inr e)), if_neg (fun e => h (.inl e))]

theorem okS_more {s : ByteArray} {k n q : Nat} (h10 : ¬ bt s q = 10) (h : okS k (bt s q) = true) :
    (if bt s q = 10 ∧ 4 ≤ k then (n, q + 1, (0 : Nat), true) else if bt s q = 32 ∧ k < 8 then (n, q + 1, 0, false) else (0, q, 2, false)) = (n, q + 1, 0, false) := by
  unfold okS at h
  simp only [decide_eq_true_eq] at h
  rw [if_neg (fun e => h10 e.1), if_pos (h.resolve_right (fun e => h10 e.1))]

theorem okS_fin {s : ByteArray} {k n q : Nat} (h10 : bt s q = 10) (h : okS k (bt s q) = true) :
    (if bt s q = 10 ∧ 4 ≤ k then (n, q + 1, (0 : Nat), true) else if bt s q = 32 ∧ k < 8 then (n, q + 1, 0, false) else (0, q, 2, false)) = (n, q + 1, 0, true) := by
  unfold okS at h
  simp only [decide_eq_true_eq] at h
  rw [if_pos (by omega)]

theorem headL_stop_ {s : ByteArray} {l : List Nat} {k p q e : Nat} (hk : l.length = k) (hl : k ≤ 8) (h : stepH s k p = (0, q, e, false)) (he : e ≠ 0) : headL s (9 - l.length) p l = ([], q, e) := by
  subst hk; exact headL_stop hl h he

theorem headL_fin_ {s : ByteArray} {l : List Nat} {k p q n : Nat} (hk : l.length = k) (hl : k ≤ 8) (h : stepH s k p = (n, q, 0, true)) : headL s (9 - l.length) p l = (l ++ [n], q, 0) := by
  subst hk; exact headL_fin hl h

theorem headL_more_ {s : ByteArray} {l : List Nat} {k p q n : Nat} (hk : l.length = k) (hl : k ≤ 8) (h : stepH s k p = (n, q, 0, false)) : headL s (9 - (l ++ [n]).length) q (l ++ [n]) = headL s (9 - l.length) p l := by
  subst hk; exact (headL_more hl h).symm

theorem nth_bound {l : List Nat} (h : ∀ j, nth l j ≤ 16777216) (n : Nat) {top : Nat} (hn : n ≤ top) (ht : top ≤ 16777216) : ∀ j, nth (l ++ [n]) j ≤ 16777216 := by
  intro j
  rcases Nat.lt_trichotomy j l.length with h1 | h1 | h1
  · rw [nth_snoc_lt h1]; exact h j
  · subst h1; rw [nth_snoc]; omega
  · rw [nth_ge (by simp; omega)]; omega

theorem int_beq (a b : Nat) : ((a : Int) == (b : Int)) = decide (a = b) := by
  by_cases h : a = b
  · subst h; simp
  · rw [decide_eq_false h, beq_eq_false_iff_ne]; omega

/-- the end: the results are read -/
theorem head_end {s : ByteArray} {w wz : World} {b : Bool} {L : List Nat} {P E : Nat} {tmps : Array Value} (hT : headT s = (b, L, P, E))
    (ht2 : tmps[2]? = some (.pointer (some ⟨w.heap.size, 0, none⟩))) (ht3 : tmps[3]? = some (.pointer (some ⟨w.heap.size + 1, 0, none⟩))) (ht4 : tmps[4]? = some (.pointer (some ⟨w.heap.size + 1 + 1, 0, none⟩)))
    (h0 : Blk wz w.heap.size (headC b L) 23) (hA : Blk wz (w.heap.size + 1) #[.int .i64 (P : Nat)] 3) (hE : Blk wz (w.heap.size + 1 + 1) #[.int .i64 (E : Nat)] 24) (hk : Kp (fun _ => False) w wz) :
    Leaves Tryd.prog Tryd.f4 tmps (fun o w' => HeadP s w o w') [] .returning wz := by
  obtain ⟨z0, z1, z2, z3, z4, z5, z6, z7⟩ := h0.cells8
  have a0 := hA.cells1.1
  have e0 := hE.cells1.1
  refine ⟨.tuple #[headV b L, .int .i64 P, .int .i64 E], ?_, ?_⟩
  · simp [results, Tryd.results4, go_sem, ht2, ht3, ht4, z0, z1, z2, z3, z4, z5, z6, z7, a0, e0, headV]
  · unfold HeadP
    rw [hT]
    exact ⟨rfl, hk⟩

/-- the end behind a stop -/
theorem head_stop {s : ByteArray} {w wz w'' : World} {P E : Nat} {tmps : Array Value} (hT : headT s = (false, [], P, E))
    (ht2 : tmps[2]? = some (.pointer (some ⟨w.heap.size, 0, none⟩))) (ht3 : tmps[3]? = some (.pointer (some ⟨w.heap.size + 1, 0, none⟩))) (ht4 : tmps[4]? = some (.pointer (some ⟨w.heap.size + 1 + 1, 0, none⟩)))
    (h0 : Blk wz w.heap.size (headC false []) 23) (hk : Kp (fun _ => False) w wz)
    (hA : Blk w'' (w.heap.size + 1) #[.int .i64 (P : Nat)] 3) (hE : Blk w'' (w.heap.size + 1 + 1) #[.int .i64 (E : Nat)] 24) (hK : Kp (fun j => j = w.heap.size + 1 ∨ j = w.heap.size + 1 + 1) wz w'') (v : Value) :
    Leaves Tryd.prog Tryd.f4 tmps (fun o w' => HeadP s w o w') [] (settle (.panicking ({ v := v, recovered := true } :: []))) w'' :=
  head_end hT ht2 ht3 ht4 (h0.kp hK (by omega)) hA hE (hk.trans hK (fun i hi h => by omega))

theorem headT_sum {s : ByteArray} {L : List Nat} {q : Nat} {bb : Bool} (h1 : isHead s) (h : headL s 9 4 [] = (L, q, 0)) (hb : decide (bt s 1 = 105) = bb) (h2 : badSum bb L) : headT s = (false, [], 4, 5) := by
  unfold headT
  rw [if_neg (by simpa using h1), h, if_neg (by simp), hb, if_pos h2]

theorem headT_ok {s : ByteArray} {L : List Nat} {q : Nat} {bb : Bool} (h1 : isHead s) (h : headL s 9 4 [] = (L, q, 0)) (hb : decide (bt s 1 = 105) = bb) (h2 : ¬ badSum bb L) : headT s = (bb, L, q, 0) := by
  unfold headT
  rw [if_neg (by simpa using h1), h, if_neg (by simp), hb, if_neg h2]

theorem HBlk.fin {s : ByteArray} {w wz : World} {q : Nat} {L : List Nat} (h : HBlk s w wz q L) (y0 y1 y2 y3 y4 y5 y6 y7 : Value) (p e : Value) :
    Blk ((((((((((wz.setCell ⟨w.heap.size, 0, none⟩ y0).setCell ⟨w.heap.size, 1, none⟩ y1).setCell ⟨w.heap.size, 2, none⟩ y2).setCell ⟨w.heap.size, 3, none⟩ y3).setCell ⟨w.heap.size, 4, none⟩ y4).setCell ⟨w.heap.size, 5, none⟩ y5).setCell ⟨w.heap.size, 6, none⟩ y6).setCell ⟨w.heap.size, 7, none⟩ y7).setCell ⟨w.heap.size + 1, 0, none⟩ p).setCell ⟨w.heap.size + 1 + 1, 0, none⟩ e) w.heap.size #[y0, y1, y2, y3, y4, y5, y6, y7] 23 ∧
    Blk ((((((((((wz.setCell ⟨w.heap.size, 0, none⟩ y0).setCell ⟨w.heap.size, 1, none⟩ y1).setCell ⟨w.heap.size, 2, none⟩ y2).setCell ⟨w.heap.size, 3, none⟩ y3).setCell ⟨w.heap.size, 4, none⟩ y4).setCell ⟨w.heap.size, 5, none⟩ y5).setCell ⟨w.heap.size, 6, none⟩ y6).setCell ⟨w.heap.size, 7, none⟩ y7).setCell ⟨w.heap.size + 1, 0, none⟩ p).setCell ⟨w.heap.size + 1 + 1, 0, none⟩ e) (w.heap.size + 1) #[p] 3 ∧
    Blk ((((((((((wz.setCell ⟨w.heap.size, 0, none⟩ y0).setCell ⟨w.heap.size, 1, none⟩ y1).setCell ⟨w.heap.size, 2, none⟩ y2).setCell ⟨w.heap.size, 3, none⟩ y3).setCell ⟨w.heap.size, 4, none⟩ y4).setCell ⟨w.heap.size, 5, none⟩ y5).setCell ⟨w.heap.size, 6, none⟩ y6).setCell ⟨w.heap.size, 7, none⟩ y7).setCell ⟨w.heap.size + 1, 0, none⟩ p).setCell ⟨w.heap.size + 1 + 1, 0, none⟩ e) (w.heap.size + 1 + 1) #[e] 24 ∧
    Kp (fun _ => False) w ((((((((((wz.setCell ⟨w.heap.size, 0, none⟩ y0).setCell ⟨w.heap.size, 1, none⟩ y1).setCell ⟨w.heap.size, 2, none⟩ y2).setCell ⟨w.heap.size, 3, none⟩ y3).setCell ⟨w.heap.size, 4, none⟩ y4).setCell ⟨w.heap.size, 5, none⟩ y5).setCell ⟨w.heap.size, 6, none⟩ y6).setCell ⟨w.heap.size, 7, none⟩ y7).setCell ⟨w.heap.size + 1, 0, none⟩ p).setCell ⟨w.heap.size + 1 + 1, 0, none⟩ e) := by
  have hk := Kp.set8 (b := w.heap.size) (Kp.refl (fun j => j = w.heap.size) wz) (fun _ => rfl) y0 y1 y2 y3 y4 y5 y6 y7
  refine ⟨((h.b0.set8 y0 y1 y2 y3 y4 y5 y6 y7).set_other (by simp) _).set_other (by simp <;> omega) _, ((h.b1.kp hk (by omega)).set_same 0 p).set_other (by simp) _, ((h.b2.kp hk (by omega)).set_other (by simp) _).set_same 0 e,
    ((h.kp.trans hk (fun i hi h => by omega)).setCell (p := ⟨w.heap.size + 1, 0, none⟩) (by simp <;> omega) _).setCell (p := ⟨w.heap.size + 1 + 1, 0, none⟩) (by simp <;> omega) _⟩

set_option maxRecDepth 100000 in
set_option maxHeartbeats 8000000 in
theorem ascii_ReadHead (K : RdK) (s : ByteArray) (w : World) (hs : s.size ≤ 100000) :
    Calls Tryd.prog 4 #[.string s] w fun o w' => HeadP s w o w' := by
  have HK := Lib.hid K
  clear K
  have hmf : ∀ (fn : Fn) (first cap : Array Value) (w : World), (Instr.makeFunc fn first cap).run Tryd.prog w = .ok (.func fn first cap) w := fun _ _ _ _ => rfl
  have HIS := Lib.hid (isHead_pre s)
  have HN0 := Lib.hid (HBlk.new s w)
  by_cases hI : isHead s
  · have HI : Hid (isHead s) := Lib.hid hI
    have HIS2 := Lib.hid (HIS.out.2 hI)
    clear HIS hI
    go_enter_defers Tryd.func4, Tryd.ntmps4
    go_upto_region 1 with fail
    go_cut [19] from 12 to 19 (fun s19 wx => s19 = .bool false ∧ wx = ((w.alloc (.cells #[.bool false, .int .i64 0, .int .i64 0, .int .i64 0, .int .i64 0, .int .i64 0, .int .i64 0, .int .i64 0] 23)).alloc (.cells #[.int .i64 0] 3)).alloc (.cells #[.int .i64 0] 24))
    case first =>
      cases h1 : Lib.hasPrefix s.data.toList [97, 97, 103, 32] with
      | true =>
        go_wp2_with fail
        refine (HK.out.pre _ _ _).mono ?_
        rintro e w' ⟨rfl, rfl⟩
        rw [show (⟨#[97, 97, 103, 32]⟩ : ByteArray).data.toList = [97, 97, 103, 32] from rfl, h1]
        go_wp2_with fail
        go_meet
        case rel => exact ⟨rfl, rfl⟩
      | false =>
        have h2 : Lib.hasPrefix s.data.toList [97, 105, 103, 32] = true := HIS2.out.resolve_left (by rw [h1]; simp)
        go_wp2_with fail
        refine (HK.out.pre _ _ _).mono ?_
        rintro e w' ⟨rfl, rfl⟩
        rw [show (⟨#[97, 97, 103, 32]⟩ : ByteArray).data.toList = [97, 97, 103, 32] from rfl, h1]
        go_wp2_with fail
        refine (HK.out.pre _ _ _).mono ?_
        rintro e w' ⟨rfl, rfl⟩
        rw [show (⟨#[97, 105, 103, 32]⟩ : ByteArray).data.toList = [97, 105, 103, 32] from rfl, h2]
        go_wp2_with fail
        go_meet
        case rel => exact ⟨rfl, rfl⟩
    case rest =>
    obtain ⟨rfl, rfl⟩ := hcut
    go_upto_block 0 with fail
    go_cut [] from 7 to 45 (fun wx => ∃ L p, HBlk s w wx p L ∧ headL s 9 4 [] = (L, p, 0) ∧ ∀ j, nth L j ≤ 16777216)
    case first =>
      go_wp2_with fail
      go_loopw [25] (fun v25 wr => ∃ p l, v25 = .int .i64 l.length ∧ l.length ≤ 8 ∧ p ≤ s.size ∧ (∀ j, nth l j ≤ 16777216) ∧ headL s (9 - l.length) p l = headL s 9 4 [] ∧ HBlk s w wr p l) (fun v25 _ => 9 - (intOf v25).toNat)
      case atStart => exact ⟨4, [], rfl, by simp, HI.out.1, fun j => by rw [nth_ge (by simp)]; omega, rfl, HN0.out⟩
      case round =>
        obtain ⟨p, l, rfl, hl, hp, hb, hrun, hR⟩ := hrel
        have HR := Lib.hid hR
        have HRUN := Lib.hid hrun
        have HBD := Lib.hid hb
        clear hR hrun hb
        obtain ⟨k, hk⟩ : ∃ k, l.length = k := ⟨_, rfl⟩
        have HL := Lib.hid hk
        rw [hk]
        have hk8 : k ≤ 8 := by omega
        clear hk hl
        have d9 : decide ((k : Int) < 9) = true := by simp; omega
        by_cases hk : k < 4
        · have d7 : decide ((7 : Int) ≤ (k : Int)) = false := by simp; omega
          have e8 : ((k : Int) == 8) = false := by rw [beq_eq_false_iff_ne]; omega
          have d4 : decide ((4 : Int) ≤ (k : Int)) = false := by simp; omega
          have HS := Lib.hid (fun (q b : Nat) (u : World) (hq : q ≤ s.size) (hB : Blk u b #[.string s, .int .i64 q] 38) => sign_k HK.out s q b k u ⟨#[32]⟩ hs hq (.inl ⟨hk, rfl⟩) hB)
          have HTop := Lib.hid (show (if 7 ≤ k then 0 else 16777216) = 16777216 by rw [if_neg (by omega)])
          have HNm := Lib.hid (fun (b : Nat) (u : World) (hB : Blk u b #[.string s, .int .i64 p] 38) => ascii_number (fun s' p' u' hs' hp' => HK.out.nat s' p' u' hs' hp') s p 16777216 b u (by omega) hp hB)
          obtain ⟨n, hn⟩ : ∃ n, (natN s p).1 = n := ⟨_, rfl⟩
          obtain ⟨q, hq⟩ : ∃ q, (natN s p).2.1 = q := ⟨_, rfl⟩
          obtain ⟨E, hE⟩ : ∃ E, numE s p 16777216 = E := ⟨_, rfl⟩
          simp only [hn, hq, hE] at HNm
          have HN := Lib.hid (And.intro hn (And.intro hq hE))
          have HKK := Lib.hid hk
          clear hk hn hq hE
          go_wp2_with fail
          refine (HNm.out _ _ HR.out.b3).mono ?_
          rintro o w1 hNum
          unfold NumP at hNum
          rcases hNum with ⟨rfl, rfl, hK1, hB1⟩ | ⟨he, rfl, hK1, hB1⟩
          · have HZ1 := Lib.hid (HR.out.reader hK1 hB1)
            clear hK1 hB1 HNm
            obtain ⟨hpq, hqs, hnt⟩ := numE_ok hp HN.out.1 HN.out.2.1 HN.out.2.2
            have HSt := Lib.hid (stepH_sign (k := k) HTop.out HN.out.1 HN.out.2.1 HN.out.2.2)
            obtain ⟨c4, f4⟩ := HZ1.out.at_ (k := k) (by omega)
            have HZ2 := Lib.hid (HZ1.out.store' n HL.out hk8)
            go_wp2_with fail
            clear c4 f4
            refine (HS.out q _ _ hqs HZ2.out.b3).mono ?_
            rintro o w2 hSg
            unfold SignP at hSg
            rcases hSg with ⟨hlt, hok, rfl, hK2, hB2⟩ | ⟨hqe, rfl, hK2, hB2⟩ | ⟨hlt, hok, rfl, hK2, hB2⟩
            · have HZ3 := Lib.hid (HZ2.out.reader hK2 hB2)
              have HOK := Lib.hid hok
              clear hK2 hB2 hok HS
              rw [if_neg (by omega)] at HSt
              by_cases h10 : bt s q = 10
              · have e10 : ((bt s q : Int) == 10) = true := by rw [beq_iff_eq]; omega
                exact absurd HOK.out (by have := HKK.out; unfold okS; simp; omega)
              · have e10 : ((bt s q : Int) == 10) = false := by rw [beq_eq_false_iff_ne]; omega
                have HSt3 := Lib.hid (HSt.out.trans (okS_more h10 HOK.out))
                clear h10
                go_wp2_with fail
                go_round
                case rel =>
                  refine ⟨q + 1, l ++ [n], by rw [List.length_append, HL.out]; rfl, by rw [List.length_append, HL.out]; have := HKK.out; simp; omega, by omega, nth_bound HBD.out n hnt (by decide), (headL_more_ HL.out hk8 HSt3.out).trans HRUN.out, HZ3.out⟩
                case measure => simp [intOf]; omega
            · have HZ := Lib.hid (HZ2.out.reader hK2 hB2)
              rw [if_pos hqe] at HSt
              clear hK2 hB2 hqe
              go_wp2_with fail
              refine leaves_cons (f := 10) (args := #[.pointer (some ⟨w.heap.size + 1, 0, none⟩), .pointer (some ⟨w.heap.size + 1 + 1, 0, none⟩)]) (by simp) (by simp [go_sem]) ?_
              refine (stopped_panicking (w.heap.size + 1) (w.heap.size + 1 + 1) _ _ _ _ [] _ (by omega) HZ.out.b1 HZ.out.b2).mono ?_
              rintro e u' w'' ⟨rfl, rfl, hA, hE, hK⟩
              exact head_stop (headT_bad HI.out (HRUN.out.symm.trans (headL_stop_ HL.out hk8 HSt.out (by decide))) (by decide)) (by rfl) (by rfl) (by rfl) HZ.out.b0 HZ.out.kp hA hE hK _
            · have HZ := Lib.hid (HZ2.out.reader hK2 hB2)
              have HSt2 := Lib.hid (HSt.out.trans (okS_no hlt hok))
              clear hK2 hB2 hok
              go_wp2_with fail
              refine leaves_cons (f := 10) (args := #[.pointer (some ⟨w.heap.size + 1, 0, none⟩), .pointer (some ⟨w.heap.size + 1 + 1, 0, none⟩)]) (by simp) (by simp [go_sem]) ?_
              refine (stopped_panicking (w.heap.size + 1) (w.heap.size + 1 + 1) _ _ _ _ [] _ (by omega) HZ.out.b1 HZ.out.b2).mono ?_
              rintro e u' w'' ⟨rfl, rfl, hA, hE, hK⟩
              exact head_stop (headT_bad HI.out (HRUN.out.symm.trans (headL_stop_ HL.out hk8 HSt2.out (by decide))) (by decide)) (by rfl) (by rfl) (by rfl) HZ.out.b0 HZ.out.kp hA hE hK _
          · have HZ := Lib.hid (HR.out.reader hK1 hB1)
            have HE := Lib.hid he
            clear hK1 hB1 he HNm HS
            go_wp2_with fail
            refine leaves_cons (f := 10) (args := #[.pointer (some ⟨w.heap.size + 1, 0, none⟩), .pointer (some ⟨w.heap.size + 1 + 1, 0, none⟩)]) (by simp) (by simp [go_sem]) ?_
            refine (stopped_panicking (w.heap.size + 1) (w.heap.size + 1 + 1) _ _ _ _ [] _ (by omega) HZ.out.b1 HZ.out.b2).mono ?_
            rintro e u' w'' ⟨rfl, rfl, hA, hE, hK⟩
            exact head_stop (headT_bad HI.out (HRUN.out.symm.trans (headL_stop_ HL.out hk8 (stepH_num HTop.out HN.out.2.2 HE.out) HE.out)) HE.out) (by rfl) (by rfl) (by rfl) HZ.out.b0 HZ.out.kp hA hE hK _
        by_cases hk : 4 ≤ k ∧ k < 7
        · have d7 : decide ((7 : Int) ≤ (k : Int)) = false := by simp; omega
          have e8 : ((k : Int) == 8) = false := by rw [beq_eq_false_iff_ne]; omega
          have d4 : decide ((4 : Int) ≤ (k : Int)) = true := by simp; omega
          have HS := Lib.hid (fun (q b : Nat) (u : World) (hq : q ≤ s.size) (hB : Blk u b #[.string s, .int .i64 q] 38) => sign_k HK.out s q b k u ⟨#[32, 10]⟩ hs hq (.inr (.inl ⟨hk.1, by omega, rfl⟩)) hB)
          have HTop := Lib.hid (show (if 7 ≤ k then 0 else 16777216) = 16777216 by rw [if_neg (by omega)])
          have HNm := Lib.hid (fun (b : Nat) (u : World) (hB : Blk u b #[.string s, .int .i64 p] 38) => ascii_number (fun s' p' u' hs' hp' => HK.out.nat s' p' u' hs' hp') s p 16777216 b u (by omega) hp hB)
          obtain ⟨n, hn⟩ : ∃ n, (natN s p).1 = n := ⟨_, rfl⟩
          obtain ⟨q, hq⟩ : ∃ q, (natN s p).2.1 = q := ⟨_, rfl⟩
          obtain ⟨E, hE⟩ : ∃ E, numE s p 16777216 = E := ⟨_, rfl⟩
          simp only [hn, hq, hE] at HNm
          have HN := Lib.hid (And.intro hn (And.intro hq hE))
          have HKK := Lib.hid hk
          clear hk hn hq hE
          go_wp2_with fail
          refine (HNm.out _ _ HR.out.b3).mono ?_
          rintro o w1 hNum
          unfold NumP at hNum
          rcases hNum with ⟨rfl, rfl, hK1, hB1⟩ | ⟨he, rfl, hK1, hB1⟩
          · have HZ1 := Lib.hid (HR.out.reader hK1 hB1)
            clear hK1 hB1 HNm
            obtain ⟨hpq, hqs, hnt⟩ := numE_ok hp HN.out.1 HN.out.2.1 HN.out.2.2
            have HSt := Lib.hid (stepH_sign (k := k) HTop.out HN.out.1 HN.out.2.1 HN.out.2.2)
            obtain ⟨c4, f4⟩ := HZ1.out.at_ (k := k) (by omega)
            have HZ2 := Lib.hid (HZ1.out.store' n HL.out hk8)
            go_wp2_with fail
            clear c4 f4
            refine (HS.out q _ _ hqs HZ2.out.b3).mono ?_
            rintro o w2 hSg
            unfold SignP at hSg
            rcases hSg with ⟨hlt, hok, rfl, hK2, hB2⟩ | ⟨hqe, rfl, hK2, hB2⟩ | ⟨hlt, hok, rfl, hK2, hB2⟩
            · have HZ3 := Lib.hid (HZ2.out.reader hK2 hB2)
              have HOK := Lib.hid hok
              clear hK2 hB2 hok HS
              rw [if_neg (by omega)] at HSt
              by_cases h10 : bt s q = 10
              · have e10 : ((bt s q : Int) == 10) = true := by rw [beq_iff_eq]; omega
                have HF := Lib.hid (HSt.out.trans (okS_fin h10 HOK.out))
                have HHL := Lib.hid (HRUN.out.symm.trans (headL_fin_ HL.out hk8 HF.out))
                clear h10
                go_wp2_with fail
                go_meet
                case rel => exact ⟨l ++ [n], q + 1, HZ3.out, HHL.out, nth_bound HBD.out n hnt (by decide)⟩
              · have e10 : ((bt s q : Int) == 10) = false := by rw [beq_eq_false_iff_ne]; omega
                have HSt3 := Lib.hid (HSt.out.trans (okS_more h10 HOK.out))
                clear h10
                go_wp2_with fail
                go_round
                case rel =>
                  refine ⟨q + 1, l ++ [n], by rw [List.length_append, HL.out]; rfl, by rw [List.length_append, HL.out]; have := HKK.out; simp; omega, by omega, nth_bound HBD.out n hnt (by decide), (headL_more_ HL.out hk8 HSt3.out).trans HRUN.out, HZ3.out⟩
                case measure => simp [intOf]; omega
            · have HZ := Lib.hid (HZ2.out.reader hK2 hB2)
              rw [if_pos hqe] at HSt
              clear hK2 hB2 hqe
              go_wp2_with fail
              refine leaves_cons (f := 10) (args := #[.pointer (some ⟨w.heap.size + 1, 0, none⟩), .pointer (some ⟨w.heap.size + 1 + 1, 0, none⟩)]) (by simp) (by simp [go_sem]) ?_
              refine (stopped_panicking (w.heap.size + 1) (w.heap.size + 1 + 1) _ _ _ _ [] _ (by omega) HZ.out.b1 HZ.out.b2).mono ?_
              rintro e u' w'' ⟨rfl, rfl, hA, hE, hK⟩
              exact head_stop (headT_bad HI.out (HRUN.out.symm.trans (headL_stop_ HL.out hk8 HSt.out (by decide))) (by decide)) (by rfl) (by rfl) (by rfl) HZ.out.b0 HZ.out.kp hA hE hK _
            · have HZ := Lib.hid (HZ2.out.reader hK2 hB2)
              have HSt2 := Lib.hid (HSt.out.trans (okS_no hlt hok))
              clear hK2 hB2 hok
              go_wp2_with fail
              refine leaves_cons (f := 10) (args := #[.pointer (some ⟨w.heap.size + 1, 0, none⟩), .pointer (some ⟨w.heap.size + 1 + 1, 0, none⟩)]) (by simp) (by simp [go_sem]) ?_
              refine (stopped_panicking (w.heap.size + 1) (w.heap.size + 1 + 1) _ _ _ _ [] _ (by omega) HZ.out.b1 HZ.out.b2).mono ?_
              rintro e u' w'' ⟨rfl, rfl, hA, hE, hK⟩
              exact head_stop (headT_bad HI.out (HRUN.out.symm.trans (headL_stop_ HL.out hk8 HSt2.out (by decide))) (by decide)) (by rfl) (by rfl) (by rfl) HZ.out.b0 HZ.out.kp hA hE hK _
          · have HZ := Lib.hid (HR.out.reader hK1 hB1)
            have HE := Lib.hid he
            clear hK1 hB1 he HNm HS
            go_wp2_with fail
            refine leaves_cons (f := 10) (args := #[.pointer (some ⟨w.heap.size + 1, 0, none⟩), .pointer (some ⟨w.heap.size + 1 + 1, 0, none⟩)]) (by simp) (by simp [go_sem]) ?_
            refine (stopped_panicking (w.heap.size + 1) (w.heap.size + 1 + 1) _ _ _ _ [] _ (by omega) HZ.out.b1 HZ.out.b2).mono ?_
            rintro e u' w'' ⟨rfl, rfl, hA, hE, hK⟩
            exact head_stop (headT_bad HI.out (HRUN.out.symm.trans (headL_stop_ HL.out hk8 (stepH_num HTop.out HN.out.2.2 HE.out) HE.out)) HE.out) (by rfl) (by rfl) (by rfl) HZ.out.b0 HZ.out.kp hA hE hK _
        by_cases hk : k = 7
        · have d7 : decide ((7 : Int) ≤ (k : Int)) = true := by simp; omega
          have e8 : ((k : Int) == 8) = false := by rw [beq_eq_false_iff_ne]; omega
          have d4 : decide ((4 : Int) ≤ (k : Int)) = true := by simp; omega
          have HS := Lib.hid (fun (q b : Nat) (u : World) (hq : q ≤ s.size) (hB : Blk u b #[.string s, .int .i64 q] 38) => sign_k HK.out s q b k u ⟨#[32, 10]⟩ hs hq (.inr (.inl ⟨by omega, by omega, rfl⟩)) hB)
          have HTop := Lib.hid (show (if 7 ≤ k then 0 else 16777216) = 0 by rw [if_pos (by omega)])
          have HNm := Lib.hid (fun (b : Nat) (u : World) (hB : Blk u b #[.string s, .int .i64 p] 38) => ascii_number (fun s' p' u' hs' hp' => HK.out.nat s' p' u' hs' hp') s p 0 b u (by omega) hp hB)
          obtain ⟨n, hn⟩ : ∃ n, (natN s p).1 = n := ⟨_, rfl⟩
          obtain ⟨q, hq⟩ : ∃ q, (natN s p).2.1 = q := ⟨_, rfl⟩
          obtain ⟨E, hE⟩ : ∃ E, numE s p 0 = E := ⟨_, rfl⟩
          simp only [hn, hq, hE] at HNm
          have HN := Lib.hid (And.intro hn (And.intro hq hE))
          have HKK := Lib.hid hk
          clear hk hn hq hE
          go_wp2_with fail
          refine (HNm.out _ _ HR.out.b3).mono ?_
          rintro o w1 hNum
          unfold NumP at hNum
          rcases hNum with ⟨rfl, rfl, hK1, hB1⟩ | ⟨he, rfl, hK1, hB1⟩
          · have HZ1 := Lib.hid (HR.out.reader hK1 hB1)
            clear hK1 hB1 HNm
            obtain ⟨hpq, hqs, hnt⟩ := numE_ok hp HN.out.1 HN.out.2.1 HN.out.2.2
            have HSt := Lib.hid (stepH_sign (k := k) HTop.out HN.out.1 HN.out.2.1 HN.out.2.2)
            obtain ⟨c4, f4⟩ := HZ1.out.at_ (k := k) (by omega)
            have HZ2 := Lib.hid (HZ1.out.store' n HL.out hk8)
            go_wp2_with fail
            clear c4 f4
            refine (HS.out q _ _ hqs HZ2.out.b3).mono ?_
            rintro o w2 hSg
            unfold SignP at hSg
            rcases hSg with ⟨hlt, hok, rfl, hK2, hB2⟩ | ⟨hqe, rfl, hK2, hB2⟩ | ⟨hlt, hok, rfl, hK2, hB2⟩
            · have HZ3 := Lib.hid (HZ2.out.reader hK2 hB2)
              have HOK := Lib.hid hok
              clear hK2 hB2 hok HS
              rw [if_neg (by omega)] at HSt
              by_cases h10 : bt s q = 10
              · have e10 : ((bt s q : Int) == 10) = true := by rw [beq_iff_eq]; omega
                have HF := Lib.hid (HSt.out.trans (okS_fin h10 HOK.out))
                have HHL := Lib.hid (HRUN.out.symm.trans (headL_fin_ HL.out hk8 HF.out))
                clear h10
                go_wp2_with fail
                go_meet
                case rel => exact ⟨l ++ [n], q + 1, HZ3.out, HHL.out, nth_bound HBD.out n hnt (by decide)⟩
              · have e10 : ((bt s q : Int) == 10) = false := by rw [beq_eq_false_iff_ne]; omega
                have HSt3 := Lib.hid (HSt.out.trans (okS_more h10 HOK.out))
                clear h10
                go_wp2_with fail
                go_round
                case rel =>
                  refine ⟨q + 1, l ++ [n], by rw [List.length_append, HL.out]; rfl, by rw [List.length_append, HL.out]; have := HKK.out; simp; omega, by omega, nth_bound HBD.out n hnt (by decide), (headL_more_ HL.out hk8 HSt3.out).trans HRUN.out, HZ3.out⟩
                case measure => simp [intOf]; omega
            · have HZ := Lib.hid (HZ2.out.reader hK2 hB2)
              rw [if_pos hqe] at HSt
              clear hK2 hB2 hqe
              go_wp2_with fail
              refine leaves_cons (f := 10) (args := #[.pointer (some ⟨w.heap.size + 1, 0, none⟩), .pointer (some ⟨w.heap.size + 1 + 1, 0, none⟩)]) (by simp) (by simp [go_sem]) ?_
              refine (stopped_panicking (w.heap.size + 1) (w.heap.size + 1 + 1) _ _ _ _ [] _ (by omega) HZ.out.b1 HZ.out.b2).mono ?_
              rintro e u' w'' ⟨rfl, rfl, hA, hE, hK⟩
              exact head_stop (headT_bad HI.out (HRUN.out.symm.trans (headL_stop_ HL.out hk8 HSt.out (by decide))) (by decide)) (by rfl) (by rfl) (by rfl) HZ.out.b0 HZ.out.kp hA hE hK _
            · have HZ := Lib.hid (HZ2.out.reader hK2 hB2)
              have HSt2 := Lib.hid (HSt.out.trans (okS_no hlt hok))
              clear hK2 hB2 hok
              go_wp2_with fail
              refine leaves_cons (f := 10) (args := #[.pointer (some ⟨w.heap.size + 1, 0, none⟩), .pointer (some ⟨w.heap.size + 1 + 1, 0, none⟩)]) (by simp) (by simp [go_sem]) ?_
              refine (stopped_panicking (w.heap.size + 1) (w.heap.size + 1 + 1) _ _ _ _ [] _ (by omega) HZ.out.b1 HZ.out.b2).mono ?_
              rintro e u' w'' ⟨rfl, rfl, hA, hE, hK⟩
              exact head_stop (headT_bad HI.out (HRUN.out.symm.trans (headL_stop_ HL.out hk8 HSt2.out (by decide))) (by decide)) (by rfl) (by rfl) (by rfl) HZ.out.b0 HZ.out.kp hA hE hK _
          · have HZ := Lib.hid (HR.out.reader hK1 hB1)
            have HE := Lib.hid he
            clear hK1 hB1 he HNm HS
            go_wp2_with fail
            refine leaves_cons (f := 10) (args := #[.pointer (some ⟨w.heap.size + 1, 0, none⟩), .pointer (some ⟨w.heap.size + 1 + 1, 0, none⟩)]) (by simp) (by simp [go_sem]) ?_
            refine (stopped_panicking (w.heap.size + 1) (w.heap.size + 1 + 1) _ _ _ _ [] _ (by omega) HZ.out.b1 HZ.out.b2).mono ?_
            rintro e u' w'' ⟨rfl, rfl, hA, hE, hK⟩
            exact head_stop (headT_bad HI.out (HRUN.out.symm.trans (headL_stop_ HL.out hk8 (stepH_num HTop.out HN.out.2.2 HE.out) HE.out)) HE.out) (by rfl) (by rfl) (by rfl) HZ.out.b0 HZ.out.kp hA hE hK _
        by_cases hk : k = 8
        · have d7 : decide ((7 : Int) ≤ (k : Int)) = true := by simp; omega
          have e8 : ((k : Int) == 8) = true := by rw [beq_iff_eq]; omega
          have HS := Lib.hid (fun (q b : Nat) (u : World) (hq : q ≤ s.size) (hB : Blk u b #[.string s, .int .i64 q] 38) => sign_k HK.out s q b k u ⟨#[10]⟩ hs hq (.inr (.inr ⟨hk, rfl⟩)) hB)
          have HTop := Lib.hid (show (if 7 ≤ k then 0 else 16777216) = 0 by rw [if_pos (by omega)])
          have HNm := Lib.hid (fun (b : Nat) (u : World) (hB : Blk u b #[.string s, .int .i64 p] 38) => ascii_number (fun s' p' u' hs' hp' => HK.out.nat s' p' u' hs' hp') s p 0 b u (by omega) hp hB)
          obtain ⟨n, hn⟩ : ∃ n, (natN s p).1 = n := ⟨_, rfl⟩
          obtain ⟨q, hq⟩ : ∃ q, (natN s p).2.1 = q := ⟨_, rfl⟩
          obtain ⟨E, hE⟩ : ∃ E, numE s p 0 = E := ⟨_, rfl⟩
          simp only [hn, hq, hE] at HNm
          have HN := Lib.hid (And.intro hn (And.intro hq hE))
          have HKK := Lib.hid hk
          clear hk hn hq hE
          go_wp2_with fail
          refine (HNm.out _ _ HR.out.b3).mono ?_
          rintro o w1 hNum
          unfold NumP at hNum
          rcases hNum with ⟨rfl, rfl, hK1, hB1⟩ | ⟨he, rfl, hK1, hB1⟩
          · have HZ1 := Lib.hid (HR.out.reader hK1 hB1)
            clear hK1 hB1 HNm
            obtain ⟨hpq, hqs, hnt⟩ := numE_ok hp HN.out.1 HN.out.2.1 HN.out.2.2
            have HSt := Lib.hid (stepH_sign (k := k) HTop.out HN.out.1 HN.out.2.1 HN.out.2.2)
            obtain ⟨c4, f4⟩ := HZ1.out.at_ (k := k) (by omega)
            have HZ2 := Lib.hid (HZ1.out.store' n HL.out hk8)
            go_wp2_with fail
            clear c4 f4
            refine (HS.out q _ _ hqs HZ2.out.b3).mono ?_
            rintro o w2 hSg
            unfold SignP at hSg
            rcases hSg with ⟨hlt, hok, rfl, hK2, hB2⟩ | ⟨hqe, rfl, hK2, hB2⟩ | ⟨hlt, hok, rfl, hK2, hB2⟩
            · have HZ3 := Lib.hid (HZ2.out.reader hK2 hB2)
              have HOK := Lib.hid hok
              clear hK2 hB2 hok HS
              rw [if_neg (by omega)] at HSt
              by_cases h10 : bt s q = 10
              · have e10 : ((bt s q : Int) == 10) = true := by rw [beq_iff_eq]; omega
                have HF := Lib.hid (HSt.out.trans (okS_fin h10 HOK.out))
                have HHL := Lib.hid (HRUN.out.symm.trans (headL_fin_ HL.out hk8 HF.out))
                clear h10
                go_wp2_with fail
                go_meet
                case rel => exact ⟨l ++ [n], q + 1, HZ3.out, HHL.out, nth_bound HBD.out n hnt (by decide)⟩
              · have e10 : ((bt s q : Int) == 10) = false := by rw [beq_eq_false_iff_ne]; omega
                exact absurd HOK.out (by have := HKK.out; unfold okS; simp; omega)
            · have HZ := Lib.hid (HZ2.out.reader hK2 hB2)
              rw [if_pos hqe] at HSt
              clear hK2 hB2 hqe
              go_wp2_with fail
              refine leaves_cons (f := 10) (args := #[.pointer (some ⟨w.heap.size + 1, 0, none⟩), .pointer (some ⟨w.heap.size + 1 + 1, 0, none⟩)]) (by simp) (by simp [go_sem]) ?_
              refine (stopped_panicking (w.heap.size + 1) (w.heap.size + 1 + 1) _ _ _ _ [] _ (by omega) HZ.out.b1 HZ.out.b2).mono ?_
              rintro e u' w'' ⟨rfl, rfl, hA, hE, hK⟩
              exact head_stop (headT_bad HI.out (HRUN.out.symm.trans (headL_stop_ HL.out hk8 HSt.out (by decide))) (by decide)) (by rfl) (by rfl) (by rfl) HZ.out.b0 HZ.out.kp hA hE hK _
            · have HZ := Lib.hid (HZ2.out.reader hK2 hB2)
              have HSt2 := Lib.hid (HSt.out.trans (okS_no hlt hok))
              clear hK2 hB2 hok
              go_wp2_with fail
              refine leaves_cons (f := 10) (args := #[.pointer (some ⟨w.heap.size + 1, 0, none⟩), .pointer (some ⟨w.heap.size + 1 + 1, 0, none⟩)]) (by simp) (by simp [go_sem]) ?_
              refine (stopped_panicking (w.heap.size + 1) (w.heap.size + 1 + 1) _ _ _ _ [] _ (by omega) HZ.out.b1 HZ.out.b2).mono ?_
              rintro e u' w'' ⟨rfl, rfl, hA, hE, hK⟩
              exact head_stop (headT_bad HI.out (HRUN.out.symm.trans (headL_stop_ HL.out hk8 HSt2.out (by decide))) (by decide)) (by rfl) (by rfl) (by rfl) HZ.out.b0 HZ.out.kp hA hE hK _
          · have HZ := Lib.hid (HR.out.reader hK1 hB1)
            have HE := Lib.hid he
            clear hK1 hB1 he HNm HS
            go_wp2_with fail
            refine leaves_cons (f := 10) (args := #[.pointer (some ⟨w.heap.size + 1, 0, none⟩), .pointer (some ⟨w.heap.size + 1 + 1, 0, none⟩)]) (by simp) (by simp [go_sem]) ?_
            refine (stopped_panicking (w.heap.size + 1) (w.heap.size + 1 + 1) _ _ _ _ [] _ (by omega) HZ.out.b1 HZ.out.b2).mono ?_
            rintro e u' w'' ⟨rfl, rfl, hA, hE, hK⟩
            exact head_stop (headT_bad HI.out (HRUN.out.symm.trans (headL_stop_ HL.out hk8 (stepH_num HTop.out HN.out.2.2 HE.out) HE.out)) HE.out) (by rfl) (by rfl) (by rfl) HZ.out.b0 HZ.out.kp hA hE hK _
        omega
    case rest =>
      obtain ⟨L, q, hZ, hHL, hBL⟩ := hcut
      have HZ3 := Lib.hid hZ
      have HHL := Lib.hid hHL
      have HBL := Lib.hid hBL
      clear hZ hHL hBL
      obtain ⟨q0, q1, q2, q3, q4, fz, fa, fe, ca, ce, cr⟩ := HZ3.out.outs
      have fz0 := fz 0
      have fz1 := fz 1
      have fz2 := fz 2
      have fz3 := fz 3
      have fz4 := fz 4
      have fz5 := fz 5
      have fz6 := fz 6
      have fz7 := fz 7
      clear fz
      obtain ⟨z0, z1, z2, z3, z4, z5, z6, z7⟩ := HZ3.out.b0.cells8
      have k0 := HBL.out 0
      have k1 := HBL.out 1
      have k2 := HBL.out 2
      have k4 := HBL.out 4
      have h4 := HI.out.1
      have l1 : (1 : Int) < (s.size : Int) := by omega
      have hb1 := bt_eq (s := s) (i := 1) (by omega)
      obtain ⟨bb, hbb⟩ : ∃ bb, ((bt s 1 : Int) == 105) = bb := ⟨_, rfl⟩
      have HBB := Lib.hid (show decide (bt s 1 = 105) = bb by rw [← hbb]; exact (int_beq (bt s 1) 105).symm)
      have haig : ∀ h, ((⟨#[97, 105, 103, 32]⟩ : ByteArray)[1]'h).toNat = 105 := fun _ => rfl
      have HQ : Hid (w.heap.size + 1 + 1 + 1 + 1 < wc.heap.size) := Lib.hid q4
      obtain ⟨wa, rfl⟩ : ∃ wa : World, wa = wc := ⟨_, rfl⟩
      go_upto_region 18 with fail
      go_cut [10] from 46 to 64 (fun s10 wx => ∃ nb, s10 = .pointer (some ⟨nb, 0, none⟩) ∧ HBlk s w wx q L ∧ w.heap.size + 1 + 1 + 1 + 1 < nb ∧ Blk wx nb (headC bb L) 23)
      case first =>
        clear q0 q1 q2 q3 q4 fa fe ca ce cr fz0 fz1 fz2 fz3 fz4 fz5 fz6 fz7 z0 z1 z2 z3 z4 z5 z6 z7 k0 k1 k2 k4 hmf
        go_region_held3 (fun u => u.cell? ⟨w.heap.size + 1 + 1 + 1 + 1, 0, none⟩ = some (.int .i64 (nth L 0)) ∧ u.cell? ⟨w.heap.size + 1 + 1 + 1 + 1, 1, none⟩ = some (.int .i64 (nth L 1)) ∧ u.cell? ⟨w.heap.size + 1 + 1 + 1 + 1, 2, none⟩ = some (.int .i64 (nth L 2)) ∧ u.cell? ⟨w.heap.size + 1 + 1 + 1 + 1, 3, none⟩ = some (.int .i64 (nth L 3)) ∧ u.cell? ⟨w.heap.size + 1 + 1 + 1 + 1, 4, none⟩ = some (.int .i64 (nth L 4)) ∧ u.cell? ⟨w.heap.size + 1 + 1 + 1 + 1, 5, none⟩ = some (.int .i64 (nth L 5)) ∧ u.cell? ⟨w.heap.size + 1 + 1 + 1 + 1, 6, none⟩ = some (.int .i64 (nth L 6))) (first | exact HZ3.out.cells | exact HZ3.out.drew.cells | exact (HZ3.out.alloc _).cells | exact (HZ3.out.drew.alloc _).cells | exact (HZ3.out.alloc _).drew.cells) (fail)
        all_goals go_wp2_with fail
        all_goals go_meet
        all_goals exact ⟨_, rfl, (HZ3.out.alloc _).drew, HQ.out, (Blk.new wa _ _).drew⟩
      case rest =>
        obtain ⟨nb, rfl, hZ4, hnb, hB⟩ := hcut
        clear q0 q1 q2 q3 q4 fa fe ca ce cr fz0 fz1 fz2 fz3 fz4 fz5 fz6 fz7 z0 z1 z2 z3 z4 z5 z6 z7 haig l1 hb1
        have HZ4 := Lib.hid hZ4
        have HB4 := Lib.hid hB
        have HNB := Lib.hid hnb
        obtain ⟨q0, q1, q2, q3, q4, fz, fa, fe, ca, ce, cr⟩ := hZ4.outs
        have fz0 := fz 0
        have fz1 := fz 1
        have fz2 := fz 2
        have fz3 := fz 3
        have fz4 := fz 4
        have fz5 := fz 5
        have fz6 := fz 6
        have fz7 := fz 7
        clear fz
        obtain ⟨z0, z1, z2, z3, z4, z5, z6, z7⟩ := hZ4.b0.cells8
        obtain ⟨y0, y1, y2, y3, y4, y5, y6, y7⟩ := hB.cells8
        clear hZ4 hB hnb
        have j0 := HNB.out
        have j1 : nb < wc.heap.size := HB4.out.lt
        by_cases C1 : nth L 0 < nth L 1 + nth L 2 + nth L 4
        · have t1 : decide ((nth L 0 : Int) < (nth L 1 : Int) + (nth L 2 : Int) + (nth L 4 : Int)) = true := by simp; omega
          have HT := Lib.hid (headT_sum HI.out HHL.out HBB.out (.inl C1))
          clear C1
          go_wp2_with fail
          refine leaves_cons (f := 10) (args := #[.pointer (some ⟨w.heap.size + 1, 0, none⟩), .pointer (some ⟨w.heap.size + 1 + 1, 0, none⟩)]) (by simp) (by simp [go_sem]) ?_
          refine (stopped_idle _ _ _).mono ?_
          rintro e u' w'' ⟨rfl, rfl, rfl⟩
          have hF := HZ4.out.fin (.bool false) (.int .i64 0) (.int .i64 0) (.int .i64 0) (.int .i64 0) (.int .i64 0) (.int .i64 0) (.int .i64 0) (.int .i64 4) (.int .i64 5)
          exact head_end HT.out rfl rfl rfl hF.1 hF.2.1 hF.2.2.1 hF.2.2.2
        · have t1 : decide ((nth L 0 : Int) < (nth L 1 : Int) + (nth L 2 : Int) + (nth L 4 : Int)) = false := by simp; omega
          cases bb with
          | false =>
            have HT := Lib.hid (headT_ok HI.out HHL.out HBB.out (fun h => by rcases h with h | ⟨h, _⟩; exact C1 h; cases h))
            clear C1
            go_wp2_with fail
            go_region
            all_goals go_wp2_with fail
            all_goals refine leaves_cons (f := 10) (args := #[.pointer (some ⟨w.heap.size + 1, 0, none⟩), .pointer (some ⟨w.heap.size + 1 + 1, 0, none⟩)]) (by simp) (by simp [go_sem]) ?_
            all_goals refine (stopped_idle _ _ _).mono ?_
            all_goals rintro e u' w'' ⟨rfl, rfl, rfl⟩
            have hF := HZ4.out.fin (.bool false) (.int .i64 (nth L 0)) (.int .i64 (nth L 1)) (.int .i64 (nth L 2)) (.int .i64 (nth L 3)) (.int .i64 (nth L 4)) (.int .i64 (nth L 5)) (.int .i64 (nth L 6)) (.int .i64 q) (.int .i64 0)
            all_goals exact head_end HT.out rfl rfl rfl hF.1.drew hF.2.1.drew hF.2.2.1.drew hF.2.2.2.drew
          | true =>
            by_cases C2 : nth L 1 + nth L 2 + nth L 4 < nth L 0
            · have t2 : decide ((nth L 1 : Int) + (nth L 2 : Int) + (nth L 4 : Int) < (nth L 0 : Int)) = true := by simp; omega
              have HT := Lib.hid (headT_sum HI.out HHL.out HBB.out (.inr ⟨rfl, C2⟩))
              clear C1 C2
              go_wp2_with fail
              refine leaves_cons (f := 10) (args := #[.pointer (some ⟨w.heap.size + 1, 0, none⟩), .pointer (some ⟨w.heap.size + 1 + 1, 0, none⟩)]) (by simp) (by simp [go_sem]) ?_
              refine (stopped_idle _ _ _).mono ?_
              rintro e u' w'' ⟨rfl, rfl, rfl⟩
              have hF := HZ4.out.fin (.bool false) (.int .i64 0) (.int .i64 0) (.int .i64 0) (.int .i64 0) (.int .i64 0) (.int .i64 0) (.int .i64 0) (.int .i64 4) (.int .i64 5)
              exact head_end HT.out rfl rfl rfl hF.1 hF.2.1 hF.2.2.1 hF.2.2.2
            · have t2 : decide ((nth L 1 : Int) + (nth L 2 : Int) + (nth L 4 : Int) < (nth L 0 : Int)) = false := by simp; omega
              have HT := Lib.hid (headT_ok HI.out HHL.out HBB.out (fun h => by rcases h with h | ⟨_, h⟩; exact C1 h; exact C2 h))
              clear C1 C2
              go_wp2_with fail
              go_region
              all_goals go_wp2_with fail
              all_goals refine leaves_cons (f := 10) (args := #[.pointer (some ⟨w.heap.size + 1, 0, none⟩), .pointer (some ⟨w.heap.size + 1 + 1, 0, none⟩)]) (by simp) (by simp [go_sem]) ?_
              all_goals refine (stopped_idle _ _ _).mono ?_
              all_goals rintro e u' w'' ⟨rfl, rfl, rfl⟩
              have hF := HZ4.out.fin (.bool true) (.int .i64 (nth L 0)) (.int .i64 (nth L 1)) (.int .i64 (nth L 2)) (.int .i64 (nth L 3)) (.int .i64 (nth L 4)) (.int .i64 (nth L 5)) (.int .i64 (nth L 6)) (.int .i64 q) (.int .i64 0)
              all_goals exact head_end HT.out rfl rfl rfl hF.1.drew hF.2.1.drew hF.2.2.1.drew hF.2.2.2.drew
  · have HT := Lib.hid (show headT s = (false, [], 0, 2) by unfold headT; rw [if_pos hI])
    have h1 : Lib.hasPrefix s.data.toList [97, 97, 103, 32] = false := by cases h : Lib.hasPrefix s.data.toList [97, 97, 103, 32]; rfl; exact absurd (HIS.out.1 (.inl h)) hI
    have h2 : Lib.hasPrefix s.data.toList [97, 105, 103, 32] = false := by cases h : Lib.hasPrefix s.data.toList [97, 105, 103, 32]; rfl; exact absurd (HIS.out.1 (.inr h)) hI
    clear hI HIS
    go_enter_defers Tryd.func4, Tryd.ntmps4
    go_wp2_with fail
    refine (HK.out.pre _ _ _).mono ?_
    rintro e w' ⟨rfl, rfl⟩
    rw [show (⟨#[97, 97, 103, 32]⟩ : ByteArray).data.toList = [97, 97, 103, 32] from rfl, h1]
    go_wp2_with fail
    refine (HK.out.pre _ _ _).mono ?_
    rintro e w' ⟨rfl, rfl⟩
    rw [show (⟨#[97, 105, 103, 32]⟩ : ByteArray).data.toList = [97, 105, 103, 32] from rfl, h2]
    go_wp2_with fail
    have key : ∀ (u : World) (c : Array Value) (t : TypeId) (n : Nat), u.heap.size = n → Blk (u.alloc (.cells c t)) n c t := fun u c t n h => by subst h; exact Blk.new u c t
    exact head_end HT.out rfl rfl rfl (((Blk.new w _ _).alloc _).alloc _) ((key _ _ _ _ (by simp)).alloc _) (key _ _ _ _ (by simp)) ((((Kp.refl _ w).alloc _).alloc _).alloc _)

end Go.Proofs.YtjeaggfjjdfacaaDoor

/-
  ascii.Read's two closures: a literal with its sign; so many lines of one literal.
-/
namespace Go.Proofs.YtjeaggfjjdfacaaDoor
open Go.RowKit

/-- what the closures of a call of ascii.Read stand on: the reader's variable, the head, the reader, the closure's variable -/
structure LBlk (s : ByteArray) (bv bh br bl : Nat) (w : World) (p : Nat) : Prop where
  v : Blk w bv #[.pointer (some ⟨br, 0, none⟩)] 36
  h : Blk w bh #[.bool false, .int .i64 1, .int .i64 0, .int .i64 1, .int .i64 0, .int .i64 0, .int .i64 1, .int .i64 0] 23
  r : Blk w br #[.string s, .int .i64 p] 38
  l : Blk w bl #[.func (Fn.func 25) #[] #[.pointer (some ⟨bv, 0, none⟩), .pointer (some ⟨bh, 0, none⟩)]] 66
  n1 : bv ≠ br
  n2 : bh ≠ br
  n3 : bl ≠ br

theorem LBlk.kp {s : ByteArray} {bv bh br bl p : Nat} {w w' : World} (h : LBlk s bv bh br bl w p) {S : Nat → Prop} (hK : Kp S w w') (h1 : ¬ S bv) (h2 : ¬ S bh) (h3 : ¬ S br) (h4 : ¬ S bl) : LBlk s bv bh br bl w' p :=
  ⟨h.v.kp hK h1, h.h.kp hK h2, h.r.kp hK h3, h.l.kp hK h4, h.n1, h.n2, h.n3⟩

theorem LBlk.read {s : ByteArray} {bv bh br bl p q : Nat} {w w' : World} (h : LBlk s bv bh br bl w p) (hK : Kp (fun j => j = br) w w') (hB : Blk w' br #[.string s, .int .i64 q] 38) : LBlk s bv bh br bl w' q :=
  ⟨h.v.kp hK h.n1, h.h.kp hK h.n2, hB, h.l.kp hK h.n3, h.n1, h.n2, h.n3⟩

set_option maxRecDepth 100000 in
set_option maxHeartbeats 2000000 in
theorem ascii_lit (K : RdK) (s some_ : ByteArray) (p n q k bv bh br bl : Nat) (w : World) (hs : s.size ≤ 100000) (hp : p ≤ s.size) (hN : natN s p = (n, q, 0)) (hn : n ≤ 3) (hq : q < s.size) (hok : okS k (bt s q) = true)
    (hk : k < 4 ∧ some_ = ⟨#[32]⟩ ∨ 4 ≤ k ∧ k < 8 ∧ some_ = ⟨#[32, 10]⟩ ∨ k = 8 ∧ some_ = ⟨#[10]⟩) (hL : LBlk s bv bh br bl w p) :
    Calls Tryd.prog 25 #[.string some_, .pointer (some ⟨bv, 0, none⟩), .pointer (some ⟨bh, 0, none⟩)] w fun o w' =>
      o = .returned (.tuple #[.int .i64 n, .int .u8 (bt s q)]) ∧ Kp (fun j => j = br) w w' ∧ LBlk s bv bh br bl w' (q + 1) := by
  have HNm := Lib.hid (ascii_number (fun s' p' u' hs' hp' => K.nat s' p' u' hs' hp') s p 3 br w (by omega) hp hL.r)
  have HSg := Lib.hid (fun (u : World) (hB : Blk u br #[.string s, .int .i64 q] 38) => sign_k K s q br k u some_ hs (by omega) hk hB)
  have hE : numE s p 3 = 0 := by unfold numE; rw [hN, if_neg (by simp), if_neg (by omega)]
  rw [hE, hN] at HNm
  rw [hok] at HSg
  have HL := Lib.hid hL
  have v0 := hL.v.cells1.1
  have h1 : w.cell? ⟨bh, 1, none⟩ = some (.int .i64 1) := hL.h.cell rfl
  have HQ := Lib.hid hq
  clear hL hE hN hk hok hp hs hn hq K
  go_enter Tryd.func25, Tryd.ntmps25
  go_wp2_with fail
  refine HNm.out.mono ?_
  rintro o w1 hNum
  unfold NumP at hNum
  rcases hNum with ⟨-, rfl, hK1, hB1⟩ | ⟨he, -⟩
  · have HL1 := Lib.hid (HL.out.read hK1 hB1)
    have HK1 := Lib.hid hK1
    clear hK1 hB1 v0 h1
    have v0 := HL1.out.v.cells1.1
    go_wp2_with fail
    refine (HSg.out _ HL1.out.r).mono ?_
    rintro o w2 hSg
    unfold SignP at hSg
    rcases hSg with ⟨-, -, rfl, hK2, hB2⟩ | ⟨hqe, -⟩ | ⟨-, hf, -⟩
    · have HL2 := Lib.hid (HL1.out.read hK2 hB2)
      have HK2 := Lib.hid (HK1.out.trans hK2 (fun _ _ h => h))
      clear hK2 hB2
      go_wp2_with fail
      go_ret2
      exact ⟨rfl, HK2.out, HL2.out⟩
    · exact absurd hqe (by have := HQ.out; omega)
    · cases hf
  · exact absurd rfl he

set_option maxRecDepth 100000 in
set_option maxHeartbeats 2000000 in
theorem ascii_lits0 (bl : Nat) (w : World) :
    Calls Tryd.prog 26 #[.int .i64 0, .pointer (some ⟨bl, 0, none⟩)] w fun o w' => o = .returned (.slice none 0 0) ∧ w = w' := by
  go_enter Tryd.func26, Tryd.ntmps26
  go_wp2_with fail
  go_loopw [4, 8] (fun v4 v8 wr => v8 = .int .i64 0 ∧ v4 = .slice none 0 0 ∧ wr = w) (fun _ _ _ => 0)
  case atStart => exact ⟨rfl, rfl, rfl⟩
  case round =>
    obtain ⟨rfl, rfl, rfl⟩ := hrel
    go_wp2_with fail
    go_ret
    exact ⟨rfl, rfl⟩

set_option maxRecDepth 100000 in
set_option maxHeartbeats 2000000 in
theorem ascii_lits1 (K : RdK) (s : ByteArray) (p n q bv bh br bl : Nat) (w : World) (hs : s.size ≤ 100000) (hp : p ≤ s.size) (hN : natN s p = (n, q, 0)) (hn : n ≤ 3) (hq : q < s.size) (hb : bt s q = 10) (hL : LBlk s bv bh br bl w p) :
    Calls Tryd.prog 26 #[.int .i64 1, .pointer (some ⟨bl, 0, none⟩)] w fun o w' =>
      ∃ g c, o = .returned (.slice (some ⟨g, 0, none⟩) 1 c) ∧ w.heap.size ≤ g ∧ Own w' w.heap.size 3 (.slice (some ⟨g, 0, none⟩) 1 c) [.int .i64 n] ∧ Kp (fun j => j = br) w w' ∧ LBlk s bv bh br bl w' (q + 1) := by
  have HLit := Lib.hid (ascii_lit K s ⟨#[10]⟩ p n q 8 bv bh br bl w hs hp hN hn hq (by unfold okS; rw [hb]; decide) (.inr (.inr ⟨rfl, rfl⟩)) hL)
  rw [hb] at HLit
  have HL := Lib.hid hL
  have l0 := hL.l.cells1.1
  clear hL hs hp hN hn hq hb K
  go_enter Tryd.func26, Tryd.ntmps26
  go_wp2_with fail
  go_loopw [4, 8] (fun v4 v8 wr => (v8 = .int .i64 0 ∧ v4 = .slice none 0 0 ∧ wr = w) ∨ (v8 = .int .i64 1 ∧ ∃ g c, v4 = .slice (some ⟨g, 0, none⟩) 1 c ∧ w.heap.size ≤ g ∧ Own wr w.heap.size 3 v4 [.int .i64 n] ∧ Kp (fun j => j = br) w wr ∧ LBlk s bv bh br bl wr (q + 1))) (fun _ v8 _ => 1 - (intOf v8).toNat)
  case atStart => exact .inl ⟨rfl, rfl, rfl⟩
  case round =>
    rcases hrel with ⟨rfl, rfl, rfl⟩ | ⟨rfl, g, c, rfl, hg, hO, hK, hL⟩
    · go_wp2_with fail
      refine HLit.out.mono ?_
      rintro o w1 ⟨rfl, hK1, hL1⟩
      have HK1 := Lib.hid hK1
      have HL1 := Lib.hid hL1
      have hsz := hK1.size
      clear hK1 hL1 l0
      go_wp2_with (at_builtin; refine wpList_append1 rfl _ _ 42 3 rfl Tryd.underlying42 (by kernel_rfl : (Tryd.prog.info? 3).map (fun i => (i.zero, i.size, i.bytes)) = some (some (.int .i64 0), 1, 8)) rfl (base := wr.heap.size) (Own.nil _ _ _) rfl ⟨w1.heap.size, 0, none⟩ (.int .i64 n) rfl ?c1 rfl ?c2 ?c3 ?c4 ?_)
      case c1 => simp
      case c2 => simp
      case c3 => simp [maxLen]
      case c4 => simp; omega
      intro v3 w3 hO3 hg3
      have hK3 : Kp (fun _ => False) w1 w3 := ((Kp.refl _ w1).alloc _).grown hg3 (fun j hj _ => by simp [Value.ownBlock] at hj)
      obtain ⟨g, c, hv, hg, _⟩ := hO3.leads (by simp)
      change v3 = .slice _ 1 c at hv
      subst hv
      have HRel := Lib.hid (show ∃ g' c', Value.slice (some ⟨g, 0, none⟩) 1 c = .slice (some ⟨g', 0, none⟩) 1 c' ∧ wr.heap.size ≤ g' ∧ Own w3 wr.heap.size 3 (.slice (some ⟨g, 0, none⟩) 1 c) [.int .i64 n] ∧ Kp (fun j => j = br) wr w3 ∧ LBlk s bv bh br bl w3 (q + 1) from
        ⟨g, c, rfl, hg, hO3, HK1.out.trans hK3 (fun _ _ h => h.elim), HL1.out.kp hK3 (fun h => h) (fun h => h) (fun h => h) (fun h => h)⟩)
      clear hO3 hg3 hK3
      go_wp2_with fail
      go_roundw
      case rel => exact .inr ⟨rfl, HRel.out⟩
      case measure => simp [intOf]
    · clear l0
      go_wp2_with fail
      go_ret
      exact ⟨g, c, rfl, hg, hO, hK, hL⟩

end Go.Proofs.YtjeaggfjjdfacaaDoor

/-
  Slices of structs of k cells each, of the call's own. No program in sight.
-/
namespace Go.Proofs.YtjeaggfjjdfacaaDoor
open Go.RowKit

theorem flat_length {k : Nat} : ∀ {rows : List (List Value)}, (∀ r ∈ rows, r.length = k) → rows.flatten.length = rows.length * k
  | [], _ => by simp
  | r :: rows, h => by
    rw [List.flatten_cons, List.length_append, h r (by simp), flat_length (fun x hx => h x (by simp [hx])), List.length_cons, Nat.succ_mul]
    omega

theorem flat_at {k : Nat} : ∀ {rows : List (List Value)}, (∀ r ∈ rows, r.length = k) → ∀ {j i : Nat} {r : List Value} {u : Value}, rows[j]? = some r → r[i]? = some u → rows.flatten[j * k + i]? = some u
  | [], _, j, i, r, u, hj, _ => by simp at hj
  | x :: rows, h, 0, i, r, u, hj, hi => by
    simp at hj
    subst hj
    have hl : i < x.length := (List.getElem?_eq_some_iff.1 hi).1
    rw [List.flatten_cons, List.getElem?_append_left (by omega), Nat.zero_mul, Nat.zero_add]
    exact hi
  | x :: rows, h, j + 1, i, r, u, hj, hi => by
    have hx := h x (by simp)
    rw [List.flatten_cons, List.getElem?_append_right (by rw [hx, Nat.succ_mul]; omega), hx, show (j + 1) * k + i - k = j * k + i by rw [Nat.succ_mul]; omega]
    exact flat_at (fun y hy => h y (by simp [hy])) (by simpa using hj) hi

/-- v owns rows of k cells each -/
structure OwnK (w : World) (base : Nat) (e : TypeId) (k : Nat) (v : Value) (rows : List (List Value)) : Prop where
  own : w.ownsRow base e k v rows.length rows.flatten
  len : ∀ r ∈ rows, r.length = k

section
variable {w w' : World} {base : Nat} {e : TypeId} {k : Nat} {v : Value} {rows : List (List Value)}

theorem OwnK.nil (w : World) (base : Nat) (e : TypeId) (k : Nat) : OwnK w base e k (.slice none 0 0) [] := ⟨World.ownsRow_nil _ _ _ _, fun r h => by cases h⟩

theorem OwnK.form (h : OwnK w base e k v rows) : ∃ a cap, v = .slice a rows.length cap ∧ rows.length ≤ cap ∧ cap ≤ maxLen ∧ (a = none → cap = 0) ∧ (∀ p, a = some p → ∃ g, p = ⟨g, 0, none⟩ ∧ base ≤ g ∧ g < w.heap.size) ∧ RowAt w a rows.flatten := by
  rcases h.own.2 with ⟨rfl, hn⟩ | ⟨g, cap, cur, rfl, hb, hg, hnc, hcm, hcs, htake⟩
  · refine ⟨none, 0, by rw [hn], by omega, by simp [maxLen], fun _ => rfl, fun p hp => by simp at hp, ?_⟩
    have : rows = [] := List.eq_nil_of_length_eq_zero hn
    subst this
    exact RowAt.nil _ _
  · refine ⟨_, cap, rfl, hnc, hcm, (fun h => by cases h), fun p hp => ⟨g, by simpa using hp.symm, hb, (Array.getElem?_eq_some_iff.1 hg).1⟩, ?_⟩
    have hB : Blk w g cur e := hg
    exact hB.rowAt (off := 0) (n := rows.length * k) (by simpa using htake)

theorem OwnK.kp {S : Nat → Prop} (h : OwnK w base e k v rows) (kk : Kp S w w') (hS : ∀ j, v.ownBlock = some j → ¬ S j) : OwnK w' base e k v rows := by
  refine ⟨⟨h.own.1, ?_⟩, h.len⟩
  rcases h.own.2 with hn | ⟨g, cap, cur, rfl, hb, hgg, rest⟩
  · exact .inl hn
  · refine .inr ⟨g, cap, cur, rfl, hb, ?_, rest⟩
    rw [kk.block g (Array.getElem?_eq_some_iff.1 hgg).1 (hS g rfl)]
    exact hgg

theorem OwnK.mono {b' : Nat} (h : OwnK w base e k v rows) (hb : b' ≤ base) : OwnK w b' e k v rows := by
  refine ⟨⟨h.own.1, ?_⟩, h.len⟩
  rcases h.own.2 with hn | ⟨g, cap, cur, rfl, hg, hgg, rest⟩
  · exact .inl hn
  · exact .inr ⟨g, cap, cur, rfl, by omega, hgg, rest⟩

theorem OwnK.lt (h : OwnK w base e k v rows) : ∀ j, v.ownBlock = some j → base ≤ j ∧ j < w.heap.size := World.ownsRow.lt h.own

theorem OwnK.leads (h : OwnK w base e k v rows) (hc : 0 < rows.length) : ∃ g cap, v = .slice (some ⟨g, 0, none⟩) rows.length cap ∧ base ≤ g ∧ g < w.heap.size := by
  rcases h.own.2 with ⟨rfl, hn⟩ | ⟨g, cap, cur, rfl, hb, hg, _⟩
  · omega
  · exact ⟨g, cap, rfl, hb, (Array.getElem?_eq_some_iff.1 hg).1⟩

theorem OwnK.alloc (h : OwnK w base e k v rows) (o : Obj) : OwnK (w.alloc o) base e k v rows := ⟨World.ownsRow.alloc h.own o, h.len⟩
theorem OwnK.drew (h : OwnK w base e k v rows) : OwnK w.drew base e k v rows := ⟨h.own, h.len⟩
theorem OwnK.drewN (h : OwnK w base e k v rows) (n : Nat) : OwnK (w.drewN n) base e k v rows := ⟨h.own, h.len⟩
end

/-- the row of cells at a, as rows of k cells: cell i of row j -/
theorem RowAt.cellAt {w : World} {a : Option Addr} {k : Nat} {rows : List (List Value)} (h : RowAt w a rows.flatten) (hl : ∀ r ∈ rows, r.length = k) {j i : Nat} {r : List Value} {u : Value} (hj : rows[j]? = some r) (hi : r[i]? = some u) : Elem w a (j * k + i) u :=
  h _ _ (flat_at hl hj hi)

/-- 'append(v, x)' of one struct x of k cells, which lies at the head of block ad -/
theorem wpList_appendK {P : Program} {w : World} {ops : Array Oper} {rest : List Oper} {o : Oper} {a : Act} {Q : Exit → Act → World → Prop} (hgd : o.guard = none) (s x : Operand) (t e : TypeId)
    (ho : o.op = .call { callee := .builtin .append, args := #[s, x], argTypes := #[t, t] }) {z : Value} {k bytes : Nat}
    (ht : P.underlying t = some (.slice e)) (hI : (P.info? e).map (fun i => (i.zero, i.size, i.bytes)) = some (some z, k, bytes)) (hzs : z.cells.size = k) (hk : 0 < k)
    {base : Nat} {v : Value} {rows : List (List Value)} (hown : OwnK w base e k v rows) (hs : a.eval s = v) (b : Nat) (r : List Value) (hx : a.eval x = .slice (some ⟨b, 0, none⟩) 1 1) (hr : r.length = k) (hnew : ∀ j u, r[j]? = some u → w.cell? ⟨b, j, none⟩ = some u) (h1 : ∀ u ∈ r, u.oneCell' = true)
    (hbytes : (rows.length + 1) * bytes ≤ 140737488355328) (hm : rows.length + 1 ≤ maxLen) (hbase : base ≤ w.heap.size)
    (h : ∀ v' w', OwnK w' base e k v' (rows ++ [r]) → w.grownBy w' v.ownBlock → (v'.ownBlock = v.ownBlock ∨ v'.ownBlock = some w.heap.size) → wpList P ops Q rest (a.put o.dst v') w') : wpList P ops Q (o :: rest) a w := by
  obtain ⟨i0, hi, hz0, hz1, hz2⟩ := info_parts hI
  refine wpList_append_own_at _ hgd s x t ho base e i0 z k bytes ht hi hz0 hz1 hz2 hzs hk v rows.length rows.flatten hs hown.own ⟨b, 0, none⟩ 1 1 r hx (by omega) ?_ h1 hm hbytes hbase ?_
  · intro j u hj
    rw [add_plain', Nat.zero_add]
    exact hnew j u hj
  · intro v' w' h2 h3 _ h5
    refine h v' w' ⟨?_, ?_⟩ h3 h5
    · rw [List.length_append, List.flatten_append]
      simpa using h2
    · intro x hx
      rcases List.mem_append.1 hx with h | h
      · exact hown.len x h
      · simp at h; subst h; exact hr

end Go.Proofs.YtjeaggfjjdfacaaDoor

/-
  ascii.Read of the example's lines.
-/
namespace Go.Proofs.YtjeaggfjjdfacaaDoor
open Go.RowKit

def circ0 : Array Value := #[.int .i64 1, .slice none 0 0, .slice none 0 0, .slice none 0 0, .slice none 0 0, .slice none 0 0, .slice none 0 0, .slice none 0 0, .string ⟨#[]⟩]
def circz : Array Value := #[.int .i64 0, .slice none 0 0, .slice none 0 0, .slice none 0 0, .slice none 0 0, .slice none 0 0, .slice none 0 0, .slice none 0 0, .string ⟨#[]⟩]
def headX : Array Value := #[.bool false, .int .i64 1, .int .i64 0, .int .i64 1, .int .i64 0, .int .i64 0, .int .i64 1, .int .i64 0]

theorem latchInfo : (Tryd.prog.info? 56).map (fun i => (i.zero, i.size, i.bytes)) = some (some (.agg #[.int .i64 0, .int .i64 0, .int .i64 0]), 3, 24) := by kernel_rfl

theorem four_new (w : World) (c : Array Value) (t : TypeId) : Blk ((((w.alloc (.cells c t)).alloc (.cells circz 51)).alloc (.cells #[.int .i64 0] 3)).alloc (.cells #[.int .i64 0] 24)) w.heap.size c t ∧
    Blk ((((w.alloc (.cells c t)).alloc (.cells circz 51)).alloc (.cells #[.int .i64 0] 3)).alloc (.cells #[.int .i64 0] 24)) (w.heap.size + 1) circz 51 ∧
    Blk ((((w.alloc (.cells c t)).alloc (.cells circz 51)).alloc (.cells #[.int .i64 0] 3)).alloc (.cells #[.int .i64 0] 24)) (w.heap.size + 1 + 1) #[.int .i64 0] 3 ∧
    Blk ((((w.alloc (.cells c t)).alloc (.cells circz 51)).alloc (.cells #[.int .i64 0] 3)).alloc (.cells #[.int .i64 0] 24)) (w.heap.size + 1 + 1 + 1) #[.int .i64 0] 24 ∧
    Kp (fun _ => False) w ((((w.alloc (.cells c t)).alloc (.cells circz 51)).alloc (.cells #[.int .i64 0] 3)).alloc (.cells #[.int .i64 0] 24)) := by
  have key : ∀ (u : World) (c : Array Value) (t : TypeId) (n : Nat), u.heap.size = n → Blk (u.alloc (.cells c t)) n c t := fun u c t n h => by subst h; exact Blk.new u c t
  exact ⟨(((Blk.new w _ _).alloc _).alloc _).alloc _, ((key _ _ _ _ (by simp)).alloc _).alloc _, (key _ _ _ _ (by simp)).alloc _, key _ _ _ _ (by simp), ((((Kp.refl _ w).alloc _).alloc _).alloc _).alloc _⟩

theorem three_new (w : World) (c0 c1 c2 : Array Value) (t0 t1 t2 : TypeId) :
    Blk (((w.alloc (.cells c0 t0)).alloc (.cells c1 t1)).alloc (.cells c2 t2)).drew w.heap.size c0 t0 ∧ Blk (((w.alloc (.cells c0 t0)).alloc (.cells c1 t1)).alloc (.cells c2 t2)).drew (w.heap.size + 1) c1 t1 ∧
    Blk (((w.alloc (.cells c0 t0)).alloc (.cells c1 t1)).alloc (.cells c2 t2)).drew (w.heap.size + 1 + 1) c2 t2 := by
  have key : ∀ (u : World) (c : Array Value) (t : TypeId) (n : Nat), u.heap.size = n → Blk (u.alloc (.cells c t)) n c t := fun u c t n h => by subst h; exact Blk.new u c t
  exact ⟨((Blk.new w _ _).alloc _).alloc _, (key _ _ _ _ (by simp)).alloc _, key _ _ _ _ (by simp)⟩

theorem Blk.cells9 {w : World} {b : Nat} {x0 x1 x2 x3 x4 x5 x6 x7 x8 : Value} {t : TypeId} (h : Blk w b #[x0, x1, x2, x3, x4, x5, x6, x7, x8] t) :
    w.cell? ⟨b, 0, none⟩ = some x0 ∧ w.cell? ⟨b, 1, none⟩ = some x1 ∧ w.cell? ⟨b, 2, none⟩ = some x2 ∧ w.cell? ⟨b, 3, none⟩ = some x3 ∧ w.cell? ⟨b, 4, none⟩ = some x4 ∧ w.cell? ⟨b, 5, none⟩ = some x5 ∧ w.cell? ⟨b, 6, none⟩ = some x6 ∧ w.cell? ⟨b, 7, none⟩ = some x7 ∧ w.cell? ⟨b, 8, none⟩ = some x8 :=
  ⟨h.cell rfl, h.cell rfl, h.cell rfl, h.cell rfl, h.cell rfl, h.cell rfl, h.cell rfl, h.cell rfl, h.cell rfl⟩

/-- nine cells, set one by one -/
def set9 (w : World) (b : Nat) (y0 y1 y2 y3 y4 y5 y6 y7 y8 : Value) : World :=
  ((((((((w.setCell ⟨b, 0, none⟩ y0).setCell ⟨b, 1, none⟩ y1).setCell ⟨b, 2, none⟩ y2).setCell ⟨b, 3, none⟩ y3).setCell ⟨b, 4, none⟩ y4).setCell ⟨b, 5, none⟩ y5).setCell ⟨b, 6, none⟩ y6).setCell ⟨b, 7, none⟩ y7).setCell ⟨b, 8, none⟩ y8

theorem Blk.set9 {w : World} {b : Nat} {x0 x1 x2 x3 x4 x5 x6 x7 x8 : Value} {t : TypeId} (h : Blk w b #[x0, x1, x2, x3, x4, x5, x6, x7, x8] t) (y0 y1 y2 y3 y4 y5 y6 y7 y8 : Value) :
    Blk (set9 w b y0 y1 y2 y3 y4 y5 y6 y7 y8) b #[y0, y1, y2, y3, y4, y5, y6, y7, y8] t := by
  have h7 := ((((((((h.set_same 0 y0).set_same 1 y1).set_same 2 y2).set_same 3 y3).set_same 4 y4).set_same 5 y5).set_same 6 y6).set_same 7 y7).set_same 8 y8
  unfold Go.Proofs.YtjeaggfjjdfacaaDoor.set9
  simpa only [List.setIfInBounds_toArray, List.set_cons_zero, List.set_cons_succ] using h7

theorem Kp.set9 (w : World) (b : Nat) (y0 y1 y2 y3 y4 y5 y6 y7 y8 : Value) : Kp (fun j => j = b) w (set9 w b y0 y1 y2 y3 y4 y5 y6 y7 y8) :=
  (((((((((Kp.refl (fun j => j = b) w).setCell (p := ⟨b, 0, none⟩) (fun _ => rfl) y0).setCell (p := ⟨b, 1, none⟩) (fun _ => rfl) y1).setCell (p := ⟨b, 2, none⟩) (fun _ => rfl) y2).setCell (p := ⟨b, 3, none⟩) (fun _ => rfl) y3).setCell (p := ⟨b, 4, none⟩) (fun _ => rfl) y4).setCell (p := ⟨b, 5, none⟩) (fun _ => rfl) y5).setCell (p := ⟨b, 6, none⟩) (fun _ => rfl) y6).setCell (p := ⟨b, 7, none⟩) (fun _ => rfl) y7).setCell (p := ⟨b, 8, none⟩) (fun _ => rfl) y8

/-- the circuit that is read -/
def circA (i la o b c : Value) : Array Value := #[.int .i64 1, i, la, o, b, c, .slice none 0 0, .slice none 0 0, .string ⟨#[]⟩]

/-- what a call of ascii.Read holds ahead of its closures -/
structure RSt (s : ByteArray) (w wx : World) (bv br bo : Nat) : Prop where
  h : Blk wx w.heap.size headX 23
  c : Blk wx (w.heap.size + 1) circz 51
  a : Blk wx (w.heap.size + 1 + 1) #[.int .i64 0] 3
  e : Blk wx (w.heap.size + 1 + 1 + 1) #[.int .i64 0] 24
  v : Blk wx bv #[.pointer (some ⟨br, 0, none⟩)] 36
  r : Blk wx br #[.string s, .int .i64 16] 38
  o : Blk wx bo (circA (.slice none 0 0) (.slice none 0 0) (.slice none 0 0) (.slice none 0 0) (.slice none 0 0)) 51
  ne : bv ≠ br ∧ bo ≠ br ∧ bo ≠ bv ∧ w.heap.size + 3 < bv ∧ w.heap.size + 3 < br ∧ w.heap.size + 3 < bo
  kp : Kp (fun _ => False) w wx

/-- with the closures -/
structure XSt (s : ByteArray) (w wx : World) (bv br bo bl p : Nat) (C : Array Value) : Prop where
  L : LBlk s bv w.heap.size br bl wx p
  c : Blk wx (w.heap.size + 1) circz 51
  a : Blk wx (w.heap.size + 1 + 1) #[.int .i64 0] 3
  e : Blk wx (w.heap.size + 1 + 1 + 1) #[.int .i64 0] 24
  o : Blk wx bo C 51
  ne : bv ≠ br ∧ bo ≠ br ∧ bo ≠ bv ∧ bl ≠ bo ∧ bl ≠ bv ∧ bl ≠ br ∧ w.heap.size + 3 < bv ∧ w.heap.size + 3 < br ∧ w.heap.size + 3 < bo ∧ w.heap.size + 3 < bl
  kp : Kp (fun _ => False) w wx

theorem RSt.one {s : ByteArray} {w wx : World} {bv br bo : Nat} (h : RSt s w wx bv br bo) : RSt s w (wx.setCell ⟨bo, 1, none⟩ (.slice none 0 0)) bv br bo := by
  have := h.ne
  have hK := Kp.set wx ⟨bo, 1, none⟩ (.slice none 0 0)
  exact ⟨h.h.kp hK (by simp; omega), h.c.kp hK (by simp; omega), h.a.kp hK (by simp; omega), h.e.kp hK (by simp; omega), h.v.kp hK (by simp; omega), h.r.kp hK (by simp; omega), h.o.set_same 1 (.slice none 0 0), h.ne, h.kp.setCell (p := ⟨bo, 1, none⟩) (by simp; omega) _⟩

theorem RSt.lit {s : ByteArray} {w wx : World} {bv br bo : Nat} (h : RSt s w wx bv br bo) :
    XSt s w (wx.alloc (.cells #[.func (Fn.func 25) #[] #[.pointer (some ⟨bv, 0, none⟩), .pointer (some ⟨w.heap.size, 0, none⟩)]] 66)) bv br bo wx.heap.size 16 (circA (.slice none 0 0) (.slice none 0 0) (.slice none 0 0) (.slice none 0 0) (.slice none 0 0)) := by
  have := h.ne
  have := h.v.lt
  have := h.r.lt
  have := h.o.lt
  have := h.h.lt
  exact ⟨⟨h.v.alloc _, h.h.alloc _, h.r.alloc _, Blk.new _ _ _, by omega, by omega, by omega⟩, h.c.alloc _, h.a.alloc _, h.e.alloc _, h.o.alloc _, by omega, h.kp.alloc _⟩

section
variable {s : ByteArray} {w wx : World} {bv br bo bl p : Nat} {C : Array Value}

theorem XSt.kpF {w2 : World} (h : XSt s w wx bv br bo bl p C) (hK : Kp (fun _ => False) wx w2) : XSt s w w2 bv br bo bl p C :=
  ⟨h.L.kp hK (fun h => h) (fun h => h) (fun h => h) (fun h => h), h.c.kp hK (fun h => h), h.a.kp hK (fun h => h), h.e.kp hK (fun h => h), h.o.kp hK (fun h => h), h.ne, h.kp.trans hK (fun _ _ h => h)⟩

theorem XSt.kpN {w2 : World} {S : Nat → Prop} (h : XSt s w wx bv br bo bl p C) (hK : Kp S wx w2) (hS : ∀ j, j < wx.heap.size → ¬ S j) : XSt s w w2 bv br bo bl p C :=
  h.kpF (hK.mono (fun i hi h => hS i hi h))

theorem XSt.kpS {w2 : World} {S : Nat → Prop} (h : XSt s w wx bv br bo bl p C) (hK : Kp S wx w2) (hS : ∀ j, S j → j ≠ bv ∧ j ≠ br ∧ j ≠ bo ∧ j ≠ bl ∧ w.heap.size + 3 < j) : XSt s w w2 bv br bo bl p C := by
  have hn := h.ne
  refine ⟨h.L.kp hK (fun h => absurd rfl (hS _ h).1) (fun h => by have := (hS _ h).2.2.2.2; omega) (fun h => absurd rfl (hS _ h).2.1) (fun h => absurd rfl (hS _ h).2.2.2.1), h.c.kp hK (fun h => by have := (hS _ h).2.2.2.2; omega), h.a.kp hK (fun h => by have := (hS _ h).2.2.2.2; omega), h.e.kp hK (fun h => by have := (hS _ h).2.2.2.2; omega), h.o.kp hK (fun h => absurd rfl (hS _ h).2.2.1), h.ne, h.kp.trans hK (fun i hi h => by have := (hS _ h).2.2.2.2; omega)⟩

theorem XSt.read {q : Nat} {w2 : World} (h : XSt s w wx bv br bo bl p C) (hK : Kp (fun j => j = br) wx w2) (hL : LBlk s bv w.heap.size br bl w2 q) : XSt s w w2 bv br bo bl q C := by
  have := h.ne
  exact ⟨hL, h.c.kp hK (by omega), h.a.kp hK (by omega), h.e.kp hK (by omega), h.o.kp hK (by omega), h.ne, h.kp.trans hK (fun i hi h => by omega)⟩

theorem XSt.set (h : XSt s w wx bv br bo bl p C) (i : Nat) (v : Value) : XSt s w (wx.setCell ⟨bo, i, none⟩ v) bv br bo bl p (C.setIfInBounds i v) := by
  have := h.ne
  have hK := Kp.set wx ⟨bo, i, none⟩ v
  exact ⟨h.L.kp hK (by simp; omega) (by simp; omega) (by simp; omega) (by simp; omega), h.c.kp hK (by simp; omega), h.a.kp hK (by simp; omega), h.e.kp hK (by simp; omega), h.o.set_same i v, h.ne, h.kp.setCell (p := ⟨bo, i, none⟩) (by simp; omega) v⟩
end

theorem XSt.fin {s : ByteArray} {w wx : World} {bv br bo bl q : Nat} {C : Array Value} (h : XSt s w wx bv br bo bl q C) (y0 y1 y2 y3 y4 y5 y6 y7 y8 p e : Value) :
    Blk (((set9 wx (w.heap.size + 1) y0 y1 y2 y3 y4 y5 y6 y7 y8).setCell ⟨w.heap.size + 1 + 1, 0, none⟩ p).setCell ⟨w.heap.size + 1 + 1 + 1, 0, none⟩ e).drew (w.heap.size + 1) #[y0, y1, y2, y3, y4, y5, y6, y7, y8] 51 ∧ Blk (((set9 wx (w.heap.size + 1) y0 y1 y2 y3 y4 y5 y6 y7 y8).setCell ⟨w.heap.size + 1 + 1, 0, none⟩ p).setCell ⟨w.heap.size + 1 + 1 + 1, 0, none⟩ e).drew (w.heap.size + 1 + 1) #[p] 3 ∧ Blk (((set9 wx (w.heap.size + 1) y0 y1 y2 y3 y4 y5 y6 y7 y8).setCell ⟨w.heap.size + 1 + 1, 0, none⟩ p).setCell ⟨w.heap.size + 1 + 1 + 1, 0, none⟩ e).drew (w.heap.size + 1 + 1 + 1) #[e] 24 ∧ Kp (fun _ => False) w (((set9 wx (w.heap.size + 1) y0 y1 y2 y3 y4 y5 y6 y7 y8).setCell ⟨w.heap.size + 1 + 1, 0, none⟩ p).setCell ⟨w.heap.size + 1 + 1 + 1, 0, none⟩ e).drew ∧
    ∀ g k v, w.heap.size + 3 < g → wx.cell? ⟨g, k, none⟩ = some v → ((((set9 wx (w.heap.size + 1) y0 y1 y2 y3 y4 y5 y6 y7 y8).setCell ⟨w.heap.size + 1 + 1, 0, none⟩ p).setCell ⟨w.heap.size + 1 + 1 + 1, 0, none⟩ e).drew).cell? ⟨g, k, none⟩ = some v := by
  have hk := Kp.set9 wx (w.heap.size + 1) y0 y1 y2 y3 y4 y5 y6 y7 y8
  have hK : Kp (fun j => w.heap.size ≤ j ∧ j ≤ w.heap.size + 3) wx (((set9 wx (w.heap.size + 1) y0 y1 y2 y3 y4 y5 y6 y7 y8).setCell ⟨w.heap.size + 1 + 1, 0, none⟩ p).setCell ⟨w.heap.size + 1 + 1 + 1, 0, none⟩ e).drew := (((hk.mono (fun i hi h => by omega)).setCell (p := ⟨w.heap.size + 1 + 1, 0, none⟩) (fun _ => by simp <;> omega) p).setCell (p := ⟨w.heap.size + 1 + 1 + 1, 0, none⟩) (fun _ => by simp <;> omega) e).drew
  refine ⟨(((h.c.set9 y0 y1 y2 y3 y4 y5 y6 y7 y8).set_other (by simp) _).set_other (by simp <;> omega) _).drew, (((h.a.kp hk (by omega)).set_same 0 p).set_other (by simp) _).drew, (((h.e.kp hk (by omega)).set_other (by simp) _).set_same 0 e).drew,
    h.kp.trans hK (fun i hi h => by omega), fun g k v hg hc => ?_⟩
  exact (World.cell?_of_block (a := ⟨g, k, none⟩) (hK.block g (World.block_lt_of_cell? wx _ hc) (by omega))).trans hc

theorem XSt.drew {s : ByteArray} {w wx : World} {bv br bo bl p : Nat} {C : Array Value} (h : XSt s w wx bv br bo bl p C) : XSt s w wx.drew bv br bo bl p C :=
  h.kpF (Kp.refl _ wx).drew

theorem XSt.heads {s : ByteArray} {w wx : World} {bv br bo bl p : Nat} {C : Array Value} (h : XSt s w wx bv br bo bl p C) :
    wx.cell? ⟨w.heap.size, 4, none⟩ = some (.int .i64 0) ∧ wx.cell? ⟨w.heap.size, 6, none⟩ = some (.int .i64 1) ∧ wx.cell? ⟨w.heap.size, 7, none⟩ = some (.int .i64 0) := ⟨h.L.h.cell rfl, h.L.h.cell rfl, h.L.h.cell rfl⟩

set_option maxRecDepth 100000 in
set_option maxHeartbeats 8000000 in
theorem ascii_Read_ex (K : RdK) (s : ByteArray) (w : World) (hsz : s.size = 22) (N1 : natN s 16 = (2, 17, 0)) (b17 : bt s 17 = 32) (N2 : natN s 18 = (3, 19, 0)) (b19 : bt s 19 = 10) (N3 : natN s 20 = (2, 21, 0)) (b21 : bt s 21 = 10) :
    Calls Tryd.prog 16 #[.string s, .int .i64 16, .agg headX] w fun o w' => ∃ gl cl gb cb,
      o = .returned (.tuple #[.agg #[.int .i64 1, .slice none 0 0, .slice (some ⟨gl, 0, none⟩) 1 cl, .slice none 0 0, .slice (some ⟨gb, 0, none⟩) 1 cb, .slice none 0 0, .slice none 0 0, .slice none 0 0, .string ⟨#[]⟩], .int .i64 22, .int .i64 0]) ∧
      w'.cell? ⟨gl, 0, none⟩ = some (.int .i64 2) ∧ w'.cell? ⟨gl, 1, none⟩ = some (.int .i64 3) ∧ w'.cell? ⟨gl, 2, none⟩ = some (.int .i64 0) ∧ w'.cell? ⟨gb, 0, none⟩ = some (.int .i64 2) ∧ Kp (fun _ => False) w w' := by
  have hmf : ∀ (fn : Fn) (first cap : Array Value) (w : World), (Instr.makeFunc fn first cap).run Tryd.prog w = .ok (.func fn first cap) w := fun _ _ _ _ => rfl
  have d1 : decide ((s.size : Int) < 16) = false := by simp; omega
  have HF := Lib.hid (And.intro hsz (And.intro N1 (And.intro b17 (And.intro N2 (And.intro b19 (And.intro N3 b21))))))
  clear hsz N1 b17 N2 b19 N3 b21
  have HK := Lib.hid K
  clear K
  obtain ⟨wz, hwz⟩ : ∃ wz : World, wz = (((w.alloc (.cells #[.bool false, .int .i64 1, .int .i64 0, .int .i64 1, .int .i64 0, .int .i64 0, .int .i64 1, .int .i64 0] 23)).alloc (.cells #[.int .i64 0, .slice none 0 0, .slice none 0 0, .slice none 0 0, .slice none 0 0, .slice none 0 0, .slice none 0 0, .slice none 0 0, .string ⟨#[]⟩] 51)).alloc (.cells #[.int .i64 0] 3)).alloc (.cells #[.int .i64 0] 24) := ⟨_, rfl⟩
  have HB := Lib.hid (four_new w headX 23)
  rw [show (((w.alloc (.cells headX 23)).alloc (.cells circz 51)).alloc (.cells #[.int .i64 0] 3)).alloc (.cells #[.int .i64 0] 24) = wz from hwz.symm] at HB
  have HZ := Lib.hid hwz
  clear hwz
  unfold headX at *
  go_enter_defers Tryd.func16, Tryd.ntmps16
  go_upto_region 4 with fail
  rw [show (((w.alloc (.cells #[.bool false, .int .i64 1, .int .i64 0, .int .i64 1, .int .i64 0, .int .i64 0, .int .i64 1, .int .i64 0] 23)).alloc (.cells #[.int .i64 0, .slice none 0 0, .slice none 0 0, .slice none 0 0, .slice none 0 0, .slice none 0 0, .slice none 0 0, .slice none 0 0, .string ⟨#[]⟩] 51)).alloc (.cells #[.int .i64 0] 3)).alloc (.cells #[.int .i64 0] 24) = wz from HZ.out.symm]
  go_cut [9, 10] from 25 to 31 (fun s9 s10 wx => ∃ bv br bo, s9 = .pointer (some ⟨bv, 0, none⟩) ∧ s10 = .pointer (some ⟨bo, 0, none⟩) ∧ RSt s w wx bv br bo)
  case first =>
    have HH := Lib.hid (fun u (hK : Kp (fun j => w.heap.size + 4 ≤ j) wz u) => (HB.out.1.kp hK (by omega)).cell (i := 1) (v := .int .i64 1) rfl)
    have h1 := HH.out _ (Kp.refl _ _)
    have HW := Lib.hid (HB.out.2.2.2.1.lt)
    clear d1 hmf HZ
    go_region_held3 (fun u => u.cell? ⟨w.heap.size, 1, none⟩ = some (.int .i64 1)) (exact HH.out _ (by repeat (with_reducible first | exact Kp.refl _ _ | apply Kp.alloc | apply Kp.drew))) (fail)
    all_goals go_wp2_with fail
    all_goals go_meet
    all_goals first
      | (refine ⟨_, wz.heap.size, _, rfl, rfl, ((HB.out.1.alloc _).alloc _).alloc _, ((HB.out.2.1.alloc _).alloc _).alloc _, ((HB.out.2.2.1.alloc _).alloc _).alloc _, ((HB.out.2.2.2.1.alloc _).alloc _).alloc _, ?_, ?_, ?_, ?_, (((HB.out.2.2.2.2.alloc _).alloc _).alloc _).drew⟩ <;> first | exact (three_new _ _ _ _ _ _ _).1 | exact (three_new _ _ _ _ _ _ _).2.1 | exact (three_new _ _ _ _ _ _ _).2.2 | (have := HW.out; omega))
      | (refine ⟨_, wz.heap.size + 1, _, rfl, rfl, ((HB.out.1.alloc _).alloc _).alloc _, ((HB.out.2.1.alloc _).alloc _).alloc _, ((HB.out.2.2.1.alloc _).alloc _).alloc _, ((HB.out.2.2.2.1.alloc _).alloc _).alloc _, ?_, ?_, ?_, ?_, (((HB.out.2.2.2.2.alloc _).alloc _).alloc _).drew⟩ <;> first | exact (three_new _ _ _ _ _ _ _).1 | exact (three_new _ _ _ _ _ _ _).2.1 | exact (three_new _ _ _ _ _ _ _).2.2 | (have := HW.out; omega))
      | (refine ⟨_, wz.heap.size + 1 + 1, _, rfl, rfl, ((HB.out.1.alloc _).alloc _).alloc _, ((HB.out.2.1.alloc _).alloc _).alloc _, ((HB.out.2.2.1.alloc _).alloc _).alloc _, ((HB.out.2.2.2.1.alloc _).alloc _).alloc _, ?_, ?_, ?_, ?_, (((HB.out.2.2.2.2.alloc _).alloc _).alloc _).drew⟩ <;> first | exact (three_new _ _ _ _ _ _ _).1 | exact (three_new _ _ _ _ _ _ _).2.1 | exact (three_new _ _ _ _ _ _ _).2.2 | (have := HW.out; omega))
  case rest =>
  obtain ⟨bv, br, bo, rfl, rfl, hR⟩ := hcut
  have HX : Hid (XSt s w ((wc.setCell ⟨bo, 1, none⟩ (.slice none 0 0)).alloc (.cells #[.func (Fn.func 25) #[] #[.pointer (some ⟨bv, 0, none⟩), .pointer (some ⟨w.heap.size, 0, none⟩)]] 66)) bv br bo wc.heap.size 16 (circA (.slice none 0 0) (.slice none 0 0) (.slice none 0 0) (.slice none 0 0) (.slice none 0 0))) := Lib.hid (by
    have h := hR.one.lit
    rw [show (wc.setCell ⟨bo, 1, none⟩ (.slice none 0 0)).heap.size = wc.heap.size from by simp [World.setCell]] at h
    exact h)
  have h2 : wc.cell? ⟨w.heap.size, 2, none⟩ = some (.int .i64 0) := hR.h.cell rfl
  have l0 := hR.h.lt
  have l1 := hR.o.lt
  have o1 : wc.cell? ⟨bo, 1, none⟩ = some (.slice none 0 0) := hR.o.cell rfl
  have fo := hR.o.free 1
  clear hR
  go_wp2_with fail
  refine (ascii_lits0 _ _).mono ?_
  rintro o w' ⟨rfl, rfl⟩
  go_upto_region 8 with fail
  clear h2 l0 l1 o1 fo
  have h3 := HX.out.L.h.cell (i := 3) (v := .int .i64 1) rfl
  go_cut [11, 12, 40, 41] from 32 to 41 (fun s11 s12 s40 s41 wx => ∃ bl, s11 = .pointer (some ⟨bl, 0, none⟩) ∧ s12 = .func (Fn.func 26) #[] #[.pointer (some ⟨bl, 0, none⟩)] ∧ s40 = .int .i64 1 ∧ s41 = .int .i64 0 ∧
    XSt s w wx bv br bo bl 16 (circA (.slice none 0 0) (.slice none 0 0) (.slice none 0 0) (.slice none 0 0) (.slice none 0 0)))
  case first =>
    go_wp2_with fail
    go_meet
    case rel => exact ⟨_, rfl, rfl, rfl, rfl, HX.out⟩
  case rest =>
  clear h3 HX
  obtain ⟨bl, rfl, rfl, rfl, rfl, hX⟩ := hcut
  have HX := Lib.hid hX
  clear hX
  go_upto_block 0 with fail
  obtain ⟨wa, rfl⟩ : ∃ wa : World, wa = wc := ⟨_, rfl⟩
  go_cut [] from 13 to 15 (fun wx => ∃ gl cl, gl ≠ br ∧ gl ≠ bo ∧ w.heap.size + 3 < gl ∧ XSt s w wx bv br bo bl 20 (circA (.slice none 0 0) (.slice (some ⟨gl, 0, none⟩) 1 cl) (.slice none 0 0) (.slice none 0 0) (.slice none 0 0)) ∧
    gl < wx.heap.size ∧ wx.cell? ⟨gl, 0, none⟩ = some (.int .i64 2) ∧ wx.cell? ⟨gl, 1, none⟩ = some (.int .i64 3) ∧ wx.cell? ⟨gl, 2, none⟩ = some (.int .i64 0))
  case first =>
    obtain ⟨hsz, N1, b17, N2, b19, N3, b21⟩ := HF.out
    go_wp2_with fail
    go_loopw [41] (fun v41 wx => (v41 = .int .i64 0 ∧ wx = wa) ∨ (v41 = .int .i64 1 ∧ ∃ gl cl, gl ≠ br ∧ gl ≠ bo ∧ w.heap.size + 3 < gl ∧ XSt s w wx bv br bo bl 20 (circA (.slice none 0 0) (.slice (some ⟨gl, 0, none⟩) 1 cl) (.slice none 0 0) (.slice none 0 0) (.slice none 0 0)) ∧
    gl < wx.heap.size ∧ wx.cell? ⟨gl, 0, none⟩ = some (.int .i64 2) ∧ wx.cell? ⟨gl, 1, none⟩ = some (.int .i64 3) ∧ wx.cell? ⟨gl, 2, none⟩ = some (.int .i64 0))) (fun v41 _ => 1 - (intOf v41).toNat)
    case atStart => exact .inl ⟨rfl, rfl⟩
    case round =>
      rcases hrel with ⟨rfl, rfl⟩ | ⟨rfl, hP⟩
      · have HX1 := Lib.hid (HX.out.kpF ((Kp.refl _ wr).alloc (.cells #[.int .i64 0, .int .i64 0, .int .i64 0] 56)))
        have HN := Lib.hid HX.out.ne
        have q1 := HX.out.L.v.lt
        have q2 := HX.out.L.r.lt
        have q3 := HX.out.o.lt
        have q4 := HX.out.L.l.lt
        have q5 := HX.out.e.lt
        have y0 := HX.out.L.l.cells1.1
        have HLA := Lib.hid (ascii_lit HK.out s ⟨#[32]⟩ 16 2 17 0 bv w.heap.size br bl _ (by omega) (by omega) N1 (by decide) (by omega) (by unfold okS; rw [b17]; decide) (.inl ⟨by decide, rfl⟩) HX1.out.L)
        have HZN := Lib.hid (Blk.new wr #[.int .i64 0, .int .i64 0, .int .i64 0] 56)
        have HLB := Lib.hid (fun (u : World) (hL : LBlk s bv w.heap.size br bl u 18) => ascii_lit HK.out s ⟨#[32, 10]⟩ 18 3 19 4 bv w.heap.size br bl u (by omega) (by omega) N2 (by decide) (by omega) (by unfold okS; rw [b19]; decide) (.inr (.inl ⟨by decide, by decide, rfl⟩)) hL)
        rw [b17] at HLA
        rw [b19] at HLB
        clear N1 b17 N2 b19 N3 b21 hsz
        go_wp2_with fail
        refine HLA.out.mono ?_
        rintro o w1 ⟨rfl, hK1, hL1⟩
        have HX2 := Lib.hid (HX1.out.read hK1 hL1)
        have HZ1 := Lib.hid (HZN.out.kp hK1 (by omega))
        have hs1 := hK1.size
        simp only [World.size_alloc] at hs1
        have HX3 := Lib.hid (HX2.out.kpS (Kp.set w1 ⟨wr.heap.size, 0, none⟩ (.int .i64 2)) (fun j hj => by simp at hj; omega))
        have HZ2 := Lib.hid (HZ1.out.set_same 0 (.int .i64 2))
        have x0 := HZ1.out.cell (i := 0) (v := .int .i64 0) rfl
        have f0 := HZ1.out.free 0
        have y1 := HX3.out.L.l.cells1.1
        clear hK1 hL1 y0
        go_wp2_with fail
        refine (HLB.out _ HX3.out.L).mono ?_
        rintro o w2 ⟨rfl, hK2, hL2⟩
        have HX4 := Lib.hid (HX3.out.read hK2 hL2)
        have HZ3 := Lib.hid (HZ2.out.kp hK2 (by omega))
        have hs2 := hK2.size
        rw [show (w1.setCell ⟨wr.heap.size, 0, none⟩ (.int .i64 2)).heap.size = w1.heap.size from by simp [World.setCell]] at hs2
        have HX5 := Lib.hid (HX4.out.kpS (Kp.set w2 ⟨wr.heap.size, 1, none⟩ (.int .i64 3)) (fun j hj => by simp at hj; omega))
        have HZ4 := Lib.hid (HZ3.out.set_same 1 (.int .i64 3))
        have x1 := HZ3.out.cell (i := 1) (v := .int .i64 0) rfl
        have f1 := HZ3.out.free 1
        obtain ⟨w3, hw3⟩ : ∃ w3, w3 = w2.setCell ⟨wr.heap.size, 1, none⟩ (.int .i64 3) := ⟨_, rfl⟩
        rw [← hw3] at HX5 HZ4
        have hs3 : w3.heap.size = w2.heap.size := by rw [hw3]; simp [World.setCell]
        have HW3 := Lib.hid hw3
        have HS3 := Lib.hid hs3
        clear hK2 hL2 x0 f0 y1 hw3 hs3
        go_upto_region 15 with fail
        rw [← HW3.out]
        have z0 := HZ4.out.cell (i := 0) (v := .int .i64 2) rfl
        have z1 := HZ4.out.cell (i := 1) (v := .int .i64 3) rfl
        have z2 := HZ4.out.cell (i := 2) (v := .int .i64 0) rfl
        have o2 := HX5.out.o.cell (i := 2) (v := .slice none 0 0) rfl
        clear x1 f1
        go_wp2_with (at_builtin; refine wpList_appendK rfl _ _ 47 56 rfl Tryd.underlying47 latchInfo rfl (by decide) (base := w3.heap.size) (OwnK.nil _ _ _ _) rfl w3.heap.size [.int .i64 2, .int .i64 3, .int .i64 0] rfl rfl ?c1 ?c2 ?c3 ?c4 ?c5 ?_)
        case c1 => intro j u hj; exact (Blk.new w3 #[Value.int .i64 2, .int .i64 3, .int .i64 0] 56).cell (by simpa using hj)
        case c2 => intro u hu; simp at hu; rcases hu with rfl | rfl | rfl <;> rfl
        case c3 => simp
        case c4 => simp [maxLen]
        case c5 => simp
        intro v' w6 hO6 hg6 hat6
        have hK6 : Kp (fun _ => False) w3 w6 := ((Kp.refl _ w3).alloc _).grown hg6 (fun j hj _ => by simp [Value.ownBlock] at hj)
        obtain ⟨gl, cl, hv, hgl, hgl2⟩ := hO6.leads (by simp)
        change v' = .slice _ 1 cl at hv
        subst hv
        obtain ⟨_, _, hvv, _, _, _, _, hrow⟩ := hO6.form
        have HX6 := Lib.hid (HX5.out.kpF hK6)
        have HC : Hid (w6.cell? ⟨gl, 0, none⟩ = some (.int .i64 2) ∧ w6.cell? ⟨gl, 1, none⟩ = some (.int .i64 3) ∧ w6.cell? ⟨gl, 2, none⟩ = some (.int .i64 0)) := Lib.hid (by
          cases hvv
          obtain ⟨_, _, e0, h0⟩ := hrow 0 (.int .i64 2) rfl
          obtain ⟨_, _, e1, h1⟩ := hrow 1 (.int .i64 3) rfl
          obtain ⟨_, _, e2, h2⟩ := hrow 2 (.int .i64 0) rfl
          cases e0; cases e1; cases e2
          exact ⟨h0, h1, h2⟩)
        have o6 := HX6.out.o.cell (i := 2) (v := .slice none 0 0) rfl
        have fo6 := HX6.out.o.free 2
        have q6 := HX5.out.o.lt
        have q7 := HX5.out.L.r.lt
        have HGL := Lib.hid (show gl ≠ br ∧ gl ≠ bo ∧ w.heap.size + 3 < gl from by have := HN.out; omega)
        have HE := Lib.hid (HX6.out.set 2 (.slice (some ⟨gl, 0, none⟩) 1 cl))
        have HRel := Lib.hid (show ∃ gl' cl', gl' ≠ br ∧ gl' ≠ bo ∧ w.heap.size + 3 < gl' ∧ XSt s w (w6.setCell ⟨bo, 2, none⟩ (.slice (some ⟨gl, 0, none⟩) 1 cl)) bv br bo bl 20 (circA (.slice none 0 0) (.slice (some ⟨gl', 0, none⟩) 1 cl') (.slice none 0 0) (.slice none 0 0) (.slice none 0 0)) ∧
            gl' < (w6.setCell ⟨bo, 2, none⟩ (.slice (some ⟨gl, 0, none⟩) 1 cl)).heap.size ∧ (w6.setCell ⟨bo, 2, none⟩ (.slice (some ⟨gl, 0, none⟩) 1 cl)).cell? ⟨gl', 0, none⟩ = some (.int .i64 2) ∧ (w6.setCell ⟨bo, 2, none⟩ (.slice (some ⟨gl, 0, none⟩) 1 cl)).cell? ⟨gl', 1, none⟩ = some (.int .i64 3) ∧ (w6.setCell ⟨bo, 2, none⟩ (.slice (some ⟨gl, 0, none⟩) 1 cl)).cell? ⟨gl', 2, none⟩ = some (.int .i64 0) from
          ⟨gl, cl, HGL.out.1, HGL.out.2.1, HGL.out.2.2, HE.out, by rw [show (w6.setCell ⟨bo, 2, none⟩ (.slice (some ⟨gl, 0, none⟩) 1 cl)).heap.size = w6.heap.size from by simp [World.setCell]]; exact hgl2,
            (World.cell?_setCell_other _ _ _ _ (by have := HGL.out.2.1; simp <;> omega)).trans HC.out.1, (World.cell?_setCell_other _ _ _ _ (by have := HGL.out.2.1; simp <;> omega)).trans HC.out.2.1, (World.cell?_setCell_other _ _ _ _ (by have := HGL.out.2.1; simp <;> omega)).trans HC.out.2.2⟩)
        clear hO6 hg6 hat6 hK6 hvv hrow z0 z1 z2 o2
        go_wp2_with fail
        go_roundw
        case rel => exact .inr ⟨rfl, HRel.out⟩
        case measure => simp [intOf]
      · clear N1 b17 N2 b19 N3 b21 hsz
        have HP := Lib.hid hP
        clear hP
        go_wp2_with fail
        go_meet
        case rel => exact HP.out
  case rest =>
  obtain ⟨gl, cl, g1, g2, g3, hX, g4, k0, k1, k2⟩ := hcut
  clear HX
  have HX := Lib.hid hX
  have HG := Lib.hid (And.intro g1 (And.intro g2 (And.intro g3 (And.intro g4 (And.intro k0 (And.intro k1 k2))))))
  have HLits := Lib.hid (fun (u : World) (hL : LBlk s bv w.heap.size br bl u 20) => ascii_lits1 HK.out s 20 2 21 bv w.heap.size br bl u (by have := HF.out.1; omega) (by have := HF.out.1; omega) HF.out.2.2.2.2.2.1 (by decide) (by have := HF.out.1; omega) HF.out.2.2.2.2.2.2 hL)
  clear hX g1 g2 g3 g4 k0 k1 k2 hmf d1
  obtain ⟨wb, rfl⟩ : ∃ wb : World, wb = wc := ⟨_, rfl⟩
  go_upto_region 17 with fail
  go_cut [] from 71 to 85 (fun wx => ∃ gb cb, gl < wx.heap.size ∧ gb < wx.heap.size ∧ w.heap.size + 3 < gb ∧ XSt s w wx bv br bo bl 22 (circA (.slice none 0 0) (.slice (some ⟨gl, 0, none⟩) 1 cl) (.slice none 0 0) (.slice (some ⟨gb, 0, none⟩) 1 cb) (.slice none 0 0)) ∧
    wx.cell? ⟨gl, 0, none⟩ = some (.int .i64 2) ∧ wx.cell? ⟨gl, 1, none⟩ = some (.int .i64 3) ∧ wx.cell? ⟨gl, 2, none⟩ = some (.int .i64 0) ∧ wx.cell? ⟨gb, 0, none⟩ = some (.int .i64 2))
  case first =>
    obtain ⟨n4, n6, n7⟩ := HX.out.heads
    have o3 := HX.out.o.cell (i := 3) (v := .slice none 0 0) rfl
    have o4 := HX.out.o.cell (i := 4) (v := .slice none 0 0) rfl
    have o5 := HX.out.o.cell (i := 5) (v := .slice none 0 0) rfl
    have f3 := HX.out.o.free 3
    have f4 := HX.out.o.free 4
    have f5 := HX.out.o.free 5
    go_region_held3 (fun u => u.cell? ⟨w.heap.size, 4, none⟩ = some (.int .i64 0) ∧ u.cell? ⟨w.heap.size, 6, none⟩ = some (.int .i64 1) ∧ u.cell? ⟨w.heap.size, 7, none⟩ = some (.int .i64 0)) (with_reducible first | exact HX.out.heads | exact HX.out.drew.heads | exact HXb.out.heads | exact HXb.out.drew.heads | exact (HXb.out.set 3 _).heads | exact ((HXb.out.set 3 _).set 4 _).heads | exact (((HXb.out.set 3 _).set 4 _).set 5 _).heads) ((first
      | ((with_reducible refine Calls.mono (ascii_lits0 _ _) ?_)
         rintro o u ⟨rfl, rfl⟩)
      | ((with_reducible refine Calls.mono (HLits.out _ (by with_reducible first | exact HX.out.L | exact HX.out.drew.L)) ?_)
         rintro o u2 ⟨gb, cb, rfl, hgb, hOb, hKb, hLb⟩
         have HXb := Lib.hid (by first | exact HX.out.drew.read hKb hLb | exact HX.out.read hKb hLb)
         have HOb := Lib.hid hOb
         have HKb := Lib.hid hKb
         have HGb := Lib.hid hgb
         clear hKb hLb hOb hgb o3 o4 o5 f3 f4 f5
         have o3 := HXb.out.o.cell (i := 3) (v := .slice none 0 0) rfl
         have o4 := HXb.out.o.cell (i := 4) (v := .slice none 0 0) rfl
         have o5 := HXb.out.o.cell (i := 5) (v := .slice none 0 0) rfl
         have f3 := HXb.out.o.free 3
         have f4 := HXb.out.o.free 4
         have f5 := HXb.out.o.free 5)))
    all_goals go_wp2_with fail
    all_goals go_meet
    all_goals
      have HS := Lib.hid (((HXb.out.set 3 (.slice none 0 0)).set 4 (.slice (some ⟨gb, 0, none⟩) 1 cb)).set 5 (.slice none 0 0))
      have q1 := HX.out.o.lt
      have q2 := HX.out.e.lt
      have hgl := HKb.out.size
      have hg := HGb.out
      have HN := HX.out.ne
      have e0 : u2.cell? ⟨gb, 0, none⟩ = some (.int .i64 2) := HOb.out.cell rfl
      have hb : gb < u2.heap.size := World.block_lt_of_cell? u2 _ e0
      have kk : ∀ k v, wb.cell? ⟨gl, k, none⟩ = some v → u2.cell? ⟨gl, k, none⟩ = some v := fun k v h => (World.cell?_of_block (a := ⟨gl, k, none⟩) (HKb.out.block gl HG.out.2.2.2.1 HG.out.1)).trans h
      have sz : (((u2.setCell ⟨bo, 3, none⟩ (.slice none 0 0)).setCell ⟨bo, 4, none⟩ (.slice (some ⟨gb, 0, none⟩) 1 cb)).setCell ⟨bo, 5, none⟩ (.slice none 0 0)).heap.size = u2.heap.size := by simp [World.setCell]
      have oth : ∀ g k v, g ≠ bo → u2.cell? ⟨g, k, none⟩ = some v → (((u2.setCell ⟨bo, 3, none⟩ (.slice none 0 0)).setCell ⟨bo, 4, none⟩ (.slice (some ⟨gb, 0, none⟩) 1 cb)).setCell ⟨bo, 5, none⟩ (.slice none 0 0)).cell? ⟨g, k, none⟩ = some v := fun g k v hgne h =>
        (World.cell?_setCell_other _ _ _ _ (fun e => hgne (congrArg Addr.block e).symm)).trans ((World.cell?_setCell_other _ _ _ _ (fun e => hgne (congrArg Addr.block e).symm)).trans ((World.cell?_setCell_other _ _ _ _ (fun e => hgne (congrArg Addr.block e).symm)).trans h))
      have gw : wb.heap.size ≤ gb := hg
      have gbo : gb ≠ bo := by omega
      have glt : gl < u2.heap.size := Nat.lt_of_lt_of_le HG.out.2.2.2.1 hgl
      exact ⟨gb, cb, Nat.lt_of_lt_of_eq glt sz.symm, Nat.lt_of_lt_of_eq hb sz.symm, by omega, HS.out, oth gl 0 _ HG.out.2.1 (kk 0 _ HG.out.2.2.2.2.1), oth gl 1 _ HG.out.2.1 (kk 1 _ HG.out.2.2.2.2.2.1), oth gl 2 _ HG.out.2.1 (kk 2 _ HG.out.2.2.2.2.2.2), oth gb 0 _ gbo e0⟩
  case rest =>
  obtain ⟨gb, cb, g1, g2, g3, hX, k0, k1, k2, k3⟩ := hcut
  have HXr := Lib.hid hX
  have HC := Lib.hid (And.intro g1 (And.intro g2 (And.intro k0 (And.intro k1 (And.intro k2 k3)))))
  have HLG := Lib.hid HG.out.2.2.1
  have HBG := Lib.hid g3
  clear g1 g2 g3 hX k0 k1 k2 k3 HX HG
  have h5 : wc.cell? ⟨w.heap.size, 5, none⟩ = some (.int .i64 0) := HXr.out.L.h.cell rfl
  obtain ⟨c0, c1, c2, c3, c4, c5, c6, c7, c8⟩ := HXr.out.c.cells9
  obtain ⟨o0, o1, o2, o3, o4, o5, o6, o7, o8⟩ := HXr.out.o.cells9
  have v0 := HXr.out.L.v.cells1.1
  have r1 := HXr.out.L.r.cells2.2.1
  obtain ⟨a0, fa⟩ := HXr.out.a.cells1
  obtain ⟨e0, fe⟩ := HXr.out.e.cells1
  have fc := HXr.out.c.free
  have fc0 := fc 0
  have fc1 := fc 1
  have fc2 := fc 2
  have fc3 := fc 3
  have fc4 := fc 4
  have fc5 := fc 5
  have fc6 := fc 6
  have fc7 := fc 7
  have fc8 := fc 8
  clear fc
  have nbr0 : br ≠ w.heap.size + 1 := by have := HXr.out.ne; omega
  have mbr0 : w.heap.size + 1 ≠ br := by have := HXr.out.ne; omega
  have nbr1 : br ≠ w.heap.size + 1 + 1 := by have := HXr.out.ne; omega
  have mbr1 : w.heap.size + 1 + 1 ≠ br := by have := HXr.out.ne; omega
  have nbr2 : br ≠ w.heap.size + 1 + 1 + 1 := by have := HXr.out.ne; omega
  have mbr2 : w.heap.size + 1 + 1 + 1 ≠ br := by have := HXr.out.ne; omega
  have nbv0 : bv ≠ w.heap.size + 1 := by have := HXr.out.ne; omega
  have mbv0 : w.heap.size + 1 ≠ bv := by have := HXr.out.ne; omega
  have nbv1 : bv ≠ w.heap.size + 1 + 1 := by have := HXr.out.ne; omega
  have mbv1 : w.heap.size + 1 + 1 ≠ bv := by have := HXr.out.ne; omega
  have nbv2 : bv ≠ w.heap.size + 1 + 1 + 1 := by have := HXr.out.ne; omega
  have mbv2 : w.heap.size + 1 + 1 + 1 ≠ bv := by have := HXr.out.ne; omega
  have nbo0 : bo ≠ w.heap.size + 1 := by have := HXr.out.ne; omega
  have mbo0 : w.heap.size + 1 ≠ bo := by have := HXr.out.ne; omega
  have nbo1 : bo ≠ w.heap.size + 1 + 1 := by have := HXr.out.ne; omega
  have mbo1 : w.heap.size + 1 + 1 ≠ bo := by have := HXr.out.ne; omega
  have nbo2 : bo ≠ w.heap.size + 1 + 1 + 1 := by have := HXr.out.ne; omega
  have mbo2 : w.heap.size + 1 + 1 + 1 ≠ bo := by have := HXr.out.ne; omega
  go_wp2_with fail
  go_loopw [88] (fun v88 wx => v88 = .int .i64 0 ∧ wx = wc) (fun _ _ => 0)
  case atStart => exact ⟨rfl, rfl⟩
  case round =>
    obtain ⟨rfl, rfl⟩ := hrel
    go_wp2_with fail
    go_region
    all_goals go_wp2_with fail
    all_goals
      have hF := HXr.out.fin (.int .i64 1) (.slice none 0 0) (.slice (some ⟨gl, 0, none⟩) 1 cl) (.slice none 0 0) (.slice (some ⟨gb, 0, none⟩) 1 cb) (.slice none 0 0) (.slice none 0 0) (.slice none 0 0) (.string ⟨#[]⟩) (.int .i64 22) (.int .i64 0)
      unfold Go.Proofs.YtjeaggfjjdfacaaDoor.set9 at hF
      obtain ⟨hB, hA, hE, hK, hO⟩ := hF
      obtain ⟨s0, s1, s2, s3, s4, s5, s6, s7, s8⟩ := hB.cells9
      have sa := hA.cells1.1
      have se := hE.cells1.1
      have p0 := hO gl 0 _ HLG.out HC.out.2.2.1
      have p1 := hO gl 1 _ HLG.out HC.out.2.2.2.1
      have p2 := hO gl 2 _ HLG.out HC.out.2.2.2.2.1
      have p3 := hO gb 0 _ HBG.out HC.out.2.2.2.2.2
      refine leaves_cons (f := 10) (args := #[.pointer (some ⟨w.heap.size + 1 + 1, 0, none⟩), .pointer (some ⟨w.heap.size + 1 + 1 + 1, 0, none⟩)]) (by simp) (by simp [go_sem]) ?_
      refine (stopped_idle _ _ _).mono ?_
      rintro e u' w'' ⟨rfl, rfl, rfl⟩
      refine ⟨.tuple #[.agg #[.int .i64 1, .slice none 0 0, .slice (some ⟨gl, 0, none⟩) 1 cl, .slice none 0 0, .slice (some ⟨gb, 0, none⟩) 1 cb, .slice none 0 0, .slice none 0 0, .slice none 0 0, .string ⟨#[]⟩], .int .i64 22, .int .i64 0], ?_, gl, cl, gb, cb, rfl, p0, p1, p2, p3, hK⟩
      simp [results, Tryd.results16, go_sem, s0, s1, s2, s3, s4, s5, s6, s7, s8, sa, se]

end Go.Proofs.YtjeaggfjjdfacaaDoor

/-
  latchetref02.Ints: whether two lists of ints are one.
-/
namespace Go.Proofs.YtjeaggfjjdfacaaDoor
open Go.RowKit

theorem ints_ext {l l' : List Int} (hl : l.length = l'.length) (h : ∀ j, j < l.length → gi l j = gi l' j) : l = l' := by
  apply List.ext_getElem?
  intro j
  by_cases hj : j < l.length
  · have := h j hj
    unfold gi at this
    rw [List.getElem?_eq_getElem hj, List.getElem?_eq_getElem (by omega)] at this ⊢
    simpa using this
  · rw [List.getElem?_eq_none (by omega), List.getElem?_eq_none (by omega)]

set_option maxHeartbeats 400000 in
theorem ref_Ints (a a' : Option Addr) (n n' cap cap' : Nat) (l l' : List Int) (w : World) (ha : IntsAt w a l) (ha' : IntsAt w a' l') (hl : l.length = n) (hl' : l'.length = n') (hn : n ≤ 9223372036854775807) :
    Calls Tryd.prog 27 #[.slice a n cap, .slice a' n' cap'] w fun e w' => e = .returned (.bool (l == l')) ∧ ∃ n, w' = w.drewN n := by
  have HL := Lib.hid hl; clear hl
  have HL' := Lib.hid hl'; clear hl'
  by_cases hne : n = n'
  · subst hne
    have b1 : ((n : Int) != (n : Int)) = false := by simp
    go_enter Tryd.func27, Tryd.ntmps27
    go_wp2
    go_loopw [5] (fun i wr => ∃ k m : Nat, k ≤ n ∧ i = .int .i64 k ∧ (∀ j, j < k → gi l j = gi l' j) ∧ wr = w.drewN m) (fun i _ => n - (intOf i).toNat)
    case atStart => exact ⟨0, 0, Nat.zero_le _, rfl, fun j hj => by omega, rfl⟩
    case round =>
      obtain ⟨k, m, hk, rfl, he, rfl⟩ := hrel
      have HE := Lib.hid he
      clear he
      by_cases hlt : k < n
      · obtain ⟨b, off, rfl, hc⟩ := ha.get (j := k) (by rw [HL.out]; exact hlt)
        obtain ⟨b', off', rfl, hc'⟩ := ha'.get (j := k) (by rw [HL'.out]; exact hlt)
        have i1 : (0 : Int) ≤ (k : Int) := by omega
        have i2 : (k : Int) < (n : Int) := by omega
        by_cases hq : gi l k = gi l' k
        · have q1 : (gi l k != gi l' k) = false := by simp [hq]
          have HQ := Lib.hid hq
          clear hq
          go_wp2
          go_quiet (fail)
          go_wp2
          go_roundw
          case rel =>
            refine ⟨k + 1, _, by omega, by go_num, fun j hj => ?_, rfl⟩
            by_cases e : j = k
            · subst e; exact HQ.out
            · exact HE.out j (by omega)
          case measure => simp [intOf]; omega
        · have q1 : (gi l k != gi l' k) = true := by simp [hq]
          have HQ := Lib.hid hq
          clear hq
          go_wp2
          go_quiet (fail)
          go_wp2
          go_ret
          have e : (l == l') = false := by
            rw [beq_eq_false_iff_ne]
            intro e
            exact HQ.out (by rw [e])
          rw [e]
          exact ⟨rfl, _, World.drewN_drewN ..⟩
      · go_wp2
        go_ret
        have e : (l == l') = true := by
          rw [beq_iff_eq]
          exact ints_ext (by rw [HL.out, HL'.out]) (fun j hj => HE.out j (by rw [HL.out] at hj; omega))
        rw [e]
        exact ⟨rfl, _, rfl⟩
  · have b1 : ((n : Int) != (n' : Int)) = true := by simp; omega
    have e : Hid ((l == l') = false) := by
      show _ = _
      rw [beq_eq_false_iff_ne]
      intro e
      exact hne (by rw [← HL.out, ← HL'.out, e])
    clear hne
    go_enter Tryd.func27, Tryd.ntmps27
    go_wp2
    go_ret
    rw [e.out]
    exact ⟨rfl, 0, rfl⟩

end Go.Proofs.YtjeaggfjjdfacaaDoor

/-
  Heads and latches that are the same are told so; the example's circuits are the same.
-/
namespace Go.Proofs.YtjeaggfjjdfacaaDoor
open Go.RowKit

theorem eqLatch (a b c : Int) (w : World) : (Op.equalIn 10000 56 (.agg #[.int .i64 a, .int .i64 b, .int .i64 c]) (.agg #[.int .i64 a, .int .i64 b, .int .i64 c])).run Tryd.prog w = .ok true w := by
  have u3 := Tryd.underlying3
  have a3 := Tryd.isAgg3
  have z3 := Tryd.sizeOf3
  have hS : Tryd.prog.underlying 56 = some (.struct (Tryd.prog.fieldsOf 56)) := by kernel_rfl
  have hp : Tryd.prog.stoodInHeld 56 = false := by kernel_rfl
  rw [show (10000 : Nat) = 9999 + 1 from rfl, run_equalIn_agg w 9999 56 _ _ hS hp]
  simp only [Program.fieldsOf, Tryd.underlying56]
  go_simp
  try simp

theorem eqHead (t : Bool) (a b c d e f g : Int) (w : World) : (Op.equalIn 10000 23 (.agg #[.bool t, .int .i64 a, .int .i64 b, .int .i64 c, .int .i64 d, .int .i64 e, .int .i64 f, .int .i64 g]) (.agg #[.bool t, .int .i64 a, .int .i64 b, .int .i64 c, .int .i64 d, .int .i64 e, .int .i64 f, .int .i64 g])).run Tryd.prog w = .ok true w := by
  have u3 := Tryd.underlying3
  have a3 := Tryd.isAgg3
  have z3 := Tryd.sizeOf3
  have u4 := Tryd.underlying4
  have a4 := Tryd.isAgg4
  have z4 := Tryd.sizeOf4
  have hS : Tryd.prog.underlying 23 = some (.struct (Tryd.prog.fieldsOf 23)) := by kernel_rfl
  have hp : Tryd.prog.stoodInHeld 23 = false := by kernel_rfl
  rw [show (10000 : Nat) = 9999 + 1 from rfl, run_equalIn_agg w 9999 23 _ _ hS hp]
  simp only [Program.fieldsOf, Tryd.underlying23]
  go_simp
  try simp

theorem Blk.cells9' {w : World} {b : Nat} {x0 x1 x2 x3 x4 x5 x6 x7 x8 : Value} {t : TypeId} (h : Blk w b #[x0, x1, x2, x3, x4, x5, x6, x7, x8] t) :
    w.cell? ⟨b, 0, none⟩ = some x0 ∧ w.cell? ⟨b, 1, none⟩ = some x1 ∧ w.cell? ⟨b, 2, none⟩ = some x2 ∧ w.cell? ⟨b, 3, none⟩ = some x3 ∧ w.cell? ⟨b, 4, none⟩ = some x4 ∧ w.cell? ⟨b, 5, none⟩ = some x5 ∧ w.cell? ⟨b, 6, none⟩ = some x6 ∧ w.cell? ⟨b, 7, none⟩ = some x7 ∧ w.cell? ⟨b, 8, none⟩ = some x8 :=
  ⟨h.cell rfl, h.cell rfl, h.cell rfl, h.cell rfl, h.cell rfl, h.cell rfl, h.cell rfl, h.cell rfl, h.cell rfl⟩

theorem drewN_twice (w : World) (a b : Nat) : (w.drewN a).drewN b = w.drewN (a + b) := by
  simp [World.drewN, Nat.add_assoc]

theorem ints_nil (u : World) : Calls Tryd.prog 27 #[.slice none 0 0, .slice none 0 0] u fun e w' => e = .returned (.bool true) ∧ ∃ n, w' = u.drewN n :=
  ref_Ints none none 0 0 0 0 [] [] u (RowAt.nil _ _) (RowAt.nil _ _) rfl rfl (by decide)

theorem ints_one (u : World) (gb cb hb db : Nat) (k : u.cell? ⟨gb, 0, none⟩ = some (.int .i64 2)) (k' : u.cell? ⟨hb, 0, none⟩ = some (.int .i64 2)) :
    Calls Tryd.prog 27 #[.slice (some ⟨gb, 0, none⟩) 1 cb, .slice (some ⟨hb, 0, none⟩) 1 db] u fun e w' => e = .returned (.bool true) ∧ ∃ n, w' = u.drewN n := by
  have one : ∀ g, u.cell? ⟨g, 0, none⟩ = some (.int .i64 2) → IntsAt u (some ⟨g, 0, none⟩) [2] := fun g h j v hj => by
    match j, hj with
    | 0, hj => simp at hj; subst hj; exact ⟨g, 0, rfl, h⟩
    | n + 1, hj => simp at hj
  exact ref_Ints (some ⟨gb, 0, none⟩) (some ⟨hb, 0, none⟩) 1 1 cb db [2] [2] u (one gb k) (one hb k') rfl rfl (by decide)

set_option maxRecDepth 100000 in
set_option maxHeartbeats 4000000 in
theorem ref11_Same_ex (gl cl gb cb hl dl hb db : Nat) (w : World) (k0 : w.cell? ⟨gl, 0, none⟩ = some (.int .i64 2)) (k1 : w.cell? ⟨gl, 1, none⟩ = some (.int .i64 3)) (k2 : w.cell? ⟨gl, 2, none⟩ = some (.int .i64 0)) (k3 : w.cell? ⟨gb, 0, none⟩ = some (.int .i64 2))
    (j0 : w.cell? ⟨hl, 0, none⟩ = some (.int .i64 2)) (j1 : w.cell? ⟨hl, 1, none⟩ = some (.int .i64 3)) (j2 : w.cell? ⟨hl, 2, none⟩ = some (.int .i64 0)) (j3 : w.cell? ⟨hb, 0, none⟩ = some (.int .i64 2)) :
    Calls Tryd.prog 17 #[.agg #[.int .i64 1, .slice none 0 0, .slice (some ⟨gl, 0, none⟩) 1 cl, .slice none 0 0, .slice (some ⟨gb, 0, none⟩) 1 cb, .slice none 0 0, .slice none 0 0, .slice none 0 0, .string ⟨#[]⟩], .agg #[.int .i64 1, .slice none 0 0, .slice (some ⟨hl, 0, none⟩) 1 dl, .slice none 0 0, .slice (some ⟨hb, 0, none⟩) 1 db, .slice none 0 0, .slice none 0 0, .slice none 0 0, .string ⟨#[]⟩]] w fun e w' => e = .returned (.bool true) ∧ Kp (fun _ => False) w w' := by
  obtain ⟨wz, hwz⟩ : ∃ wz : World, wz = (w.alloc (.cells #[.int .i64 1, .slice none 0 0, .slice (some ⟨gl, 0, none⟩) 1 cl, .slice none 0 0, .slice (some ⟨gb, 0, none⟩) 1 cb, .slice none 0 0, .slice none 0 0, .slice none 0 0, .string ⟨#[]⟩] 51)).alloc (.cells #[.int .i64 1, .slice none 0 0, .slice (some ⟨hl, 0, none⟩) 1 dl, .slice none 0 0, .slice (some ⟨hb, 0, none⟩) 1 db, .slice none 0 0, .slice none 0 0, .slice none 0 0, .string ⟨#[]⟩] 51) := ⟨_, rfl⟩
  have hK : Kp (fun _ => False) w wz := by rw [hwz]; exact ((Kp.refl _ w).alloc _).alloc _
  have hA : Blk wz w.heap.size #[.int .i64 1, .slice none 0 0, .slice (some ⟨gl, 0, none⟩) 1 cl, .slice none 0 0, .slice (some ⟨gb, 0, none⟩) 1 cb, .slice none 0 0, .slice none 0 0, .slice none 0 0, .string ⟨#[]⟩] 51 := by rw [hwz]; exact (Blk.new w _ _).alloc _
  have hB : Blk wz (w.heap.size + 1) #[.int .i64 1, .slice none 0 0, .slice (some ⟨hl, 0, none⟩) 1 dl, .slice none 0 0, .slice (some ⟨hb, 0, none⟩) 1 db, .slice none 0 0, .slice none 0 0, .slice none 0 0, .string ⟨#[]⟩] 51 := by
    rw [hwz]
    have := Blk.new (w.alloc (.cells #[.int .i64 1, .slice none 0 0, .slice (some ⟨gl, 0, none⟩) 1 cl, .slice none 0 0, .slice (some ⟨gb, 0, none⟩) 1 cb, .slice none 0 0, .slice none 0 0, .slice none 0 0, .string ⟨#[]⟩] 51)) #[.int .i64 1, .slice none 0 0, .slice (some ⟨hl, 0, none⟩) 1 dl, .slice none 0 0, .slice (some ⟨hb, 0, none⟩) 1 db, .slice none 0 0, .slice none 0 0, .slice none 0 0, .string ⟨#[]⟩] 51
    rwa [World.size_alloc] at this
  have kk : ∀ g k v, w.cell? ⟨g, k, none⟩ = some v → wz.cell? ⟨g, k, none⟩ = some v := fun g k v h => (World.cell?_of_block (a := ⟨g, k, none⟩) (hK.block g (World.block_lt_of_cell? w _ h) (fun h => h))).trans h
  have k0 := kk _ _ _ k0
  have k1 := kk _ _ _ k1
  have k2 := kk _ _ _ k2
  have k3 := kk _ _ _ k3
  have j0 := kk _ _ _ j0
  have j1 := kk _ _ _ j1
  have j2 := kk _ _ _ j2
  have j3 := kk _ _ _ j3
  obtain ⟨a0, a1, a2, a3, a4, a5, a6, a7, a8⟩ := hA.cells9'
  obtain ⟨b0, b1, b2, b3, b4, b5, b6, b7, b8⟩ := hB.cells9'
  have hq := fun u => eqLatch 2 3 0 u
  have HK := Lib.hid hK
  have HZ := Lib.hid hwz
  have HN := Lib.hid ints_nil
  have HO := Lib.hid (fun u k k' => ints_one u gb cb hb db k k')
  clear kk hA hB hK hwz
  go_enter Tryd.func17, Tryd.ntmps17
  go_upto_region 1 with fail
  rw [show (w.alloc (.cells #[.int .i64 1, .slice none 0 0, .slice (some ⟨gl, 0, none⟩) 1 cl, .slice none 0 0, .slice (some ⟨gb, 0, none⟩) 1 cb, .slice none 0 0, .slice none 0 0, .slice none 0 0, .string ⟨#[]⟩] 51)).alloc (.cells #[.int .i64 1, .slice none 0 0, .slice (some ⟨hl, 0, none⟩) 1 dl, .slice none 0 0, .slice (some ⟨hb, 0, none⟩) 1 db, .slice none 0 0, .slice none 0 0, .slice none 0 0, .string ⟨#[]⟩] 51) = wz from HZ.out.symm]
  clear HZ
  go_wp2_with fail
  refine (HN.out _).mono ?_
  rintro e w' ⟨rfl, n1, rfl⟩
  go_wp2_with fail
  refine (HN.out _).mono ?_
  rintro e w' ⟨rfl, n2, rfl⟩
  go_wp2_with fail
  refine (HO.out _ (by first | exact k3 | simpa using k3) (by first | exact j3 | simpa using j3)).mono ?_
  rintro e w' ⟨rfl, n3, rfl⟩
  go_wp2_with fail
  refine (HN.out _).mono ?_
  rintro e w' ⟨rfl, n4, rfl⟩
  go_wp2_with fail
  clear HN HO k3 j3 a1 a3 a4 a5 b1 b3 b4 b5
  go_loopw [5] (fun v5 wr => (v5 = .int .i64 0 ∨ v5 = .int .i64 1) ∧ ∃ n, wr = wz.drewN n) (fun v5 _ => 1 - (intOf v5).toNat)
  case atStart =>
    refine ⟨.inl rfl, ?_⟩
    try simp only [drewN_twice]
    exact ⟨_, rfl⟩
  case round =>
    obtain ⟨hv, n5, rfl⟩ := hrel
    rcases hv with rfl | rfl
    · go_wp2_with fail
      go_quiet (fail)
      go_wp2_with fail
      go_roundw
      case rel =>
        refine ⟨.inr rfl, ?_⟩
        try simp only [drewN_twice]
        exact ⟨_, rfl⟩
      case measure => simp [intOf]
    · go_wp2_with fail
      go_loopw [6] (fun v6 wr => v6 = .int .i64 0 ∧ ∃ n, wr = wz.drewN n) (fun _ _ => 0)
      case atStart => exact ⟨rfl, _, rfl⟩
      case round =>
        obtain ⟨rfl, n6, rfl⟩ := hrel
        go_wp2_with fail
        go_loopw [7] (fun v7 wr => v7 = .int .i64 0 ∧ ∃ n, wr = wz.drewN n) (fun _ _ => 0)
        case atStart => exact ⟨rfl, _, rfl⟩
        case round =>
          obtain ⟨rfl, n7, rfl⟩ := hrel
          go_wp2_with fail
          go_ret
          exact ⟨rfl, HK.out.drewN _⟩

end Go.Proofs.YtjeaggfjjdfacaaDoor

/-
  latchetref13.ReadHead: what it computes: the head with which a text begins.
-/
namespace Go.Proofs.YtjeaggfjjdfacaaDoor
open Go.RowKit

def hnums (l : List Nat) : List Value := l.map (fun (n : Nat) => Value.int .i64 (n : Int))
theorem hnums_length (l : List Nat) : (hnums l).length = l.length := by simp [hnums]
theorem hnums_snoc (l : List Nat) (x : Nat) : hnums (l ++ [x]) = hnums l ++ [.int .i64 (x : Int)] := by simp [hnums]
theorem hintInfo : (Tryd.prog.info? 3).map (fun i => (i.zero, i.size, i.bytes)) = some (some (.int .i64 0), 1, 8) := by kernel_rfl
theorem hnums_get (l : List Nat) (k : Nat) (hk : k < l.length + 2) : (hnums l ++ [.int .i64 0, .int .i64 0])[k]? = some (.int .i64 (nth l k)) := by
  rcases Nat.lt_or_ge k l.length with h | h
  · rw [List.getElem?_append_left (by rw [hnums_length]; exact h)]
    unfold hnums nth
    rw [List.getElem?_map, List.getElem?_eq_getElem h]; rfl
  · rw [List.getElem?_append_right (by rw [hnums_length]; exact h), hnums_length, nth_ge h]
    rcases (show k - l.length = 0 ∨ k - l.length = 1 by omega) with e | e <;> rw [e] <;> rfl

theorem own_of {w : World} {base g : Nat} {e : TypeId} {cs : List Value} (h : Blk w g cs.toArray e) (hg : base ≤ g) (hn : cs.length ≤ maxLen) : Own w base e (.slice (some ⟨g, 0, none⟩) cs.length cs.length) cs :=
  ⟨by simp, .inr ⟨g, cs.length, cs.toArray, rfl, hg, h, Nat.le_refl _, hn, by simp, by simp⟩⟩

theorem natT_nat {s : ByteArray} {p : Nat} (hp : p ≤ s.size) : natT s (p : Int) = natN s p := by
  unfold natT
  rw [if_neg (by omega), Int.toNat_natCast]

/-- what the reference's ReadHead answers -/
def RHeadP (s : ByteArray) (w : World) (o : Ending) (w' : World) : Prop :=
  o = .returned (.tuple #[headV (headT s).1 (headT s).2.1, .int .i64 (headT s).2.2.1, .int .i64 (headT s).2.2.2]) ∧ Kp (fun _ => False) w w'

/-- the cut text is a head's beginning or not -/
theorem isHead_cut (s : ByteArray) (_h4 : 4 ≤ s.size) : ((s.extract 0 4).toList = [97, 97, 103, 32] ∨ (s.extract 0 4).toList = [97, 105, 103, 32]) ↔ isHead s := by
  rw [← isHead_pre, Lib.extract_toList]
  unfold Lib.hasPrefix
  rw [List.isPrefixOf_iff_prefix, List.isPrefixOf_iff_prefix, List.drop_zero]
  have e : ∀ l : List UInt8, l.length = 4 → (List.take (4 - 0) s.data.toList = l ↔ l <+: s.data.toList) := fun l hl => by
    rw [List.prefix_iff_eq_take, hl]; exact ⟨fun h => h.symm, fun h => h.symm⟩
  rw [e _ rfl, e _ rfl]

theorem own_cells7 {w : World} {base g m c : Nat} {L : List Nat} (h : Own w base 3 (.slice (some ⟨g, 0, none⟩) m c) (hnums L ++ [.int .i64 0, .int .i64 0])) (h5 : 5 ≤ L.length) :
    w.cell? ⟨g, 0, none⟩ = some (.int .i64 (nth L 0)) ∧ w.cell? ⟨g, 1, none⟩ = some (.int .i64 (nth L 1)) ∧ w.cell? ⟨g, 2, none⟩ = some (.int .i64 (nth L 2)) ∧ w.cell? ⟨g, 3, none⟩ = some (.int .i64 (nth L 3)) ∧
    w.cell? ⟨g, 4, none⟩ = some (.int .i64 (nth L 4)) ∧ w.cell? ⟨g, 5, none⟩ = some (.int .i64 (nth L 5)) ∧ w.cell? ⟨g, 6, none⟩ = some (.int .i64 (nth L 6)) :=
  ⟨h.cell (hnums_get L 0 (by omega)), h.cell (hnums_get L 1 (by omega)), h.cell (hnums_get L 2 (by omega)), h.cell (hnums_get L 3 (by omega)), h.cell (hnums_get L 4 (by omega)), h.cell (hnums_get L 5 (by omega)), h.cell (hnums_get L 6 (by omega))⟩

theorem refHead_end {s : ByteArray} {w wz : World} {b : Bool} {L : List Nat} {P E : Nat} (hT : headT s = (b, L, P, E)) {tmps : Array Value}
    (ht2 : tmps[2]? = some (.pointer (some ⟨w.heap.size, 0, none⟩))) {P' E' : Int} (hP : P' = P) (hE : E' = E) (ht3 : tmps[3]? = some (.int .i64 P')) (ht4 : tmps[4]? = some (.int .i64 E'))
    (h0 : Blk wz w.heap.size (headC b L) 23) (hk : Kp (fun _ => False) w wz) :
    bodyPost Tryd.prog Tryd.f5 (fun o w' => RHeadP s w o w') Exit.ret { tmps := tmps, defers := [] } wz := by
  subst hP hE
  obtain ⟨z0, z1, z2, z3, z4, z5, z6, z7⟩ := h0.cells8
  refine bodyPost_ret (v := .tuple #[headV b L, .int .i64 P, .int .i64 E]) ?_ rfl ?_
  · simp [results, Tryd.results5, go_sem, ht2, ht3, ht4, z0, z1, z2, z3, z4, z5, z6, z7, headV]
  · unfold RHeadP
    rw [hT]
    exact ⟨rfl, hk⟩

set_option maxRecDepth 100000 in
set_option maxHeartbeats 8000000 in
theorem ref_ReadHead_no (s : ByteArray) (w : World) (hI : ¬ isHead s) :
    Calls Tryd.prog 5 #[.string s] w fun o w' => RHeadP s w o w' := by
  have HT := Lib.hid (show headT s = (false, [], 0, 2) by unfold headT; rw [if_pos hI])
  have HE := Lib.hid (isHead_cut s)
  have HB := Lib.hid (Blk.new w #[.bool false, .int .i64 0, .int .i64 0, .int .i64 0, .int .i64 0, .int .i64 0, .int .i64 0, .int .i64 0] 23)
  by_cases h4 : 4 ≤ s.size
  · have d4 : decide ((s.size : Int) < 4) = false := by simp; omega
    have c1 : ((s.extract 0 4).toList == [97, 97, 103, 32]) = false := by
      rw [beq_eq_false_iff_ne]; exact fun h => hI ((HE.out h4).1 (.inl h))
    have c2 : ((s.extract 0 4).toList == [97, 105, 103, 32]) = false := by
      rw [beq_eq_false_iff_ne]; exact fun h => hI ((HE.out h4).1 (.inr h))
    have h5 : (4 : Int) ≤ (s.size : Int) := by omega
    clear hI
    go_enter Tryd.func5, Tryd.ntmps5
    go_wp2_with fail
    refine refHead_end (P' := 0) (E' := 2) HT.out ?_ rfl rfl ?_ ?_ HB.out ((Kp.refl _ w).alloc _) <;> rfl
  · have d4 : decide ((s.size : Int) < 4) = true := by simp; omega
    clear hI
    go_enter Tryd.func5, Tryd.ntmps5
    go_wp2_with fail
    refine refHead_end (P' := 0) (E' := 2) HT.out ?_ rfl rfl ?_ ?_ HB.out ((Kp.refl _ w).alloc _) <;> rfl

set_option maxRecDepth 100000 in
set_option maxHeartbeats 8000000 in
theorem ref_ReadHead_yes (s : ByteArray) (w : World) (hI : isHead s) (hs : s.size ≤ 100000) :
    Calls Tryd.prog 5 #[.string s] w fun o w' => RHeadP s w o w' := by
  have HI := Lib.hid hI
  have HNat := Lib.hid (fun (p : Nat) (u : World) => ref_Nat s p u (by omega))
  have h4 := hI.1
  have HB0 := Lib.hid (Blk.new w #[.bool false, .int .i64 0, .int .i64 0, .int .i64 0, .int .i64 0, .int .i64 0, .int .i64 0, .int .i64 0] 23)
  have d4 : decide ((s.size : Int) < 4) = false := by simp; omega
  have h5 : (4 : Int) ≤ (s.size : Int) := by omega
  have HC := Lib.hid ((isHead_cut s h4).2 hI)
  clear hI
  go_enter Tryd.func5, Tryd.ntmps5
  go_upto_region 1 with fail
  go_cut [23] from 11 to 23 (fun s23 wx => s23 = .bool false ∧ wx = w.alloc (.cells #[.bool false, .int .i64 0, .int .i64 0, .int .i64 0, .int .i64 0, .int .i64 0, .int .i64 0, .int .i64 0] 23))
  case first =>
    by_cases h1 : (s.extract 0 4).toList = [97, 97, 103, 32]
    · have c1 : ((s.extract 0 4).toList == [97, 97, 103, 32]) = true := by rw [h1]; rfl
      clear h1
      go_wp2_with fail
      go_meet
      case rel => exact ⟨rfl, rfl⟩
    · have c1 : ((s.extract 0 4).toList == [97, 97, 103, 32]) = false := by rw [beq_eq_false_iff_ne]; exact h1
      have c2 : ((s.extract 0 4).toList == [97, 105, 103, 32]) = true := by rw [HC.out.resolve_left h1]; rfl
      clear h1
      go_wp2_with fail
      go_meet
      case rel => exact ⟨rfl, rfl⟩
  case rest =>
  obtain ⟨rfl, rfl⟩ := hcut
  clear d4 h5
  go_wp2_with fail
  go_loopw [5, 6] (fun v5 v6 wr => ∃ p l, v6 = .int .i64 (p : Nat) ∧ l.length ≤ 8 ∧ p ≤ s.size ∧ (∀ j, nth l j ≤ 16777216) ∧ headL s (9 - l.length) p l = headL s 9 4 [] ∧ Blk wr w.heap.size #[.bool false, .int .i64 0, .int .i64 0, .int .i64 0, .int .i64 0, .int .i64 0, .int .i64 0, .int .i64 0] 23 ∧
      Own wr (w.heap.size + 1) 3 v5 (hnums l) ∧ Kp (fun _ => False) w wr) (fun _ v6 _ => s.size - (intOf v6).toNat)
  case atStart =>
    refine ⟨4, [], rfl, by simp, by omega, fun j => by rw [nth_ge (by simp)]; omega, rfl, HB0.out.alloc _, ?_, (((Kp.refl _ w).alloc _).alloc _)⟩
    have hb : Blk ((w.alloc (.cells #[.bool false, .int .i64 0, .int .i64 0, .int .i64 0, .int .i64 0, .int .i64 0, .int .i64 0, .int .i64 0] 23)).alloc (.cells #[] 3)) (w.heap.size + 1) #[] 3 := by
      have := Blk.new (w.alloc (.cells #[.bool false, .int .i64 0, .int .i64 0, .int .i64 0, .int .i64 0, .int .i64 0, .int .i64 0, .int .i64 0] 23)) #[] 3
      rwa [World.size_alloc] at this
    exact own_of (cs := []) hb (Nat.le_refl _) (by simp)
  case round =>
    obtain ⟨p, l, rfl, hl, hp, hb, hrun, hB, hO, hK⟩ := hrel
    obtain ⟨k, hk⟩ : ∃ k, l.length = k := ⟨_, rfl⟩
    obtain ⟨va, vc, hv, hlc, _, _, _⟩ := hO.form
    subst hv
    have HB := Lib.hid hB
    have HO := Lib.hid hO
    have HK := Lib.hid hK
    have HRUN := Lib.hid hrun
    have HBD := Lib.hid hb
    have HL := Lib.hid hk
    rw [hnums_length, hk] at HO ⊢
    have hk8 : k ≤ 8 := by omega
    clear hB hO hK hrun hb hlc hl hk
    have HNp := Lib.hid (fun u => HNat.out p u)
    rw [natT_nat hp] at HNp
    obtain ⟨n, hn⟩ : ∃ n, (natN s p).1 = n := ⟨_, rfl⟩
    obtain ⟨q, hq⟩ : ∃ q, (natN s p).2.1 = q := ⟨_, rfl⟩
    obtain ⟨e, he⟩ : ∃ e, (natN s p).2.2 = e := ⟨_, rfl⟩
    obtain ⟨E, hE⟩ : ∃ E, numE s p (if 7 ≤ k then 0 else 16777216) = E := ⟨_, rfl⟩
    unfold tripI at HNp
    rw [hn, hq, he] at HNp
    have HN := Lib.hid (And.intro hn (And.intro hq (And.intro he hE)))
    have HEE := Lib.hid (show E = if e ≠ 0 then e else if (if 7 ≤ k then 0 else 16777216) < n then 5 else 0 by rw [← hE]; unfold numE; rw [hn, he])
    clear hn hq he hE
    go_wp2_with fail
    refine (HNp.out _).mono ?_
    rintro o w' ⟨rfl, rfl⟩
    go_upto_region 5 with fail
    obtain ⟨wa, rfl⟩ : ∃ wa : World, wa = wr := ⟨_, rfl⟩
    go_cut [47] from 33 to 47 (fun s47 wx => s47 = .bool (decide (e = 0 ∧ E ≠ 0)) ∧ wx = wa)
    case first =>
      have HG : ∀ b : Bool, b = decide (e = 0 ∧ E ≠ 0) → Value.bool b = Value.bool (decide (e = 0 ∧ E ≠ 0)) := fun b h => by rw [h]
      have HG := Lib.hid HG
      by_cases he : e = 0
      · have t1 : ((e : Int) == 0) = true := by rw [beq_iff_eq]; omega
        have he2 := Lib.hid he
        clear he
        by_cases g1 : 16777216 < n
        · have t2 : decide ((16777216 : Int) < (n : Int)) = true := by simp; omega
          have HZ := Lib.hid (show true = decide (e = 0 ∧ E ≠ 0) by symm; rw [decide_eq_true_iff]; refine ⟨he2.out, ?_⟩; rw [HEE.out, if_neg (by simpa using he2.out), if_pos (by split <;> omega)]; omega)
          clear g1
          go_wp2_with fail
          go_meet
          case rel => exact ⟨HG.out _ HZ.out, rfl⟩
        · have t2 : decide ((16777216 : Int) < (n : Int)) = false := by simp; omega
          by_cases g2 : 7 ≤ k
          · have t3 : decide ((6 : Int) < (k : Int)) = true := by simp; omega
            by_cases g3 : 0 < n
            · have t4 : decide (0 < n) = true := by simp; omega
              have HZ := Lib.hid (show true = decide (e = 0 ∧ E ≠ 0) by symm; rw [decide_eq_true_iff]; refine ⟨he2.out, ?_⟩; rw [HEE.out, if_neg (by simpa using he2.out), if_pos (by rw [if_pos g2]; exact g3)]; omega)
              clear g1 g2 g3
              go_wp2_with fail
              go_meet
              case rel => exact ⟨HG.out _ (by first | exact HZ.out | (rw [t4]; exact HZ.out)), rfl⟩
            · have t4 : decide (0 < n) = false := by simp; omega
              have HZ := Lib.hid (show false = decide (e = 0 ∧ E ≠ 0) by symm; rw [decide_eq_false_iff_not]; rintro ⟨_, h⟩; rw [HEE.out, if_neg (by simpa using he2.out), if_neg (by rw [if_pos g2]; exact g3)] at h; exact h rfl)
              clear g1 g2 g3
              go_wp2_with fail
              go_meet
              case rel => exact ⟨HG.out _ (by first | exact HZ.out | (rw [t4]; exact HZ.out)), rfl⟩
          · have t3 : decide ((6 : Int) < (k : Int)) = false := by simp; omega
            have HZ := Lib.hid (show false = decide (e = 0 ∧ E ≠ 0) by symm; rw [decide_eq_false_iff_not]; rintro ⟨_, h⟩; rw [HEE.out, if_neg (by simpa using he2.out), if_neg (by rw [if_neg g2]; exact g1)] at h; exact h rfl)
            clear g1 g2
            go_wp2_with fail
            go_meet
            case rel => exact ⟨HG.out _ HZ.out, rfl⟩
      · have t1 : ((e : Int) == 0) = false := by rw [beq_eq_false_iff_ne]; omega
        have HZ := Lib.hid (show false = decide (e = 0 ∧ E ≠ 0) by symm; rw [decide_eq_false_iff_not]; exact fun h => he h.1)
        clear he
        go_wp2_with fail
        go_meet
        case rel => exact ⟨HG.out _ HZ.out, rfl⟩
    case rest =>
    obtain ⟨rfl, rfl⟩ := hcut
    obtain ⟨z0, z1, z2, z3, z4, z5, z6, z7⟩ := HB.out.cells8
    have zf := HB.out.free
    have f0 := zf 0
    have f1 := zf 1
    have f2 := zf 2
    have f3 := zf 3
    have f4 := zf 4
    have f5 := zf 5
    have f6 := zf 6
    have f7 := zf 7
    clear zf
    have HSet := Lib.hid (HB.out.set8 (.bool false) (.int .i64 0) (.int .i64 0) (.int .i64 0) (.int .i64 0) (.int .i64 0) (.int .i64 0) (.int .i64 0))
    have HKS := Lib.hid (HK.out.set8 (b := w.heap.size) (by simp) (.bool false) (.int .i64 0) (.int .i64 0) (.int .i64 0) (.int .i64 0) (.int .i64 0) (.int .i64 0) (.int .i64 0))
    by_cases hE0 : E = 0
    · have he : e = 0 := by
        by_cases h : e = 0
        · exact h
        · have := HEE.out
          rw [if_pos h] at this
          omega
      have hD : decide (e = 0 ∧ E ≠ 0) = false := by rw [decide_eq_false_iff_not]; exact fun h => h.2 hE0
      have t2 : ((e : Int) != 0) = false := by rw [he]; rfl
      have HN0 := Lib.hid (show numE s p (if 7 ≤ k then 0 else 16777216) = 0 by rw [HN.out.2.2.2]; exact hE0)
      obtain ⟨hpq, hqs, hnt⟩ := numE_ok hp HN.out.1 HN.out.2.1 HN0.out
      have hnt2 : n ≤ 16777216 := by split at hnt <;> omega
      have HSt := Lib.hid (stepH_sign (k := k) rfl HN.out.1 HN.out.2.1 HN0.out)
      clear he hE0 hnt z0 z1 z2 z3 z4 z5 z6 z7 f0 f1 f2 f3 f4 f5 f6 f7 HSet HKS
      rw [hD]
      clear hD
      go_wp2_with (at_builtin; refine wpList_append1 rfl _ _ 42 3 rfl Tryd.underlying42 hintInfo rfl (HO.out.alloc _) rfl ⟨wc.heap.size, 0, none⟩ (.int .i64 (n : Int)) rfl ?c1 rfl ?c2 ?c3 ?c4 ?_)
      case c1 => simp
      case c2 => rw [hnums_length, HL.out]; omega
      case c3 => rw [hnums_length, HL.out]; unfold maxLen; omega
      case c4 => have := HK.out.size; have := HB.out.lt; simp; omega
      intro v3 w3 hO3 hg3
      have hK3 : Kp (fun j => (Value.slice va k vc).ownBlock = some j) wc w3 := ((Kp.refl _ wc).alloc _).grown hg3 (fun j hj _ => hj)
      have hown := fun j (h : (Value.slice va k vc).ownBlock = some j) => (HO.out.lt j h).1
      have HB3 := Lib.hid (HB.out.kp hK3 (fun h => by have := hown _ h; omega))
      have hO4 : Own w3 (w.heap.size + 1) 3 v3 (hnums (l ++ [n])) := by rw [hnums_snoc]; exact hO3
      have HK3 := Lib.hid (HK.out.trans hK3 (fun j hj h => by have := hown j h; omega))
      obtain ⟨a3, c3, hv3, _, _, _, _⟩ := hO4.form
      subst hv3
      obtain ⟨m, hm⟩ : ∃ m, (l ++ [n]).length = m := ⟨_, rfl⟩
      rw [hnums_length, hm] at hO4 ⊢
      have hmk : m = k + 1 := by rw [← hm, List.length_append, HL.out]; rfl
      have HM := Lib.hid (And.intro hm hmk)
      have HO4 := Lib.hid hO4
      clear hO3 hg3 hK3 hown hO4 hm hmk HB HO HK
      obtain ⟨z0, z1, z2, z3, z4, z5, z6, z7⟩ := HB3.out.cells8
      have zf := HB3.out.free
      have f0 := zf 0
      have f1 := zf 1
      have f2 := zf 2
      have f3 := zf 3
      have f4 := zf 4
      have f5 := zf 5
      have f6 := zf 6
      have f7 := zf 7
      clear zf
      by_cases hqe : q = s.size
      · have t3 : ((q : Int) == (s.size : Int)) = true := by rw [beq_iff_eq]; omega
        rw [if_pos hqe] at HSt
        have HT := Lib.hid (headT_bad HI.out (HRUN.out.symm.trans (headL_stop_ HL.out hk8 HSt.out (by decide))) (by decide))
        clear hqe
        have HSet := Lib.hid (HB3.out.set8 (.bool false) (.int .i64 0) (.int .i64 0) (.int .i64 0) (.int .i64 0) (.int .i64 0) (.int .i64 0) (.int .i64 0))
        have HKS := Lib.hid (HK3.out.set8 (b := w.heap.size) (by simp) (.bool false) (.int .i64 0) (.int .i64 0) (.int .i64 0) (.int .i64 0) (.int .i64 0) (.int .i64 0) (.int .i64 0))
        go_wp2_with fail
        refine refHead_end HT.out ?_ rfl rfl ?_ ?_ HSet.out HKS.out <;> rfl
      · have t3 : ((q : Int) == (s.size : Int)) = false := by rw [beq_eq_false_iff_ne]; omega
        rw [if_neg hqe] at HSt
        have hlt : q < s.size := by omega
        have l1 : (q : Int) < (s.size : Int) := by omega
        have hb := bt_eq hlt
        clear hqe
        by_cases hF : bt s q = 10 ∧ 4 ≤ k
        · have e10 : ((bt s q : Int) == 10) = true := by rw [beq_iff_eq]; omega
          have d4 : decide ((4 : Int) < (m : Int)) = true := by have := HM.out.2; simp; omega
          rw [if_pos hF] at HSt
          have HHL := Lib.hid (HRUN.out.symm.trans (headL_fin_ HL.out hk8 HSt.out))
          have hk4 := hF.2
          clear hF
          have HBL := Lib.hid (nth_bound HBD.out n hnt2 (Nat.le_refl _))
          obtain ⟨L, hL⟩ : ∃ L, l ++ [n] = L := ⟨_, rfl⟩
          rw [hL] at HO4 HHL HBL
          have HLm := Lib.hid (show L.length = m by rw [← hL]; exact HM.out.1)
          have HM2 := Lib.hid HM.out.2
          clear hL HM
          have hm5 : 5 ≤ m := by have := HM2.out; omega
          have hm9 : m ≤ 9 := by have := HM2.out; omega
          go_wp2_with (at_builtin; refine wpList_appendAll rfl _ _ 42 3 rfl Tryd.underlying42 hintInfo rfl (HO4.out.alloc _) rfl (some ⟨w3.heap.size, 0, none⟩) 2 2 [.int .i64 0, .int .i64 0] rfl rfl ?r1 (fun h => by cases h) ?r2 ?c2 ?c3 ?c4 ?_)
          case r1 => exact (Blk.new w3 #[Value.int .i64 0, Value.int .i64 0] 3).rowAt (n := 2) rfl
          case r2 => intro u hu; simp at hu; subst hu; rfl
          case c2 => rw [hnums_length, HLm.out]; omega
          case c3 => rw [hnums_length, HLm.out]; unfold maxLen; omega
          case c4 => have := HK3.out.size; have := HB3.out.lt; simp; omega
          intro v5 w5 hO5 hg5
          have hK5 : Kp (fun j => (Value.slice a3 m c3).ownBlock = some j) w3 w5 := ((Kp.refl _ w3).alloc _).grown hg5 (fun j hj _ => hj)
          have hown5 := fun j (h : (Value.slice a3 m c3).ownBlock = some j) => (HO4.out.lt j h).1
          have HB5 := Lib.hid (HB3.out.kp hK5 (fun h => by have := hown5 _ h; omega))
          have HK5 := Lib.hid (HK3.out.trans hK5 (fun j hj h => by have := hown5 j h; omega))
          obtain ⟨g, c5, hv5, hgb, hgl⟩ := hO5.leads (by simp)
          subst hv5
          obtain ⟨m5, hm5e⟩ : ∃ m5, (hnums L ++ [Value.int .i64 0, Value.int .i64 0]).length = m5 := ⟨_, rfl⟩
          rw [hm5e] at hO5 ⊢
          have hm7 : 7 ≤ m5 := by rw [← hm5e, List.length_append, hnums_length, HLm.out]; simp; omega
          have HO5 := Lib.hid hO5
          have HL5 := Lib.hid (show 5 ≤ L.length by rw [HLm.out]; exact hm5)
          clear hO5 hg5 hK5 hown5 HB3 HK3 HO4 z0 z1 z2 z3 z4 z5 z6 z7 f0 f1 f2 f3 f4 f5 f6 f7 hm5e t3 e10 d4 l1 hb hgb hlt
          have i0 : (0 : Int) < (m5 : Int) := by omega
          have j0 : 0 < m5 := by omega
          have i1 : (1 : Int) < (m5 : Int) := by omega
          have i2 : (2 : Int) < (m5 : Int) := by omega
          have i3 : (3 : Int) < (m5 : Int) := by omega
          have i4 : (4 : Int) < (m5 : Int) := by omega
          have i5 : (5 : Int) < (m5 : Int) := by omega
          have i6 : (6 : Int) < (m5 : Int) := by omega
          have l1 : (1 : Int) < (s.size : Int) := by omega
          have hb1 := bt_eq (s := s) (i := 1) (by omega)
          obtain ⟨bb, hbb⟩ : ∃ bb, ((bt s 1 : Int) == 105) = bb := ⟨_, rfl⟩
          have HBB := Lib.hid (show decide (bt s 1 = 105) = bb by rw [← hbb]; exact (int_beq (bt s 1) 105).symm)
          go_upto_region 17 with fail
          obtain ⟨wb, rfl⟩ : ∃ wb : World, wb = w5 := ⟨_, rfl⟩
          go_cut [10] from 89 to 113 (fun s10 wx => ∃ nb, s10 = .pointer (some ⟨nb, 0, none⟩) ∧ w.heap.size < nb ∧ Kp (fun _ => False) w wx ∧ Blk wx w.heap.size #[.bool false, .int .i64 0, .int .i64 0, .int .i64 0, .int .i64 0, .int .i64 0, .int .i64 0, .int .i64 0] 23 ∧ Blk wx nb (headC bb L) 23)
          case first =>
            go_region_held3 (fun u => u.cell? ⟨g, 0, none⟩ = some (.int .i64 (nth L 0)) ∧ u.cell? ⟨g, 1, none⟩ = some (.int .i64 (nth L 1)) ∧ u.cell? ⟨g, 2, none⟩ = some (.int .i64 (nth L 2)) ∧ u.cell? ⟨g, 3, none⟩ = some (.int .i64 (nth L 3)) ∧ u.cell? ⟨g, 4, none⟩ = some (.int .i64 (nth L 4)) ∧ u.cell? ⟨g, 5, none⟩ = some (.int .i64 (nth L 5)) ∧ u.cell? ⟨g, 6, none⟩ = some (.int .i64 (nth L 6))) (first | exact own_cells7 HO5.out HL5.out | exact own_cells7 HO5.out.drew HL5.out | exact own_cells7 (HO5.out.alloc _) HL5.out | exact own_cells7 (HO5.out.drew.alloc _) HL5.out | exact own_cells7 (HO5.out.alloc _).drew HL5.out) (fail)
            all_goals go_wp2_with fail
            all_goals go_meet
            all_goals exact ⟨_, rfl, HB5.out.lt, (HK5.out.alloc _).drew, (HB5.out.alloc _).drew, (Blk.new wb _ _).drew⟩
          case rest =>
          obtain ⟨nb, rfl, hnb, hK6, hB6, hN6⟩ := hcut
          have HK6 := Lib.hid hK6
          have HB6 := Lib.hid hB6
          obtain ⟨z0, z1, z2, z3, z4, z5, z6, z7⟩ := hB6.cells8
          obtain ⟨y0, y1, y2, y3, y4, y5, y6, y7⟩ := hN6.cells8
          have zf := hB6.free
          have f0 := zf 0
          have f1 := zf 1
          have f2 := zf 2
          have f3 := zf 3
          have f4 := zf 4
          have f5 := zf 5
          have f6 := zf 6
          have f7 := zf 7
          have k0 := HBL.out 0
          have k1 := HBL.out 1
          have k2 := HBL.out 2
          have k4 := HBL.out 4
          clear zf hK6 hB6 hN6 i0 i1 i2 i3 i4 i5 i6 l1 hb1 hbb
          by_cases C1 : nth L 0 < nth L 1 + nth L 2 + nth L 4
          · have t1 : decide ((nth L 0 : Int) < (nth L 1 : Int) + (nth L 2 : Int) + (nth L 4 : Int)) = true := by simp; omega
            have HT := Lib.hid (headT_sum HI.out HHL.out HBB.out (.inl C1))
            clear C1
            go_wp2_with fail
            refine refHead_end (P' := 4) (E' := 5) HT.out ?_ rfl rfl ?_ ?_ (HB6.out.set8 (.bool false) (.int .i64 0) (.int .i64 0) (.int .i64 0) (.int .i64 0) (.int .i64 0) (.int .i64 0) (.int .i64 0)) (HK6.out.set8 (b := w.heap.size) (by simp) (.bool false) (.int .i64 0) (.int .i64 0) (.int .i64 0) (.int .i64 0) (.int .i64 0) (.int .i64 0) (.int .i64 0)) <;> rfl
          · have t1 : decide ((nth L 0 : Int) < (nth L 1 : Int) + (nth L 2 : Int) + (nth L 4 : Int)) = false := by simp; omega
            cases bb with
            | false =>
              have HT := Lib.hid (headT_ok HI.out HHL.out HBB.out (fun h => by rcases h with h | ⟨h, _⟩; exact C1 h; cases h))
              clear C1
              go_wp2_with fail
              refine refHead_end (P' := (q : Int) + 1) (E' := 0) HT.out ?_ rfl rfl ?_ ?_ (HB6.out.set8 (.bool false) (.int .i64 (nth L 0)) (.int .i64 (nth L 1)) (.int .i64 (nth L 2)) (.int .i64 (nth L 3)) (.int .i64 (nth L 4)) (.int .i64 (nth L 5)) (.int .i64 (nth L 6))) (HK6.out.set8 (b := w.heap.size) (by simp) (.bool false) (.int .i64 (nth L 0)) (.int .i64 (nth L 1)) (.int .i64 (nth L 2)) (.int .i64 (nth L 3)) (.int .i64 (nth L 4)) (.int .i64 (nth L 5)) (.int .i64 (nth L 6))) <;> rfl
            | true =>
              by_cases C2 : nth L 1 + nth L 2 + nth L 4 < nth L 0
              · have t2 : decide ((nth L 1 : Int) + (nth L 2 : Int) + (nth L 4 : Int) < (nth L 0 : Int)) = true := by simp; omega
                have HT := Lib.hid (headT_sum HI.out HHL.out HBB.out (.inr ⟨rfl, C2⟩))
                clear C1 C2
                go_wp2_with fail
                refine refHead_end (P' := 4) (E' := 5) HT.out ?_ rfl rfl ?_ ?_ (HB6.out.set8 (.bool false) (.int .i64 0) (.int .i64 0) (.int .i64 0) (.int .i64 0) (.int .i64 0) (.int .i64 0) (.int .i64 0)) (HK6.out.set8 (b := w.heap.size) (by simp) (.bool false) (.int .i64 0) (.int .i64 0) (.int .i64 0) (.int .i64 0) (.int .i64 0) (.int .i64 0) (.int .i64 0)) <;> rfl
              · have t2 : decide ((nth L 1 : Int) + (nth L 2 : Int) + (nth L 4 : Int) < (nth L 0 : Int)) = false := by simp; omega
                have HT := Lib.hid (headT_ok HI.out HHL.out HBB.out (fun h => by rcases h with h | ⟨_, h⟩; exact C1 h; exact C2 h))
                clear C1 C2
                go_wp2_with fail
                refine refHead_end (P' := (q : Int) + 1) (E' := 0) HT.out ?_ rfl rfl ?_ ?_ (HB6.out.set8 (.bool true) (.int .i64 (nth L 0)) (.int .i64 (nth L 1)) (.int .i64 (nth L 2)) (.int .i64 (nth L 3)) (.int .i64 (nth L 4)) (.int .i64 (nth L 5)) (.int .i64 (nth L 6))) (HK6.out.set8 (b := w.heap.size) (by simp) (.bool true) (.int .i64 (nth L 0)) (.int .i64 (nth L 1)) (.int .i64 (nth L 2)) (.int .i64 (nth L 3)) (.int .i64 (nth L 4)) (.int .i64 (nth L 5)) (.int .i64 (nth L 6))) <;> rfl
        · rw [if_neg hF] at HSt
          by_cases hM : bt s q = 32 ∧ k < 8
          · have e10 : ((bt s q : Int) == 10) = false := by rw [beq_eq_false_iff_ne]; omega
            have e32 : ((bt s q : Int) != 32) = false := by have := hM.1; rw [this]; rfl
            have e9 : ((m : Int) == 9) = false := by have := HM.out.2; rw [beq_eq_false_iff_ne]; omega
            rw [if_pos hM] at HSt
            have HRR := Lib.hid ((headL_more_ HL.out hk8 HSt.out).trans HRUN.out)
            have hk7 := hM.2
            clear hF hM
            go_wp2_with fail
            go_roundw
            case rel =>
              refine ⟨q + 1, l ++ [n], by go_num, by rw [HM.out.1, HM.out.2]; omega, by omega, nth_bound HBD.out n hnt2 (Nat.le_refl _), HRR.out, HB3.out, HO4.out, HK3.out⟩
            case measure => simp [intOf]; omega
          · rw [if_neg hM] at HSt
            have HT := Lib.hid (headT_bad HI.out (HRUN.out.symm.trans (headL_stop_ HL.out hk8 HSt.out (by decide))) (by decide))
            by_cases hB10 : bt s q = 10
            · have e10 : ((bt s q : Int) == 10) = true := by rw [beq_iff_eq]; omega
              have d4 : decide ((4 : Int) < (m : Int)) = false := by have := HM.out.2; simp; omega
              have e32 : ((bt s q : Int) != 32) = true := by rw [bne_iff_ne]; omega
              clear hF hM hB10
              have HSet := Lib.hid (HB3.out.set8 (.bool false) (.int .i64 0) (.int .i64 0) (.int .i64 0) (.int .i64 0) (.int .i64 0) (.int .i64 0) (.int .i64 0))
              have HKS := Lib.hid (HK3.out.set8 (b := w.heap.size) (by simp) (.bool false) (.int .i64 0) (.int .i64 0) (.int .i64 0) (.int .i64 0) (.int .i64 0) (.int .i64 0) (.int .i64 0))
              go_wp2_with fail
              refine refHead_end HT.out ?_ rfl rfl ?_ ?_ HSet.out HKS.out <;> rfl
            · have e10 : ((bt s q : Int) == 10) = false := by rw [beq_eq_false_iff_ne]; omega
              by_cases hB32 : bt s q = 32
              · have e32 : ((bt s q : Int) != 32) = false := by rw [hB32]; rfl
                have e9 : ((m : Int) == 9) = true := by have := HM.out.2; rw [beq_iff_eq]; omega
                clear hF hM hB10 hB32
                have HSet := Lib.hid (HB3.out.set8 (.bool false) (.int .i64 0) (.int .i64 0) (.int .i64 0) (.int .i64 0) (.int .i64 0) (.int .i64 0) (.int .i64 0))
                have HKS := Lib.hid (HK3.out.set8 (b := w.heap.size) (by simp) (.bool false) (.int .i64 0) (.int .i64 0) (.int .i64 0) (.int .i64 0) (.int .i64 0) (.int .i64 0) (.int .i64 0))
                go_wp2_with fail
                refine refHead_end HT.out ?_ rfl rfl ?_ ?_ HSet.out HKS.out <;> rfl
              · have e32 : ((bt s q : Int) != 32) = true := by rw [bne_iff_ne]; omega
                clear hF hM hB10 hB32
                have HSet := Lib.hid (HB3.out.set8 (.bool false) (.int .i64 0) (.int .i64 0) (.int .i64 0) (.int .i64 0) (.int .i64 0) (.int .i64 0) (.int .i64 0))
                have HKS := Lib.hid (HK3.out.set8 (b := w.heap.size) (by simp) (.bool false) (.int .i64 0) (.int .i64 0) (.int .i64 0) (.int .i64 0) (.int .i64 0) (.int .i64 0) (.int .i64 0))
                go_wp2_with fail
                refine refHead_end HT.out ?_ rfl rfl ?_ ?_ HSet.out HKS.out <;> rfl
    · have HT := Lib.hid (headT_bad HI.out (HRUN.out.symm.trans (headL_stop_ HL.out hk8 (stepH_num rfl HN.out.2.2.2 hE0) hE0)) hE0)
      by_cases he : e = 0
      · have hD : decide (e = 0 ∧ E ≠ 0) = true := by rw [decide_eq_true_iff]; exact ⟨he, hE0⟩
        have hE5 : (5 : Int) = (E : Int) := by
          have := HEE.out
          rw [if_neg (by simpa using he)] at this
          by_cases hh : (if 7 ≤ k then 0 else 16777216) < n
          · rw [if_pos hh] at this; omega
          · rw [if_neg hh] at this; exact absurd this hE0
        have HE5 := Lib.hid hE5
        clear he hE0 hE5
        rw [hD]
        go_wp2_with fail
        refine refHead_end HT.out ?_ rfl HE5.out ?_ ?_ HSet.out HKS.out <;> rfl
      · have hD : decide (e = 0 ∧ E ≠ 0) = false := by rw [decide_eq_false_iff_not]; exact fun h => he h.1
        have t1 : ((e : Int) == 0) = false := by rw [beq_eq_false_iff_ne]; omega
        have hE5 : (e : Int) = (E : Int) := by
          have := HEE.out
          rw [if_pos (by simpa using he)] at this
          omega
        have HE5 := Lib.hid hE5
        clear hE0 hE5
        rw [hD]
        have t2 : ((e : Int) != 0) = true := by rw [bne_iff_ne]; omega
        clear t1 he hD
        go_wp2_with fail
        refine refHead_end HT.out ?_ rfl HE5.out ?_ ?_ HSet.out HKS.out <;> rfl

end Go.Proofs.YtjeaggfjjdfacaaDoor

/-
  latchetlaw13's example lives.
-/
namespace Go.Proofs.YtjeaggfjjdfacaaDoor
open Go.RowKit

theorem rdK : RdK := ⟨fun s p u hs hp => octet_Nat_in s p u hs hp, fun s c u => Tryd.strings_IndexByte s c u, fun s p u => Tryd.strings_HasPrefix s p u⟩

def exS : ByteArray := ⟨#[97, 97, 103, 32, 49, 32, 48, 32, 49, 32, 48, 32, 48, 32, 49, 10, 50, 32, 51, 10, 50, 10]⟩

theorem ex_head : headT exS = (false, [1, 0, 1, 0, 0, 1], 16, 0) := by kernel_rfl

theorem ex_ReadHead (u : World) : Calls Tryd.prog 4 #[.string exS] u fun e w' =>
    e = .returned (.tuple #[.agg #[.bool false, .int .i64 1, .int .i64 0, .int .i64 1, .int .i64 0, .int .i64 0, .int .i64 1, .int .i64 0], .int .i64 16, .int .i64 0]) ∧ Kp (fun _ => False) u w' := by
  refine (ascii_ReadHead rdK exS u (by decide)).mono ?_
  rintro e w' ⟨rfl, hK⟩
  rw [ex_head]
  exact ⟨rfl, hK⟩

theorem ex_n1 : natN exS 16 = (2, 17, 0) := by kernel_rfl
theorem ex_n2 : natN exS 18 = (3, 19, 0) := by kernel_rfl
theorem ex_n3 : natN exS 20 = (2, 21, 0) := by kernel_rfl
theorem ex_b1 : bt exS 17 = 32 := by kernel_rfl
theorem ex_b2 : bt exS 19 = 10 := by kernel_rfl
theorem ex_b3 : bt exS 21 = 10 := by kernel_rfl

set_option maxRecDepth 100000 in
set_option maxHeartbeats 4000000 in
theorem lives_ok (w : World) : Calls Tryd.prog 8 #[] w fun e w' => e = .returned (.bool true) ∧ Kp (fun _ => False) w w' := by
  have HR := Lib.hid ex_ReadHead
  have HX := Lib.hid (fun u => ascii_Read_ex rdK exS u rfl ex_n1 ex_b1 ex_n2 ex_b2 ex_n3 ex_b3)
  unfold exS headX at *
  have hq := fun u => eqHead false 1 0 1 0 0 1 0 u
  go_enter Tryd.func8, Tryd.ntmps8
  go_wp2_with fail
  refine (HR.out _).mono ?_
  rintro e w1 ⟨rfl, hK1⟩
  have HK1 := Lib.hid hK1
  have HB1 := Lib.hid (Blk.new w1 #[.bool false, .int .i64 1, .int .i64 0, .int .i64 1, .int .i64 0, .int .i64 0, .int .i64 1, .int .i64 0] 23)
  clear hK1
  go_wp2_with fail
  refine (HX.out _).mono ?_
  rintro e w2 ⟨gl, cl, gb, cb, rfl, k0, k1, k2, k3, hK2⟩
  have HB2 := Lib.hid (HB1.out.kp hK2 (fun h => h))
  have HK2 := Lib.hid (((HK1.out.alloc _).trans hK2 (fun _ _ h => h)))
  obtain ⟨z0, z1, z2, z3, z4, z5, z6, z7⟩ := HB2.out.cells8
  have lz := HB2.out.lt
  have lg := World.block_lt_of_cell? w2 _ k0
  have lb := World.block_lt_of_cell? w2 _ k3
  clear hK2
  go_wp2_with fail
  have HT := Lib.hid (three_new w2 #[.int .i64 1, .slice none 0 0, .slice (some ⟨gl, 0, none⟩) 1 cl, .slice none 0 0, .slice (some ⟨gb, 0, none⟩) 1 cb, .slice none 0 0, .slice none 0 0, .slice none 0 0, .string ⟨#[]⟩] #[.int .i64 2, .int .i64 3, .int .i64 0] #[.int .i64 2] 51 56 3)
  have HKt := Lib.hid ((((Kp.refl (fun _ => False) w2).alloc (.cells #[.int .i64 1, .slice none 0 0, .slice (some ⟨gl, 0, none⟩) 1 cl, .slice none 0 0, .slice (some ⟨gb, 0, none⟩) 1 cb, .slice none 0 0, .slice none 0 0, .slice none 0 0, .string ⟨#[]⟩] 51)).alloc (.cells #[.int .i64 2, .int .i64 3, .int .i64 0] 56)).alloc (.cells #[.int .i64 2] 3))
  have kk := fun g k v (h : w2.cell? ⟨g, k, none⟩ = some v) => (World.cell?_of_block (a := ⟨g, k, none⟩) (HKt.out.block g (World.block_lt_of_cell? w2 _ h) (fun h => h))).trans h
  refine (ref11_Same_ex gl cl gb cb (w2.heap.size + 1) 1 (w2.heap.size + 1 + 1) 1 _ (kk _ _ _ k0) (kk _ _ _ k1) (kk _ _ _ k2) (kk _ _ _ k3) (HT.out.2.1.cell rfl) (HT.out.2.1.cell rfl) (HT.out.2.1.cell rfl) (HT.out.2.2.cell rfl)).mono ?_
  rintro e w3 ⟨rfl, hK3⟩
  have HK3 := Lib.hid ((HK2.out.trans HKt.out (fun _ _ h => h)).trans hK3 (fun _ _ h => h))
  clear hK3 kk
  go_wp2_with fail
  go_ret
  exact ⟨rfl, HK3.out⟩

end Go.Proofs.YtjeaggfjjdfacaaDoor

/-
  octet.Num and its reference; octet.Dec: what they compute.
-/
namespace Go.Proofs.YtjeaggfjjdfacaaDoor
open Go.RowKit

/-- a number's digits of seven bits -/
def numL : Nat → Nat → List UInt8
  | 0, n => [UInt8.ofNat n]
  | f + 1, n => if n ≤ 127 then [UInt8.ofNat n] else UInt8.ofNat (n % 128 + 128) :: numL f (n / 128)

def bytesV (l : List UInt8) : List Value := l.map (fun b => Value.int .u8 (b.toNat : Int))

theorem bytesV_length (l : List UInt8) : (bytesV l).length = l.length := by simp [bytesV]

theorem numL_length (f : Nat) : ∀ n, (numL f n).length ≤ f + 1 := by
  induction f with
  | zero => intro n; simp [numL]
  | succ f ih => intro n; simp only [numL]; split; simp; (have := ih (n / 128); simp; omega)

theorem or_128 {m : Nat} (h : m < 256) : m ||| 128 = m % 128 + 128 := by
  have : ∀ m, m < 256 → m ||| 128 = m % 128 + 128 := by decide +kernel
  exact this m h

theorem byte_or (m : Nat) : bits .or .u8 ((m : Int) % 256) 128 = (((UInt8.ofNat (m % 128 + 128)).toNat : Nat) : Int) := by
  have h := Go.u8_or_nat (m % 256) 128 (by omega) (by decide)
  rw [or_128 (by omega)] at h
  rw [show ((m : Int) % 256) = ((m % 256 : Nat) : Int) from by omega]
  refine h.trans ?_
  simp only [UInt8.toNat_ofNat']
  omega

/-- 'string(b)' of an owned row of bytes -/
theorem own_string {w : World} {base g n cap : Nat} {l : List UInt8} (h : Own w base 5 (.slice (some ⟨g, 0, none⟩) n cap) (bytesV l)) :
    (convert 81 9 (.slice (some ⟨g, 0, none⟩) n cap)).run Tryd.prog w = .ok (.string ⟨l.toArray⟩) w := by
  have hn : n = l.length := by
    obtain ⟨a, c, e, _⟩ := h.form
    simp only [Value.slice.injEq] at e
    rw [e.2.1, bytesV_length]
  subst hn
  refine run_convert_bytes_back w 81 9 5 ⟨g, 0, none⟩ cap l Tryd.underlying81 Tryd.underlying5 Tryd.underlying9 (fun j hj => ?_)
  rw [add_plain', Nat.zero_add]
  exact h.cell (by simp [bytesV, hj])

theorem Tryd.info5 : (Tryd.prog.info? 5).map (fun i => (i.zero, i.size, i.bytes)) = some (some (.int .u8 0), 1, 1) := by kernel_rfl

end Go.Proofs.YtjeaggfjjdfacaaDoor

/-
  latchetlaw01: lives; the table that strconv.Itoa reads.
-/
namespace Go.Proofs.YtjeaggfjjdfacaaDoor
open Go.RowKit

/-- the table of powers of ten lies as its text lays it -/
def Tab (w : World) : Prop := Lib.TabIs Tryd.prog w "internal/strconv.uint64pow10" .u64 Lib.pow10Tab

theorem gPow : Tryd.prog.globalNamed "internal/strconv.uint64pow10" = some 3 := by kernel_rfl

theorem Tab.lt {w : World} (h : Tab w) : 3 < w.heap.size :=
  World.block_lt_of_cell? w _ (Lib.TabIs.cell h gPow 0 (by decide))

theorem Tab.kp {w w' : World} (h : Tab w) (k : Kp (fun _ => False) w w') : Tab w' :=
  var?_below (k.below (Nat.le_refl _) (fun _ _ h => h)) gPow h.lt h

theorem kp_grow (w : World) (k : Nat) (os : Array Obj) : Kp (fun _ => False) w (Sort.grow (w.drewN k) os) := by
  refine ⟨rfl, rfl, rfl, ?_, fun i hi _ => ?_⟩
  · show w.heap.size ≤ (w.heap ++ os).size
    simp
  · show (w.heap ++ os)[i]? = _
    rw [Array.getElem?_append_left hi]

theorem octet_Dec (n : Int) (w : World) (h0 : -9223372036854775808 ≤ n) (h1 : n ≤ 9223372036854775807) (ht : Tab w) :
    Calls Tryd.prog 22 #[.int .i64 n] w fun e w' => e = .returned (.string ⟨(Lib.itoa n).toArray⟩) ∧ Kp (fun _ => False) w w' := by
  have HT := Lib.hid ht; clear ht
  go_enter Tryd.func22, Tryd.ntmps22
  go_wp2_with fail
  refine (Tryd.strconv_Itoa n h0 h1 _ HT.out).mono ?_
  rintro e w' ⟨rfl, k, os, rfl⟩
  go_wp2_with fail
  go_ret
  exact ⟨rfl, kp_grow _ _ _⟩

end Go.Proofs.YtjeaggfjjdfacaaDoor

/-
  A number by digits of seven bits is got again.
-/
namespace Go.Proofs.YtjeaggfjjdfacaaDoor
open Go.RowKit

theorem bt_list (l : List UInt8) (i : Nat) (b : UInt8) (h : l[i]? = some b) : bt ⟨l.toArray⟩ i = b.toNat := by
  have hi : i < l.length := (List.getElem?_eq_some_iff.1 h).1
  have hs : i < (⟨l.toArray⟩ : ByteArray).size := by simpa [ByteArray.size] using hi
  rw [← bt_eq hs]
  have : (⟨l.toArray⟩ : ByteArray)[i]'hs = l[i] := rfl
  rw [this]
  rw [List.getElem?_eq_getElem hi] at h
  simp only [Option.some.injEq] at h
  rw [h]

theorem size_list (l : List UInt8) : (⟨l.toArray⟩ : ByteArray).size = l.length := by simp [ByteArray.size]

theorem ofNat_toNat {m : Nat} (h : m < 256) : (UInt8.ofNat m).toNat = m := by
  simp only [UInt8.toNat_ofNat']; omega

theorem get_num (more : List UInt8) (r : Nat) : ∀ (k m a : Nat) (pre : List UInt8), pre.length = k → k + (r + 1) = 5 → m * 128 ^ k < 4294967296 → (0 < k → 0 < m) →
    getR ⟨(pre ++ numL (r + 1) m ++ more).toArray⟩ 0 (r + 1) k a = (a + m * 128 ^ k, k + (numL (r + 1) m).length, 0) := by
  induction r with
  | zero =>
    intro k m a pre hp hk hm h0
    have hk4 : k = 4 := by omega
    subst hk4
    have hm15 : m ≤ 15 := by omega
    have hL : numL 1 m = [UInt8.ofNat m] := by simp only [numL]; rw [if_pos (by omega)]
    have hb : bt ⟨(pre ++ numL 1 m ++ more).toArray⟩ (0 + 4) = m := by
      rw [bt_list _ _ (UInt8.ofNat m) (by rw [hL, List.append_assoc, List.getElem?_append_right (by omega), hp]; rfl), ofNat_toNat (by omega)]
    rw [getR_step, hb, if_neg (by rw [size_list]; simp [hL]; omega), if_neg (by omega), if_neg (by have := h0 (by omega); omega), if_pos (by omega), hL]
    simp only [List.length_singleton]
    rw [Nat.mod_eq_of_lt (by omega)]
  | succ r ih =>
    intro k m a pre hp hk hm h0
    by_cases hs : m ≤ 127
    · have hL : numL (r + 1 + 1) m = [UInt8.ofNat m] := by simp only [numL]; rw [if_pos hs]
      have hb : bt ⟨(pre ++ numL (r + 1 + 1) m ++ more).toArray⟩ (0 + k) = m := by
        rw [bt_list _ _ (UInt8.ofNat m) (by rw [hL, List.append_assoc, List.getElem?_append_right (by omega), hp, Nat.zero_add, Nat.sub_self]; rfl), ofNat_toNat (by omega)]
      rw [getR_step, hb, if_neg (by rw [size_list]; simp [hL]; omega), if_neg (by omega), if_neg (fun h => by have := h0 h.1; omega), if_pos (by omega), hL]
      simp only [List.length_singleton]
      rw [Nat.mod_eq_of_lt (by omega)]
      simp
    · have hL : numL (r + 1 + 1) m = UInt8.ofNat (m % 128 + 128) :: numL (r + 1) (m / 128) := by rw [numL, if_neg hs]
      have hb : bt ⟨(pre ++ numL (r + 1 + 1) m ++ more).toArray⟩ (0 + k) = m % 128 + 128 := by
        rw [bt_list _ _ (UInt8.ofNat (m % 128 + 128)) (by rw [hL, List.append_assoc, List.getElem?_append_right (by omega), hp, Nat.zero_add, Nat.sub_self]; rfl), ofNat_toNat (by omega)]
      have e : pre ++ numL (r + 1 + 1) m ++ more = (pre ++ [UInt8.ofNat (m % 128 + 128)]) ++ numL (r + 1) (m / 128) ++ more := by rw [hL]; simp
      rw [getR_step, hb, if_neg (by rw [size_list]; simp [hL]; omega), if_neg (by omega), if_neg (by omega), if_neg (by omega), e]
      rw [ih (k + 1) (m / 128) _ _ (by simp [hp]) (by omega) ?_ (fun _ => by omega)]
      · rw [hL, List.length_cons]
        refine Prod.ext ?_ (Prod.ext ?_ rfl)
        · show a + (m % 128 + 128) % 128 * 128 ^ k + m / 128 * 128 ^ (k + 1) = a + m * 128 ^ k
          have e1 : (m % 128 + 128) % 128 = m % 128 := by omega
          have e2 : m * 128 ^ k = (m % 128 + 128 * (m / 128)) * 128 ^ k := by congr 1; omega
          rw [e1, e2, Nat.pow_succ, Nat.add_mul]
          have : m / 128 * (128 ^ k * 128) = 128 * (m / 128) * 128 ^ k := by
            rw [Nat.mul_comm (128 ^ k) 128, ← Nat.mul_assoc, Nat.mul_comm (m / 128) 128]
          omega
        · show k + 1 + _ = k + (_ + 1)
          omega
      · rw [Nat.pow_succ]
        have : m / 128 * (128 ^ k * 128) = (m / 128 * 128) * 128 ^ k := by
          rw [Nat.mul_comm (128 ^ k) 128, ← Nat.mul_assoc]
        rw [this]
        exact Nat.lt_of_le_of_lt (Nat.mul_le_mul_right _ (Nat.div_mul_le_self m 128)) hm

theorem get_puts (n : Nat) (more : List UInt8) (hn : n < 4294967296) : getT ⟨(numL 5 n ++ more).toArray⟩ 0 = (n, (numL 5 n).length, 0) := by
  have h := get_num more 4 0 n 0 [] rfl rfl (by omega) (by omega)
  unfold getT
  rw [if_neg (by omega)]
  unfold getN
  simpa using h

end Go.Proofs.YtjeaggfjjdfacaaDoor

/-
  latchetref01.Num and Dec: what they compute.
-/
namespace Go.Proofs.YtjeaggfjjdfacaaDoor
open Go.RowKit

/-- 'string([]byte{b})' -/
theorem one_string (E : Nat) (hE : E < 256) (u : World) :
    (convert 81 9 (.slice (some ⟨u.heap.size, 0, none⟩) 1 1)).run Tryd.prog (u.alloc (.cells #[.int .u8 (E : Int)] 5)) = .ok (.string ⟨#[UInt8.ofNat E]⟩) (u.alloc (.cells #[.int .u8 (E : Int)] 5)) := by
  have h := run_convert_bytes_back (P := Tryd.prog) (u.alloc (.cells #[.int .u8 (E : Int)] 5)) 81 9 5 ⟨u.heap.size, 0, none⟩ 1 [UInt8.ofNat E] Tryd.underlying81 Tryd.underlying5 Tryd.underlying9 (fun j hj => by
    have hj0 : j = 0 := by simpa using hj
    subst hj0
    rw [add_plain', Nat.zero_add]
    refine (World.cell?_alloc_at _ _ _ _ rfl).trans ?_
    simp [ofNat_toNat hE])
  exact h

theorem cat_bytes (a b : List UInt8) : (⟨a.toArray⟩ : ByteArray) ++ ⟨b.toArray⟩ = ⟨(a ++ b).toArray⟩ := by
  apply ByteArray.ext; simp

end Go.Proofs.YtjeaggfjjdfacaaDoor
