/-
  ascii's reader: what a number and a sign compute, or with what they stop.
-/
import Derived.Test.YtckmdcmkjmpiaaaGreatDoorM4
import Derived.Test.YtckmdcmkjmpiaaaGreatDoorM1
import Derived.Deep.RegionHeld3
import Derived.RegionTactic
import Derived.Tactics2
import Derived.Deep.CutBlock
import Derived.Test.YtckmdcmkjmpiaaaGreatDoorM3
import Derived.Deep.DeepCutAuto
import Derived.RangeFuncCalls
set_option linter.unusedVariables false
set_option linter.unusedSimpArgs false
namespace Go.Proofs.YtckmdcmkjmpiaaaGreatDoor
open Go.RowKit

/-- what is wrong with the number at a place, at most so much -/
def numE (s : ByteArray) (p top : Nat) : Nat := if (natN s p).2.2 ≠ 0 then (natN s p).2.2 else if top < (natN s p).1 then 5 else 0

/-- what a call of number ends with: n at the place q, or the stop with the error e -/
def NumP (s : ByteArray) (p b n q e : Nat) (w : World) (o : Ending) (w' : World) : Prop :=
  (e = 0 ∧ o = .returned (.int .i64 n) ∧ Kp (fun j => j = b) w w' ∧ Blk w' b #[.string s, .int .i64 q] 77) ∨
  (e ≠ 0 ∧ o = .panicked [{ v := stopV p e, recovered := false }] ∧ Kp (fun j => j = b) w w' ∧ Blk w' b #[.string s, .int .i64 p] 77)

set_option maxRecDepth 100000 in
set_option maxHeartbeats 1000000 in
theorem ascii_number (hNat : ∀ (s : ByteArray) (p : Nat) (u : World), s.size ≤ 9223372036854775000 → p ≤ s.size → Calls Tryz.prog 65 #[.string s, .int .i64 p] u fun e u' => e = .returned (tripI (natN s p)) ∧ Kp (fun _ => False) u u')
    (s : ByteArray) (p top b : Nat) (w : World) (hs : s.size ≤ 9223372036854775000) (hp : p ≤ s.size) (hB : Blk w b #[.string s, .int .i64 p] 77) :
    Calls Tryz.prog 31 #[.pointer (some ⟨b, 0, none⟩), .int .i64 top] w fun o w' =>
      NumP s p b (natN s p).1 (natN s p).2.1 (numE s p top) w o w' := by
  have HN := Lib.hid (fun u => hNat s p u hs hp)
  clear hNat
  unfold numE
  obtain ⟨n, q, e, hN⟩ : ∃ n q e, natN s p = (n, q, e) := ⟨_, _, _, rfl⟩
  rw [hN] at HN ⊢
  unfold tripI at HN
  simp only at HN ⊢
  clear hN
  obtain ⟨b0, b1, -, f1⟩ := hB.cells2
  have HB := Lib.hid hB
  clear hB
  have HKF := Lib.hid (fun (w1 : World) (h : Kp (fun _ => False) w.drew w1) => ((Kp.refl (fun j => j = b) w).drew).trans h (fun _ _ h => h.elim))
  have HKS := Lib.hid (fun (w1 : World) (h : Kp (fun _ => False) w.drew w1) (v : Value) => (((Kp.refl (fun j => j = b) w).drew).trans h (fun _ _ h => h.elim)).setCell (p := ⟨b, 1, none⟩) (fun _ => rfl) v)
  go_enter Tryz.func31, Tryz.ntmps31
  go_wp2_with fail
  go_region_with (go_at_call 65; refine (HN.out _).mono ?_; rintro o w1 ⟨rfl, hK1⟩)
  all_goals clear HN b0 b1 f1
  all_goals have HB1 := Lib.hid (HB.out.drew.kp hK1 (fun h => h))
  all_goals have HK1 := Lib.hid hK1
  all_goals clear hK1
  all_goals obtain ⟨c0, c1, -, g1⟩ := HB1.out.cells2
  all_goals by_cases he : e = 0
  all_goals try subst he
  · by_cases ht : top < n
    · have d1 : decide ((top : Int) < (n : Int)) = true := by simp; omega
      go_wp2_with fail
      refine (ascii_fail _ _ _ _).mono ?_
      rintro o w' ⟨rfl, rfl⟩
      go_wp2_with fail
      refine ⟨rfl, ?_⟩
      unfold NumP
      refine .inr ⟨?_, ?_, HKF.out _ HK1.out, HB1.out⟩
      · (first | exact he | rfl | decide | omega | (simp only [ht, he, ne_eq, not_true_eq_false, not_false_eq_true, if_true, if_false]; first | rfl | omega))
      · (first | exact he | rfl | decide | omega | (simp only [ht, he, ne_eq, not_true_eq_false, not_false_eq_true, if_true, if_false]; first | rfl | omega))
    · have d1 : decide ((top : Int) < (n : Int)) = false := by simp; omega
      go_wp2_with fail
      go_ret
      unfold NumP
      refine .inl ⟨?_, rfl, HKS.out _ HK1.out _, HB1.out.set_same 1 _⟩
      (first | exact he | rfl | decide | omega | (simp only [ht, he, ne_eq, not_true_eq_false, not_false_eq_true, if_true, if_false]; first | rfl | omega))
  · have e1 : ((e : Int) == 0) = false := by rw [beq_eq_false_iff_ne]; omega
    go_wp2_with fail
    refine (ascii_fail _ _ _ _).mono ?_
    rintro o w' ⟨rfl, rfl⟩
    go_wp2_with fail
    refine ⟨rfl, ?_⟩
    unfold NumP
    refine .inr ⟨?_, ?_, HKF.out _ HK1.out, HB1.out⟩
    · (first | exact he | rfl | decide | omega | (simp only [ht, he, ne_eq, not_true_eq_false, not_false_eq_true, if_true, if_false]; first | rfl | omega))
    · (first | exact he | rfl | decide | omega | (simp only [ht, he, ne_eq, not_true_eq_false, not_false_eq_true, if_true, if_false]; first | rfl | omega))
  · by_cases ht : top < n
    · have d1 : decide ((top : Int) < (n : Int)) = true := by simp; omega
      go_wp2_with fail
      refine (ascii_fail _ _ _ _).mono ?_
      rintro o w' ⟨rfl, rfl⟩
      go_wp2_with fail
      refine ⟨rfl, ?_⟩
      unfold NumP
      refine .inr ⟨?_, ?_, HKF.out _ HK1.out, HB1.out⟩
      · (first | exact he | rfl | decide | omega | (simp only [ht, he, ne_eq, not_true_eq_false, not_false_eq_true, if_true, if_false]; first | rfl | omega))
      · (first | exact he | rfl | decide | omega | (simp only [ht, he, ne_eq, not_true_eq_false, not_false_eq_true, if_true, if_false]; first | rfl | omega))
    · have d1 : decide ((top : Int) < (n : Int)) = false := by simp; omega
      go_wp2_with fail
      go_ret
      unfold NumP
      refine .inl ⟨?_, rfl, HKS.out _ HK1.out _, HB1.out.set_same 1 _⟩
      (first | exact he | rfl | decide | omega | (simp only [ht, he, ne_eq, not_true_eq_false, not_false_eq_true, if_true, if_false]; first | rfl | omega))
  · have e1 : ((e : Int) == 0) = false := by rw [beq_eq_false_iff_ne]; omega
    go_wp2_with fail
    refine (ascii_fail _ _ _ _).mono ?_
    rintro o w' ⟨rfl, rfl⟩
    go_wp2_with fail
    refine ⟨rfl, ?_⟩
    unfold NumP
    refine .inr ⟨?_, ?_, HKF.out _ HK1.out, HB1.out⟩
    · (first | exact he | rfl | decide | omega | (simp only [ht, he, ne_eq, not_true_eq_false, not_false_eq_true, if_true, if_false]; first | rfl | omega))
    · (first | exact he | rfl | decide | omega | (simp only [ht, he, ne_eq, not_true_eq_false, not_false_eq_true, if_true, if_false]; first | rfl | omega))

end Go.Proofs.YtckmdcmkjmpiaaaGreatDoor

/-
  ascii's reader: what a sign computes, or with what it stops.
-/
namespace Go.Proofs.YtckmdcmkjmpiaaaGreatDoor
open Go.RowKit

/-- what a call of sign ends with: the sign, if it is one of some, or the stop -/
def SignP (s : ByteArray) (p b : Nat) (ok : Bool) (w : World) (o : Ending) (w' : World) : Prop :=
  (p < s.size ∧ ok = true ∧ o = .returned (.int .u8 (bt s p)) ∧ Kp (fun j => j = b) w w' ∧ Blk w' b #[.string s, .int .i64 (p + 1 : Nat)] 77) ∨
  (p = s.size ∧ o = .panicked [{ v := stopV p 3, recovered := false }] ∧ Kp (fun j => j = b) w w' ∧ Blk w' b #[.string s, .int .i64 p] 77) ∨
  (p < s.size ∧ ok = false ∧ o = .panicked [{ v := stopV p 2, recovered := false }] ∧ Kp (fun j => j = b) w w' ∧ Blk w' b #[.string s, .int .i64 p] 77)

set_option maxRecDepth 100000 in
set_option maxHeartbeats 1000000 in
theorem ascii_sign (s some_ : ByteArray) (p b : Nat) (ok : Bool) (i : Int) (w : World) (hs : s.size ≤ 9223372036854775000) (hp : p ≤ s.size) (hok : p < s.size → decide (i < 0) = !ok)
    (hidx : ∀ u : World, p < s.size → Calls Tryz.prog 56 #[.string some_, .int .u8 (bt s p : Nat)] u fun e u' => e = .returned (.int .i64 i) ∧ u' = u)
    (hB : Blk w b #[.string s, .int .i64 p] 77) :
    Calls Tryz.prog 32 #[.pointer (some ⟨b, 0, none⟩), .string some_] w fun o w' => SignP s p b ok w o w' := by
  obtain ⟨b0, b1, -, f1⟩ := hB.cells2
  have HB := Lib.hid hB
  clear hB
  by_cases hlt : p < s.size
  · have t1 : ((p : Int) == (s.size : Int)) = false := by rw [beq_eq_false_iff_ne]; omega
    have l1 : (p : Int) < (s.size : Int) := by omega
    have hb := bt_eq hlt
    have HI := Lib.hid (fun u => hidx u hlt)
    have hok := hok hlt
    clear hidx
    generalize hBB : bt s p = B at hb HI
    have HBB := Lib.hid hBB
    clear hBB
    go_enter Tryz.func32, Tryz.ntmps32
    go_wp2_with fail
    go_region
    go_wp2_with fail
    go_region
    go_wp2_with fail
    refine (HI.out _).mono ?_
    rintro e u' ⟨rfl, rfl⟩
    cases ok with
    | true =>
      go_wp2_with fail
      go_ret
      unfold SignP
      rw [HBB.out]
      exact .inl ⟨hlt, rfl, rfl, ((((Kp.refl (fun j => j = b) w).setCell (p := ⟨b, 1, none⟩) (fun _ => rfl) _).drew).drew), ((HB.out.set_same 1 _).drew).drew⟩
    | false =>
      go_wp2_with fail
      refine (ascii_fail _ _ _ _).mono ?_
      rintro o w' ⟨rfl, rfl⟩
      go_wp2_with fail
      refine ⟨rfl, ?_⟩
      unfold SignP
      exact .inr (.inr ⟨hlt, rfl, rfl, ((Kp.refl _ w).drew).drew, HB.out.drew.drew⟩)
  · have t1 : ((p : Int) == (s.size : Int)) = true := by rw [beq_iff_eq]; omega
    clear hidx
    go_enter Tryz.func32, Tryz.ntmps32
    go_wp2_with fail
    go_region
    go_wp2_with fail
    refine (ascii_fail _ _ _ _).mono ?_
    rintro o w' ⟨rfl, rfl⟩
    go_wp2_with fail
    refine ⟨rfl, ?_⟩
    unfold SignP
    exact .inr (.inl ⟨by omega, rfl, (Kp.refl _ w).drew, HB.out.drew⟩)

end Go.Proofs.YtckmdcmkjmpiaaaGreatDoor

/-
  ascii.ReadHead: what it computes: the head with which a text begins.
-/
namespace Go.Proofs.YtckmdcmkjmpiaaaGreatDoor
open Go.RowKit

/-- a head as a value -/
def headV (b : Bool) (l : List Nat) : Value := .agg #[.bool b, .int .i64 (nth l 0), .int .i64 (nth l 1), .int .i64 (nth l 2), .int .i64 (nth l 3), .int .i64 (nth l 4), .int .i64 (nth l 5), .int .i64 (nth l 6)]
def headC (b : Bool) (l : List Nat) : Array Value := #[.bool b, .int .i64 (nth l 0), .int .i64 (nth l 1), .int .i64 (nth l 2), .int .i64 (nth l 3), .int .i64 (nth l 4), .int .i64 (nth l 5), .int .i64 (nth l 6)]

/-- the nine cells -/
def arr (l : List Nat) : Array Value := #[.int .i64 (nth l 0), .int .i64 (nth l 1), .int .i64 (nth l 2), .int .i64 (nth l 3), .int .i64 (nth l 4), .int .i64 (nth l 5), .int .i64 (nth l 6), .int .i64 (nth l 7), .int .i64 (nth l 8)]

theorem arr_get (l : List Nat) : ∀ i, i < 9 → (arr l)[i]? = some (.int .i64 (nth l i))
  | 0, _ => rfl | 1, _ => rfl | 2, _ => rfl | 3, _ => rfl | 4, _ => rfl | 5, _ => rfl | 6, _ => rfl | 7, _ => rfl | 8, _ => rfl
  | n + 9, h => by omega

theorem arr_set (l : List Nat) (n : Nat) (_h : l.length ≤ 8) : (arr l).setIfInBounds l.length (.int .i64 (n : Nat)) = arr (l ++ [n]) := by
  apply Array.ext_getElem?
  intro i
  by_cases hi : i < 9
  · rw [arr_get _ i hi, Array.getElem?_setIfInBounds]
    by_cases e : l.length = i
    · subst e
      rw [if_pos rfl, if_pos (show l.length < (arr l).size by show l.length < 9; omega), nth_snoc]
    · rw [if_neg e, arr_get _ i hi]
      congr 2
      rcases Nat.lt_or_ge i l.length with h1 | h1
      · rw [nth_snoc_lt h1]
      · rw [nth_ge h1, nth_ge (by simp; omega)]
  · rw [Array.getElem?_eq_none (by rw [Array.size_setIfInBounds]; show 9 ≤ i; omega), Array.getElem?_eq_none (by show 9 ≤ i; omega)]

/-- the library's contracts that a reader needs -/
structure RdK : Prop where
  nat : ∀ (s : ByteArray) (p : Nat) (u : World), s.size ≤ 9223372036854775000 → p ≤ s.size → Calls Tryz.prog 65 #[.string s, .int .i64 p] u fun e u' => e = .returned (tripI (natN s p)) ∧ Kp (fun _ => False) u u'
  idx : ∀ (s : ByteArray) (c : Int) (u : World), Calls Tryz.prog 56 #[.string s, .int .u8 c] u fun e u' => e = .returned (.int .i64 (Lib.indexByte s.data.toList c.toNat.toUInt8)) ∧ u' = u
  pre : ∀ (s p : ByteArray) (u : World), Calls Tryz.prog 29 #[.string s, .string p] u fun e u' => e = .returned (.bool (Lib.hasPrefix s.data.toList p.data.toList)) ∧ u' = u

theorem isHead_pre (s : ByteArray) : (Lib.hasPrefix s.data.toList [97, 97, 103, 32] = true ∨ Lib.hasPrefix s.data.toList [97, 105, 103, 32] = true) ↔ isHead s := by
  have hb : ∀ (i : Nat) (b : UInt8), s.data.toList[i]? = some b → bt s i = b.toNat := fun i b h => by
    have h1 := (List.getElem?_eq_some_iff.1 h).1
    rw [← Lib.size_eq] at h1
    obtain ⟨c, hc, hc2⟩ := byte_at (s := s) (i := i) h1
    rw [h] at hc
    rw [← hc2, Option.some.inj hc]
  have hz := Lib.size_eq s
  unfold isHead Lib.hasPrefix
  generalize s.data.toList = L at hb hz
  have e97 : ∀ b : UInt8, (97 == b) = true ↔ b.toNat = 97 := fun b => by rw [beq_iff_eq]; exact ⟨fun h => by rw [← h]; rfl, fun h => UInt8.toNat_inj.1 (by rw [h]; rfl)⟩
  have e105 : ∀ b : UInt8, (105 == b) = true ↔ b.toNat = 105 := fun b => by rw [beq_iff_eq]; exact ⟨fun h => by rw [← h]; rfl, fun h => UInt8.toNat_inj.1 (by rw [h]; rfl)⟩
  have e103 : ∀ b : UInt8, (103 == b) = true ↔ b.toNat = 103 := fun b => by rw [beq_iff_eq]; exact ⟨fun h => by rw [← h]; rfl, fun h => UInt8.toNat_inj.1 (by rw [h]; rfl)⟩
  have e32 : ∀ b : UInt8, (32 == b) = true ↔ b.toNat = 32 := fun b => by rw [beq_iff_eq]; exact ⟨fun h => by rw [← h]; rfl, fun h => UInt8.toNat_inj.1 (by rw [h]; rfl)⟩
  match L, hb, hz with
  | [], _, hz => simp at hz; simp [List.isPrefixOf, hz]
  | [a], _, hz => simp at hz; simp [List.isPrefixOf, hz]
  | [a, b], _, hz => simp at hz; simp [List.isPrefixOf, hz]
  | [a, b, c], _, hz => simp at hz; simp [List.isPrefixOf, hz]
  | a :: b :: c :: d :: r, hb, hz =>
    simp only [List.isPrefixOf, Bool.and_true, Bool.and_eq_true, e97, e105, e103, e32]
    rw [hb 0 a rfl, hb 1 b rfl, hb 2 c rfl, hb 3 d rfl]
    simp only [List.length_cons] at hz
    omega

theorem Blk.cells8 {w : World} {b : Nat} {x0 x1 x2 x3 x4 x5 x6 x7 : Value} {t : TypeId} (h : Blk w b #[x0, x1, x2, x3, x4, x5, x6, x7] t) :
    w.cell? ⟨b, 0, none⟩ = some x0 ∧ w.cell? ⟨b, 1, none⟩ = some x1 ∧ w.cell? ⟨b, 2, none⟩ = some x2 ∧ w.cell? ⟨b, 3, none⟩ = some x3 ∧ w.cell? ⟨b, 4, none⟩ = some x4 ∧ w.cell? ⟨b, 5, none⟩ = some x5 ∧ w.cell? ⟨b, 6, none⟩ = some x6 ∧ w.cell? ⟨b, 7, none⟩ = some x7 :=
  ⟨h.cell rfl, h.cell rfl, h.cell rfl, h.cell rfl, h.cell rfl, h.cell rfl, h.cell rfl, h.cell rfl⟩

theorem Blk.set8 {w : World} {b : Nat} {x0 x1 x2 x3 x4 x5 x6 x7 : Value} {t : TypeId} (h : Blk w b #[x0, x1, x2, x3, x4, x5, x6, x7] t) (y0 y1 y2 y3 y4 y5 y6 y7 : Value) :
    Blk ((((((((w.setCell ⟨b, 0, none⟩ y0).setCell ⟨b, 1, none⟩ y1).setCell ⟨b, 2, none⟩ y2).setCell ⟨b, 3, none⟩ y3).setCell ⟨b, 4, none⟩ y4).setCell ⟨b, 5, none⟩ y5).setCell ⟨b, 6, none⟩ y6).setCell ⟨b, 7, none⟩ y7) b #[y0, y1, y2, y3, y4, y5, y6, y7] t := by
  have h7 := (((((((h.set_same 0 y0).set_same 1 y1).set_same 2 y2).set_same 3 y3).set_same 4 y4).set_same 5 y5).set_same 6 y6).set_same 7 y7
  simpa only [List.setIfInBounds_toArray, List.set_cons_zero, List.set_cons_succ] using h7

theorem Kp.set8 {S : Nat → Prop} {a w : World} (h : Kp S a w) {b : Nat} (hb : b < a.heap.size → S b) (y0 y1 y2 y3 y4 y5 y6 y7 : Value) :
    Kp S a ((((((((w.setCell ⟨b, 0, none⟩ y0).setCell ⟨b, 1, none⟩ y1).setCell ⟨b, 2, none⟩ y2).setCell ⟨b, 3, none⟩ y3).setCell ⟨b, 4, none⟩ y4).setCell ⟨b, 5, none⟩ y5).setCell ⟨b, 6, none⟩ y6).setCell ⟨b, 7, none⟩ y7) :=
  (((((((h.setCell (p := ⟨b, 0, none⟩) hb y0).setCell (p := ⟨b, 1, none⟩) hb y1).setCell (p := ⟨b, 2, none⟩) hb y2).setCell (p := ⟨b, 3, none⟩) hb y3).setCell (p := ⟨b, 4, none⟩) hb y4).setCell (p := ⟨b, 5, none⟩) hb y5).setCell (p := ⟨b, 6, none⟩) hb y6).setCell (p := ⟨b, 7, none⟩) hb y7

/-- the blocks of a call of ReadHead: the result's head, place and error; the reader; the numbers -/
structure HBlk (s : ByteArray) (w wr : World) (p : Nat) (l : List Nat) : Prop where
  b0 : Blk wr w.heap.size (headC false []) 42
  b1 : Blk wr (w.heap.size + 1) #[.int .i64 0] 3
  b2 : Blk wr (w.heap.size + 1 + 1) #[.int .i64 0] 28
  b3 : Blk wr (w.heap.size + 1 + 1 + 1) #[.string s, .int .i64 p] 77
  b4 : Blk wr (w.heap.size + 1 + 1 + 1 + 1) (arr l) 78
  kp : Kp (fun _ => False) w wr

theorem HBlk.reader {s : ByteArray} {w wr w1 : World} {p q : Nat} {l : List Nat} (h : HBlk s w wr p l) (hK : Kp (fun j => j = w.heap.size + 1 + 1 + 1) wr w1)
    (hB : Blk w1 (w.heap.size + 1 + 1 + 1) #[.string s, .int .i64 q] 77) : HBlk s w w1 q l :=
  ⟨h.b0.kp hK (by omega), h.b1.kp hK (by omega), h.b2.kp hK (by omega), hB, h.b4.kp hK (by omega), h.kp.trans hK (fun i hi h => by omega)⟩

theorem HBlk.store {s : ByteArray} {w wr : World} {p : Nat} {l : List Nat} (h : HBlk s w wr p l) (n : Nat) (hl : l.length ≤ 8) :
    HBlk s w (wr.setCell ⟨w.heap.size + 1 + 1 + 1 + 1, l.length, none⟩ (.int .i64 (n : Nat))) p (l ++ [n]) :=
  ⟨h.b0.set_other (by simp <;> omega) _, h.b1.set_other (by simp <;> omega) _, h.b2.set_other (by simp <;> omega) _, h.b3.set_other (by simp) _,
    by have := h.b4.set_same l.length (.int .i64 (n : Nat)); rwa [arr_set l n hl] at this,
    h.kp.setCell (p := ⟨w.heap.size + 1 + 1 + 1 + 1, l.length, none⟩) (by simp; omega) _⟩

theorem HBlk.drew {s : ByteArray} {w wr : World} {p : Nat} {l : List Nat} (h : HBlk s w wr p l) : HBlk s w wr.drew p l := ⟨h.b0, h.b1, h.b2, h.b3, h.b4, h.kp.drew⟩

theorem HBlk.new (s : ByteArray) (w : World) : HBlk s w (((((w.alloc (.cells #[.bool false, .int .i64 0, .int .i64 0, .int .i64 0, .int .i64 0, .int .i64 0, .int .i64 0, .int .i64 0] 42)).alloc (.cells #[.int .i64 0] 3)).alloc
    (.cells #[.int .i64 0] 28)).alloc (.cells #[.string s, .int .i64 4] 77)).alloc (.cells #[.int .i64 0, .int .i64 0, .int .i64 0, .int .i64 0, .int .i64 0, .int .i64 0, .int .i64 0, .int .i64 0, .int .i64 0] 78)) 4 [] := by
  have key : ∀ (u : World) (c : Array Value) (t : TypeId) (n : Nat), u.heap.size = n → Blk (u.alloc (.cells c t)) n c t := fun u c t n h => by subst h; exact Blk.new u c t
  refine ⟨((((Blk.new w _ _).alloc _).alloc _).alloc _).alloc _, (((key _ _ _ _ (by simp)).alloc _).alloc _).alloc _, ((key _ _ _ _ (by simp)).alloc _).alloc _, (key _ _ _ _ (by simp)).alloc _, key _ _ _ _ (by simp),
    (((((Kp.refl _ w).alloc _).alloc _).alloc _).alloc _).alloc _⟩

/-- what ReadHead answers -/
def HeadP (s : ByteArray) (w : World) (o : Ending) (w' : World) : Prop :=
  o = .returned (.tuple #[headV (headT s).1 (headT s).2.1, .int .i64 (headT s).2.2.1, .int .i64 (headT s).2.2.2]) ∧ Kp (fun _ => False) w w'

/-- whether a sign may stand behind the number k -/
def okS (k B : Nat) : Bool := decide (B = 32 ∧ k < 8 ∨ B = 10 ∧ 4 ≤ k)

theorem byte_is {B v : Nat} (hB : B < 256) (hv : v < 256) : (v.toUInt8 == B.toUInt8) = decide (B = v) := by
  by_cases h : B = v
  · subst h; simp
  · rw [decide_eq_false h, beq_eq_false_iff_ne]
    intro e
    have := congrArg UInt8.toNat e
    rw [UInt8.toNat_ofNat', UInt8.toNat_ofNat'] at this
    omega

theorem idx_is (k B : Nat) (hB : B < 256) (some_ : ByteArray) (hk : k < 4 ∧ some_ = ⟨#[32]⟩ ∨ 4 ≤ k ∧ k < 8 ∧ some_ = ⟨#[32, 10]⟩ ∨ k = 8 ∧ some_ = ⟨#[10]⟩) :
    decide (Lib.indexByte some_.data.toList B.toUInt8 < 0) = !okS k B := by
  have e32 : ((32 : UInt8) == B.toUInt8) = decide (B = 32) := byte_is (v := 32) hB (by decide)
  have e10 : ((10 : UInt8) == B.toUInt8) = decide (B = 10) := byte_is (v := 10) hB (by decide)
  unfold okS
  by_cases h1 : B = 32 <;> by_cases h2 : B = 10 <;> rcases hk with ⟨hk, rfl⟩ | ⟨hk, hk2, rfl⟩ | ⟨hk, rfl⟩ <;> simp [Lib.indexByte, e32, e10, h1, h2] <;> omega

theorem sign_k (K : RdK) (s : ByteArray) (q b k : Nat) (u : World) (some_ : ByteArray) (hs : s.size ≤ 2000000) (hq : q ≤ s.size)
    (hk : k < 4 ∧ some_ = ⟨#[32]⟩ ∨ 4 ≤ k ∧ k < 8 ∧ some_ = ⟨#[32, 10]⟩ ∨ k = 8 ∧ some_ = ⟨#[10]⟩) (hB : Blk u b #[.string s, .int .i64 q] 77) :
    Calls Tryz.prog 32 #[.pointer (some ⟨b, 0, none⟩), .string some_] u fun o w' => SignP s q b (okS k (bt s q)) u o w' := by
  refine ascii_sign s some_ q b _ _ u (by omega) hq (fun _ => ?_) (fun v _ => K.idx _ _ v) hB
  have hlt := bt_lt s q
  generalize bt s q = B at hlt
  rw [Int.toNat_natCast]
  exact idx_is k B hlt some_ hk

end Go.Proofs.YtckmdcmkjmpiaaaGreatDoor

/-
  A head's line, as the program and as the reference writes it. (Printed by mkawrite.py.)
-/
namespace Go.Proofs.YtckmdcmkjmpiaaaGreatDoor
open Go.RowKit

theorem wintInfo : (Tryz.prog.info? 3).map (fun i => (i.zero, i.size, i.bytes)) = some (some (.int .i64 0), 1, 8) := by kernel_rfl
theorem own_lit {w : World} {base g : Nat} {e : TypeId} {cs : List Value} (h : Blk w g cs.toArray e) (hg : base ≤ g) (hn : cs.length ≤ maxLen) : Own w base e (.slice (some ⟨g, 0, none⟩) cs.length cs.length) cs :=
  ⟨by simp, .inr ⟨g, cs.length, cs.toArray, rfl, hg, h, Nat.le_refl _, hn, by simp, by simp⟩⟩

theorem headW_eq {b : Bool} {h l : List Int} (hw : wrow h = l) : headW b h = (if b = true then [97, 105, 103, 32] else [97, 97, 103, 32]) ++ (jrow l ++ [10]) := by
  unfold headW jrow; rw [hw]

theorem head_cat_true {h l : List Int} (hw : wrow h = l) : (⟨#[97, 105, 103, 32]⟩ : ByteArray) ++ ⟨(jrow l ++ [10]).toArray⟩ = ⟨(headW true h).toArray⟩ := by
  rw [headW_eq hw, if_pos rfl]; exact cat_bytes [97, 105, 103, 32] _
theorem head_cat_false {h l : List Int} (hw : wrow h = l) : (⟨#[97, 97, 103, 32]⟩ : ByteArray) ++ ⟨(jrow l ++ [10]).toArray⟩ = ⟨(headW false h).toArray⟩ := by
  rw [headW_eq hw, if_neg (by decide)]; exact cat_bytes [97, 97, 103, 32] _

theorem jrow_small {l : List Int} (h : ∀ x ∈ l, okI x) (h7 : l.length ≤ 7) : (jrow l ++ [10]).length ≤ 155 := by
  have := jrow_take_len h l.length (Nat.le_refl _)
  rw [List.take_length] at this
  simp; omega

set_option maxRecDepth 100000 in
set_option maxHeartbeats 4000000 in
theorem ascii_WriteHead (b : Bool) (x0 x1 x2 x3 x4 x5 x6 : Int) (w : World) (hok : ∀ x ∈ [x0, x1, x2, x3, x4, x5, x6], okI x) (ht : Tab w) :
    Calls Tryz.prog 27 #[.agg #[.bool b, .int .i64 x0, .int .i64 x1, .int .i64 x2, .int .i64 x3, .int .i64 x4, .int .i64 x5, .int .i64 x6]] w fun e w' => e = .returned (.string ⟨(headW b [x0, x1, x2, x3, x4, x5, x6]).toArray⟩) ∧ Kp (fun _ => False) w w' := by
  have HOk := Lib.hid hok
  have HT := Lib.hid ht
  clear hok ht
  obtain ⟨wz, hwz⟩ : ∃ wz : World, wz = (w.alloc (.cells #[.bool b, .int .i64 x0, .int .i64 x1, .int .i64 x2, .int .i64 x3, .int .i64 x4, .int .i64 x5, .int .i64 x6] 42)).alloc (.cells #[.int .i64 x0, .int .i64 x1, .int .i64 x2, .int .i64 x3, .int .i64 x4] 3) := ⟨_, rfl⟩
  have HBz : Hid (Blk wz w.heap.size #[.bool b, .int .i64 x0, .int .i64 x1, .int .i64 x2, .int .i64 x3, .int .i64 x4, .int .i64 x5, .int .i64 x6] 42) := Lib.hid (by rw [hwz]; exact (Blk.new w _ _).alloc _)
  have HKz : Hid (Kp (fun _ => False) w wz) := Lib.hid (by rw [hwz]; exact ((Kp.refl _ w).alloc _).alloc _)
  obtain ⟨az, haz⟩ : ∃ az : Option Addr, az = some ⟨w.heap.size + 1, 0, none⟩ := ⟨_, rfl⟩
  obtain ⟨cz, hcz⟩ : ∃ cz : Nat, cz = 5 := ⟨_, rfl⟩
  have HOz : Hid (Own wz (w.heap.size + 1) 3 (.slice az 5 cz) [Value.int .i64 x0, Value.int .i64 x1, Value.int .i64 x2, Value.int .i64 x3, Value.int .i64 x4]) := Lib.hid (by
    rw [hwz, haz, hcz]
    have hb : Blk ((w.alloc (.cells #[.bool b, .int .i64 x0, .int .i64 x1, .int .i64 x2, .int .i64 x3, .int .i64 x4, .int .i64 x5, .int .i64 x6] 42)).alloc (.cells #[.int .i64 x0, .int .i64 x1, .int .i64 x2, .int .i64 x3, .int .i64 x4] 3)) (w.heap.size + 1) #[.int .i64 x0, .int .i64 x1, .int .i64 x2, .int .i64 x3, .int .i64 x4] 3 := by
      have := Blk.new (w.alloc (.cells #[.bool b, .int .i64 x0, .int .i64 x1, .int .i64 x2, .int .i64 x3, .int .i64 x4, .int .i64 x5, .int .i64 x6] 42)) #[.int .i64 x0, .int .i64 x1, .int .i64 x2, .int .i64 x3, .int .i64 x4] 3
      rwa [World.size_alloc] at this
    exact own_lit (cs := [Value.int .i64 x0, Value.int .i64 x1, Value.int .i64 x2, Value.int .i64 x3, Value.int .i64 x4]) hb (Nat.le_refl _) (by simp [maxLen]))
  have HFirst := Lib.hid (And.intro hwz (And.intro haz hcz))
  clear hwz haz hcz
  by_cases e5 : x5 = 0
  · by_cases e6 : x6 = 0
    · have n5 : (x5 != 0) = false := by simpa using e5
      have n6 : (x6 != 0) = false := by simpa using e6
      have HW : Hid (wrow [x0, x1, x2, x3, x4, x5, x6] = [x0, x1, x2, x3, x4]) := Lib.hid (by simp [wrow, gi, e5, e6])
      clear e5 e6
      go_enter Tryz.func27, Tryz.ntmps27
      go_upto_region 2 with fail
      rw [show (w.alloc (.cells #[.bool b, .int .i64 x0, .int .i64 x1, .int .i64 x2, .int .i64 x3, .int .i64 x4, .int .i64 x5, .int .i64 x6] 42)).alloc (.cells #[.int .i64 x0, .int .i64 x1, .int .i64 x2, .int .i64 x3, .int .i64 x4] 3) = wz from HFirst.out.1.symm]
      rw [show Value.slice (some ⟨w.heap.size + 1, 0, none⟩) 5 5 = .slice az 5 cz from by rw [HFirst.out.2.1, HFirst.out.2.2]]
      clear HFirst
      obtain ⟨z0, z1, z2, z3, z4, z5, z6, z7⟩ := HBz.out.cells8
      have hlz := HBz.out.lt
      have HRow := Lib.hid (ascii_row az cz [x0, x1, x2, x3, x4] 5 wz (by obtain ⟨_, _, hv, _, _, _, hr⟩ := HOz.out.form; cases hv; exact hr) rfl (by decide) (fun x hx => HOk.out x (by simp at hx ⊢; omega)) (HT.out.kp HKz.out))
      have hcl := jrow_small (l := [x0, x1, x2, x3, x4]) (fun x hx => HOk.out x (by simp at hx ⊢; omega)) (by simp)
      obtain ⟨R, hR⟩ : ∃ R, jrow [x0, x1, x2, x3, x4] ++ [10] = R := ⟨_, rfl⟩
      rw [hR] at HRow hcl
      have HR := Lib.hid hR
      clear hR
      have hcat : ¬ 9223372036854775807 < 4 + R.length := by omega
      clear hcl
      cases b with
      | true =>
        go_wp2_with fail
        refine (HRow.out).mono ?_
        rintro e w4 ⟨rfl, hK4⟩
        have HE := Lib.hid (HR.out ▸ head_cat_true HW.out)
        have HK4 := Lib.hid (HKz.out.trans hK4 (fun _ _ h => h))
        clear hK4
        go_wp2_with fail
        go_ret
        exact ⟨congrArg (fun x => Ending.returned (Value.string x)) HE.out, HK4.out⟩
      | false =>
        go_wp2_with fail
        refine (HRow.out).mono ?_
        rintro e w4 ⟨rfl, hK4⟩
        have HE := Lib.hid (HR.out ▸ head_cat_false HW.out)
        have HK4 := Lib.hid (HKz.out.trans hK4 (fun _ _ h => h))
        clear hK4
        go_wp2_with fail
        go_ret
        exact ⟨congrArg (fun x => Ending.returned (Value.string x)) HE.out, HK4.out⟩
    · have n5 : (x5 != 0) = false := by simpa using e5
      have n6 : (x6 != 0) = true := by simpa using e6
      have HW : Hid (wrow [x0, x1, x2, x3, x4, x5, x6] = [x0, x1, x2, x3, x4, x5, x6]) := Lib.hid (by simp [wrow, gi, e5, e6])
      clear e5 e6
      go_enter Tryz.func27, Tryz.ntmps27
      go_upto_region 2 with fail
      rw [show (w.alloc (.cells #[.bool b, .int .i64 x0, .int .i64 x1, .int .i64 x2, .int .i64 x3, .int .i64 x4, .int .i64 x5, .int .i64 x6] 42)).alloc (.cells #[.int .i64 x0, .int .i64 x1, .int .i64 x2, .int .i64 x3, .int .i64 x4] 3) = wz from HFirst.out.1.symm]
      rw [show Value.slice (some ⟨w.heap.size + 1, 0, none⟩) 5 5 = .slice az 5 cz from by rw [HFirst.out.2.1, HFirst.out.2.2]]
      clear HFirst
      obtain ⟨z0, z1, z2, z3, z4, z5, z6, z7⟩ := HBz.out.cells8
      have hlz := HBz.out.lt
      go_wp2_with (at_builtin; refine wpList_append1 rfl _ _ 22 3 rfl Tryz.underlying22 wintInfo rfl (HOz.out.alloc _) rfl ⟨wz.heap.size, 0, none⟩ (.int .i64 x5) rfl ?c1 rfl ?c2 ?c3 ?c4 ?_)
      case c1 => simp
      case c2 => simp
      case c3 => simp [maxLen]
      case c4 => have := HKz.out.size; have := HBz.out.lt; simp; omega
      intro v3 w3 hO3 hg3
      have hK3 : Kp (fun j => (Value.slice az 5 cz).ownBlock = some j) wz w3 := ((Kp.refl _ wz).alloc _).grown hg3 (fun j hj _ => hj)
      have hown := fun j (h : (Value.slice az 5 cz).ownBlock = some j) => (HOz.out.lt j h).1
      have HB3 := Lib.hid (HBz.out.kp hK3 (fun h => by have := hown _ h; omega))
      have HK3 := Lib.hid (HKz.out.trans hK3 (fun j hj h => by have := hown j h; omega))
      have hO4 : Own w3 (w.heap.size + 1) 3 v3 [Value.int .i64 x0, Value.int .i64 x1, Value.int .i64 x2, Value.int .i64 x3, Value.int .i64 x4, Value.int .i64 x5] := hO3
      obtain ⟨a3, c3, hv3, _, _, _, _⟩ := hO4.form
      rw [show ([Value.int .i64 x0, Value.int .i64 x1, Value.int .i64 x2, Value.int .i64 x3, Value.int .i64 x4, Value.int .i64 x5]).length = 6 from rfl] at hv3
      subst hv3
      have HO3 := Lib.hid hO4
      clear hO3 hg3 hK3 hown hO4 HBz HOz HKz z0 z1 z2 z3 z4 z5 z6 z7 hlz
      rename Hid (Blk w3 _ _ _) => HBz
      rename Hid (Own w3 _ _ _ _) => HOz
      rename Hid (Kp _ w w3) => HKz
      obtain ⟨az, haz⟩ : ∃ az, az = a3 := ⟨_, rfl⟩
      obtain ⟨cz, hcz⟩ : ∃ cz, cz = c3 := ⟨_, rfl⟩
      obtain ⟨wz, hwz⟩ : ∃ wz, wz = w3 := ⟨_, rfl⟩
      subst haz hcz hwz
      obtain ⟨z0, z1, z2, z3, z4, z5, z6, z7⟩ := HBz.out.cells8
      have hlz := HBz.out.lt
      go_wp2_with (at_builtin; refine wpList_append1 rfl _ _ 22 3 rfl Tryz.underlying22 wintInfo rfl (HOz.out.alloc _) rfl ⟨wz.heap.size, 0, none⟩ (.int .i64 x6) rfl ?c1 rfl ?c2 ?c3 ?c4 ?_)
      case c1 => simp
      case c2 => simp
      case c3 => simp [maxLen]
      case c4 => have := HKz.out.size; have := HBz.out.lt; simp; omega
      intro v3 w3 hO3 hg3
      have hK3 : Kp (fun j => (Value.slice az 6 cz).ownBlock = some j) wz w3 := ((Kp.refl _ wz).alloc _).grown hg3 (fun j hj _ => hj)
      have hown := fun j (h : (Value.slice az 6 cz).ownBlock = some j) => (HOz.out.lt j h).1
      have HB3 := Lib.hid (HBz.out.kp hK3 (fun h => by have := hown _ h; omega))
      have HK3 := Lib.hid (HKz.out.trans hK3 (fun j hj h => by have := hown j h; omega))
      have hO4 : Own w3 (w.heap.size + 1) 3 v3 [Value.int .i64 x0, Value.int .i64 x1, Value.int .i64 x2, Value.int .i64 x3, Value.int .i64 x4, Value.int .i64 x5, Value.int .i64 x6] := hO3
      obtain ⟨a3, c3, hv3, _, _, _, _⟩ := hO4.form
      rw [show ([Value.int .i64 x0, Value.int .i64 x1, Value.int .i64 x2, Value.int .i64 x3, Value.int .i64 x4, Value.int .i64 x5, Value.int .i64 x6]).length = 7 from rfl] at hv3
      subst hv3
      have HO3 := Lib.hid hO4
      clear hO3 hg3 hK3 hown hO4 HBz HOz HKz z0 z1 z2 z3 z4 z5 z6 z7 hlz
      rename Hid (Blk w3 _ _ _) => HBz
      rename Hid (Own w3 _ _ _ _) => HOz
      rename Hid (Kp _ w w3) => HKz
      obtain ⟨az, haz⟩ : ∃ az, az = a3 := ⟨_, rfl⟩
      obtain ⟨cz, hcz⟩ : ∃ cz, cz = c3 := ⟨_, rfl⟩
      obtain ⟨wz, hwz⟩ : ∃ wz, wz = w3 := ⟨_, rfl⟩
      subst haz hcz hwz
      obtain ⟨z0, z1, z2, z3, z4, z5, z6, z7⟩ := HBz.out.cells8
      have hlz := HBz.out.lt
      have HRow := Lib.hid (ascii_row az cz [x0, x1, x2, x3, x4, x5, x6] 7 wz (by obtain ⟨_, _, hv, _, _, _, hr⟩ := HOz.out.form; cases hv; exact hr) rfl (by decide) (fun x hx => HOk.out x (by simp at hx ⊢; omega)) (HT.out.kp HKz.out))
      have hcl := jrow_small (l := [x0, x1, x2, x3, x4, x5, x6]) (fun x hx => HOk.out x (by simp at hx ⊢; omega)) (by simp)
      obtain ⟨R, hR⟩ : ∃ R, jrow [x0, x1, x2, x3, x4, x5, x6] ++ [10] = R := ⟨_, rfl⟩
      rw [hR] at HRow hcl
      have HR := Lib.hid hR
      clear hR
      have hcat : ¬ 9223372036854775807 < 4 + R.length := by omega
      clear hcl
      cases b with
      | true =>
        go_wp2_with fail
        refine (HRow.out).mono ?_
        rintro e w4 ⟨rfl, hK4⟩
        have HE := Lib.hid (HR.out ▸ head_cat_true HW.out)
        have HK4 := Lib.hid (HKz.out.trans hK4 (fun _ _ h => h))
        clear hK4
        go_wp2_with fail
        go_ret
        exact ⟨congrArg (fun x => Ending.returned (Value.string x)) HE.out, HK4.out⟩
      | false =>
        go_wp2_with fail
        refine (HRow.out).mono ?_
        rintro e w4 ⟨rfl, hK4⟩
        have HE := Lib.hid (HR.out ▸ head_cat_false HW.out)
        have HK4 := Lib.hid (HKz.out.trans hK4 (fun _ _ h => h))
        clear hK4
        go_wp2_with fail
        go_ret
        exact ⟨congrArg (fun x => Ending.returned (Value.string x)) HE.out, HK4.out⟩
  · by_cases e6 : x6 = 0
    · have n5 : (x5 != 0) = true := by simpa using e5
      have n6 : (x6 != 0) = false := by simpa using e6
      have HW : Hid (wrow [x0, x1, x2, x3, x4, x5, x6] = [x0, x1, x2, x3, x4, x5]) := Lib.hid (by simp [wrow, gi, e5, e6])
      clear e5 e6
      go_enter Tryz.func27, Tryz.ntmps27
      go_upto_region 2 with fail
      rw [show (w.alloc (.cells #[.bool b, .int .i64 x0, .int .i64 x1, .int .i64 x2, .int .i64 x3, .int .i64 x4, .int .i64 x5, .int .i64 x6] 42)).alloc (.cells #[.int .i64 x0, .int .i64 x1, .int .i64 x2, .int .i64 x3, .int .i64 x4] 3) = wz from HFirst.out.1.symm]
      rw [show Value.slice (some ⟨w.heap.size + 1, 0, none⟩) 5 5 = .slice az 5 cz from by rw [HFirst.out.2.1, HFirst.out.2.2]]
      clear HFirst
      obtain ⟨z0, z1, z2, z3, z4, z5, z6, z7⟩ := HBz.out.cells8
      have hlz := HBz.out.lt
      go_wp2_with (at_builtin; refine wpList_append1 rfl _ _ 22 3 rfl Tryz.underlying22 wintInfo rfl (HOz.out.alloc _) rfl ⟨wz.heap.size, 0, none⟩ (.int .i64 x5) rfl ?c1 rfl ?c2 ?c3 ?c4 ?_)
      case c1 => simp
      case c2 => simp
      case c3 => simp [maxLen]
      case c4 => have := HKz.out.size; have := HBz.out.lt; simp; omega
      intro v3 w3 hO3 hg3
      have hK3 : Kp (fun j => (Value.slice az 5 cz).ownBlock = some j) wz w3 := ((Kp.refl _ wz).alloc _).grown hg3 (fun j hj _ => hj)
      have hown := fun j (h : (Value.slice az 5 cz).ownBlock = some j) => (HOz.out.lt j h).1
      have HB3 := Lib.hid (HBz.out.kp hK3 (fun h => by have := hown _ h; omega))
      have HK3 := Lib.hid (HKz.out.trans hK3 (fun j hj h => by have := hown j h; omega))
      have hO4 : Own w3 (w.heap.size + 1) 3 v3 [Value.int .i64 x0, Value.int .i64 x1, Value.int .i64 x2, Value.int .i64 x3, Value.int .i64 x4, Value.int .i64 x5] := hO3
      obtain ⟨a3, c3, hv3, _, _, _, _⟩ := hO4.form
      rw [show ([Value.int .i64 x0, Value.int .i64 x1, Value.int .i64 x2, Value.int .i64 x3, Value.int .i64 x4, Value.int .i64 x5]).length = 6 from rfl] at hv3
      subst hv3
      have HO3 := Lib.hid hO4
      clear hO3 hg3 hK3 hown hO4 HBz HOz HKz z0 z1 z2 z3 z4 z5 z6 z7 hlz
      rename Hid (Blk w3 _ _ _) => HBz
      rename Hid (Own w3 _ _ _ _) => HOz
      rename Hid (Kp _ w w3) => HKz
      obtain ⟨az, haz⟩ : ∃ az, az = a3 := ⟨_, rfl⟩
      obtain ⟨cz, hcz⟩ : ∃ cz, cz = c3 := ⟨_, rfl⟩
      obtain ⟨wz, hwz⟩ : ∃ wz, wz = w3 := ⟨_, rfl⟩
      subst haz hcz hwz
      obtain ⟨z0, z1, z2, z3, z4, z5, z6, z7⟩ := HBz.out.cells8
      have hlz := HBz.out.lt
      have HRow := Lib.hid (ascii_row az cz [x0, x1, x2, x3, x4, x5] 6 wz (by obtain ⟨_, _, hv, _, _, _, hr⟩ := HOz.out.form; cases hv; exact hr) rfl (by decide) (fun x hx => HOk.out x (by simp at hx ⊢; omega)) (HT.out.kp HKz.out))
      have hcl := jrow_small (l := [x0, x1, x2, x3, x4, x5]) (fun x hx => HOk.out x (by simp at hx ⊢; omega)) (by simp)
      obtain ⟨R, hR⟩ : ∃ R, jrow [x0, x1, x2, x3, x4, x5] ++ [10] = R := ⟨_, rfl⟩
      rw [hR] at HRow hcl
      have HR := Lib.hid hR
      clear hR
      have hcat : ¬ 9223372036854775807 < 4 + R.length := by omega
      clear hcl
      cases b with
      | true =>
        go_wp2_with fail
        refine (HRow.out).mono ?_
        rintro e w4 ⟨rfl, hK4⟩
        have HE := Lib.hid (HR.out ▸ head_cat_true HW.out)
        have HK4 := Lib.hid (HKz.out.trans hK4 (fun _ _ h => h))
        clear hK4
        go_wp2_with fail
        go_ret
        exact ⟨congrArg (fun x => Ending.returned (Value.string x)) HE.out, HK4.out⟩
      | false =>
        go_wp2_with fail
        refine (HRow.out).mono ?_
        rintro e w4 ⟨rfl, hK4⟩
        have HE := Lib.hid (HR.out ▸ head_cat_false HW.out)
        have HK4 := Lib.hid (HKz.out.trans hK4 (fun _ _ h => h))
        clear hK4
        go_wp2_with fail
        go_ret
        exact ⟨congrArg (fun x => Ending.returned (Value.string x)) HE.out, HK4.out⟩
    · have n5 : (x5 != 0) = true := by simpa using e5
      have n6 : (x6 != 0) = true := by simpa using e6
      have HW : Hid (wrow [x0, x1, x2, x3, x4, x5, x6] = [x0, x1, x2, x3, x4, x5, x6]) := Lib.hid (by simp [wrow, gi, e6])
      clear e5 e6
      go_enter Tryz.func27, Tryz.ntmps27
      go_upto_region 2 with fail
      rw [show (w.alloc (.cells #[.bool b, .int .i64 x0, .int .i64 x1, .int .i64 x2, .int .i64 x3, .int .i64 x4, .int .i64 x5, .int .i64 x6] 42)).alloc (.cells #[.int .i64 x0, .int .i64 x1, .int .i64 x2, .int .i64 x3, .int .i64 x4] 3) = wz from HFirst.out.1.symm]
      rw [show Value.slice (some ⟨w.heap.size + 1, 0, none⟩) 5 5 = .slice az 5 cz from by rw [HFirst.out.2.1, HFirst.out.2.2]]
      clear HFirst
      obtain ⟨z0, z1, z2, z3, z4, z5, z6, z7⟩ := HBz.out.cells8
      have hlz := HBz.out.lt
      go_wp2_with (at_builtin; refine wpList_append1 rfl _ _ 22 3 rfl Tryz.underlying22 wintInfo rfl (HOz.out.alloc _) rfl ⟨wz.heap.size, 0, none⟩ (.int .i64 x5) rfl ?c1 rfl ?c2 ?c3 ?c4 ?_)
      case c1 => simp
      case c2 => simp
      case c3 => simp [maxLen]
      case c4 => have := HKz.out.size; have := HBz.out.lt; simp; omega
      intro v3 w3 hO3 hg3
      have hK3 : Kp (fun j => (Value.slice az 5 cz).ownBlock = some j) wz w3 := ((Kp.refl _ wz).alloc _).grown hg3 (fun j hj _ => hj)
      have hown := fun j (h : (Value.slice az 5 cz).ownBlock = some j) => (HOz.out.lt j h).1
      have HB3 := Lib.hid (HBz.out.kp hK3 (fun h => by have := hown _ h; omega))
      have HK3 := Lib.hid (HKz.out.trans hK3 (fun j hj h => by have := hown j h; omega))
      have hO4 : Own w3 (w.heap.size + 1) 3 v3 [Value.int .i64 x0, Value.int .i64 x1, Value.int .i64 x2, Value.int .i64 x3, Value.int .i64 x4, Value.int .i64 x5] := hO3
      obtain ⟨a3, c3, hv3, _, _, _, _⟩ := hO4.form
      rw [show ([Value.int .i64 x0, Value.int .i64 x1, Value.int .i64 x2, Value.int .i64 x3, Value.int .i64 x4, Value.int .i64 x5]).length = 6 from rfl] at hv3
      subst hv3
      have HO3 := Lib.hid hO4
      clear hO3 hg3 hK3 hown hO4 HBz HOz HKz z0 z1 z2 z3 z4 z5 z6 z7 hlz
      rename Hid (Blk w3 _ _ _) => HBz
      rename Hid (Own w3 _ _ _ _) => HOz
      rename Hid (Kp _ w w3) => HKz
      obtain ⟨az, haz⟩ : ∃ az, az = a3 := ⟨_, rfl⟩
      obtain ⟨cz, hcz⟩ : ∃ cz, cz = c3 := ⟨_, rfl⟩
      obtain ⟨wz, hwz⟩ : ∃ wz, wz = w3 := ⟨_, rfl⟩
      subst haz hcz hwz
      obtain ⟨z0, z1, z2, z3, z4, z5, z6, z7⟩ := HBz.out.cells8
      have hlz := HBz.out.lt
      go_wp2_with (at_builtin; refine wpList_append1 rfl _ _ 22 3 rfl Tryz.underlying22 wintInfo rfl (HOz.out.alloc _) rfl ⟨wz.heap.size, 0, none⟩ (.int .i64 x6) rfl ?c1 rfl ?c2 ?c3 ?c4 ?_)
      case c1 => simp
      case c2 => simp
      case c3 => simp [maxLen]
      case c4 => have := HKz.out.size; have := HBz.out.lt; simp; omega
      intro v3 w3 hO3 hg3
      have hK3 : Kp (fun j => (Value.slice az 6 cz).ownBlock = some j) wz w3 := ((Kp.refl _ wz).alloc _).grown hg3 (fun j hj _ => hj)
      have hown := fun j (h : (Value.slice az 6 cz).ownBlock = some j) => (HOz.out.lt j h).1
      have HB3 := Lib.hid (HBz.out.kp hK3 (fun h => by have := hown _ h; omega))
      have HK3 := Lib.hid (HKz.out.trans hK3 (fun j hj h => by have := hown j h; omega))
      have hO4 : Own w3 (w.heap.size + 1) 3 v3 [Value.int .i64 x0, Value.int .i64 x1, Value.int .i64 x2, Value.int .i64 x3, Value.int .i64 x4, Value.int .i64 x5, Value.int .i64 x6] := hO3
      obtain ⟨a3, c3, hv3, _, _, _, _⟩ := hO4.form
      rw [show ([Value.int .i64 x0, Value.int .i64 x1, Value.int .i64 x2, Value.int .i64 x3, Value.int .i64 x4, Value.int .i64 x5, Value.int .i64 x6]).length = 7 from rfl] at hv3
      subst hv3
      have HO3 := Lib.hid hO4
      clear hO3 hg3 hK3 hown hO4 HBz HOz HKz z0 z1 z2 z3 z4 z5 z6 z7 hlz
      rename Hid (Blk w3 _ _ _) => HBz
      rename Hid (Own w3 _ _ _ _) => HOz
      rename Hid (Kp _ w w3) => HKz
      obtain ⟨az, haz⟩ : ∃ az, az = a3 := ⟨_, rfl⟩
      obtain ⟨cz, hcz⟩ : ∃ cz, cz = c3 := ⟨_, rfl⟩
      obtain ⟨wz, hwz⟩ : ∃ wz, wz = w3 := ⟨_, rfl⟩
      subst haz hcz hwz
      obtain ⟨z0, z1, z2, z3, z4, z5, z6, z7⟩ := HBz.out.cells8
      have hlz := HBz.out.lt
      have HRow := Lib.hid (ascii_row az cz [x0, x1, x2, x3, x4, x5, x6] 7 wz (by obtain ⟨_, _, hv, _, _, _, hr⟩ := HOz.out.form; cases hv; exact hr) rfl (by decide) (fun x hx => HOk.out x (by simp at hx ⊢; omega)) (HT.out.kp HKz.out))
      have hcl := jrow_small (l := [x0, x1, x2, x3, x4, x5, x6]) (fun x hx => HOk.out x (by simp at hx ⊢; omega)) (by simp)
      obtain ⟨R, hR⟩ : ∃ R, jrow [x0, x1, x2, x3, x4, x5, x6] ++ [10] = R := ⟨_, rfl⟩
      rw [hR] at HRow hcl
      have HR := Lib.hid hR
      clear hR
      have hcat : ¬ 9223372036854775807 < 4 + R.length := by omega
      clear hcl
      cases b with
      | true =>
        go_wp2_with fail
        refine (HRow.out).mono ?_
        rintro e w4 ⟨rfl, hK4⟩
        have HE := Lib.hid (HR.out ▸ head_cat_true HW.out)
        have HK4 := Lib.hid (HKz.out.trans hK4 (fun _ _ h => h))
        clear hK4
        go_wp2_with fail
        go_ret
        exact ⟨congrArg (fun x => Ending.returned (Value.string x)) HE.out, HK4.out⟩
      | false =>
        go_wp2_with fail
        refine (HRow.out).mono ?_
        rintro e w4 ⟨rfl, hK4⟩
        have HE := Lib.hid (HR.out ▸ head_cat_false HW.out)
        have HK4 := Lib.hid (HKz.out.trans hK4 (fun _ _ h => h))
        clear hK4
        go_wp2_with fail
        go_ret
        exact ⟨congrArg (fun x => Ending.returned (Value.string x)) HE.out, HK4.out⟩

end Go.Proofs.YtckmdcmkjmpiaaaGreatDoor

/-
  ascii.Write of any circuit. (Printed by mkascwrite.py.)
-/
namespace Go.Proofs.YtckmdcmkjmpiaaaGreatDoor
open Go.RowKit

def oneA (x : Int) : List UInt8 := jrow [x] ++ [10]
def latA (x : Int × Int × Int) : List UInt8 := if x.2.2 = 0 then jrow [x.1, x.2.1] ++ [10] else jrow [x.1, x.2.1, x.2.2] ++ [10]
def gatA (x : Int × Int × Int) : List UInt8 := jrow [x.1, x.2.1, x.2.2] ++ [10]
def wtA (C : Circ) (k : Nat) : List UInt8 := C.ins.flatMap oneA ++ C.lats.flatMap latA ++ (List.range k).flatMap (fun i => (wl C i).flatMap oneA)
def ascB (C : Circ) : List UInt8 := wtA C 3 ++ C.gates.flatMap gatA
theorem wtA_succ (C : Circ) (k : Nat) : wtA C (k + 1) = wtA C k ++ (wl C k).flatMap oneA := by
  unfold wtA; rw [List.range_succ, List.flatMap_append]; simp

/-- all numbers of a circuit are such -/
structure OkC (C : Circ) : Prop where
  i : ∀ x ∈ C.ins, okI x
  l : ∀ x ∈ C.lats, okI x.1 ∧ okI x.2.1 ∧ okI x.2.2
  w : ∀ k, ∀ x ∈ wl C k, okI x
  g : ∀ x ∈ C.gates, okI x.1 ∧ okI x.2.1 ∧ okI x.2.2

theorem row_small {l : List Int} (h : ∀ x ∈ l, okI x) (h7 : l.length ≤ 7) : (jrow l ++ [10]).length ≤ 155 := jrow_small h h7
theorem oneA_len {x : Int} (h : okI x) : (oneA x).length ≤ 155 := row_small (by intro y hy; simp at hy; rw [hy]; exact h) (by simp)
theorem latA_len {x : Int × Int × Int} (h : okI x.1 ∧ okI x.2.1 ∧ okI x.2.2) : (latA x).length ≤ 155 := by
  unfold latA
  split
  · exact row_small (by intro y hy; simp only [List.mem_cons, List.not_mem_nil, or_false] at hy; rcases hy with rfl | rfl <;> first | exact h.1 | exact h.2.1 | exact h.2.2) (by simp)
  · exact row_small (by intro y hy; simp only [List.mem_cons, List.not_mem_nil, or_false] at hy; rcases hy with rfl | rfl | rfl <;> first | exact h.1 | exact h.2.1 | exact h.2.2) (by simp)
theorem gatA_len {x : Int × Int × Int} (h : okI x.1 ∧ okI x.2.1 ∧ okI x.2.2) : (gatA x).length ≤ 155 :=
  row_small (by intro y hy; simp only [List.mem_cons, List.not_mem_nil, or_false] at hy; rcases hy with rfl | rfl | rfl <;> first | exact h.1 | exact h.2.1 | exact h.2.2) (by simp)
theorem take_len {α : Type} {f : α → List UInt8} {M : List α} {m : Nat} (hm : M.length ≤ 1000) (h : ∀ x ∈ M, (f x).length ≤ m) (j : Nat) : ((M.take j).flatMap f).length ≤ 1000 * m := by
  have h1 := flat_len (f := f) (m := m) (L := M.take j) (fun x hx => h x (List.mem_of_mem_take hx))
  have h2 : (M.take j).length ≤ 1000 := by rw [List.length_take]; omega
  exact Nat.le_trans h1 (Nat.mul_le_mul_right m h2)
theorem all_len {α : Type} {f : α → List UInt8} {M : List α} {m : Nat} (hm : M.length ≤ 1000) (h : ∀ x ∈ M, (f x).length ≤ m) : (M.flatMap f).length ≤ 1000 * m := by
  have := take_len hm h M.length
  rwa [List.take_length] at this
theorem wl_le {C : Circ} (hf : CFew C 1000) (k : Nat) : (wl C k).length ≤ 1000 := by
  match k with
  | 0 => exact hf.o
  | 1 => exact hf.b
  | k + 2 => exact hf.c
theorem wtA_len {C : Circ} (hf : CFew C 1000) (ho : OkC C) (k : Nat) : (wtA C k).length ≤ 310000 + k * 155000 := by
  induction k with
  | zero =>
    have h1 := all_len (f := oneA) (m := 155) hf.i (fun x hx => oneA_len (ho.i x hx))
    have h2 := all_len (f := latA) (m := 155) hf.l (fun x hx => latA_len (ho.l x hx))
    unfold wtA
    simp only [List.range_zero, List.flatMap_nil, List.append_nil, List.length_append]
    omega
  | succ k ih =>
    have h1 := all_len (f := oneA) (m := 155) (wl_le hf k) (fun x hx => oneA_len (ho.w k x hx))
    rw [wtA_succ, List.length_append]
    omega

set_option maxRecDepth 100000 in
set_option maxHeartbeats 8000000 in
theorem asc_Write (V : CV) (C : Circ) (w : World) (h : CAt w V C) (hf : CFew C 1000) (hok : OkC C) (ht : Tab w) :
    Calls Tryz.prog 25 #[.agg (cvals V C)] w fun e w' => e = .returned (.string ⟨(ascB C).toArray⟩) ∧ Kp (fun _ => False) w w' := by
  have HA := Lib.hid h
  have HF := Lib.hid hf
  have HT := Lib.hid ht
  have HC := Lib.hid hok
  obtain ⟨wz, hwz⟩ : ∃ wz : World, wz = w.alloc (.cells (cvals V C) 27) := ⟨_, rfl⟩
  have HS1 := Lib.hid (show WS w (wz.alloc (.cells #[.pointer none, .slice none 0 0] 109)) (w.heap.size + 1) V C [] by
    have h1 := WS.start (w := w) (V := V) (C := C) (w1 := wz) (by rw [hwz]; exact Blk.new w (cvals V C) _) (by rw [hwz]; exact (Kp.refl _ w).alloc _)
    rw [show wz.heap.size = w.heap.size + 1 by rw [hwz]; simp] at h1
    exact h1)
  obtain ⟨wb, hwb⟩ : ∃ wb : World, wb = wz.alloc (.cells #[.pointer none, .slice none 0 0] 109) := ⟨_, rfl⟩
  obtain ⟨B, hB⟩ : ∃ B : Nat, B = w.heap.size + 1 := ⟨_, rfl⟩
  rw [← hwb, ← hB] at HS1
  have HWc := Lib.hid (show ∀ (u : World) (l : List UInt8), WS w u B V C l → u.cell? ⟨w.heap.size, 1, none⟩ = some (.slice V.ai C.ins.length V.ci) ∧ u.cell? ⟨w.heap.size, 2, none⟩ = some (.slice V.al C.lats.length V.cl) ∧ u.cell? ⟨w.heap.size, 3, none⟩ = some (.slice V.ao C.outs.length V.co) ∧ u.cell? ⟨w.heap.size, 4, none⟩ = some (.slice V.ab C.bads.length V.cb) ∧ u.cell? ⟨w.heap.size, 5, none⟩ = some (.slice V.ac C.cons.length V.cc) ∧ u.cell? ⟨w.heap.size, 6, none⟩ = some (.slice V.ag C.gates.length V.cg) from fun u l h =>
    ⟨h.c.cell (i := 1) rfl, h.c.cell (i := 2) rfl, h.c.cell (i := 3) rfl, h.c.cell (i := 4) rfl, h.c.cell (i := 5) rfl, h.c.cell (i := 6) rfl⟩)
  have HZ := Lib.hid (And.intro hwz (And.intro hwb hB))
  clear h hf ht hok hwz hwb hB
  unfold cvals at HZ ⊢
  go_enter Tryz.func25, Tryz.ntmps25
  go_upto_region 2 with fail
  rw [← HZ.out.1, ← HZ.out.2.1, ← HZ.out.2.2]
  clear HZ
  obtain ⟨hl, -⟩ := HWc.out _ _ HS1.out
  have HW0 := Lib.hid (show WS w wb B V C ((C.ins.take 0).flatMap oneA) by simpa using HS1.out)
  go_wp2_with fail
  clear hl HS1
  go_loopw [17] (fun v17 wr => ∃ k : Nat, v17 = .int .i64 k ∧ k ≤ C.ins.length ∧ WS w wr B V C ((C.ins.take k).flatMap oneA)) (fun v17 _ => C.ins.length - (intOf v17).toNat)
  case atStart => exact ⟨0, rfl, by omega, HW0.out⟩
  case round =>
    obtain ⟨k, rfl, hk, hW⟩ := hrel
    obtain ⟨wp, rfl⟩ : ∃ wp : World, wp = wr := ⟨_, rfl⟩
    have HW := Lib.hid hW
    have hnl : C.ins.length ≤ 1000 := HF.out.i
    clear hW HW0
    by_cases hlt : k < C.ins.length
    · obtain ⟨b, off, ea, hE⟩ := HA.out.inCell hlt
      have e0 := hE _ HW.out.kp
      have hTk := flat_take oneA (gi_some hlt)
      have hlj := take_len (f := oneA) hnl (fun x hx => oneA_len (HC.out.i x hx)) k
      have hoki := HC.out.i _ (List.mem_of_getElem? (gi_some hlt))
      obtain ⟨x, hx⟩ : ∃ x, gi C.ins k = x := ⟨_, rfl⟩
      rw [hx] at e0 hTk hoki
      obtain ⟨m, hm⟩ : ∃ m, (C.ins.take k).flatMap oneA = m := ⟨_, rfl⟩
      rw [hm] at HW hTk hlj
      have HOk := Lib.hid (show -9223372036854775808 ≤ x ∧ x ≤ 9223372036854775807 from hoki)
      have HTk := Lib.hid (show (C.ins.take (k + 1)).flatMap oneA = m ++ (jrow [x] ++ [10]) from hTk)
      have HWt := Lib.hid (show (0 : Nat) ≤ 0 by omega)
      clear hE hx hm hTk hoki
      obtain ⟨wv, hwv⟩ : ∃ wv : World, wv = wp.alloc (.cells #[.int .i64 x] 3) := ⟨_, rfl⟩
      have HWv := Lib.hid (HW.out.kp' (by rw [hwv]; exact (Kp.refl _ wp).alloc _ : Kp (fun _ => False) wp wv))
      have HRw := Lib.hid (ascii_row (some ⟨wp.heap.size, 0, none⟩) 1 [x] 1 wv ((show Blk wv wp.heap.size #[.int .i64 x] 3 by rw [hwv]; exact Blk.new wp _ _).rowAt (off := 0) (n := 1) rfl) rfl (by omega) (by intro y hy; simp only [List.mem_cons, List.not_mem_nil, or_false] at hy; rcases hy with rfl <;> (have := HOk.out; unfold okI; omega)) (HT.out.kp HWv.out.kp))
      obtain ⟨T1, hT1⟩ : ∃ T, jrow [x] ++ [10] = T := ⟨_, rfl⟩
      rw [hT1] at HRw HTk
      have HI := Lib.hid (And.intro hlj (show T1.length ≤ 155 by rw [← hT1]; exact jrow_small (by intro y hy; simp only [List.mem_cons, List.not_mem_nil, or_false] at hy; rcases hy with rfl <;> (have := HOk.out; unfold okI; omega)) (by simp)))
      subst hwv
      clear hT1
      rw [ea]
      have i0 : (0 : Int) ≤ (k : Int) := by omega
      have i2 : (k : Int) < (C.ins.length : Int) := by omega
      go_upto_region 5 with fail
      clear e0
      go_wp2_with (first
        | (go_at_call 58; refine (HRw.out).mono ?_; rintro e w5 ⟨rfl, hK5⟩; have HW5 := Lib.hid (HWv.out.kp' hK5); clear hK5)
        | (go_at_call 57; refine (ws_str HW5.out T1 _ rfl (by have := HI.out; have := HWt.out; first | omega | (simp only [List.length_append]; omega))).mono ?_; rintro e w6 ⟨⟨v, rfl⟩, hW6, hK6⟩; have HW6 := Lib.hid hW6; clear hW6 hK6))
      go_roundw
      case rel => exact ⟨k + 1, by go_num, by omega, by rw [HTk.out]; exact HW6.out⟩
      case measure => simp [intOf]; omega
    · obtain rfl : k = C.ins.length := by omega
      have HWl := Lib.hid (show WS w wp B V C (C.ins.flatMap oneA ++ (C.lats.take 0).flatMap latA) by have := HW.out; rw [List.take_length] at this; simpa using this)
      have hwt := all_len (f := oneA) (m := 155) hnl (fun x hx => oneA_len (HC.out.i x hx))
      obtain ⟨-, hl2, -⟩ := HWc.out _ _ HWl.out
      have HPre := Lib.hid (show wtA C 0 = C.ins.flatMap oneA ++ C.lats.flatMap latA by unfold wtA; simp)
      obtain ⟨t, ht⟩ : ∃ t, C.ins.flatMap oneA = t := ⟨_, rfl⟩
      rw [ht] at HWl hwt HPre
      have HWt := Lib.hid hwt
      clear ht hwt HW
      go_wp2_with fail
      clear hl2 hlt hk hnl
      go_loopw [29] (fun v29 wr => ∃ k : Nat, v29 = .int .i64 k ∧ k ≤ C.lats.length ∧ WS w wr B V C (t ++ (C.lats.take k).flatMap latA)) (fun v29 _ => C.lats.length - (intOf v29).toNat)
      case atStart => exact ⟨0, rfl, by omega, HWl.out⟩
      case round =>
        obtain ⟨k, rfl, hk, hW⟩ := hrel
        obtain ⟨wp, rfl⟩ : ∃ wp : World, wp = wr := ⟨_, rfl⟩
        have HW := Lib.hid hW
        have hnl : C.lats.length ≤ 1000 := HF.out.l
        clear hW HWl
        by_cases hlt : k < C.lats.length
        · skip
          obtain ⟨b, off, ea, hE⟩ := HA.out.latCell hlt
          obtain ⟨e0, e1, e2⟩ := hE _ HW.out.kp
          have hTk := flat_take latA (g3_some hlt)
          have hlj := take_len (f := latA) hnl (fun x hx => latA_len (HC.out.l x hx)) k
          have hoki := HC.out.l _ (List.mem_of_getElem? (g3_some hlt))
          obtain ⟨x0, hx0⟩ : ∃ x, (g3 C.lats k).1 = x := ⟨_, rfl⟩
          obtain ⟨x1, hx1⟩ : ∃ x, (g3 C.lats k).2.1 = x := ⟨_, rfl⟩
          obtain ⟨x2, hx2⟩ : ∃ x, (g3 C.lats k).2.2 = x := ⟨_, rfl⟩
          have hg3 : g3 C.lats k = (x0, x1, x2) := by rw [← hx0, ← hx1, ← hx2]
          rw [hx0] at e0 hoki
          rw [hx1] at e1 hoki
          rw [hx2] at e2 hoki
          rw [hg3] at hTk
          obtain ⟨m, hm⟩ : ∃ m, (C.lats.take k).flatMap latA = m := ⟨_, rfl⟩
          rw [hm] at HW hTk hlj
          have HOk := Lib.hid (show (-9223372036854775808 ≤ x0 ∧ x0 ≤ 9223372036854775807) ∧ (-9223372036854775808 ≤ x1 ∧ x1 ≤ 9223372036854775807) ∧ (-9223372036854775808 ≤ x2 ∧ x2 ≤ 9223372036854775807) from hoki)
          clear hE hx0 hx1 hx2 hg3 hm hoki
          rw [ea]
          have i0 : (0 : Int) ≤ (k : Int) := by omega
          have i2 : (k : Int) < (C.lats.length : Int) := by omega
          obtain ⟨ws, hws⟩ : ∃ ws : World, ws = wp.alloc (.cells #[.int .i64 x0, .int .i64 x1, .int .i64 x2] 59) := ⟨_, rfl⟩
          have HWs := Lib.hid (HW.out.kp' (by rw [hws]; exact (Kp.refl _ wp).alloc _ : Kp (fun _ => False) wp ws))
          have HX := Lib.hid (show Blk ws wp.heap.size #[.int .i64 x0, .int .i64 x1, .int .i64 x2] 59 by rw [hws]; exact Blk.new _ _ _)
          have HZs := Lib.hid hws
          clear hws
          go_upto_region 10 with fail
          rw [← HZs.out]
          clear HZs e0 e1 e2 ea
          have nb0 := HX.out.cell (i := 0) (v := .int .i64 x0) rfl
          have nb1 := HX.out.cell (i := 1) (v := .int .i64 x1) rfl
          have nb2 := HX.out.cell (i := 2) (v := .int .i64 x2) rfl
          by_cases hx : x2 = 0
          · have q : (x2 == 0) = true := by simp [hx]
            have HTk := Lib.hid (show (C.lats.take (k + 1)).flatMap latA = m ++ (jrow [x0, x1] ++ [10]) by rw [hTk]; unfold latA; rw [if_pos hx])
            clear hTk hx
            obtain ⟨wv, hwv⟩ : ∃ wv : World, wv = ws.alloc (.cells #[.int .i64 x0, .int .i64 x1] 3) := ⟨_, rfl⟩
            have HWv := Lib.hid (HWs.out.kp' (by rw [hwv]; exact (Kp.refl _ ws).alloc _ : Kp (fun _ => False) ws wv))
            have HRw := Lib.hid (ascii_row (some ⟨ws.heap.size, 0, none⟩) 2 [x0, x1] 2 wv ((show Blk wv ws.heap.size #[.int .i64 x0, .int .i64 x1] 3 by rw [hwv]; exact Blk.new ws _ _).rowAt (off := 0) (n := 2) rfl) rfl (by omega) (by intro y hy; simp only [List.mem_cons, List.not_mem_nil, or_false] at hy; rcases hy with rfl | rfl <;> (have := HOk.out; unfold okI; omega)) (HT.out.kp HWv.out.kp))
            obtain ⟨T1, hT1⟩ : ∃ T, jrow [x0, x1] ++ [10] = T := ⟨_, rfl⟩
            rw [hT1] at HRw HTk
            have HI := Lib.hid (And.intro hlj (show T1.length ≤ 155 by rw [← hT1]; exact jrow_small (by intro y hy; simp only [List.mem_cons, List.not_mem_nil, or_false] at hy; rcases hy with rfl | rfl <;> (have := HOk.out; unfold okI; omega)) (by simp)))
            subst hwv
            clear hT1
            go_wp2_with (first
              | (go_at_call 58; refine (HRw.out).mono ?_; rintro e w5 ⟨rfl, hK5⟩; have HW5 := Lib.hid (HWv.out.kp' hK5); clear hK5)
              | (go_at_call 57; refine (ws_str HW5.out T1 _ rfl (by have := HI.out; have := HWt.out; first | omega | (simp only [List.length_append]; omega))).mono ?_; rintro e w6 ⟨⟨v, rfl⟩, hW6, hK6⟩; have HW6 := Lib.hid hW6; clear hW6 hK6))
            go_roundw
            case rel => exact ⟨k + 1, by go_num, by omega, by rw [HTk.out, ← List.append_assoc]; exact HW6.out⟩
            case measure => simp [intOf]; omega
          · have q : (x2 == 0) = false := by simpa using hx
            have HTk := Lib.hid (show (C.lats.take (k + 1)).flatMap latA = m ++ (jrow [x0, x1, x2] ++ [10]) by rw [hTk]; unfold latA; rw [if_neg hx])
            clear hTk hx
            obtain ⟨wv, hwv⟩ : ∃ wv : World, wv = ws.alloc (.cells #[.int .i64 x0, .int .i64 x1, .int .i64 x2] 3) := ⟨_, rfl⟩
            have HWv := Lib.hid (HWs.out.kp' (by rw [hwv]; exact (Kp.refl _ ws).alloc _ : Kp (fun _ => False) ws wv))
            have HRw := Lib.hid (ascii_row (some ⟨ws.heap.size, 0, none⟩) 3 [x0, x1, x2] 3 wv ((show Blk wv ws.heap.size #[.int .i64 x0, .int .i64 x1, .int .i64 x2] 3 by rw [hwv]; exact Blk.new ws _ _).rowAt (off := 0) (n := 3) rfl) rfl (by omega) (by intro y hy; simp only [List.mem_cons, List.not_mem_nil, or_false] at hy; rcases hy with rfl | rfl | rfl <;> (have := HOk.out; unfold okI; omega)) (HT.out.kp HWv.out.kp))
            obtain ⟨T1, hT1⟩ : ∃ T, jrow [x0, x1, x2] ++ [10] = T := ⟨_, rfl⟩
            rw [hT1] at HRw HTk
            have HI := Lib.hid (And.intro hlj (show T1.length ≤ 155 by rw [← hT1]; exact jrow_small (by intro y hy; simp only [List.mem_cons, List.not_mem_nil, or_false] at hy; rcases hy with rfl | rfl | rfl <;> (have := HOk.out; unfold okI; omega)) (by simp)))
            subst hwv
            clear hT1
            go_wp2_with (first
              | (go_at_call 58; refine (HRw.out).mono ?_; rintro e w5 ⟨rfl, hK5⟩; have HW5 := Lib.hid (HWv.out.kp' hK5); clear hK5)
              | (go_at_call 57; refine (ws_str HW5.out T1 _ rfl (by have := HI.out; have := HWt.out; first | omega | (simp only [List.length_append]; omega))).mono ?_; rintro e w6 ⟨⟨v, rfl⟩, hW6, hK6⟩; have HW6 := Lib.hid hW6; clear hW6 hK6))
            go_roundw
            case rel => exact ⟨k + 1, by go_num, by omega, by rw [HTk.out, ← List.append_assoc]; exact HW6.out⟩
            case measure => simp [intOf]; omega
        · obtain rfl : k = C.lats.length := by omega
          have HWl := Lib.hid (show WS w wp B V C (wtA C 0) by rw [HPre.out]; have := HW.out; rwa [List.take_length] at this)
          obtain ⟨-, -, c3, c4, c5, -⟩ := HWc.out _ _ HWl.out
          obtain ⟨wq, hwq⟩ : ∃ wq : World, wq = wp.alloc (.cells #[.slice V.ao C.outs.length V.co, .slice V.ab C.bads.length V.cb, .slice V.ac C.cons.length V.cc] 22) := ⟨_, rfl⟩
          have HWq := Lib.hid (HWl.out.kp' (by rw [hwq]; exact (Kp.refl _ wp).alloc _ : Kp (fun _ => False) wp wq))
          have HLq := Lib.hid (show Blk wq wp.heap.size #[.slice V.ao C.outs.length V.co, .slice V.ab C.bads.length V.cb, .slice V.ac C.cons.length V.cc] 22 by rw [hwq]; exact Blk.new _ _ _)
          have HBq := Lib.hid (show B ≠ wp.heap.size from by have := HWl.out.bw; omega)
          have HZq := Lib.hid hwq
          clear hwq HW HPre HWt hlt hk hnl
          go_wp2_with fail
          rw [← HZq.out]
          clear HZq c3 c4 c5
          go_loopw [61] (fun v61 wr => ∃ k : Nat, v61 = .int .i64 k ∧ k ≤ 3 ∧ WS w wr B V C (wtA C k) ∧ Blk wr wp.heap.size #[.slice V.ao C.outs.length V.co, .slice V.ab C.bads.length V.cb, .slice V.ac C.cons.length V.cc] 22) (fun v61 _ => 3 - (intOf v61).toNat)
          case atStart => exact ⟨0, rfl, by omega, HWq.out, HLq.out⟩
          case round =>
            obtain ⟨k, rfl, hk3, hW, hL⟩ := hrel
            clear HWq HLq HWl
            obtain ⟨wk, rfl⟩ : ∃ wk : World, wk = wr := ⟨_, rfl⟩
            have HW := Lib.hid hW
            have HL := Lib.hid hL
            clear hW hL
            by_cases hlt : k < 3
            · obtain ⟨a, n, c, hcl, hln, hrow⟩ := wcell HA.out hlt
              have hcell := HL.out.cell hcl
              have HRow := Lib.hid hrow
              have HRg := Lib.hid (fun x (hx : x ∈ wl C k) => HC.out.w k x hx)
              have hwt := wtA_len HF.out HC.out k
              have HTj := Lib.hid (fun j => take_len (f := oneA) (m := 155) (wl_le HF.out k) (fun x hx => oneA_len (HC.out.w k x hx)) j)
              have HSu := Lib.hid (wtA_succ C k)
              have hn1 : n ≤ 1000 := by rw [← hln]; exact wl_le HF.out k
              obtain ⟨M, hM⟩ : ∃ M, wl C k = M := ⟨_, rfl⟩
              obtain ⟨t, ht⟩ : ∃ t, wtA C k = t := ⟨_, rfl⟩
              rw [hM] at HRow HRg HTj HSu hln
              rw [ht] at hwt HSu HW
              have HLn := Lib.hid hln
              have HWt := Lib.hid (show t.length ≤ 1000000 by omega)
              have i0 : (0 : Int) ≤ (k : Int) := by omega
              have i2 : (k : Int) < 3 := by omega
              have HW0 := Lib.hid (show WS w wk B V C (t ++ (M.take 0).flatMap oneA) by simpa using HW.out)
              clear hM ht hwt hln hrow hcl
              go_wp2_with fail
              go_loopw [67] (fun v67 wr => ∃ j : Nat, v67 = .int .i64 j ∧ j ≤ n ∧ WS w wr B V C (t ++ (M.take j).flatMap oneA) ∧ Blk wr wp.heap.size #[.slice V.ao C.outs.length V.co, .slice V.ab C.bads.length V.cb, .slice V.ac C.cons.length V.cc] 22 ∧ Kp (fun _ => False) w wr) (fun v67 _ => n - (intOf v67).toNat)
              case atStart => exact ⟨0, rfl, by omega, HW0.out, HL.out, HW0.out.kp⟩
              case round =>
                obtain ⟨j, rfl, hj, hW, hL, -⟩ := hrel
                clear HW HL HW0 hcell
                obtain ⟨wj, rfl⟩ : ∃ wk : World, wk = wr := ⟨_, rfl⟩
                have HW := Lib.hid hW
                have HL := Lib.hid hL
                clear hW hL
                by_cases hlt2 : j < n
                · have hjl : j < M.length := by rw [HLn.out]; exact hlt2
                  have hoki := HRg.out (gi M j) (List.mem_of_getElem? (gi_some hjl))
                  obtain ⟨b, off, ea, e0⟩ := (show IntsAt wj a M from RowAt.kp HRow.out HW.out.kp (fun _ _ h => h)).get hjl
                  have hTk := flat_take oneA (gi_some hjl)
                  have hlj := HTj.out j
                  obtain ⟨x, hx⟩ : ∃ x, gi M j = x := ⟨_, rfl⟩
                  rw [hx] at e0 hoki hTk
                  obtain ⟨m, hm⟩ : ∃ m, (M.take j).flatMap oneA = m := ⟨_, rfl⟩
                  rw [hm] at HW hTk hlj
                  have HOk := Lib.hid (show -9223372036854775808 ≤ x ∧ x ≤ 9223372036854775807 from hoki)
                  have HTk := Lib.hid (show (M.take (j + 1)).flatMap oneA = m ++ (jrow [x] ++ [10]) from hTk)
                  clear hx hm hTk hoki
                  obtain ⟨wv, hwv⟩ : ∃ wv : World, wv = wj.alloc (.cells #[.int .i64 x] 3) := ⟨_, rfl⟩
                  have HWv := Lib.hid (HW.out.kp' (by rw [hwv]; exact (Kp.refl _ wj).alloc _ : Kp (fun _ => False) wj wv))
                  have HRw := Lib.hid (ascii_row (some ⟨wj.heap.size, 0, none⟩) 1 [x] 1 wv ((show Blk wv wj.heap.size #[.int .i64 x] 3 by rw [hwv]; exact Blk.new wj _ _).rowAt (off := 0) (n := 1) rfl) rfl (by omega) (by intro y hy; simp only [List.mem_cons, List.not_mem_nil, or_false] at hy; rcases hy with rfl <;> (have := HOk.out; unfold okI; omega)) (HT.out.kp HWv.out.kp))
                  obtain ⟨T1, hT1⟩ : ∃ T, jrow [x] ++ [10] = T := ⟨_, rfl⟩
                  rw [hT1] at HRw HTk
                  have HI := Lib.hid (And.intro hlj (show T1.length ≤ 155 by rw [← hT1]; exact jrow_small (by intro y hy; simp only [List.mem_cons, List.not_mem_nil, or_false] at hy; rcases hy with rfl <;> (have := HOk.out; unfold okI; omega)) (by simp)))
                  subst hwv
                  clear hT1
                  rw [ea]
                  have i0 : (0 : Int) ≤ (j : Int) := by omega
                  have i2 : (j : Int) < (n : Int) := by omega
                  go_upto_region 20 with fail
                  clear e0 ea
                  go_wp2_with (first
                    | (go_at_call 58; refine (HRw.out).mono ?_; rintro e w5 ⟨rfl, hK5⟩; have HW5 := Lib.hid (HWv.out.kp' hK5); have HL5 := Lib.hid ((HL.out.alloc _).kp hK5 (fun h => h)); clear hK5)
                    | (go_at_call 57; refine (ws_str HW5.out T1 _ rfl (by have := HI.out; have := HWt.out; first | omega | (simp only [List.length_append]; omega))).mono ?_; rintro e w6 ⟨⟨v, rfl⟩, hW6, hK6⟩; have HL6 := Lib.hid (HW5.out.other HL5.out HBq.out (by decide) hK6); have HW6 := Lib.hid hW6; clear hW6 hK6))
                  go_roundw
                  case rel => exact ⟨j + 1, by go_num, by omega, by rw [HTk.out, ← List.append_assoc]; exact HW6.out, HL6.out, HW6.out.kp⟩
                  case measure => simp [intOf]; omega
                · obtain rfl : j = n := by omega
                  have HWn := Lib.hid (show WS w wj B V C (wtA C (k + 1)) by rw [HSu.out]; have := HW.out; rwa [List.take_of_length_le (by rw [HLn.out]; exact Nat.le_refl _)] at this)
                  go_wp2_with fail
                  go_roundw
                  case rel => exact ⟨k + 1, by go_num, by omega, HWn.out, HL.out⟩
                  case measure => simp [intOf]; omega
            · have HW := Lib.hid (show WS w wk B V C (wtA C 3) by have := HW.out; rwa [show k = 3 by omega] at this)
              have hd : decide ((k : Int) < 3) = false := by simp; omega
              clear hlt hk3
              obtain ⟨-, -, -, -, -, c6⟩ := HWc.out _ _ HW.out
              have HW0 := Lib.hid (show WS w wk B V C (wtA C 3 ++ (C.gates.take 0).flatMap gatA) by simpa using HW.out)
              have HWt := Lib.hid (show (wtA C 3).length ≤ 1000000 by have := wtA_len HF.out HC.out 3; omega)
              have HAll := Lib.hid (show ascB C = wtA C 3 ++ C.gates.flatMap gatA from rfl)
              obtain ⟨t, ht⟩ : ∃ t, wtA C 3 = t := ⟨_, rfl⟩
              rw [ht] at HW0 HWt HAll
              clear HW HL ht
              go_wp2_with fail
              clear c6 hd
              go_loopw [80] (fun v80 wr => ∃ k : Nat, v80 = .int .i64 k ∧ k ≤ C.gates.length ∧ WS w wr B V C (t ++ (C.gates.take k).flatMap gatA)) (fun v80 _ => C.gates.length - (intOf v80).toNat)
              case atStart => exact ⟨0, rfl, by omega, HW0.out⟩
              case round =>
                obtain ⟨k, rfl, hk, hW⟩ := hrel
                obtain ⟨wp, rfl⟩ : ∃ wp : World, wp = wr := ⟨_, rfl⟩
                have HW := Lib.hid hW
                have hnl : C.gates.length ≤ 1000 := HF.out.g
                clear hW HW0
                by_cases hlt : k < C.gates.length
                · skip
                  obtain ⟨b, off, ea, hE⟩ := HA.out.gateCell hlt
                  obtain ⟨e0, e1, e2⟩ := hE _ HW.out.kp
                  have hTk := flat_take gatA (g3_some hlt)
                  have hlj := take_len (f := gatA) hnl (fun x hx => gatA_len (HC.out.g x hx)) k
                  have hoki := HC.out.g _ (List.mem_of_getElem? (g3_some hlt))
                  obtain ⟨x0, hx0⟩ : ∃ x, (g3 C.gates k).1 = x := ⟨_, rfl⟩
                  obtain ⟨x1, hx1⟩ : ∃ x, (g3 C.gates k).2.1 = x := ⟨_, rfl⟩
                  obtain ⟨x2, hx2⟩ : ∃ x, (g3 C.gates k).2.2 = x := ⟨_, rfl⟩
                  have hg3 : g3 C.gates k = (x0, x1, x2) := by rw [← hx0, ← hx1, ← hx2]
                  rw [hx0] at e0 hoki
                  rw [hx1] at e1 hoki
                  rw [hx2] at e2 hoki
                  rw [hg3] at hTk
                  obtain ⟨m, hm⟩ : ∃ m, (C.gates.take k).flatMap gatA = m := ⟨_, rfl⟩
                  rw [hm] at HW hTk hlj
                  have HOk := Lib.hid (show (-9223372036854775808 ≤ x0 ∧ x0 ≤ 9223372036854775807) ∧ (-9223372036854775808 ≤ x1 ∧ x1 ≤ 9223372036854775807) ∧ (-9223372036854775808 ≤ x2 ∧ x2 ≤ 9223372036854775807) from hoki)
                  clear hE hx0 hx1 hx2 hg3 hm hoki
                  rw [ea]
                  have i0 : (0 : Int) ≤ (k : Int) := by omega
                  have i2 : (k : Int) < (C.gates.length : Int) := by omega
                  obtain ⟨ws, hws⟩ : ∃ ws : World, ws = wp.alloc (.cells #[.int .i64 x0, .int .i64 x1, .int .i64 x2] 61) := ⟨_, rfl⟩
                  have HWs := Lib.hid (HW.out.kp' (by rw [hws]; exact (Kp.refl _ wp).alloc _ : Kp (fun _ => False) wp ws))
                  have HX := Lib.hid (show Blk ws wp.heap.size #[.int .i64 x0, .int .i64 x1, .int .i64 x2] 61 by rw [hws]; exact Blk.new _ _ _)
                  have HZs := Lib.hid hws
                  clear hws
                  go_upto_region 26 with fail
                  rw [← HZs.out]
                  clear HZs e0 e1 e2 ea
                  have nb0 := HX.out.cell (i := 0) (v := .int .i64 x0) rfl
                  have nb1 := HX.out.cell (i := 1) (v := .int .i64 x1) rfl
                  have nb2 := HX.out.cell (i := 2) (v := .int .i64 x2) rfl
                  have HTk := Lib.hid (show (C.gates.take (k + 1)).flatMap gatA = m ++ (jrow [x0, x1, x2] ++ [10]) from hTk)
                  clear hTk
                  obtain ⟨wv, hwv⟩ : ∃ wv : World, wv = ws.alloc (.cells #[.int .i64 x0, .int .i64 x1, .int .i64 x2] 3) := ⟨_, rfl⟩
                  have HWv := Lib.hid (HWs.out.kp' (by rw [hwv]; exact (Kp.refl _ ws).alloc _ : Kp (fun _ => False) ws wv))
                  have HRw := Lib.hid (ascii_row (some ⟨ws.heap.size, 0, none⟩) 3 [x0, x1, x2] 3 wv ((show Blk wv ws.heap.size #[.int .i64 x0, .int .i64 x1, .int .i64 x2] 3 by rw [hwv]; exact Blk.new ws _ _).rowAt (off := 0) (n := 3) rfl) rfl (by omega) (by intro y hy; simp only [List.mem_cons, List.not_mem_nil, or_false] at hy; rcases hy with rfl | rfl | rfl <;> (have := HOk.out; unfold okI; omega)) (HT.out.kp HWv.out.kp))
                  obtain ⟨T1, hT1⟩ : ∃ T, jrow [x0, x1, x2] ++ [10] = T := ⟨_, rfl⟩
                  rw [hT1] at HRw HTk
                  have HI := Lib.hid (And.intro hlj (show T1.length ≤ 155 by rw [← hT1]; exact jrow_small (by intro y hy; simp only [List.mem_cons, List.not_mem_nil, or_false] at hy; rcases hy with rfl | rfl | rfl <;> (have := HOk.out; unfold okI; omega)) (by simp)))
                  subst hwv
                  clear hT1
                  go_wp2_with (first
                    | (go_at_call 58; refine (HRw.out).mono ?_; rintro e w5 ⟨rfl, hK5⟩; have HW5 := Lib.hid (HWv.out.kp' hK5); clear hK5)
                    | (go_at_call 57; refine (ws_str HW5.out T1 _ rfl (by have := HI.out; have := HWt.out; first | omega | (simp only [List.length_append]; omega))).mono ?_; rintro e w6 ⟨⟨v, rfl⟩, hW6, hK6⟩; have HW6 := Lib.hid hW6; clear hW6 hK6))
                  go_roundw
                  case rel => exact ⟨k + 1, by go_num, by omega, by rw [HTk.out, ← List.append_assoc]; exact HW6.out⟩
                  case measure => simp [intOf]; omega
                · obtain rfl : k = C.gates.length := by omega
                  have HWe := Lib.hid (show WS w wp B V C (ascB C) by rw [HAll.out]; have := HW.out; rwa [List.take_length] at this)
                  clear hlt hk HW
                  go_wp2_with fail
                  refine (ws_end HWe.out).mono ?_
                  rintro e w9 ⟨rfl, hK9⟩
                  have HE := Lib.hid hK9
                  clear hK9
                  go_wp2_with fail
                  go_ret
                  exact ⟨rfl, HE.out⟩

end Go.Proofs.YtckmdcmkjmpiaaaGreatDoor

/-
  A circuit's lines in letters: what is read of them, plainly.
-/
namespace Go.Proofs.YtckmdcmkjmpiaaaGreatDoor
open Go.RowKit

/-- a literal and the sign behind it; where the reader is then -/
def rdL (s : ByteArray) (top : Int) (ok : Nat → Bool) (st : Nat × Nat) : Nat × Nat × Nat × Nat := ((rdD s top st).1, rdS s ok (rdD s top st).2)

def ok32 : Nat → Bool := fun c => c == 32
def ok10 : Nat → Bool := fun c => c == 10
def okB : Nat → Bool := fun c => c == 32 || c == 10

def rdLatsA (s : ByteArray) (top : Int) : Nat → List (Int × Int × Int) → Nat × Nat → List (Int × Int × Int) × Nat × Nat
  | 0, L, st => (L, st)
  | j + 1, L, st =>
    if (rdL s top okB (rdL s top ok32 st).2.2).2.2.2 ≠ 0 then ([], (rdL s top okB (rdL s top ok32 st).2.2).2.2)
    else if (rdL s top okB (rdL s top ok32 st).2.2).2.1 = 32 then
      if (rdL s top ok10 (rdL s top okB (rdL s top ok32 st).2.2).2.2).2.2.2 ≠ 0 then ([], (rdL s top ok10 (rdL s top okB (rdL s top ok32 st).2.2).2.2).2.2)
      else rdLatsA s top j (L ++ [(((rdL s top ok32 st).1 : Int), ((rdL s top okB (rdL s top ok32 st).2.2).1 : Int), ((rdL s top ok10 (rdL s top okB (rdL s top ok32 st).2.2).2.2).1 : Int))]) (rdL s top ok10 (rdL s top okB (rdL s top ok32 st).2.2).2.2).2.2
    else rdLatsA s top j (L ++ [(((rdL s top ok32 st).1 : Int), ((rdL s top okB (rdL s top ok32 st).2.2).1 : Int), 0)]) (rdL s top okB (rdL s top ok32 st).2.2).2.2
def rdGatesA (s : ByteArray) (top : Int) : Nat → List (Int × Int × Int) → Nat × Nat → List (Int × Int × Int) × Nat × Nat
  | 0, L, st => (L, st)
  | j + 1, L, st =>
    if (rdL s top ok10 (rdL s top ok32 (rdL s top ok32 st).2.2).2.2).2.2.2 ≠ 0 then ([], (rdL s top ok10 (rdL s top ok32 (rdL s top ok32 st).2.2).2.2).2.2)
    else rdGatesA s top j (L ++ [(((rdL s top ok32 st).1 : Int), ((rdL s top ok32 (rdL s top ok32 st).2.2).1 : Int), ((rdL s top ok10 (rdL s top ok32 (rdL s top ok32 st).2.2).2.2).1 : Int))]) (rdL s top ok10 (rdL s top ok32 (rdL s top ok32 st).2.2).2.2).2.2
/-- the circuit of lines in letters -/
def rdA (s : ByteArray) (M : Int) (nI nL nO nA nB nC : Nat) (st : Nat × Nat) : Circ × Nat × Nat :=
  let i := rdLits s (2 * M + 1) nI [] st
  let l := rdLatsA s (2 * M + 1) nL [] i.2
  let o := rdLits s (2 * M + 1) nO [] l.2
  let d := rdLits s (2 * M + 1) nB [] o.2
  let n := rdLits s (2 * M + 1) nC [] d.2
  let g := rdGatesA s (2 * M + 1) nA [] n.2
  (⟨M, i.1, l.1, o.1, d.1, n.1, g.1⟩, g.2)

section
variable {s : ByteArray} {top : Int} {ok : Nat → Bool} {st : Nat × Nat}
theorem rdL_stay (h : st.2 ≠ 0) : rdL s top ok st = (0, 0, st) := by unfold rdL; rw [rdD_stay h]; simp only; rw [rdS_stay h]
theorem rdL_le (h : st.1 ≤ s.size) : (rdL s top ok st).2.2.1 ≤ s.size := rdS_le (rdD_le h)
/-- if it goes on, all was well before -/
theorem rdL_ok (h : (rdL s top ok st).2.2.2 = 0) : st.2 = 0 := by
  by_cases h0 : st.2 = 0
  · exact h0
  · rw [rdL_stay h0] at h; exact h
theorem rdLatsA_stay {m : Nat} {L : List (Int × Int × Int)} (h : st.2 ≠ 0) : (rdLatsA s top m L st).2 = st := by
  cases m with
  | zero => rfl
  | succ m =>
    unfold rdLatsA
    rw [rdL_stay (ok := ok32) h]
    simp only
    rw [rdL_stay (ok := okB) h]
    simp only
    rw [if_pos h]
theorem rdGatesA_stay {m : Nat} {L : List (Int × Int × Int)} (h : st.2 ≠ 0) : (rdGatesA s top m L st).2 = st := by
  cases m with
  | zero => rfl
  | succ m =>
    unfold rdGatesA
    rw [rdL_stay (ok := ok32) h]
    simp only
    rw [rdL_stay (ok := ok32) h]
    simp only
    rw [rdL_stay (ok := ok10) h]
    simp only
    rw [if_pos h]
theorem rdLatsA_le : ∀ {m : Nat} {L : List (Int × Int × Int)} {st : Nat × Nat}, st.1 ≤ s.size → (rdLatsA s top m L st).2.1 ≤ s.size
  | 0, L, st, h => h
  | m + 1, L, st, h => by
    unfold rdLatsA
    have h1 := rdL_le (top := top) (ok := ok32) h
    have h2 := rdL_le (top := top) (ok := okB) h1
    have h3 := rdL_le (top := top) (ok := ok10) h2
    split
    · exact h2
    · split
      · split
        · exact h3
        · exact rdLatsA_le h3
      · exact rdLatsA_le h2
theorem rdGatesA_le : ∀ {m : Nat} {L : List (Int × Int × Int)} {st : Nat × Nat}, st.1 ≤ s.size → (rdGatesA s top m L st).2.1 ≤ s.size
  | 0, L, st, h => h
  | m + 1, L, st, h => by
    unfold rdGatesA
    have h1 := rdL_le (top := top) (ok := ok32) h
    have h2 := rdL_le (top := top) (ok := ok32) h1
    have h3 := rdL_le (top := top) (ok := ok10) h2
    split
    · exact h3
    · exact rdGatesA_le h3
/-- so many were read -/
theorem rdLits_len : ∀ {m : Nat} {L : List Int} {st : Nat × Nat}, (rdLits s top m L st).2.2 = 0 → (rdLits s top m L st).1.length = L.length + m
  | 0, L, st, h => rfl
  | m + 1, L, st, h => by
    unfold rdLits at h ⊢
    split at h
    · rename_i h2
      rw [if_pos h2]
      obtain ⟨c, p, e, hg⟩ : ∃ c p e, rdS s (fun c => c == 10) (rdD s top st).2 = (c, p, e) := ⟨_, _, _, rfl⟩
      rw [hg] at h h2
      simp only at h h2
      exfalso
      unfold rdS at hg
      by_cases c1 : (rdD s top st).2.2 ≠ 0
      · rw [if_pos c1] at hg
        rw [show (rdD s top st).2 = (p, e) from (Prod.mk.inj hg).2] at c1
        exact c1 h
      rw [if_neg c1] at hg
      by_cases c2 : (rdD s top st).2.1 = s.size
      · rw [if_pos c2] at hg; simp at hg; omega
      rw [if_neg c2] at hg
      by_cases c3 : ((fun c => c == 10) (bt s (rdD s top st).2.1)) = false
      · rw [if_pos c3] at hg; simp at hg; omega
      · rw [if_neg c3] at hg
        simp only [Prod.mk.injEq] at hg
        simp at c3
        omega
    · rename_i h2
      rw [if_neg h2, rdLits_len h]
      simp; omega
theorem rdLatsA_len : ∀ {m : Nat} {L : List (Int × Int × Int)} {st : Nat × Nat}, (rdLatsA s top m L st).2.2 = 0 → (rdLatsA s top m L st).1.length = L.length + m
  | 0, L, st, h => rfl
  | m + 1, L, st, h => by
    unfold rdLatsA at h ⊢
    by_cases c1 : (rdL s top okB (rdL s top ok32 st).2.2).2.2.2 ≠ 0
    · rw [if_pos c1] at h; exact absurd h c1
    rw [if_neg c1] at h ⊢
    by_cases c2 : (rdL s top okB (rdL s top ok32 st).2.2).2.1 = 32
    · rw [if_pos c2] at h ⊢
      by_cases c3 : (rdL s top ok10 (rdL s top okB (rdL s top ok32 st).2.2).2.2).2.2.2 ≠ 0
      · rw [if_pos c3] at h; exact absurd h c3
      rw [if_neg c3] at h ⊢
      rw [rdLatsA_len h]; simp; omega
    · rw [if_neg c2] at h ⊢
      rw [rdLatsA_len h]; simp; omega
theorem rdGatesA_len (m : Nat) : ∀ {L : List (Int × Int × Int)} {st : Nat × Nat}, (rdGatesA s top m L st).2.2 = 0 → (rdGatesA s top m L st).1.length = L.length + m := by
  induction m with
  | zero => intro L st _; unfold rdGatesA; rfl
  | succ m ih =>
    intro L st h
    unfold rdGatesA at h ⊢
    generalize rdL s top ok10 (rdL s top ok32 (rdL s top ok32 st).2.2).2.2 = r at h ⊢
    by_cases c1 : r.2.2.2 ≠ 0
    · rw [if_pos c1] at h; exact absurd h c1
    rw [if_neg c1] at h ⊢
    rw [ih h]; simp; omega
end

end Go.Proofs.YtckmdcmkjmpiaaaGreatDoor

/-
  ascii.ReadHead: what it computes: the head with which a text begins. (Printed by mkahead.py.)
-/
namespace Go.Proofs.YtckmdcmkjmpiaaaGreatDoor
open Go.RowKit

theorem headT_bad {s : ByteArray} {p e : Nat} (h1 : isHead s) (h : headL s 9 4 [] = ([], p, e)) (he : e ≠ 0) : headT s = (false, [], p, e) := by
  unfold headT
  rw [if_neg (by simpa using h1), h, if_pos (by simpa using he)]

theorem headL_stop {s : ByteArray} {l : List Nat} {p q e : Nat} (hl : l.length ≤ 8) (h : stepH s l.length p = (0, q, e, false)) (he : e ≠ 0) : headL s (9 - l.length) p l = ([], q, e) := by
  obtain ⟨f, hf⟩ : ∃ f, 9 - l.length = f + 1 := ⟨8 - l.length, by omega⟩
  rw [hf, headL, h, if_pos (by simpa using he)]

theorem headL_fin {s : ByteArray} {l : List Nat} {p q n : Nat} (hl : l.length ≤ 8) (h : stepH s l.length p = (n, q, 0, true)) : headL s (9 - l.length) p l = (l ++ [n], q, 0) := by
  obtain ⟨f, hf⟩ : ∃ f, 9 - l.length = f + 1 := ⟨8 - l.length, by omega⟩
  rw [hf, headL, h]; rfl

theorem headL_more {s : ByteArray} {l : List Nat} {p q n : Nat} (hl : l.length ≤ 8) (h : stepH s l.length p = (n, q, 0, false)) : headL s (9 - l.length) p l = headL s (9 - (l ++ [n]).length) q (l ++ [n]) := by
  obtain ⟨f, hf⟩ : ∃ f, 9 - l.length = f + 1 := ⟨8 - l.length, by omega⟩
  rw [hf, headL, h, show 9 - (l ++ [n]).length = f by simp; omega]
  simp

theorem stepH_num {s : ByteArray} {k p top E : Nat} (ht : (if 7 ≤ k then 0 else 16777216) = top) (hE : numE s p top = E) (he : E ≠ 0) : stepH s k p = (0, p, E, false) := by
  unfold numE at hE
  unfold stepH
  by_cases c1 : (natN s p).2.2 ≠ 0
  · rw [if_pos c1] at hE ⊢; rw [hE]
  · rw [if_neg c1] at hE ⊢
    rw [ht]
    by_cases c2 : top < (natN s p).1
    · rw [if_pos c2] at hE ⊢; rw [hE]
    · rw [if_neg c2] at hE; exact absurd hE.symm he

theorem numE_ok {s : ByteArray} {p top n q : Nat} (hp : p ≤ s.size) (hn : (natN s p).1 = n) (hq : (natN s p).2.1 = q) (hE : numE s p top = 0) : p < q ∧ q ≤ s.size ∧ n ≤ top := by
  unfold numE at hE
  by_cases c1 : (natN s p).2.2 ≠ 0
  · rw [if_pos c1] at hE; exact absurd hE c1
  · have := natN_end hp (by omega)
    rw [if_neg c1] at hE
    by_cases c2 : top < (natN s p).1
    · rw [if_pos c2] at hE; cases hE
    · omega

theorem stepH_sign {s : ByteArray} {k p top n q : Nat} (ht : (if 7 ≤ k then 0 else 16777216) = top) (hn : (natN s p).1 = n) (hq : (natN s p).2.1 = q) (hE : numE s p top = 0) :
    stepH s k p = if q = s.size then (0, q, 3, false) else if bt s q = 10 ∧ 4 ≤ k then (n, q + 1, 0, true) else if bt s q = 32 ∧ k < 8 then (n, q + 1, 0, false) else (0, q, 2, false) := by
  unfold numE at hE
  unfold stepH
  by_cases c1 : (natN s p).2.2 ≠ 0
  · rw [if_pos c1] at hE; exact absurd hE c1
  · rw [if_neg c1] at hE ⊢
    rw [ht]
    by_cases c2 : top < (natN s p).1
    · rw [if_pos c2] at hE; cases hE
    · rw [if_neg c2, hn, hq]

theorem HBlk.alloc {s : ByteArray} {w wr : World} {p : Nat} {l : List Nat} (h : HBlk s w wr p l) (o : Obj) : HBlk s w (wr.alloc o) p l :=
  ⟨h.b0.alloc _, h.b1.alloc _, h.b2.alloc _, h.b3.alloc _, h.b4.alloc _, h.kp.alloc _⟩

/-- the cells of a call -/
theorem HBlk.outs {s : ByteArray} {w wr : World} {p : Nat} {l : List Nat} (h : HBlk s w wr p l) : w.heap.size < wr.heap.size ∧ w.heap.size + 1 < wr.heap.size ∧ w.heap.size + 1 + 1 < wr.heap.size ∧ w.heap.size + 1 + 1 + 1 < wr.heap.size ∧ w.heap.size + 1 + 1 + 1 + 1 < wr.heap.size ∧
    (∀ i, wr.frozen? ⟨w.heap.size, i, none⟩ = false) ∧ wr.frozen? ⟨w.heap.size + 1, 0, none⟩ = false ∧ wr.frozen? ⟨w.heap.size + 1 + 1, 0, none⟩ = false ∧ wr.cell? ⟨w.heap.size + 1, 0, none⟩ = some (.int .i64 0) ∧ wr.cell? ⟨w.heap.size + 1 + 1, 0, none⟩ = some (.int .i64 0) ∧
    wr.cell? ⟨w.heap.size + 1 + 1 + 1, 1, none⟩ = some (.int .i64 p) :=
  ⟨h.b0.lt, h.b1.lt, h.b2.lt, h.b3.lt, h.b4.lt, h.b0.free, h.b1.free 0, h.b2.free 0, h.b1.cells1.1, h.b2.cells1.1, h.b3.cells2.2.1⟩

theorem HBlk.cells {s : ByteArray} {w wr : World} {p : Nat} {l : List Nat} (h : HBlk s w wr p l) : wr.cell? ⟨w.heap.size + 1 + 1 + 1 + 1, 0, none⟩ = some (.int .i64 (nth l 0)) ∧ wr.cell? ⟨w.heap.size + 1 + 1 + 1 + 1, 1, none⟩ = some (.int .i64 (nth l 1)) ∧ wr.cell? ⟨w.heap.size + 1 + 1 + 1 + 1, 2, none⟩ = some (.int .i64 (nth l 2)) ∧
    wr.cell? ⟨w.heap.size + 1 + 1 + 1 + 1, 3, none⟩ = some (.int .i64 (nth l 3)) ∧ wr.cell? ⟨w.heap.size + 1 + 1 + 1 + 1, 4, none⟩ = some (.int .i64 (nth l 4)) ∧ wr.cell? ⟨w.heap.size + 1 + 1 + 1 + 1, 5, none⟩ = some (.int .i64 (nth l 5)) ∧ wr.cell? ⟨w.heap.size + 1 + 1 + 1 + 1, 6, none⟩ = some (.int .i64 (nth l 6)) :=
  ⟨h.b4.cell (arr_get l 0 (by omega)), h.b4.cell (arr_get l 1 (by omega)), h.b4.cell (arr_get l 2 (by omega)), h.b4.cell (arr_get l 3 (by omega)), h.b4.cell (arr_get l 4 (by omega)), h.b4.cell (arr_get l 5 (by omega)), h.b4.cell (arr_get l 6 (by omega))⟩

theorem HBlk.at_ {s : ByteArray} {w wr : World} {p k : Nat} {l : List Nat} (h : HBlk s w wr p l) (hk : k < 9) :
    wr.cell? ⟨w.heap.size + 1 + 1 + 1 + 1, k, none⟩ = some (.int .i64 (nth l k)) ∧ wr.frozen? ⟨w.heap.size + 1 + 1 + 1 + 1, k, none⟩ = false := ⟨h.b4.cell (arr_get l k hk), h.b4.free k⟩

theorem HBlk.store' {s : ByteArray} {w wr : World} {p k : Nat} {l : List Nat} (h : HBlk s w wr p l) (n : Nat) (hk : l.length = k) (hl : k ≤ 8) :
    HBlk s w (wr.setCell ⟨w.heap.size + 1 + 1 + 1 + 1, k, none⟩ (.int .i64 (n : Nat))) p (l ++ [n]) := by
  subst hk; exact h.store n hl

theorem okS_no {s : ByteArray} {k n q : Nat} (hlt : q < s.size) (h : okS k (bt s q) = false) :
    (if q = s.size then ((0 : Nat), q, (3 : Nat), false) else if bt s q = 10 ∧ 4 ≤ k then (n, q + 1, 0, true) else if bt s q = 32 ∧ k < 8 then (n, q + 1, 0, false) else (0, q, 2, false)) = (0, q, 2, false) := by
  unfold okS at h
  simp only [decide_eq_false_iff_not] at h
  rw [if_neg (by omega), if_neg (fun e => h (.inr e)), if_neg (fun e => h (.inl e))]

theorem okS_more {s : ByteArray} {k n q : Nat} (h10 : ¬ bt s q = 10) (h : okS k (bt s q) = true) :
    (if bt s q = 10 ∧ 4 ≤ k then (n, q + 1, (0 : Nat), true) else if bt s q = 32 ∧ k < 8 then (n, q + 1, 0, false) else (0, q, 2, false)) = (n, q + 1, 0, false) := by
  unfold okS at h
  simp only [decide_eq_true_eq] at h
  rw [if_neg (fun e => h10 e.1), if_pos (h.resolve_right (fun e => h10 e.1))]

theorem okS_fin {s : ByteArray} {k n q : Nat} (h10 : bt s q = 10) (h : okS k (bt s q) = true) :
    (if bt s q = 10 ∧ 4 ≤ k then (n, q + 1, (0 : Nat), true) else if bt s q = 32 ∧ k < 8 then (n, q + 1, 0, false) else (0, q, 2, false)) = (n, q + 1, 0, true) := by
  unfold okS at h
  simp only [decide_eq_true_eq] at h
  rw [if_pos (by omega)]

theorem headL_stop_ {s : ByteArray} {l : List Nat} {k p q e : Nat} (hk : l.length = k) (hl : k ≤ 8) (h : stepH s k p = (0, q, e, false)) (he : e ≠ 0) : headL s (9 - l.length) p l = ([], q, e) := by
  subst hk; exact headL_stop hl h he

theorem headL_fin_ {s : ByteArray} {l : List Nat} {k p q n : Nat} (hk : l.length = k) (hl : k ≤ 8) (h : stepH s k p = (n, q, 0, true)) : headL s (9 - l.length) p l = (l ++ [n], q, 0) := by
  subst hk; exact headL_fin hl h

theorem headL_more_ {s : ByteArray} {l : List Nat} {k p q n : Nat} (hk : l.length = k) (hl : k ≤ 8) (h : stepH s k p = (n, q, 0, false)) : headL s (9 - (l ++ [n]).length) q (l ++ [n]) = headL s (9 - l.length) p l := by
  subst hk; exact (headL_more hl h).symm

theorem nth_bound {l : List Nat} (h : ∀ j, nth l j ≤ 16777216) (n : Nat) {top : Nat} (hn : n ≤ top) (ht : top ≤ 16777216) : ∀ j, nth (l ++ [n]) j ≤ 16777216 := by
  intro j
  rcases Nat.lt_trichotomy j l.length with h1 | h1 | h1
  · rw [nth_snoc_lt h1]; exact h j
  · subst h1; rw [nth_snoc]; omega
  · rw [nth_ge (by simp; omega)]; omega

theorem int_beq (a b : Nat) : ((a : Int) == (b : Int)) = decide (a = b) := by
  by_cases h : a = b
  · subst h; simp
  · rw [decide_eq_false h, beq_eq_false_iff_ne]; omega

/-- the end: the results are read -/
theorem head_end {s : ByteArray} {w wz : World} {b : Bool} {L : List Nat} {P E : Nat} {tmps : Array Value} (hT : headT s = (b, L, P, E))
    (ht2 : tmps[2]? = some (.pointer (some ⟨w.heap.size, 0, none⟩))) (ht3 : tmps[3]? = some (.pointer (some ⟨w.heap.size + 1, 0, none⟩))) (ht4 : tmps[4]? = some (.pointer (some ⟨w.heap.size + 1 + 1, 0, none⟩)))
    (h0 : Blk wz w.heap.size (headC b L) 42) (hA : Blk wz (w.heap.size + 1) #[.int .i64 (P : Nat)] 3) (hE : Blk wz (w.heap.size + 1 + 1) #[.int .i64 (E : Nat)] 28) (hk : Kp (fun _ => False) w wz) :
    Leaves Tryz.prog Tryz.f13 tmps (fun o w' => HeadP s w o w') [] .returning wz := by
  obtain ⟨z0, z1, z2, z3, z4, z5, z6, z7⟩ := h0.cells8
  have a0 := hA.cells1.1
  have e0 := hE.cells1.1
  refine ⟨.tuple #[headV b L, .int .i64 P, .int .i64 E], ?_, ?_⟩
  · simp [results, Tryz.results13, go_sem, ht2, ht3, ht4, z0, z1, z2, z3, z4, z5, z6, z7, a0, e0, headV]
  · unfold HeadP
    rw [hT]
    exact ⟨rfl, hk⟩

/-- the end behind a stop -/
theorem head_stop {s : ByteArray} {w wz w'' : World} {P E : Nat} {tmps : Array Value} (hT : headT s = (false, [], P, E))
    (ht2 : tmps[2]? = some (.pointer (some ⟨w.heap.size, 0, none⟩))) (ht3 : tmps[3]? = some (.pointer (some ⟨w.heap.size + 1, 0, none⟩))) (ht4 : tmps[4]? = some (.pointer (some ⟨w.heap.size + 1 + 1, 0, none⟩)))
    (h0 : Blk wz w.heap.size (headC false []) 42) (hk : Kp (fun _ => False) w wz)
    (hA : Blk w'' (w.heap.size + 1) #[.int .i64 (P : Nat)] 3) (hE : Blk w'' (w.heap.size + 1 + 1) #[.int .i64 (E : Nat)] 28) (hK : Kp (fun j => j = w.heap.size + 1 ∨ j = w.heap.size + 1 + 1) wz w'') (v : Value) :
    Leaves Tryz.prog Tryz.f13 tmps (fun o w' => HeadP s w o w') [] (settle (.panicking ({ v := v, recovered := true } :: []))) w'' :=
  head_end hT ht2 ht3 ht4 (h0.kp hK (by omega)) hA hE (hk.trans hK (fun i hi h => by omega))

theorem headT_sum {s : ByteArray} {L : List Nat} {q : Nat} {bb : Bool} (h1 : isHead s) (h : headL s 9 4 [] = (L, q, 0)) (hb : decide (bt s 1 = 105) = bb) (h2 : badSum bb L) : headT s = (false, [], 4, 5) := by
  unfold headT
  rw [if_neg (by simpa using h1), h, if_neg (by simp), hb, if_pos h2]

theorem headT_ok {s : ByteArray} {L : List Nat} {q : Nat} {bb : Bool} (h1 : isHead s) (h : headL s 9 4 [] = (L, q, 0)) (hb : decide (bt s 1 = 105) = bb) (h2 : ¬ badSum bb L) : headT s = (bb, L, q, 0) := by
  unfold headT
  rw [if_neg (by simpa using h1), h, if_neg (by simp), hb, if_neg h2]

theorem HBlk.fin {s : ByteArray} {w wz : World} {q : Nat} {L : List Nat} (h : HBlk s w wz q L) (y0 y1 y2 y3 y4 y5 y6 y7 : Value) (p e : Value) :
    Blk ((((((((((wz.setCell ⟨w.heap.size, 0, none⟩ y0).setCell ⟨w.heap.size, 1, none⟩ y1).setCell ⟨w.heap.size, 2, none⟩ y2).setCell ⟨w.heap.size, 3, none⟩ y3).setCell ⟨w.heap.size, 4, none⟩ y4).setCell ⟨w.heap.size, 5, none⟩ y5).setCell ⟨w.heap.size, 6, none⟩ y6).setCell ⟨w.heap.size, 7, none⟩ y7).setCell ⟨w.heap.size + 1, 0, none⟩ p).setCell ⟨w.heap.size + 1 + 1, 0, none⟩ e) w.heap.size #[y0, y1, y2, y3, y4, y5, y6, y7] 42 ∧
    Blk ((((((((((wz.setCell ⟨w.heap.size, 0, none⟩ y0).setCell ⟨w.heap.size, 1, none⟩ y1).setCell ⟨w.heap.size, 2, none⟩ y2).setCell ⟨w.heap.size, 3, none⟩ y3).setCell ⟨w.heap.size, 4, none⟩ y4).setCell ⟨w.heap.size, 5, none⟩ y5).setCell ⟨w.heap.size, 6, none⟩ y6).setCell ⟨w.heap.size, 7, none⟩ y7).setCell ⟨w.heap.size + 1, 0, none⟩ p).setCell ⟨w.heap.size + 1 + 1, 0, none⟩ e) (w.heap.size + 1) #[p] 3 ∧
    Blk ((((((((((wz.setCell ⟨w.heap.size, 0, none⟩ y0).setCell ⟨w.heap.size, 1, none⟩ y1).setCell ⟨w.heap.size, 2, none⟩ y2).setCell ⟨w.heap.size, 3, none⟩ y3).setCell ⟨w.heap.size, 4, none⟩ y4).setCell ⟨w.heap.size, 5, none⟩ y5).setCell ⟨w.heap.size, 6, none⟩ y6).setCell ⟨w.heap.size, 7, none⟩ y7).setCell ⟨w.heap.size + 1, 0, none⟩ p).setCell ⟨w.heap.size + 1 + 1, 0, none⟩ e) (w.heap.size + 1 + 1) #[e] 28 ∧
    Kp (fun _ => False) w ((((((((((wz.setCell ⟨w.heap.size, 0, none⟩ y0).setCell ⟨w.heap.size, 1, none⟩ y1).setCell ⟨w.heap.size, 2, none⟩ y2).setCell ⟨w.heap.size, 3, none⟩ y3).setCell ⟨w.heap.size, 4, none⟩ y4).setCell ⟨w.heap.size, 5, none⟩ y5).setCell ⟨w.heap.size, 6, none⟩ y6).setCell ⟨w.heap.size, 7, none⟩ y7).setCell ⟨w.heap.size + 1, 0, none⟩ p).setCell ⟨w.heap.size + 1 + 1, 0, none⟩ e) := by
  have hk := Kp.set8 (b := w.heap.size) (Kp.refl (fun j => j = w.heap.size) wz) (fun _ => rfl) y0 y1 y2 y3 y4 y5 y6 y7
  refine ⟨((h.b0.set8 y0 y1 y2 y3 y4 y5 y6 y7).set_other (by simp) _).set_other (by simp <;> omega) _, ((h.b1.kp hk (by omega)).set_same 0 p).set_other (by simp) _, ((h.b2.kp hk (by omega)).set_other (by simp) _).set_same 0 e,
    ((h.kp.trans hk (fun i hi h => by omega)).setCell (p := ⟨w.heap.size + 1, 0, none⟩) (by simp <;> omega) _).setCell (p := ⟨w.heap.size + 1 + 1, 0, none⟩) (by simp <;> omega) _⟩

set_option maxRecDepth 100000 in
set_option maxHeartbeats 8000000 in
theorem ascii_ReadHead (K : RdK) (s : ByteArray) (w : World) (hs : s.size ≤ 2000000) :
    Calls Tryz.prog 13 #[.string s] w fun o w' => HeadP s w o w' := by
  have HK := Lib.hid K
  clear K
  have hmf : ∀ (fn : Fn) (first cap : Array Value) (w : World), (Instr.makeFunc fn first cap).run Tryz.prog w = .ok (.func fn first cap) w := fun _ _ _ _ => rfl
  have HIS := Lib.hid (isHead_pre s)
  have HN0 := Lib.hid (HBlk.new s w)
  by_cases hI : isHead s
  · have HI : Hid (isHead s) := Lib.hid hI
    have HIS2 := Lib.hid (HIS.out.2 hI)
    clear HIS hI
    go_enter_defers Tryz.func13, Tryz.ntmps13
    go_upto_region 1 with fail
    go_cut [19] from 12 to 19 (fun s19 wx => s19 = .bool false ∧ wx = ((w.alloc (.cells #[.bool false, .int .i64 0, .int .i64 0, .int .i64 0, .int .i64 0, .int .i64 0, .int .i64 0, .int .i64 0] 42)).alloc (.cells #[.int .i64 0] 3)).alloc (.cells #[.int .i64 0] 28))
    case first =>
      cases h1 : Lib.hasPrefix s.data.toList [97, 97, 103, 32] with
      | true =>
        go_wp2_with fail
        refine (HK.out.pre _ _ _).mono ?_
        rintro e w' ⟨rfl, rfl⟩
        rw [show (⟨#[97, 97, 103, 32]⟩ : ByteArray).data.toList = [97, 97, 103, 32] from rfl, h1]
        go_wp2_with fail
        go_meet
        case rel => exact ⟨rfl, rfl⟩
      | false =>
        have h2 : Lib.hasPrefix s.data.toList [97, 105, 103, 32] = true := HIS2.out.resolve_left (by rw [h1]; simp)
        go_wp2_with fail
        refine (HK.out.pre _ _ _).mono ?_
        rintro e w' ⟨rfl, rfl⟩
        rw [show (⟨#[97, 97, 103, 32]⟩ : ByteArray).data.toList = [97, 97, 103, 32] from rfl, h1]
        go_wp2_with fail
        refine (HK.out.pre _ _ _).mono ?_
        rintro e w' ⟨rfl, rfl⟩
        rw [show (⟨#[97, 105, 103, 32]⟩ : ByteArray).data.toList = [97, 105, 103, 32] from rfl, h2]
        go_wp2_with fail
        go_meet
        case rel => exact ⟨rfl, rfl⟩
    case rest =>
    obtain ⟨rfl, rfl⟩ := hcut
    go_upto_block 0 with fail
    go_cut [] from 7 to 45 (fun wx => ∃ L p, HBlk s w wx p L ∧ headL s 9 4 [] = (L, p, 0) ∧ ∀ j, nth L j ≤ 16777216)
    case first =>
      go_wp2_with fail
      go_loopw [25] (fun v25 wr => ∃ p l, v25 = .int .i64 l.length ∧ l.length ≤ 8 ∧ p ≤ s.size ∧ (∀ j, nth l j ≤ 16777216) ∧ headL s (9 - l.length) p l = headL s 9 4 [] ∧ HBlk s w wr p l) (fun v25 _ => 9 - (intOf v25).toNat)
      case atStart => exact ⟨4, [], rfl, by simp, HI.out.1, fun j => by rw [nth_ge (by simp)]; omega, rfl, HN0.out⟩
      case round =>
        obtain ⟨p, l, rfl, hl, hp, hb, hrun, hR⟩ := hrel
        have HR := Lib.hid hR
        have HRUN := Lib.hid hrun
        have HBD := Lib.hid hb
        clear hR hrun hb
        obtain ⟨k, hk⟩ : ∃ k, l.length = k := ⟨_, rfl⟩
        have HL := Lib.hid hk
        rw [hk]
        have hk8 : k ≤ 8 := by omega
        clear hk hl
        have d9 : decide ((k : Int) < 9) = true := by simp; omega
        by_cases hk : k < 4
        · have d7 : decide ((7 : Int) ≤ (k : Int)) = false := by simp; omega
          have e8 : ((k : Int) == 8) = false := by rw [beq_eq_false_iff_ne]; omega
          have d4 : decide ((4 : Int) ≤ (k : Int)) = false := by simp; omega
          have HS := Lib.hid (fun (q b : Nat) (u : World) (hq : q ≤ s.size) (hB : Blk u b #[.string s, .int .i64 q] 77) => sign_k HK.out s q b k u ⟨#[32]⟩ hs hq (.inl ⟨hk, rfl⟩) hB)
          have HTop := Lib.hid (show (if 7 ≤ k then 0 else 16777216) = 16777216 by rw [if_neg (by omega)])
          have HNm := Lib.hid (fun (b : Nat) (u : World) (hB : Blk u b #[.string s, .int .i64 p] 77) => ascii_number (fun s' p' u' hs' hp' => HK.out.nat s' p' u' hs' hp') s p 16777216 b u (by omega) hp hB)
          obtain ⟨n, hn⟩ : ∃ n, (natN s p).1 = n := ⟨_, rfl⟩
          obtain ⟨q, hq⟩ : ∃ q, (natN s p).2.1 = q := ⟨_, rfl⟩
          obtain ⟨E, hE⟩ : ∃ E, numE s p 16777216 = E := ⟨_, rfl⟩
          simp only [hn, hq, hE] at HNm
          have HN := Lib.hid (And.intro hn (And.intro hq hE))
          have HKK := Lib.hid hk
          clear hk hn hq hE
          go_wp2_with fail
          refine (HNm.out _ _ HR.out.b3).mono ?_
          rintro o w1 hNum
          unfold NumP at hNum
          rcases hNum with ⟨rfl, rfl, hK1, hB1⟩ | ⟨he, rfl, hK1, hB1⟩
          · have HZ1 := Lib.hid (HR.out.reader hK1 hB1)
            clear hK1 hB1 HNm
            obtain ⟨hpq, hqs, hnt⟩ := numE_ok hp HN.out.1 HN.out.2.1 HN.out.2.2
            have HSt := Lib.hid (stepH_sign (k := k) HTop.out HN.out.1 HN.out.2.1 HN.out.2.2)
            obtain ⟨c4, f4⟩ := HZ1.out.at_ (k := k) (by omega)
            have HZ2 := Lib.hid (HZ1.out.store' n HL.out hk8)
            go_wp2_with fail
            clear c4 f4
            refine (HS.out q _ _ hqs HZ2.out.b3).mono ?_
            rintro o w2 hSg
            unfold SignP at hSg
            rcases hSg with ⟨hlt, hok, rfl, hK2, hB2⟩ | ⟨hqe, rfl, hK2, hB2⟩ | ⟨hlt, hok, rfl, hK2, hB2⟩
            · have HZ3 := Lib.hid (HZ2.out.reader hK2 hB2)
              have HOK := Lib.hid hok
              clear hK2 hB2 hok HS
              rw [if_neg (by omega)] at HSt
              by_cases h10 : bt s q = 10
              · have e10 : ((bt s q : Int) == 10) = true := by rw [beq_iff_eq]; omega
                exact absurd HOK.out (by have := HKK.out; unfold okS; simp; omega)
              · have e10 : ((bt s q : Int) == 10) = false := by rw [beq_eq_false_iff_ne]; omega
                have HSt3 := Lib.hid (HSt.out.trans (okS_more h10 HOK.out))
                clear h10
                go_wp2_with fail
                go_round
                case rel =>
                  refine ⟨q + 1, l ++ [n], by rw [List.length_append, HL.out]; rfl, by rw [List.length_append, HL.out]; have := HKK.out; simp; omega, by omega, nth_bound HBD.out n hnt (by decide), (headL_more_ HL.out hk8 HSt3.out).trans HRUN.out, HZ3.out⟩
                case measure => simp [intOf]; omega
            · have HZ := Lib.hid (HZ2.out.reader hK2 hB2)
              rw [if_pos hqe] at HSt
              clear hK2 hB2 hqe
              go_wp2_with fail
              refine leaves_cons (f := 30) (args := #[.pointer (some ⟨w.heap.size + 1, 0, none⟩), .pointer (some ⟨w.heap.size + 1 + 1, 0, none⟩)]) (by simp) (by simp [go_sem]) ?_
              refine (stopped_panicking (w.heap.size + 1) (w.heap.size + 1 + 1) _ _ _ _ [] _ (by omega) HZ.out.b1 HZ.out.b2).mono ?_
              rintro e u' w'' ⟨rfl, rfl, hA, hE, hK⟩
              exact head_stop (headT_bad HI.out (HRUN.out.symm.trans (headL_stop_ HL.out hk8 HSt.out (by decide))) (by decide)) (by rfl) (by rfl) (by rfl) HZ.out.b0 HZ.out.kp hA hE hK _
            · have HZ := Lib.hid (HZ2.out.reader hK2 hB2)
              have HSt2 := Lib.hid (HSt.out.trans (okS_no hlt hok))
              clear hK2 hB2 hok
              go_wp2_with fail
              refine leaves_cons (f := 30) (args := #[.pointer (some ⟨w.heap.size + 1, 0, none⟩), .pointer (some ⟨w.heap.size + 1 + 1, 0, none⟩)]) (by simp) (by simp [go_sem]) ?_
              refine (stopped_panicking (w.heap.size + 1) (w.heap.size + 1 + 1) _ _ _ _ [] _ (by omega) HZ.out.b1 HZ.out.b2).mono ?_
              rintro e u' w'' ⟨rfl, rfl, hA, hE, hK⟩
              exact head_stop (headT_bad HI.out (HRUN.out.symm.trans (headL_stop_ HL.out hk8 HSt2.out (by decide))) (by decide)) (by rfl) (by rfl) (by rfl) HZ.out.b0 HZ.out.kp hA hE hK _
          · have HZ := Lib.hid (HR.out.reader hK1 hB1)
            have HE := Lib.hid he
            clear hK1 hB1 he HNm HS
            go_wp2_with fail
            refine leaves_cons (f := 30) (args := #[.pointer (some ⟨w.heap.size + 1, 0, none⟩), .pointer (some ⟨w.heap.size + 1 + 1, 0, none⟩)]) (by simp) (by simp [go_sem]) ?_
            refine (stopped_panicking (w.heap.size + 1) (w.heap.size + 1 + 1) _ _ _ _ [] _ (by omega) HZ.out.b1 HZ.out.b2).mono ?_
            rintro e u' w'' ⟨rfl, rfl, hA, hE, hK⟩
            exact head_stop (headT_bad HI.out (HRUN.out.symm.trans (headL_stop_ HL.out hk8 (stepH_num HTop.out HN.out.2.2 HE.out) HE.out)) HE.out) (by rfl) (by rfl) (by rfl) HZ.out.b0 HZ.out.kp hA hE hK _
        by_cases hk : 4 ≤ k ∧ k < 7
        · have d7 : decide ((7 : Int) ≤ (k : Int)) = false := by simp; omega
          have e8 : ((k : Int) == 8) = false := by rw [beq_eq_false_iff_ne]; omega
          have d4 : decide ((4 : Int) ≤ (k : Int)) = true := by simp; omega
          have HS := Lib.hid (fun (q b : Nat) (u : World) (hq : q ≤ s.size) (hB : Blk u b #[.string s, .int .i64 q] 77) => sign_k HK.out s q b k u ⟨#[32, 10]⟩ hs hq (.inr (.inl ⟨hk.1, by omega, rfl⟩)) hB)
          have HTop := Lib.hid (show (if 7 ≤ k then 0 else 16777216) = 16777216 by rw [if_neg (by omega)])
          have HNm := Lib.hid (fun (b : Nat) (u : World) (hB : Blk u b #[.string s, .int .i64 p] 77) => ascii_number (fun s' p' u' hs' hp' => HK.out.nat s' p' u' hs' hp') s p 16777216 b u (by omega) hp hB)
          obtain ⟨n, hn⟩ : ∃ n, (natN s p).1 = n := ⟨_, rfl⟩
          obtain ⟨q, hq⟩ : ∃ q, (natN s p).2.1 = q := ⟨_, rfl⟩
          obtain ⟨E, hE⟩ : ∃ E, numE s p 16777216 = E := ⟨_, rfl⟩
          simp only [hn, hq, hE] at HNm
          have HN := Lib.hid (And.intro hn (And.intro hq hE))
          have HKK := Lib.hid hk
          clear hk hn hq hE
          go_wp2_with fail
          refine (HNm.out _ _ HR.out.b3).mono ?_
          rintro o w1 hNum
          unfold NumP at hNum
          rcases hNum with ⟨rfl, rfl, hK1, hB1⟩ | ⟨he, rfl, hK1, hB1⟩
          · have HZ1 := Lib.hid (HR.out.reader hK1 hB1)
            clear hK1 hB1 HNm
            obtain ⟨hpq, hqs, hnt⟩ := numE_ok hp HN.out.1 HN.out.2.1 HN.out.2.2
            have HSt := Lib.hid (stepH_sign (k := k) HTop.out HN.out.1 HN.out.2.1 HN.out.2.2)
            obtain ⟨c4, f4⟩ := HZ1.out.at_ (k := k) (by omega)
            have HZ2 := Lib.hid (HZ1.out.store' n HL.out hk8)
            go_wp2_with fail
            clear c4 f4
            refine (HS.out q _ _ hqs HZ2.out.b3).mono ?_
            rintro o w2 hSg
            unfold SignP at hSg
            rcases hSg with ⟨hlt, hok, rfl, hK2, hB2⟩ | ⟨hqe, rfl, hK2, hB2⟩ | ⟨hlt, hok, rfl, hK2, hB2⟩
            · have HZ3 := Lib.hid (HZ2.out.reader hK2 hB2)
              have HOK := Lib.hid hok
              clear hK2 hB2 hok HS
              rw [if_neg (by omega)] at HSt
              by_cases h10 : bt s q = 10
              · have e10 : ((bt s q : Int) == 10) = true := by rw [beq_iff_eq]; omega
                have HF := Lib.hid (HSt.out.trans (okS_fin h10 HOK.out))
                have HHL := Lib.hid (HRUN.out.symm.trans (headL_fin_ HL.out hk8 HF.out))
                clear h10
                go_wp2_with fail
                go_meet
                case rel => exact ⟨l ++ [n], q + 1, HZ3.out, HHL.out, nth_bound HBD.out n hnt (by decide)⟩
              · have e10 : ((bt s q : Int) == 10) = false := by rw [beq_eq_false_iff_ne]; omega
                have HSt3 := Lib.hid (HSt.out.trans (okS_more h10 HOK.out))
                clear h10
                go_wp2_with fail
                go_round
                case rel =>
                  refine ⟨q + 1, l ++ [n], by rw [List.length_append, HL.out]; rfl, by rw [List.length_append, HL.out]; have := HKK.out; simp; omega, by omega, nth_bound HBD.out n hnt (by decide), (headL_more_ HL.out hk8 HSt3.out).trans HRUN.out, HZ3.out⟩
                case measure => simp [intOf]; omega
            · have HZ := Lib.hid (HZ2.out.reader hK2 hB2)
              rw [if_pos hqe] at HSt
              clear hK2 hB2 hqe
              go_wp2_with fail
              refine leaves_cons (f := 30) (args := #[.pointer (some ⟨w.heap.size + 1, 0, none⟩), .pointer (some ⟨w.heap.size + 1 + 1, 0, none⟩)]) (by simp) (by simp [go_sem]) ?_
              refine (stopped_panicking (w.heap.size + 1) (w.heap.size + 1 + 1) _ _ _ _ [] _ (by omega) HZ.out.b1 HZ.out.b2).mono ?_
              rintro e u' w'' ⟨rfl, rfl, hA, hE, hK⟩
              exact head_stop (headT_bad HI.out (HRUN.out.symm.trans (headL_stop_ HL.out hk8 HSt.out (by decide))) (by decide)) (by rfl) (by rfl) (by rfl) HZ.out.b0 HZ.out.kp hA hE hK _
            · have HZ := Lib.hid (HZ2.out.reader hK2 hB2)
              have HSt2 := Lib.hid (HSt.out.trans (okS_no hlt hok))
              clear hK2 hB2 hok
              go_wp2_with fail
              refine leaves_cons (f := 30) (args := #[.pointer (some ⟨w.heap.size + 1, 0, none⟩), .pointer (some ⟨w.heap.size + 1 + 1, 0, none⟩)]) (by simp) (by simp [go_sem]) ?_
              refine (stopped_panicking (w.heap.size + 1) (w.heap.size + 1 + 1) _ _ _ _ [] _ (by omega) HZ.out.b1 HZ.out.b2).mono ?_
              rintro e u' w'' ⟨rfl, rfl, hA, hE, hK⟩
              exact head_stop (headT_bad HI.out (HRUN.out.symm.trans (headL_stop_ HL.out hk8 HSt2.out (by decide))) (by decide)) (by rfl) (by rfl) (by rfl) HZ.out.b0 HZ.out.kp hA hE hK _
          · have HZ := Lib.hid (HR.out.reader hK1 hB1)
            have HE := Lib.hid he
            clear hK1 hB1 he HNm HS
            go_wp2_with fail
            refine leaves_cons (f := 30) (args := #[.pointer (some ⟨w.heap.size + 1, 0, none⟩), .pointer (some ⟨w.heap.size + 1 + 1, 0, none⟩)]) (by simp) (by simp [go_sem]) ?_
            refine (stopped_panicking (w.heap.size + 1) (w.heap.size + 1 + 1) _ _ _ _ [] _ (by omega) HZ.out.b1 HZ.out.b2).mono ?_
            rintro e u' w'' ⟨rfl, rfl, hA, hE, hK⟩
            exact head_stop (headT_bad HI.out (HRUN.out.symm.trans (headL_stop_ HL.out hk8 (stepH_num HTop.out HN.out.2.2 HE.out) HE.out)) HE.out) (by rfl) (by rfl) (by rfl) HZ.out.b0 HZ.out.kp hA hE hK _
        by_cases hk : k = 7
        · have d7 : decide ((7 : Int) ≤ (k : Int)) = true := by simp; omega
          have e8 : ((k : Int) == 8) = false := by rw [beq_eq_false_iff_ne]; omega
          have d4 : decide ((4 : Int) ≤ (k : Int)) = true := by simp; omega
          have HS := Lib.hid (fun (q b : Nat) (u : World) (hq : q ≤ s.size) (hB : Blk u b #[.string s, .int .i64 q] 77) => sign_k HK.out s q b k u ⟨#[32, 10]⟩ hs hq (.inr (.inl ⟨by omega, by omega, rfl⟩)) hB)
          have HTop := Lib.hid (show (if 7 ≤ k then 0 else 16777216) = 0 by rw [if_pos (by omega)])
          have HNm := Lib.hid (fun (b : Nat) (u : World) (hB : Blk u b #[.string s, .int .i64 p] 77) => ascii_number (fun s' p' u' hs' hp' => HK.out.nat s' p' u' hs' hp') s p 0 b u (by omega) hp hB)
          obtain ⟨n, hn⟩ : ∃ n, (natN s p).1 = n := ⟨_, rfl⟩
          obtain ⟨q, hq⟩ : ∃ q, (natN s p).2.1 = q := ⟨_, rfl⟩
          obtain ⟨E, hE⟩ : ∃ E, numE s p 0 = E := ⟨_, rfl⟩
          simp only [hn, hq, hE] at HNm
          have HN := Lib.hid (And.intro hn (And.intro hq hE))
          have HKK := Lib.hid hk
          clear hk hn hq hE
          go_wp2_with fail
          refine (HNm.out _ _ HR.out.b3).mono ?_
          rintro o w1 hNum
          unfold NumP at hNum
          rcases hNum with ⟨rfl, rfl, hK1, hB1⟩ | ⟨he, rfl, hK1, hB1⟩
          · have HZ1 := Lib.hid (HR.out.reader hK1 hB1)
            clear hK1 hB1 HNm
            obtain ⟨hpq, hqs, hnt⟩ := numE_ok hp HN.out.1 HN.out.2.1 HN.out.2.2
            have HSt := Lib.hid (stepH_sign (k := k) HTop.out HN.out.1 HN.out.2.1 HN.out.2.2)
            obtain ⟨c4, f4⟩ := HZ1.out.at_ (k := k) (by omega)
            have HZ2 := Lib.hid (HZ1.out.store' n HL.out hk8)
            go_wp2_with fail
            clear c4 f4
            refine (HS.out q _ _ hqs HZ2.out.b3).mono ?_
            rintro o w2 hSg
            unfold SignP at hSg
            rcases hSg with ⟨hlt, hok, rfl, hK2, hB2⟩ | ⟨hqe, rfl, hK2, hB2⟩ | ⟨hlt, hok, rfl, hK2, hB2⟩
            · have HZ3 := Lib.hid (HZ2.out.reader hK2 hB2)
              have HOK := Lib.hid hok
              clear hK2 hB2 hok HS
              rw [if_neg (by omega)] at HSt
              by_cases h10 : bt s q = 10
              · have e10 : ((bt s q : Int) == 10) = true := by rw [beq_iff_eq]; omega
                have HF := Lib.hid (HSt.out.trans (okS_fin h10 HOK.out))
                have HHL := Lib.hid (HRUN.out.symm.trans (headL_fin_ HL.out hk8 HF.out))
                clear h10
                go_wp2_with fail
                go_meet
                case rel => exact ⟨l ++ [n], q + 1, HZ3.out, HHL.out, nth_bound HBD.out n hnt (by decide)⟩
              · have e10 : ((bt s q : Int) == 10) = false := by rw [beq_eq_false_iff_ne]; omega
                have HSt3 := Lib.hid (HSt.out.trans (okS_more h10 HOK.out))
                clear h10
                go_wp2_with fail
                go_round
                case rel =>
                  refine ⟨q + 1, l ++ [n], by rw [List.length_append, HL.out]; rfl, by rw [List.length_append, HL.out]; have := HKK.out; simp; omega, by omega, nth_bound HBD.out n hnt (by decide), (headL_more_ HL.out hk8 HSt3.out).trans HRUN.out, HZ3.out⟩
                case measure => simp [intOf]; omega
            · have HZ := Lib.hid (HZ2.out.reader hK2 hB2)
              rw [if_pos hqe] at HSt
              clear hK2 hB2 hqe
              go_wp2_with fail
              refine leaves_cons (f := 30) (args := #[.pointer (some ⟨w.heap.size + 1, 0, none⟩), .pointer (some ⟨w.heap.size + 1 + 1, 0, none⟩)]) (by simp) (by simp [go_sem]) ?_
              refine (stopped_panicking (w.heap.size + 1) (w.heap.size + 1 + 1) _ _ _ _ [] _ (by omega) HZ.out.b1 HZ.out.b2).mono ?_
              rintro e u' w'' ⟨rfl, rfl, hA, hE, hK⟩
              exact head_stop (headT_bad HI.out (HRUN.out.symm.trans (headL_stop_ HL.out hk8 HSt.out (by decide))) (by decide)) (by rfl) (by rfl) (by rfl) HZ.out.b0 HZ.out.kp hA hE hK _
            · have HZ := Lib.hid (HZ2.out.reader hK2 hB2)
              have HSt2 := Lib.hid (HSt.out.trans (okS_no hlt hok))
              clear hK2 hB2 hok
              go_wp2_with fail
              refine leaves_cons (f := 30) (args := #[.pointer (some ⟨w.heap.size + 1, 0, none⟩), .pointer (some ⟨w.heap.size + 1 + 1, 0, none⟩)]) (by simp) (by simp [go_sem]) ?_
              refine (stopped_panicking (w.heap.size + 1) (w.heap.size + 1 + 1) _ _ _ _ [] _ (by omega) HZ.out.b1 HZ.out.b2).mono ?_
              rintro e u' w'' ⟨rfl, rfl, hA, hE, hK⟩
              exact head_stop (headT_bad HI.out (HRUN.out.symm.trans (headL_stop_ HL.out hk8 HSt2.out (by decide))) (by decide)) (by rfl) (by rfl) (by rfl) HZ.out.b0 HZ.out.kp hA hE hK _
          · have HZ := Lib.hid (HR.out.reader hK1 hB1)
            have HE := Lib.hid he
            clear hK1 hB1 he HNm HS
            go_wp2_with fail
            refine leaves_cons (f := 30) (args := #[.pointer (some ⟨w.heap.size + 1, 0, none⟩), .pointer (some ⟨w.heap.size + 1 + 1, 0, none⟩)]) (by simp) (by simp [go_sem]) ?_
            refine (stopped_panicking (w.heap.size + 1) (w.heap.size + 1 + 1) _ _ _ _ [] _ (by omega) HZ.out.b1 HZ.out.b2).mono ?_
            rintro e u' w'' ⟨rfl, rfl, hA, hE, hK⟩
            exact head_stop (headT_bad HI.out (HRUN.out.symm.trans (headL_stop_ HL.out hk8 (stepH_num HTop.out HN.out.2.2 HE.out) HE.out)) HE.out) (by rfl) (by rfl) (by rfl) HZ.out.b0 HZ.out.kp hA hE hK _
        by_cases hk : k = 8
        · have d7 : decide ((7 : Int) ≤ (k : Int)) = true := by simp; omega
          have e8 : ((k : Int) == 8) = true := by rw [beq_iff_eq]; omega
          have HS := Lib.hid (fun (q b : Nat) (u : World) (hq : q ≤ s.size) (hB : Blk u b #[.string s, .int .i64 q] 77) => sign_k HK.out s q b k u ⟨#[10]⟩ hs hq (.inr (.inr ⟨hk, rfl⟩)) hB)
          have HTop := Lib.hid (show (if 7 ≤ k then 0 else 16777216) = 0 by rw [if_pos (by omega)])
          have HNm := Lib.hid (fun (b : Nat) (u : World) (hB : Blk u b #[.string s, .int .i64 p] 77) => ascii_number (fun s' p' u' hs' hp' => HK.out.nat s' p' u' hs' hp') s p 0 b u (by omega) hp hB)
          obtain ⟨n, hn⟩ : ∃ n, (natN s p).1 = n := ⟨_, rfl⟩
          obtain ⟨q, hq⟩ : ∃ q, (natN s p).2.1 = q := ⟨_, rfl⟩
          obtain ⟨E, hE⟩ : ∃ E, numE s p 0 = E := ⟨_, rfl⟩
          simp only [hn, hq, hE] at HNm
          have HN := Lib.hid (And.intro hn (And.intro hq hE))
          have HKK := Lib.hid hk
          clear hk hn hq hE
          go_wp2_with fail
          refine (HNm.out _ _ HR.out.b3).mono ?_
          rintro o w1 hNum
          unfold NumP at hNum
          rcases hNum with ⟨rfl, rfl, hK1, hB1⟩ | ⟨he, rfl, hK1, hB1⟩
          · have HZ1 := Lib.hid (HR.out.reader hK1 hB1)
            clear hK1 hB1 HNm
            obtain ⟨hpq, hqs, hnt⟩ := numE_ok hp HN.out.1 HN.out.2.1 HN.out.2.2
            have HSt := Lib.hid (stepH_sign (k := k) HTop.out HN.out.1 HN.out.2.1 HN.out.2.2)
            obtain ⟨c4, f4⟩ := HZ1.out.at_ (k := k) (by omega)
            have HZ2 := Lib.hid (HZ1.out.store' n HL.out hk8)
            go_wp2_with fail
            clear c4 f4
            refine (HS.out q _ _ hqs HZ2.out.b3).mono ?_
            rintro o w2 hSg
            unfold SignP at hSg
            rcases hSg with ⟨hlt, hok, rfl, hK2, hB2⟩ | ⟨hqe, rfl, hK2, hB2⟩ | ⟨hlt, hok, rfl, hK2, hB2⟩
            · have HZ3 := Lib.hid (HZ2.out.reader hK2 hB2)
              have HOK := Lib.hid hok
              clear hK2 hB2 hok HS
              rw [if_neg (by omega)] at HSt
              by_cases h10 : bt s q = 10
              · have e10 : ((bt s q : Int) == 10) = true := by rw [beq_iff_eq]; omega
                have HF := Lib.hid (HSt.out.trans (okS_fin h10 HOK.out))
                have HHL := Lib.hid (HRUN.out.symm.trans (headL_fin_ HL.out hk8 HF.out))
                clear h10
                go_wp2_with fail
                go_meet
                case rel => exact ⟨l ++ [n], q + 1, HZ3.out, HHL.out, nth_bound HBD.out n hnt (by decide)⟩
              · have e10 : ((bt s q : Int) == 10) = false := by rw [beq_eq_false_iff_ne]; omega
                exact absurd HOK.out (by have := HKK.out; unfold okS; simp; omega)
            · have HZ := Lib.hid (HZ2.out.reader hK2 hB2)
              rw [if_pos hqe] at HSt
              clear hK2 hB2 hqe
              go_wp2_with fail
              refine leaves_cons (f := 30) (args := #[.pointer (some ⟨w.heap.size + 1, 0, none⟩), .pointer (some ⟨w.heap.size + 1 + 1, 0, none⟩)]) (by simp) (by simp [go_sem]) ?_
              refine (stopped_panicking (w.heap.size + 1) (w.heap.size + 1 + 1) _ _ _ _ [] _ (by omega) HZ.out.b1 HZ.out.b2).mono ?_
              rintro e u' w'' ⟨rfl, rfl, hA, hE, hK⟩
              exact head_stop (headT_bad HI.out (HRUN.out.symm.trans (headL_stop_ HL.out hk8 HSt.out (by decide))) (by decide)) (by rfl) (by rfl) (by rfl) HZ.out.b0 HZ.out.kp hA hE hK _
            · have HZ := Lib.hid (HZ2.out.reader hK2 hB2)
              have HSt2 := Lib.hid (HSt.out.trans (okS_no hlt hok))
              clear hK2 hB2 hok
              go_wp2_with fail
              refine leaves_cons (f := 30) (args := #[.pointer (some ⟨w.heap.size + 1, 0, none⟩), .pointer (some ⟨w.heap.size + 1 + 1, 0, none⟩)]) (by simp) (by simp [go_sem]) ?_
              refine (stopped_panicking (w.heap.size + 1) (w.heap.size + 1 + 1) _ _ _ _ [] _ (by omega) HZ.out.b1 HZ.out.b2).mono ?_
              rintro e u' w'' ⟨rfl, rfl, hA, hE, hK⟩
              exact head_stop (headT_bad HI.out (HRUN.out.symm.trans (headL_stop_ HL.out hk8 HSt2.out (by decide))) (by decide)) (by rfl) (by rfl) (by rfl) HZ.out.b0 HZ.out.kp hA hE hK _
          · have HZ := Lib.hid (HR.out.reader hK1 hB1)
            have HE := Lib.hid he
            clear hK1 hB1 he HNm HS
            go_wp2_with fail
            refine leaves_cons (f := 30) (args := #[.pointer (some ⟨w.heap.size + 1, 0, none⟩), .pointer (some ⟨w.heap.size + 1 + 1, 0, none⟩)]) (by simp) (by simp [go_sem]) ?_
            refine (stopped_panicking (w.heap.size + 1) (w.heap.size + 1 + 1) _ _ _ _ [] _ (by omega) HZ.out.b1 HZ.out.b2).mono ?_
            rintro e u' w'' ⟨rfl, rfl, hA, hE, hK⟩
            exact head_stop (headT_bad HI.out (HRUN.out.symm.trans (headL_stop_ HL.out hk8 (stepH_num HTop.out HN.out.2.2 HE.out) HE.out)) HE.out) (by rfl) (by rfl) (by rfl) HZ.out.b0 HZ.out.kp hA hE hK _
        omega
    case rest =>
      obtain ⟨L, q, hZ, hHL, hBL⟩ := hcut
      have HZ3 := Lib.hid hZ
      have HHL := Lib.hid hHL
      have HBL := Lib.hid hBL
      clear hZ hHL hBL
      obtain ⟨q0, q1, q2, q3, q4, fz, fa, fe, ca, ce, cr⟩ := HZ3.out.outs
      have fz0 := fz 0
      have fz1 := fz 1
      have fz2 := fz 2
      have fz3 := fz 3
      have fz4 := fz 4
      have fz5 := fz 5
      have fz6 := fz 6
      have fz7 := fz 7
      clear fz
      obtain ⟨z0, z1, z2, z3, z4, z5, z6, z7⟩ := HZ3.out.b0.cells8
      have k0 := HBL.out 0
      have k1 := HBL.out 1
      have k2 := HBL.out 2
      have k4 := HBL.out 4
      have h4 := HI.out.1
      have l1 : (1 : Int) < (s.size : Int) := by omega
      have hb1 := bt_eq (s := s) (i := 1) (by omega)
      obtain ⟨bb, hbb⟩ : ∃ bb, ((bt s 1 : Int) == 105) = bb := ⟨_, rfl⟩
      have HBB := Lib.hid (show decide (bt s 1 = 105) = bb by rw [← hbb]; exact (int_beq (bt s 1) 105).symm)
      have haig : ∀ h, ((⟨#[97, 105, 103, 32]⟩ : ByteArray)[1]'h).toNat = 105 := fun _ => rfl
      have HQ : Hid (w.heap.size + 1 + 1 + 1 + 1 < wc.heap.size) := Lib.hid q4
      obtain ⟨wa, rfl⟩ : ∃ wa : World, wa = wc := ⟨_, rfl⟩
      go_upto_region 18 with fail
      go_cut [10] from 46 to 64 (fun s10 wx => ∃ nb, s10 = .pointer (some ⟨nb, 0, none⟩) ∧ HBlk s w wx q L ∧ w.heap.size + 1 + 1 + 1 + 1 < nb ∧ Blk wx nb (headC bb L) 42)
      case first =>
        clear q0 q1 q2 q3 q4 fa fe ca ce cr fz0 fz1 fz2 fz3 fz4 fz5 fz6 fz7 z0 z1 z2 z3 z4 z5 z6 z7 k0 k1 k2 k4 hmf
        go_region_held3 (fun u => u.cell? ⟨w.heap.size + 1 + 1 + 1 + 1, 0, none⟩ = some (.int .i64 (nth L 0)) ∧ u.cell? ⟨w.heap.size + 1 + 1 + 1 + 1, 1, none⟩ = some (.int .i64 (nth L 1)) ∧ u.cell? ⟨w.heap.size + 1 + 1 + 1 + 1, 2, none⟩ = some (.int .i64 (nth L 2)) ∧ u.cell? ⟨w.heap.size + 1 + 1 + 1 + 1, 3, none⟩ = some (.int .i64 (nth L 3)) ∧ u.cell? ⟨w.heap.size + 1 + 1 + 1 + 1, 4, none⟩ = some (.int .i64 (nth L 4)) ∧ u.cell? ⟨w.heap.size + 1 + 1 + 1 + 1, 5, none⟩ = some (.int .i64 (nth L 5)) ∧ u.cell? ⟨w.heap.size + 1 + 1 + 1 + 1, 6, none⟩ = some (.int .i64 (nth L 6))) (first | exact HZ3.out.cells | exact HZ3.out.drew.cells | exact (HZ3.out.alloc _).cells | exact (HZ3.out.drew.alloc _).cells | exact (HZ3.out.alloc _).drew.cells) (fail)
        all_goals go_wp2_with fail
        all_goals go_meet
        all_goals exact ⟨_, rfl, (HZ3.out.alloc _).drew, HQ.out, (Blk.new wa _ _).drew⟩
      case rest =>
        obtain ⟨nb, rfl, hZ4, hnb, hB⟩ := hcut
        clear q0 q1 q2 q3 q4 fa fe ca ce cr fz0 fz1 fz2 fz3 fz4 fz5 fz6 fz7 z0 z1 z2 z3 z4 z5 z6 z7 haig l1 hb1
        have HZ4 := Lib.hid hZ4
        have HB4 := Lib.hid hB
        have HNB := Lib.hid hnb
        obtain ⟨q0, q1, q2, q3, q4, fz, fa, fe, ca, ce, cr⟩ := hZ4.outs
        have fz0 := fz 0
        have fz1 := fz 1
        have fz2 := fz 2
        have fz3 := fz 3
        have fz4 := fz 4
        have fz5 := fz 5
        have fz6 := fz 6
        have fz7 := fz 7
        clear fz
        obtain ⟨z0, z1, z2, z3, z4, z5, z6, z7⟩ := hZ4.b0.cells8
        obtain ⟨y0, y1, y2, y3, y4, y5, y6, y7⟩ := hB.cells8
        clear hZ4 hB hnb
        have j0 := HNB.out
        have j1 : nb < wc.heap.size := HB4.out.lt
        by_cases C1 : nth L 0 < nth L 1 + nth L 2 + nth L 4
        · have t1 : decide ((nth L 0 : Int) < (nth L 1 : Int) + (nth L 2 : Int) + (nth L 4 : Int)) = true := by simp; omega
          have HT := Lib.hid (headT_sum HI.out HHL.out HBB.out (.inl C1))
          clear C1
          go_wp2_with fail
          refine leaves_cons (f := 30) (args := #[.pointer (some ⟨w.heap.size + 1, 0, none⟩), .pointer (some ⟨w.heap.size + 1 + 1, 0, none⟩)]) (by simp) (by simp [go_sem]) ?_
          refine (stopped_idle _ _ _).mono ?_
          rintro e u' w'' ⟨rfl, rfl, rfl⟩
          have hF := HZ4.out.fin (.bool false) (.int .i64 0) (.int .i64 0) (.int .i64 0) (.int .i64 0) (.int .i64 0) (.int .i64 0) (.int .i64 0) (.int .i64 4) (.int .i64 5)
          exact head_end HT.out rfl rfl rfl hF.1 hF.2.1 hF.2.2.1 hF.2.2.2
        · have t1 : decide ((nth L 0 : Int) < (nth L 1 : Int) + (nth L 2 : Int) + (nth L 4 : Int)) = false := by simp; omega
          cases bb with
          | false =>
            have HT := Lib.hid (headT_ok HI.out HHL.out HBB.out (fun h => by rcases h with h | ⟨h, _⟩; exact C1 h; cases h))
            clear C1
            go_wp2_with fail
            go_region
            all_goals go_wp2_with fail
            all_goals refine leaves_cons (f := 30) (args := #[.pointer (some ⟨w.heap.size + 1, 0, none⟩), .pointer (some ⟨w.heap.size + 1 + 1, 0, none⟩)]) (by simp) (by simp [go_sem]) ?_
            all_goals refine (stopped_idle _ _ _).mono ?_
            all_goals rintro e u' w'' ⟨rfl, rfl, rfl⟩
            have hF := HZ4.out.fin (.bool false) (.int .i64 (nth L 0)) (.int .i64 (nth L 1)) (.int .i64 (nth L 2)) (.int .i64 (nth L 3)) (.int .i64 (nth L 4)) (.int .i64 (nth L 5)) (.int .i64 (nth L 6)) (.int .i64 q) (.int .i64 0)
            all_goals exact head_end HT.out rfl rfl rfl hF.1.drew hF.2.1.drew hF.2.2.1.drew hF.2.2.2.drew
          | true =>
            by_cases C2 : nth L 1 + nth L 2 + nth L 4 < nth L 0
            · have t2 : decide ((nth L 1 : Int) + (nth L 2 : Int) + (nth L 4 : Int) < (nth L 0 : Int)) = true := by simp; omega
              have HT := Lib.hid (headT_sum HI.out HHL.out HBB.out (.inr ⟨rfl, C2⟩))
              clear C1 C2
              go_wp2_with fail
              refine leaves_cons (f := 30) (args := #[.pointer (some ⟨w.heap.size + 1, 0, none⟩), .pointer (some ⟨w.heap.size + 1 + 1, 0, none⟩)]) (by simp) (by simp [go_sem]) ?_
              refine (stopped_idle _ _ _).mono ?_
              rintro e u' w'' ⟨rfl, rfl, rfl⟩
              have hF := HZ4.out.fin (.bool false) (.int .i64 0) (.int .i64 0) (.int .i64 0) (.int .i64 0) (.int .i64 0) (.int .i64 0) (.int .i64 0) (.int .i64 4) (.int .i64 5)
              exact head_end HT.out rfl rfl rfl hF.1 hF.2.1 hF.2.2.1 hF.2.2.2
            · have t2 : decide ((nth L 1 : Int) + (nth L 2 : Int) + (nth L 4 : Int) < (nth L 0 : Int)) = false := by simp; omega
              have HT := Lib.hid (headT_ok HI.out HHL.out HBB.out (fun h => by rcases h with h | ⟨_, h⟩; exact C1 h; exact C2 h))
              clear C1 C2
              go_wp2_with fail
              go_region
              all_goals go_wp2_with fail
              all_goals refine leaves_cons (f := 30) (args := #[.pointer (some ⟨w.heap.size + 1, 0, none⟩), .pointer (some ⟨w.heap.size + 1 + 1, 0, none⟩)]) (by simp) (by simp [go_sem]) ?_
              all_goals refine (stopped_idle _ _ _).mono ?_
              all_goals rintro e u' w'' ⟨rfl, rfl, rfl⟩
              have hF := HZ4.out.fin (.bool true) (.int .i64 (nth L 0)) (.int .i64 (nth L 1)) (.int .i64 (nth L 2)) (.int .i64 (nth L 3)) (.int .i64 (nth L 4)) (.int .i64 (nth L 5)) (.int .i64 (nth L 6)) (.int .i64 q) (.int .i64 0)
              all_goals exact head_end HT.out rfl rfl rfl hF.1.drew hF.2.1.drew hF.2.2.1.drew hF.2.2.2.drew
  · have HT := Lib.hid (show headT s = (false, [], 0, 2) by unfold headT; rw [if_pos hI])
    have h1 : Lib.hasPrefix s.data.toList [97, 97, 103, 32] = false := by cases h : Lib.hasPrefix s.data.toList [97, 97, 103, 32]; rfl; exact absurd (HIS.out.1 (.inl h)) hI
    have h2 : Lib.hasPrefix s.data.toList [97, 105, 103, 32] = false := by cases h : Lib.hasPrefix s.data.toList [97, 105, 103, 32]; rfl; exact absurd (HIS.out.1 (.inr h)) hI
    clear hI HIS
    go_enter_defers Tryz.func13, Tryz.ntmps13
    go_wp2_with fail
    refine (HK.out.pre _ _ _).mono ?_
    rintro e w' ⟨rfl, rfl⟩
    rw [show (⟨#[97, 97, 103, 32]⟩ : ByteArray).data.toList = [97, 97, 103, 32] from rfl, h1]
    go_wp2_with fail
    refine (HK.out.pre _ _ _).mono ?_
    rintro e w' ⟨rfl, rfl⟩
    rw [show (⟨#[97, 105, 103, 32]⟩ : ByteArray).data.toList = [97, 105, 103, 32] from rfl, h2]
    go_wp2_with fail
    have key : ∀ (u : World) (c : Array Value) (t : TypeId) (n : Nat), u.heap.size = n → Blk (u.alloc (.cells c t)) n c t := fun u c t n h => by subst h; exact Blk.new u c t
    exact head_end HT.out rfl rfl rfl (((Blk.new w _ _).alloc _).alloc _) ((key _ _ _ _ (by simp)).alloc _) (key _ _ _ _ (by simp)) ((((Kp.refl _ w).alloc _).alloc _).alloc _)

end Go.Proofs.YtckmdcmkjmpiaaaGreatDoor

/-
  ascii.Read's two closures under any head: a literal with its sign; so many lines of one literal.
-/
namespace Go.Proofs.YtckmdcmkjmpiaaaGreatDoor
open Go.RowKit

theorem rdKA : RdK := ⟨fun s p u hs hp => octet_Nat_in s p u hs hp, fun s c u => Tryz.strings_IndexByte s c u, fun s p u => Tryz.strings_HasPrefix s p u⟩

def hdA (bin : Bool) (M : Int) (nI nL nO nA nB nC : Nat) : Array Value := #[.bool bin, .int .i64 M, .int .i64 (nI : Nat), .int .i64 (nL : Nat), .int .i64 (nO : Nat), .int .i64 (nA : Nat), .int .i64 (nB : Nat), .int .i64 (nC : Nat)]

/-- what the closures of a call of ascii.Read stand on -/
structure LB (hd : Array Value) (s : ByteArray) (bv bh br bl : Nat) (w : World) (p : Nat) : Prop where
  v : Blk w bv #[.pointer (some ⟨br, 0, none⟩)] 75
  h : Blk w bh hd 42
  r : Blk w br #[.string s, .int .i64 p] 77
  l : Blk w bl #[.func (Fn.func 67) #[] #[.pointer (some ⟨bv, 0, none⟩), .pointer (some ⟨bh, 0, none⟩)]] 126
  ne : bv ≠ br ∧ bh ≠ br ∧ bl ≠ br

theorem LB.kp {hd : Array Value} {s : ByteArray} {bv bh br bl p : Nat} {w w' : World} (h : LB hd s bv bh br bl w p) {S : Nat → Prop} (hK : Kp S w w') (h1 : ¬ S bv) (h2 : ¬ S bh) (h3 : ¬ S br) (h4 : ¬ S bl) : LB hd s bv bh br bl w' p :=
  ⟨h.v.kp hK h1, h.h.kp hK h2, h.r.kp hK h3, h.l.kp hK h4, h.ne⟩
theorem LB.read {hd : Array Value} {s : ByteArray} {bv bh br bl p q : Nat} {w w' : World} (h : LB hd s bv bh br bl w p) (hK : Kp (fun j => j = br) w w') (hB : Blk w' br #[.string s, .int .i64 q] 77) : LB hd s bv bh br bl w' q :=
  ⟨h.v.kp hK h.ne.1, h.h.kp hK h.ne.2.1, hB, h.l.kp hK h.ne.2.2, h.ne⟩

theorem idx32 : ∀ c, c < 256 → decide (Lib.indexByte (⟨#[32]⟩ : ByteArray).data.toList c.toUInt8 < 0) = !(ok32 c) := by unfold ok32; decide +kernel

/-- what a literal ends with -/
def LitP (hd : Array Value) (s : ByteArray) (bv bh br bl : Nat) (r : Nat × Nat × Nat × Nat) (w : World) (o : Ending) (w' : World) : Prop :=
  Kp (fun j => j = br) w w' ∧ ((r.2.2.2 = 0 ∧ o = .returned (.tuple #[.int .i64 (r.1 : Nat), .int .u8 (r.2.1 : Nat)]) ∧ LB hd s bv bh br bl w' r.2.2.1) ∨ (r.2.2.2 ≠ 0 ∧ o = .panicked [{ v := stopV (r.2.2.1 : Nat) (r.2.2.2 : Nat), recovered := false }]))

theorem numE_rd {s : ByteArray} {p top n q e : Nat} (h : rdD s (top : Int) (p, 0) = (n, q, e)) : (numE s p top = e ∧ (e ≠ 0 → q = p) ∧ (e = 0 → (natN s p).1 = n ∧ (natN s p).2.1 = q)) := by
  unfold rdD at h
  unfold numE
  simp only at h
  rw [if_neg (by simp)] at h
  by_cases c1 : (natN s p).2.2 ≠ 0
  · rw [if_pos c1] at h ⊢
    simp only [Prod.mk.injEq] at h
    exact ⟨h.2.2, fun _ => h.2.1.symm, fun he => absurd (h.2.2.trans he) c1⟩
  rw [if_neg c1] at h ⊢
  by_cases c2 : (top : Int) < ((natN s p).1 : Int)
  · rw [if_pos c2] at h
    rw [if_pos (by omega)]
    simp only [Prod.mk.injEq] at h
    exact ⟨h.2.2, fun _ => h.2.1.symm, fun he => by omega⟩
  · rw [if_neg c2] at h
    rw [if_neg (by omega)]
    simp only [Prod.mk.injEq] at h
    exact ⟨h.2.2, fun he => absurd h.2.2.symm he, fun _ => ⟨h.1, h.2.1⟩⟩

set_option maxRecDepth 100000 in
set_option maxHeartbeats 2000000 in
theorem asc_lit (s some_ : ByteArray) (ok : Nat → Bool) (p : Nat) (bin : Bool) (M nI nL nO nA nB nC : Nat) (bv bh br bl : Nat) (w : World) (hs : s.size ≤ 1000000) (hp : p ≤ s.size) (hM : M ≤ 16777216) (hidx : ∀ c, c < 256 → decide (Lib.indexByte some_.data.toList c.toUInt8 < 0) = !ok c) (hL : LB (hdA bin M nI nL nO nA nB nC) s bv bh br bl w p) :
    Calls Tryz.prog 67 #[.string some_, .pointer (some ⟨bv, 0, none⟩), .pointer (some ⟨bh, 0, none⟩)] w (LitP (hdA bin M nI nL nO nA nB nC) s bv bh br bl (rdL s (2 * (M : Int) + 1) ok (p, 0)) w) := by
  have HNm := Lib.hid (ascii_number (fun s' p' u' hs' hp' => rdKA.nat s' p' u' hs' hp') s p (2 * M + 1) br w (by omega) hp hL.r)
  have HSg := Lib.hid (fun (q : Nat) (u : World) (hq : q ≤ s.size) (hB : Blk u br #[.string s, .int .i64 q] 77) => ascii_sign s some_ q br (ok (bt s q)) _ u (by omega) hq (fun _ => by rw [Int.toNat_natCast]; exact hidx _ (bt_lt s q)) (fun v _ => rdKA.idx _ _ v) hB)
  unfold rdL
  obtain ⟨n, q, e, hD⟩ : ∃ n q e, rdD s (2 * (M : Int) + 1) (p, 0) = (n, q, e) := ⟨_, _, _, rfl⟩
  have hq := rdD_le (s := s) (top := 2 * (M : Int) + 1) (st := (p, 0)) hp
  rw [hD] at hq ⊢
  have hND := numE_rd (s := s) (p := p) (top := 2 * M + 1) (by rw [← hD]; rfl)
  simp only at hq ⊢
  rw [hND.1] at HNm
  obtain ⟨g, hg⟩ : ∃ g, rdS s ok (q, e) = g := ⟨_, rfl⟩
  rw [hg]
  have HG := Lib.hid hg
  have HND := Lib.hid hND
  have HQ := Lib.hid hq
  have HL := Lib.hid hL
  have v0 := hL.v.cells1.1
  have h1 : w.cell? ⟨bh, 1, none⟩ = some (.int .i64 M) := hL.h.cell rfl
  clear hL hD hND hidx hp hs hg hq
  go_enter Tryz.func67, Tryz.ntmps67
  go_wp2_with fail
  have HNm2 := Lib.hid HNm.out
  rw [show (((2 * M + 1 : Nat) : Int)) = 2 * (M : Int) + 1 by omega] at HNm2
  refine HNm2.out.mono ?_
  rintro o w1 hNum
  unfold NumP at hNum
  clear HNm HNm2
  rcases hNum with ⟨he, rfl, hK1, hB1⟩ | ⟨he, rfl, hK1, hB1⟩
  · subst he
    obtain ⟨hn1, hq1⟩ := HND.out.2.2 rfl
    rw [hq1] at hB1
    have HL1 := Lib.hid (HL.out.read hK1 hB1)
    have HK1 := Lib.hid hK1
    clear hK1 hB1 v0 h1
    have v0 := HL1.out.v.cells1.1
    rw [hn1]
    have HSq := Lib.hid (HSg.out q w1 HQ.out HL1.out.r)
    clear HSg
    clear hn1 hq1
    go_wp2_with fail
    refine HSq.out.mono ?_
    rintro o w2 hSg
    unfold SignP at hSg
    have hG := HG.out
    unfold rdS at hG
    simp only at hG
    rw [if_neg (by simp)] at hG
    rcases hSg with ⟨hlt, hok, rfl, hK2, hB2⟩ | ⟨hqe, rfl, hK2, hB2⟩ | ⟨hlt, hok, rfl, hK2, hB2⟩
    · rw [if_neg (by omega), if_neg (by rw [hok]; simp)] at hG
      subst hG
      have HF := Lib.hid (show LitP (hdA bin M nI nL nO nA nB nC) s bv bh br bl (n, bt s q, q + 1, 0) w (.returned (.tuple #[.int .i64 (n : Nat), .int .u8 (bt s q : Nat)])) w2 from ⟨HK1.out.trans hK2 (fun _ _ h => h), .inl ⟨rfl, rfl, HL1.out.read hK2 hB2⟩⟩)
      clear hK2 hB2
      go_wp2_with fail
      go_ret2
      exact HF.out
    · rw [if_pos hqe] at hG
      subst hG
      go_wp2_with fail
      exact ⟨rfl, HK1.out.trans hK2 (fun _ _ h => h), .inr ⟨by simp, rfl⟩⟩
    · rw [if_neg (by omega), if_pos hok] at hG
      subst hG
      go_wp2_with fail
      exact ⟨rfl, HK1.out.trans hK2 (fun _ _ h => h), .inr ⟨by simp, rfl⟩⟩
  · have hG := HG.out
    rw [rdS_stay (by simpa using he)] at hG
    subst hG
    have hqp := HND.out.2.1 he
    subst hqp
    go_wp2_with fail
    exact ⟨rfl, hK1, .inr ⟨he, rfl⟩⟩

/-- what so many lines end with -/
def LitsP (hd : Array Value) (s : ByteArray) (bv bh br bl B : Nat) (r : List Int × Nat × Nat) (w : World) (o : Ending) (w' : World) : Prop :=
  Kp (fun j => j = br) w w' ∧ ((r.2.2 = 0 ∧ ∃ v, o = .returned v ∧ Own w' B 3 v (iv r.1) ∧ LB hd s bv bh br bl w' r.2.1) ∨ (r.2.2 ≠ 0 ∧ o = .panicked [{ v := stopV (r.2.1 : Nat) (r.2.2 : Nat), recovered := false }]))


set_option maxRecDepth 100000 in
set_option maxHeartbeats 4000000 in
theorem asc_lits (s : ByteArray) (p : Nat) (many : Nat) (bin : Bool) (M nI nL nO nA nB nC : Nat) (bv bh br bl : Nat) (w : World) (hs : s.size ≤ 1000000) (hp : p ≤ s.size) (hM : M ≤ 16777216) (hm : many ≤ 20000000) (hL : LB (hdA bin M nI nL nO nA nB nC) s bv bh br bl w p) :
    Calls Tryz.prog 68 #[.int .i64 (many : Nat), .pointer (some ⟨bl, 0, none⟩)] w (LitsP (hdA bin M nI nL nO nA nB nC) s bv bh br bl w.heap.size (rdLits s (2 * (M : Int) + 1) many [] (p, 0)) w) := by
  have HLit := Lib.hid (fun (q : Nat) (u : World) (hq : q ≤ s.size) (hL : LB (hdA bin M nI nL nO nA nB nC) s bv bh br bl u q) => asc_lit s ⟨#[10]⟩ (fun c => c == 10) q bin M nI nL nO nA nB nC bv bh br bl u hs hq hM idx10 hL)
  have HL := Lib.hid hL
  have wint := wint_info
  obtain ⟨top, htop⟩ : ∃ top, 2 * (M : Int) + 1 = top := ⟨_, rfl⟩
  obtain ⟨hd, hhd⟩ : ∃ hd, hdA bin M nI nL nO nA nB nC = hd := ⟨_, rfl⟩
  rw [htop] at HLit ⊢
  rw [hhd] at HLit HL ⊢
  clear hL htop hhd
  go_enter Tryz.func68, Tryz.ntmps68
  go_wp2_with fail
  go_loopw [4, 8] (fun v4 v8 wr => ∃ (k : Nat) (L : List Int) (q : Nat), v8 = .int .i64 k ∧ k ≤ many ∧ L.length = k ∧ rdLits s top many [] (p, 0) = rdLits s top (many - k) L (q, 0) ∧ q ≤ s.size ∧ Own wr w.heap.size 3 v4 (iv L) ∧ LB hd s bv bh br bl wr q ∧ Kp (fun j => j = br) w wr) (fun _ v8 _ => many - (intOf v8).toNat)
  case atStart => exact ⟨0, [], p, rfl, by omega, rfl, rfl, hp, Own.nil _ _ _, HL.out, Kp.refl _ _⟩
  case round =>
    obtain ⟨k, L, q, rfl, hk, hLn, hE, hq, hO, hB, hK⟩ := hrel
    obtain ⟨wp, rfl⟩ : ∃ wp : World, wp = wr := ⟨_, rfl⟩
    have HO := Lib.hid hO
    have HK := Lib.hid hK
    have HE := Lib.hid hE
    have HLn := Lib.hid hLn
    have l0 := hB.l.cells1.1
    have HB := Lib.hid hB
    have HCall := Lib.hid (HLit.out q wp hq hB)
    clear hO hK hE hLn hB
    by_cases hlt : k < many
    · obtain ⟨r, hr⟩ : ∃ r, rdL s top (fun c => c == 10) (q, 0) = r := ⟨_, rfl⟩
      obtain ⟨n, c, q2, e2⟩ := r
      have hq2 : q2 ≤ s.size := by have := rdL_le (s := s) (top := top) (ok := fun c => c == 10) (st := (q, 0)) hq; rw [hr] at this; exact this
      rw [hr] at HCall
      obtain ⟨j, hj⟩ : ∃ j, many - k = j + 1 := ⟨many - k - 1, by omega⟩
      have hstep : rdLits s top (j + 1) L (q, 0) = if c ≠ 10 then ([], (q2, e2)) else rdLits s top j (L ++ [(n : Int)]) (q2, e2) := by
        have h1 : (rdD s top (q, 0)).1 = n := by have := congrArg (·.1) hr; exact this
        have h2 : rdS s (fun c => c == 10) (rdD s top (q, 0)).2 = (c, q2, e2) := by have := congrArg (·.2) hr; exact this
        show (if (rdS s (fun c => c == 10) (rdD s top (q, 0)).2).1 ≠ 10 then _ else _) = _
        rw [h2, h1]
      have hc10 : e2 = 0 → c = 10 := fun h => by
        have h2 : rdS s (fun c => c == 10) (rdD s top (q, 0)).2 = (c, q2, e2) := by have := congrArg (·.2) hr; exact this
        subst h
        by_cases h10 : c = 10
        · exact h10
        · exfalso
          have := rdLits_len (s := s) (top := top) (m := 1) (L := []) (st := (q, 0)) (by
            show (if (rdS s (fun c => c == 10) (rdD s top (q, 0)).2).1 ≠ 10 then (([] : List Int), (rdS s (fun c => c == 10) (rdD s top (q, 0)).2).2) else _).2.2 = 0
            rw [h2, if_pos h10])
          have h3 : rdLits s top 1 [] (q, 0) = ([], (q2, 0)) := by
            show (if (rdS s (fun c => c == 10) (rdD s top (q, 0)).2).1 ≠ 10 then (([] : List Int), (rdS s (fun c => c == 10) (rdD s top (q, 0)).2).2) else _) = _
            rw [h2, if_pos h10]
          rw [h3] at this
          simp at this
      have hc0 : e2 ≠ 0 → c ≠ 10 := fun h h10 => by
        have h2 : rdS s (fun c => c == 10) (rdD s top (q, 0)).2 = (c, q2, e2) := by have := congrArg (·.2) hr; exact this
        obtain ⟨d1, d2, d3⟩ := rdD s top (q, 0)
        unfold rdS at h2
        simp only at h2
        split at h2
        · simp only [Prod.mk.injEq] at h2; omega
        · split at h2
          · simp only [Prod.mk.injEq] at h2; omega
          · split at h2
            · simp only [Prod.mk.injEq] at h2; omega
            · simp only [Prod.mk.injEq] at h2; omega
      rw [hj, hstep] at HE
      have HJ := Lib.hid (show many - (k + 1) = j by omega)
      clear hr hj hstep hq
      go_wp2_with fail
      refine HCall.out.mono ?_
      rintro e w1 ⟨hK1, hC⟩
      have HK1 := Lib.hid (HK.out.trans hK1 (fun _ _ h => h))
      have Hk1 := Lib.hid hK1
      clear hK1
      rcases hC with ⟨he, rfl, hB1⟩ | ⟨he, rfl⟩
      · simp only at he
        subst he
        obtain rfl := hc10 rfl
        rw [if_neg (by simp)] at HE
        simp only at hB1
        have hO1 : Own w1 w.heap.size 3 u4 (iv L) := HO.out.kp Hk1.out (fun j hj e => by have := (HO.out.lt j hj).1; have e2 : j = br := e; have := HL.out.r.lt; omega)
        have HOw := Lib.hid (hO1.alloc (.cells #[.int .i64 (n : Int)] 3))
        have HNew := Lib.hid (Blk.new w1 #[.int .i64 (n : Int)] 3)
        have HB1 := Lib.hid hB1
        have hws : w.heap.size ≤ w1.heap.size := HK1.out.size
        clear hO1 hB1 hc10 hc0 HCall l0
        go_wp2_with (at_builtin; refine wpList_append1_at rfl _ _ 22 3 rfl Tryz.underlying22 wint rfl HOw.out rfl ⟨w1.heap.size, 0, none⟩ (.int .i64 (n : Int)) rfl (HNew.out.cell rfl) rfl ?d1 ?d2 ?d3 ?_)
        case d1 => rw [iv_length, HLn.out]; omega
        case d2 => rw [iv_length, HLn.out]; unfold maxLen; omega
        case d3 => simp; omega
        intro v' w3 hO3 hg3 hat3
        have hkg : Kp (fun j => u4.ownBlock = some j) w1 w3 := ((Kp.refl _ _).alloc _).grown hg3 (fun j hj _ => hj)
        have hof := fun j (h : u4.ownBlock = some j) => (HO.out.lt j h).1
        have hlL := HL.out
        have HF := Lib.hid (show Own w3 w.heap.size 3 v' (iv (L ++ [(n : Int)])) ∧ LB hd s bv bh br bl w3 q2 ∧ Kp (fun j => j = br) w w3 from ⟨by rw [iv_append]; exact hO3, HB1.out.kp hkg (fun e => by have := hof _ e; have := hlL.v.lt; omega) (fun e => by have := hof _ e; have := hlL.h.lt; omega) (fun e => by have := hof _ e; have := hlL.r.lt; omega) (fun e => by have := hof _ e; have := hlL.l.lt; omega), HK1.out.trans hkg (fun j hj e => by have := hof _ e; omega)⟩)
        clear hO3 hg3 hat3 hkg hof HNew HOw hlL
        go_wp2_with fail
        go_roundw
        case rel => exact ⟨k + 1, L ++ [(n : Int)], q2, by go_num, by omega, by rw [List.length_append, HLn.out]; rfl, by rw [HJ.out]; exact HE.out, hq2, HF.out⟩
        case measure => simp [intOf]; omega
      · have hcn := hc0 he
        rw [if_pos hcn] at HE
        have HE2 := Lib.hid he
        clear he hcn hc0 hc10
        go_wp2_with fail
        refine ⟨rfl, ?_⟩
        rw [HE.out]
        exact ⟨HK1.out, .inr ⟨HE2.out, rfl⟩⟩
    · obtain rfl : k = many := by omega
      rw [Nat.sub_self] at HE
      have HF := Lib.hid (show LitsP hd s bv bh br bl w.heap.size (rdLits s top k [] (p, 0)) w (.returned u4) wp by rw [HE.out]; exact ⟨HK.out, .inl ⟨rfl, _, rfl, HO.out, HB.out⟩⟩)
      clear HCall hq l0
      go_wp2_with fail
      go_ret
      exact HF.out

end Go.Proofs.YtckmdcmkjmpiaaaGreatDoor
