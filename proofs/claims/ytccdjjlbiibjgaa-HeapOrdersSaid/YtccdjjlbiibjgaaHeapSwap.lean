/-
  heap.swap.
-/
import Derived.Test.YtccdjjlbiibjgaaHeapMem
import Derived.Deep.RegionHeld3
namespace Go.Proofs.Ytccdjjlbiibjgaa
open Go.RowKit

theorem cell_after_set' {w : World} {p q : Addr} {v : Value} (x : Value) (h : w.cell? q = some v) : ∃ v', (w.setCell p x).cell? q = some v' := cell_after_set x h

set_option maxRecDepth 100000 in
set_option maxHeartbeats 2000000 in
theorem heap_swap {w : World} {base h n m : Nat} {vs vt va : Value} {S T : Nat → Nat} {Q : Nat → Int} (H : Hp w base h vs vt va n m S T Q) (hI : Inv n m T Q) (hn : n ≤ 1048576) (hm : m ≤ 1048576) {i k : Nat} (hi : i < m) (hk : k < m) :
    Calls Try.prog 21 #[.pointer (some ⟨h, 0, none⟩), .int .i64 i, .int .i64 k] w fun e w' =>
      e = .returned (.tuple #[]) ∧ Hp w' base h vs vt va n m S (sw T i k) (swQ T Q i k) ∧ Kp (fun j => base ≤ j) w w' := by
  obtain ⟨gt, ct, rfl, hgt, _⟩ := H.t.leads (by rw [nts_length]; omega)
  have hTi := (hI.here i hi).1
  have hTk := (hI.here k hk).1
  obtain ⟨ga, ca, rfl, hga, _⟩ := H.a.leads (by rw [zts_length]; omega)
  rw [nts_length, zts_length] at *
  have c1 : w.cell? ⟨h, 1, none⟩ = some (.slice (some ⟨gt, 0, none⟩) m ct) := H.blk.cell (i := 1) rfl
  have hci := H.t.cell (nts_at hi)
  have hck := H.t.cell (nts_at hk)
  have hfi := H.t.free i
  have hfk := H.t.free k
  have i1 : (i : Int) < (m : Int) := by omega
  have k1 : (k : Int) < (m : Int) := by omega
  have i0 : (0 : Int) ≤ (i : Int) := by omega
  have k0 : (0 : Int) ≤ (k : Int) := by omega
  obtain ⟨v', hv'⟩ := cell_after_set (p := ⟨gt, i, none⟩) (.int .i64 (T k : Int)) hck
  have H1 : Hp ((w.setCell ⟨gt, i, none⟩ (.int .i64 (T k : Int))).setCell ⟨gt, k, none⟩ (.int .i64 (T i : Int))).drew base h vs (.slice (some ⟨gt, 0, none⟩) m ct) (.slice (some ⟨ga, 0, none⟩) n ca) n m S (sw T i k) Q := by
    rw [← sw_up1]; exact ((H.setT i (T k)).setT k (T i)).drew
  have hK1 : Kp (fun j => base ≤ j) w ((w.setCell ⟨gt, i, none⟩ (.int .i64 (T k : Int))).setCell ⟨gt, k, none⟩ (.int .i64 (T i : Int))).drew :=
    (((Kp.refl (fun j => base ≤ j) w).setCell (p := ⟨gt, i, none⟩) (fun _ => hgt) _).setCell (p := ⟨gt, k, none⟩) (fun _ => hgt) _).drew
  clear H
  have HI := Lib.hid hI; clear hI
  go_enter Try.func21, Try.ntmps21
  go_wp2
  go_region
  all_goals generalize ((w.setCell ⟨gt, i, none⟩ (.int .i64 (T k : Int))).setCell ⟨gt, k, none⟩ (.int .i64 (T i : Int))).drew = w1 at *
  have d1 : Hp (w1.setCell ⟨ga, T k, none⟩ (.int .i64 (i : Int))) base h vs (.slice (some ⟨gt, 0, none⟩) m ct) (.slice (some ⟨ga, 0, none⟩) n ca) n m S (sw T i k) (up1 Q (sw T i k i) (i : Int)) := by
    rw [sw_l]; exact H1.setA (T k) i
  have H2 : Hp ((w1.setCell ⟨ga, T k, none⟩ (.int .i64 (i : Int))).setCell ⟨ga, T i, none⟩ (.int .i64 (k : Int))).drew base h vs (.slice (some ⟨gt, 0, none⟩) m ct) (.slice (some ⟨ga, 0, none⟩) n ca) n m S (sw T i k) (swQ T Q i k) := by
    unfold swQ
    rw [sw_r]
    exact (d1.setA (T i) k).drew
  have hK2 : Kp (fun j => base ≤ j) w ((w1.setCell ⟨ga, T k, none⟩ (.int .i64 (i : Int))).setCell ⟨ga, T i, none⟩ (.int .i64 (k : Int))).drew :=
    ((hK1.setCell (p := ⟨ga, T k, none⟩) (fun _ => hga) _).setCell (p := ⟨ga, T i, none⟩) (fun _ => hga) _).drew
  clear hck hci hfi hfk c1 hv'
  have c1 : w1.cell? ⟨h, 1, none⟩ = some (.slice (some ⟨gt, 0, none⟩) m ct) := H1.blk.cell (i := 1) rfl
  have c2 : w1.cell? ⟨h, 2, none⟩ = some (.slice (some ⟨ga, 0, none⟩) n ca) := H1.blk.cell (i := 2) rfl
  have hci := H1.t.cell (nts_at hi)
  have hck := H1.t.cell (nts_at hk)
  have hai := H1.a.cell (zts_at hTi)
  have hak := H1.a.cell (zts_at hTk)
  have hfi := H1.a.free (T i)
  have hfk := H1.a.free (T k)
  have e1 : (w1.setCell ⟨ga, T k, none⟩ (.int .i64 (i : Int))).drew.cell? ⟨h, 1, none⟩ = some (.slice (some ⟨gt, 0, none⟩) m ct) := d1.blk.cell (i := 1) rfl
  have e2 : (w1.setCell ⟨ga, T k, none⟩ (.int .i64 (i : Int))).drew.cell? ⟨h, 2, none⟩ = some (.slice (some ⟨ga, 0, none⟩) n ca) := d1.blk.cell (i := 2) rfl
  have e3 : (w1.setCell ⟨ga, T k, none⟩ (.int .i64 (i : Int))).drew.cell? ⟨gt, k, none⟩ = some (.int .i64 (T i : Int)) := by have := d1.t.cell (nts_at hk); rw [sw_r] at this; exact this
  have e5 : (w1.setCell ⟨ga, T k, none⟩ (.int .i64 (i : Int))).drew.cell? ⟨gt, i, none⟩ = some (.int .i64 (T k : Int)) := by have := d1.t.cell (nts_at hi); rw [sw_l] at this; exact this
  have f1 : ((w1.setCell ⟨ga, T k, none⟩ (.int .i64 (i : Int))).setCell ⟨ga, T i, none⟩ (.int .i64 (k : Int))).drew.cell? ⟨h, 1, none⟩ = some (.slice (some ⟨gt, 0, none⟩) m ct) := H2.blk.cell (i := 1) rfl
  have f2 : ((w1.setCell ⟨ga, T k, none⟩ (.int .i64 (i : Int))).setCell ⟨ga, T i, none⟩ (.int .i64 (k : Int))).drew.cell? ⟨h, 2, none⟩ = some (.slice (some ⟨ga, 0, none⟩) n ca) := H2.blk.cell (i := 2) rfl
  have f3 : ((w1.setCell ⟨ga, T k, none⟩ (.int .i64 (i : Int))).setCell ⟨ga, T i, none⟩ (.int .i64 (k : Int))).drew.cell? ⟨gt, k, none⟩ = some (.int .i64 (T i : Int)) := by have := H2.t.cell (nts_at hk); rw [sw_r] at this; exact this
  have f5 : ((w1.setCell ⟨ga, T k, none⟩ (.int .i64 (i : Int))).setCell ⟨ga, T i, none⟩ (.int .i64 (k : Int))).drew.cell? ⟨gt, i, none⟩ = some (.int .i64 (T k : Int)) := by have := H2.t.cell (nts_at hi); rw [sw_l] at this; exact this
  obtain ⟨u, e4⟩ := cell_after_set (p := ⟨ga, T k, none⟩) (.int .i64 (i : Int)) hai
  rw [sw_l] at hci
  rw [sw_r] at hck
  clear H1 hK1 d1 v'
  obtain ⟨x, hx⟩ : ∃ x, T i = x := ⟨_, rfl⟩
  obtain ⟨y, hy⟩ : ∃ y, T k = y := ⟨_, rfl⟩
  rw [hx] at hTi hck e3 e4 f1 f2 f3 f5 hfi hai H2 hK2
  rw [hy] at hTk hci e1 e2 e3 e4 e5 f1 f2 f3 f5 hfk hak H2 hK2
  have x1 : (x : Int) < (n : Int) := by omega
  have y1 : (y : Int) < (n : Int) := by omega
  have x0 : (0 : Int) ≤ (x : Int) := by omega
  have y0 : (0 : Int) ≤ (y : Int) := by omega
  rw [hx, hy]
  clear hx hy
  have HE := Lib.hid (And.intro e1 (And.intro e2 (And.intro e5 e3)))
  have HF := Lib.hid (And.intro f1 (And.intro f2 (And.intro f5 f3)))
  have HC := Lib.hid (And.intro c1 (And.intro c2 (And.intro hci hck)))
  have HEnd := Lib.hid (And.intro H2 hK2)
  clear e1 e2 e3 e5 f1 f2 f3 f5 H2 hK2 HI
  go_wp2
  go_region_held3 (fun u => u.cell? ⟨h, 1, none⟩ = some (.slice (some ⟨gt, 0, none⟩) m ct) ∧ u.cell? ⟨h, 2, none⟩ = some (.slice (some ⟨ga, 0, none⟩) n ca) ∧ u.cell? ⟨gt, i, none⟩ = some (.int .i64 (y : Int)) ∧ u.cell? ⟨gt, k, none⟩ = some (.int .i64 (x : Int))) (first | exact HC.out | exact HE.out | exact HF.out) (fail)
  all_goals go_wp2
  all_goals go_end0
  all_goals exact ⟨rfl, HEnd.out⟩

end Go.Proofs.Ytccdjjlbiibjgaa
