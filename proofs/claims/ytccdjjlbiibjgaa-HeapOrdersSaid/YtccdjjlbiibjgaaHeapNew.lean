/-
  A score of bits; heap.New.
-/
import Derived.Test.YtccdjjlbiibjgaaHeapOps
namespace Go.Proofs.Ytccdjjlbiibjgaa
open Go.RowKit

theorem frombits_run (b : Int) (w : World) : (callFunc 20 #[.int .u64 b]).run Try.prog w = .ok (.value (.float .f64 b.toNat)) w := by
  rw [run_callFunc_extern (e := Extern.MathFloatBits.float64frombits) Try.func20 (by kernel_rfl) (by kernel_rfl) (by kernel_rfl) (by kernel_rfl)]
  rfl

theorem scores_Of (b : Int) (w : World) :
    Calls Try.prog 8 #[.int .u64 b] w fun e w' => e = .returned (.float .f64 b.toNat) ∧ w = w' := by
  have hf := frombits_run
  go_enter Try.func8, Try.ntmps8
  go_wp2
  go_ret
  exact ⟨rfl, rfl⟩

theorem math_NaN (w : World) :
    Calls Try.prog 22 #[] w fun e w' => e = .returned (.float .f64 9221120237041090561) ∧ w = w' := by
  have hf := frombits_run
  go_enter Try.func22, Try.ntmps22
  go_wp2
  go_ret
  exact ⟨rfl, rfl⟩

theorem own_made {w : World} {base g n : Nat} {e : TypeId} {f : Nat → Value} (hb : Blk w g (rowF f n).toArray e) (hg : base ≤ g) (hn : n ≤ maxLen) :
    Own w base e (.slice (some ⟨g, 0, none⟩) n n) (rowF f n) :=
  ⟨by simp, .inr ⟨g, n, _, by rw [rowF_length], hg, hb, by rw [rowF_length]; exact Nat.le_refl _, hn, by simp [rowF_length], by simp⟩⟩

theorem made_row (z : Value) (n : Nat) : madeCells #[z] n = (rowF (fun _ => z) n).toArray := by
  apply Array.ext
  · simp [madeCells, rowF]
  · intro i h1 h2
    simp [madeCells, rowF, Nat.mod_one]

theorem Hp.new {w : World} {base h gs ga n : Nat} (hb : Blk w h #[.slice (some ⟨gs, 0, none⟩) n n, .slice none 0 0, .slice (some ⟨ga, 0, none⟩) n n] 45)
    (hs : Blk w gs (madeCells #[.float .f64 0] n) 28) (ha : Blk w ga (madeCells #[.int .i64 0] n) 3) (h1 : base ≤ h) (h2 : base ≤ gs) (h3 : base ≤ ga) (e1 : gs ≠ h) (e2 : ga ≠ h) (e3 : gs ≠ ga) (hn : n ≤ 1048576) :
    Hp w base h (.slice (some ⟨gs, 0, none⟩) n n) (.slice none 0 0) (.slice (some ⟨ga, 0, none⟩) n n) n 0 (fun _ => 0) (fun _ => 0) (fun _ => 0) := by
  rw [made_row] at hs ha
  have hm : n ≤ maxLen := by unfold maxLen; omega
  refine ⟨hb, h1, own_made hs h2 hm, Own.nil _ _ _, own_made ha h3 hm, ?_, ?_, ?_⟩
  · intro j hj
    simp [Value.ownBlock] at hj ⊢
    subst hj
    exact ⟨e1, fun e => e3 e.symm⟩
  · intro j hj
    simp [Value.ownBlock] at hj
  · intro j hj
    simp [Value.ownBlock] at hj
    subst hj
    exact e2

theorem zts_congr {Q Q' : Nat → Int} {n : Nat} (h : ∀ j, j < n → Q j = Q' j) : zts Q n = zts Q' n := rowF_congr fun j hj => by rw [h j hj]

theorem Hp.congrQ {w : World} {base h n m : Nat} {vs vt va : Value} {S T : Nat → Nat} {Q Q' : Nat → Int} (H : Hp w base h vs vt va n m S T Q) (e : ∀ j, j < n → Q j = Q' j) : Hp w base h vs vt va n m S T Q' :=
  ⟨H.blk, H.low, H.s, H.t, by rw [← zts_congr e]; exact H.a, H.hs, H.ht, H.ha⟩

theorem new3 (w : World) (c0 c1 c2 : Array Value) (t0 t1 t2 : TypeId) :
    Blk (((w.alloc (.cells c0 t0)).alloc (.cells c1 t1)).alloc (.cells c2 t2)).drew w.heap.size c0 t0 ∧ Blk (((w.alloc (.cells c0 t0)).alloc (.cells c1 t1)).alloc (.cells c2 t2)).drew (w.heap.size + 1) c1 t1 ∧ Blk (((w.alloc (.cells c0 t0)).alloc (.cells c1 t1)).alloc (.cells c2 t2)).drew (w.heap.size + 1 + 1) c2 t2 := by
  refine ⟨(((Blk.new w c0 t0).alloc _).alloc _).drew, ?_, ?_⟩
  · have := ((Blk.new (w.alloc (.cells c0 t0)) c1 t1).alloc (.cells c2 t2)).drew
    simpa using this
  · have := (Blk.new ((w.alloc (.cells c0 t0)).alloc (.cells c1 t1)) c2 t2).drew
    simpa using this

/-- what New leaves -/
def NewPost (n : Nat) (w : World) (e : Ending) (w' : World) : Prop :=
  ∃ h vs va, e = .returned (.pointer (some ⟨h, 0, none⟩)) ∧ Hp w' w.heap.size h vs (.slice none 0 0) va n 0 (fun _ => 0) (fun _ => 0) (fun _ => -1) ∧ Kp (fun _ => False) w w'

set_option maxHeartbeats 1000000 in
theorem heap_New (n : Nat) (hn : n ≤ 1048576) (w : World) :
    Calls Try.prog 5 #[.int .i64 n] w (NewPost n w) := by
  obtain ⟨i0, hi, hz0, hz1, hz2⟩ := info_parts (show (Try.prog.info? 3).map (fun i => (i.zero, i.size, i.bytes)) = some (some (.int .i64 0), 1, 8) by kernel_rfl)
  have hmk : ∀ u : World, (Instr.makeSlice 39 (.int .i64 (n : Int)) (.int .i64 (n : Int))).run Try.prog u =
      .ok (.slice (some ⟨u.heap.size, 0, none⟩) n n) (u.alloc (.cells (madeCells #[.int .i64 0] n) 3)) := fun u => by
    have h := run_make (P := Try.prog) u 39 3 i0 (.int .i64 0) Try.underlying39 hi hz0 .i64 .i64 (n : Int) (n : Int) (by omega) (Int.le_refl _) (by rw [hz2]; omega) (by omega)
    simpa [hz1, Value.cells] using h
  clear hi hz0 hz1 hz2 i0
  obtain ⟨i0, hi, hz0, hz1, hz2⟩ := info_parts (show (Try.prog.info? 28).map (fun i => (i.zero, i.size, i.bytes)) = some (some (.float .f64 0), 1, 8) by kernel_rfl)
  have hmf : ∀ u : World, (Instr.makeSlice 43 (.int .i64 (n : Int)) (.int .i64 (n : Int))).run Try.prog u =
      .ok (.slice (some ⟨u.heap.size, 0, none⟩) n n) (u.alloc (.cells (madeCells #[.float .f64 0] n) 28)) := fun u => by
    have h := run_make (P := Try.prog) u 43 28 i0 (.float .f64 0) Try.underlying43 hi hz0 .i64 .i64 (n : Int) (n : Int) (by omega) (Int.le_refl _) (by rw [hz2]; omega) (by omega)
    simpa [hz1, Value.cells] using h
  clear hi hz0 hz1 hz2 i0
  have g1 : decide ((n : Int) < 0) = false := by simp
  have g2 : decide ((1048576 : Int) < (n : Int)) = false := by simp; omega
  go_enter Try.func5, Try.ntmps5
  go_wp2
  go_region
  all_goals go_wp2
  all_goals
    go_loopw [22] (fun v22 wr => ∃ (k gs ga : Nat) (Q : Nat → Int), k ≤ n ∧ v22 = .int .i64 k ∧ Hp wr w.heap.size (w.heap.size + 1 + 1) (.slice (some ⟨gs, 0, none⟩) n n) (.slice none 0 0) (.slice (some ⟨ga, 0, none⟩) n n) n 0 (fun _ => 0) (fun _ => 0) Q ∧ (∀ j, j < k → Q j = -1) ∧ Kp (fun _ => False) w wr) (fun v22 _ => n - (intOf v22).toNat)
    case atStart =>
      obtain ⟨b0, b1, b2⟩ := new3 w _ _ _ _ _ _
      first
      | exact ⟨0, w.heap.size, w.heap.size + 1, _, Nat.zero_le _, rfl, Hp.new b2 b0 b1 (by omega) (by omega) (by omega) (by omega) (by omega) (by omega) hn, (fun j hj => by omega), ((((Kp.refl _ w).alloc _).alloc _).alloc _).drew⟩
      | exact ⟨0, w.heap.size + 1, w.heap.size, _, Nat.zero_le _, rfl, Hp.new b2 b1 b0 (by omega) (by omega) (by omega) (by omega) (by omega) (by omega) hn, (fun j hj => by omega), ((((Kp.refl _ w).alloc _).alloc _).alloc _).drew⟩
    case round =>
      obtain ⟨k, gs, ga, Q, hk, rfl, H, hQ, hK⟩ := hrel
      have HQ := Lib.hid hQ; clear hQ
      have c2 : wr.cell? ⟨w.heap.size + 1 + 1, 2, none⟩ = some (.slice (some ⟨ga, 0, none⟩) n n) := H.blk.cell (i := 2) rfl
      by_cases hlt : k < n
      · have hc := H.a.cell (zts_at hlt)
        have hf := H.a.free k
        have k0 : (0 : Int) ≤ (k : Int) := by omega
        have k1 : (k : Int) < (n : Int) := by omega
        have hga := (H.a.lt ga rfl).1
        have HH := Lib.hid (H.setA k (-1)); clear H
        go_wp2
        go_roundw
        case rel =>
          refine ⟨k + 1, gs, ga, _, by omega, by go_num, HH.out, fun j hj => ?_, hK.setCell (fun h => by simp at h; omega) _⟩
          by_cases e : j = k
          · subst e; exact up1_at ..
          · rw [up1_off _ _ e]; exact HQ.out j (by omega)
        case measure => simp [intOf]; omega
      · go_wp2
        go_ret
        exact ⟨_, _, _, rfl, H.congrQ (fun j hj => HQ.out j (by omega)), hK⟩

end Go.Proofs.Ytccdjjlbiibjgaa
