/-
  heap: what is asked of a heap without change, and of none; a score of bits.
-/
import Derived.Test.YtccdjjlbiibjgaaHeapMem
import Derived.Laws.Externs
namespace Go.Proofs.Ytccdjjlbiibjgaa
open Go.RowKit

section
variable {w : World} {base h n m : Nat} {vs vt va : Value} {S T : Nat → Nat} {Q : Nat → Int}

theorem Hp.sform (H : Hp w base h vs vt va n m S T Q) : ∃ a c, vs = .slice a n c := by
  obtain ⟨a, c, e, _⟩ := H.s.form
  rw [fls_length] at e
  exact ⟨a, c, e⟩
theorem Hp.tform (H : Hp w base h vs vt va n m S T Q) : ∃ a c, vt = .slice a m c := by
  obtain ⟨a, c, e, _⟩ := H.t.form
  rw [nts_length] at e
  exact ⟨a, c, e⟩
theorem Hp.aform (H : Hp w base h vs vt va n m S T Q) : ∃ a c, va = .slice a n c := by
  obtain ⟨a, c, e, _⟩ := H.a.form
  rw [zts_length] at e
  exact ⟨a, c, e⟩

theorem heap_known (H : Hp w base h vs vt va n m S T Q) {id : Nat} (hi : id < n) :
    Calls Try.prog 17 #[.pointer (some ⟨h, 0, none⟩), .int .i64 id] w fun e w' => e = .returned (.bool true) ∧ w = w' := by
  obtain ⟨a, c, rfl⟩ := H.aform
  have c2 : w.cell? ⟨h, 2, none⟩ = some (.slice a n c) := H.blk.cell (i := 2) rfl
  have g1 : decide ((0 : Int) ≤ (id : Int)) = true := by simp
  have g2 : decide (id < n) = true := by simp [hi]
  clear H
  go_enter Try.func17, Try.ntmps17
  go_wp2
  go_ret
  exact ⟨rfl, rfl⟩

theorem heap_Len (H : Hp w base h vs vt va n m S T Q) :
    Calls Try.prog 12 #[.pointer (some ⟨h, 0, none⟩)] w fun e w' => e = .returned (.int .i64 m) ∧ w = w' := by
  obtain ⟨a, c, rfl⟩ := H.tform
  have c2 : w.cell? ⟨h, 1, none⟩ = some (.slice a m c) := H.blk.cell (i := 1) rfl
  clear H
  go_enter Try.func12, Try.ntmps12
  go_wp2
  go_ret
  exact ⟨rfl, rfl⟩

theorem heap_Score (H : Hp w base h vs vt va n m S T Q) {id : Nat} (hi : id < n) (hn : n ≤ 1048576) :
    Calls Try.prog 11 #[.pointer (some ⟨h, 0, none⟩), .int .i64 id] w fun e w' => e = .returned (.float .f64 (S id)) ∧ w = w' := by
  obtain ⟨g, c, rfl, _, _⟩ := H.s.leads (by rw [fls_length]; omega)
  have hS := H.s
  rw [fls_length] at hS
  have c0 : w.cell? ⟨h, 0, none⟩ = some (.slice (some ⟨g, 0, none⟩) n c) := by have := H.blk.cell (i := 0) rfl; rw [fls_length] at this; exact this
  have ca := hS.cell (fls_at hi)
  have a1 : (id : Int) < (n : Int) := by omega
  have a0 : (0 : Int) ≤ (id : Int) := by omega
  have HH := Lib.hid H; clear H hS
  go_enter Try.func11, Try.ntmps11
  go_wp2_with fail
  refine (heap_known HH.out hi).mono ?_
  rintro e w' ⟨rfl, rfl⟩
  go_wp2_with fail
  go_ret
  exact ⟨rfl, rfl⟩

end

theorem known_nil (id : Int) (w : World) :
    Calls Try.prog 17 #[.pointer none, .int .i64 id] w fun e w' => e = .returned (.bool false) ∧ w = w' := by
  go_enter Try.func17, Try.ntmps17
  go_wp2
  go_ret
  exact ⟨rfl, rfl⟩

theorem Len_nil (w : World) :
    Calls Try.prog 12 #[.pointer none] w fun e w' => e = .returned (.int .i64 0) ∧ w = w' := by
  go_enter Try.func12, Try.ntmps12
  go_wp2
  go_ret
  exact ⟨rfl, rfl⟩

theorem Score_nil (id : Int) (w : World) :
    Calls Try.prog 11 #[.pointer none, .int .i64 id] w fun e w' => e = .returned (.float .f64 0) ∧ w = w' := by
  go_enter Try.func11, Try.ntmps11
  go_wp2_with fail
  refine (known_nil _ _).mono ?_
  rintro e w' ⟨rfl, rfl⟩
  go_wp2_with fail
  go_ret
  exact ⟨rfl, rfl⟩

theorem Has_nil (id : Int) (w : World) :
    Calls Try.prog 14 #[.pointer none, .int .i64 id] w fun e w' => e = .returned (.bool false) ∧ w = w' := by
  go_enter Try.func14, Try.ntmps14
  go_wp2_with fail
  refine (known_nil _ _).mono ?_
  rintro e w' ⟨rfl, rfl⟩
  go_wp2_with fail
  go_ret
  exact ⟨rfl, rfl⟩

theorem Push_nil (id : Int) (w : World) :
    Calls Try.prog 6 #[.pointer none, .int .i64 id] w fun e w' => e = .returned (.int .i64 1) ∧ w = w' := by
  go_enter Try.func6, Try.ntmps6
  go_wp2_with fail
  refine (known_nil _ _).mono ?_
  rintro e w' ⟨rfl, rfl⟩
  go_wp2_with fail
  go_ret
  exact ⟨rfl, rfl⟩

theorem Set_nil (id : Int) (x : Nat) (w : World) :
    Calls Try.prog 7 #[.pointer none, .int .i64 id, .float .f64 x] w fun e w' => e = .returned (.int .i64 1) ∧ w = w' := by
  go_enter Try.func7, Try.ntmps7
  go_wp2_with fail
  refine (known_nil _ _).mono ?_
  rintro e w' ⟨rfl, rfl⟩
  go_wp2_with fail
  go_ret
  exact ⟨rfl, rfl⟩

theorem Pop_nil (w : World) :
    Calls Try.prog 9 #[.pointer none] w fun e w' => e = .returned (.tuple #[.int .i64 0, .bool false]) ∧ w = w' := by
  go_enter Try.func9, Try.ntmps9
  go_wp2_with fail
  refine (Len_nil _).mono ?_
  rintro e w' ⟨rfl, rfl⟩
  go_wp2_with fail
  go_ret2
  exact ⟨rfl, rfl⟩

theorem Clone_nil (w : World) :
    Calls Try.prog 16 #[.pointer none] w fun e w' => e = .returned (.pointer none) ∧ w = w' := by
  go_enter Try.func16, Try.ntmps16
  go_wp2
  go_ret
  exact ⟨rfl, rfl⟩

theorem List_nil (w : World) :
    Calls Try.prog 15 #[.pointer none] w fun e w' => e = .returned (.slice none 0 0) ∧ Kp (fun _ => False) w w' := by
  go_enter Try.func15, Try.ntmps15
  go_wp2
  go_ret
  exact ⟨rfl, (Kp.refl _ _).alloc _⟩

end Go.Proofs.Ytccdjjlbiibjgaa
