/-
  latchetref12: twice, Same, Read.
-/
import Derived.Test.YtojodmfkenfhlaaDoorTailRead
import Derived.Deep.QuietTactic
import Derived.BigQuiet
namespace Go.Proofs.YtojodmfkenfhlaaDoor
open Go.RowKit

def sy (L : List Sym) (k : Nat) : Sym := (L[k]?).getD ⟨0, 0, ⟨#[]⟩⟩
theorem sy_at {L : List Sym} {k : Nat} (h : k < L.length) : (L.map symCells)[k]? = some (symCells (sy L k)) := by
  simp [sy, List.getElem?_eq_getElem h]
theorem symCells_len (L : List Sym) : ∀ r ∈ L.map symCells, r.length = 3 := by
  intro r hr
  obtain ⟨x, _, rfl⟩ := List.mem_map.1 hr
  rfl

theorem sy_cells {w : World} {a : Option Addr} {L : List Sym} (h : RowAt w a (L.map symCells).flatten) {k : Nat} (hk : k < L.length) :
    ∃ b off, a = some ⟨b, off, none⟩ ∧ w.cell? ⟨b, off + k * 3, none⟩ = some (.int .u8 ((sy L k).kind : Int)) ∧ w.cell? ⟨b, off + k * 3 + 1, none⟩ = some (.int .i64 ((sy L k).idx : Int)) ∧ w.cell? ⟨b, off + k * 3 + 2, none⟩ = some (.string (sy L k).name) := by
  obtain ⟨b, off, e0, h0⟩ := h.cellAt (symCells_len L) (j := k) (i := 0) (sy_at hk) rfl
  obtain ⟨b1, off1, e1, h1⟩ := h.cellAt (symCells_len L) (j := k) (i := 1) (sy_at hk) rfl
  obtain ⟨b2, off2, e2, h2⟩ := h.cellAt (symCells_len L) (j := k) (i := 2) (sy_at hk) rfl
  obtain ⟨rfl, rfl⟩ : b = b1 ∧ off = off1 := by rw [e0] at e1; simpa using e1
  obtain ⟨rfl, rfl⟩ : b = b2 ∧ off = off2 := by rw [e0] at e2; simpa using e2
  exact ⟨b, off, e0, h0, h1, h2⟩

theorem any_take {L : List Sym} {x : Sym} {k : Nat} (hk : k < L.length) : (L.take (k + 1)).any (fun y => alike y x) = ((L.take k).any (fun y => alike y x) || alike (sy L k) x) := by
  rw [List.take_succ_eq_append_getElem hk, List.any_append]
  simp [sy, List.getElem?_eq_getElem hk]

set_option maxHeartbeats 1000000 in
theorem ref12_twice (a : Option Addr) (L : List Sym) (n cap : Nat) (x : Sym) (w : World) (hr : RowAt w a (L.map symCells).flatten) (hn : L.length = n) (hl : n ≤ 100000) :
    Calls Tryd.prog 58 #[.slice a n cap, .agg #[.int .u8 (x.kind : Int), .int .i64 (x.idx : Int), .string x.name]] w fun e w' => e = .returned (.bool (L.any (fun y => alike y x))) ∧ Kp (fun _ => False) w w' := by
  have HN := Lib.hid hn; clear hn
  have HR := Lib.hid (hr.kp ((Kp.refl (fun _ => False) w).alloc (.cells #[.int .u8 (x.kind : Int), .int .i64 (x.idx : Int), .string x.name] 100)) (fun _ _ h => h)); clear hr
  go_enter Tryd.func58, Tryd.ntmps58
  go_wp2_with fail
  go_loopw [5] (fun v5 wr => ∃ k q : Nat, k ≤ n ∧ v5 = .int .i64 k ∧ (L.take k).any (fun y => alike y x) = false ∧ wr = (w.alloc (.cells #[.int .u8 (x.kind : Int), .int .i64 (x.idx : Int), .string x.name] 100)).drewN q) (fun v5 _ => n - (intOf v5).toNat)
  case atStart => exact ⟨0, 0, Nat.zero_le _, rfl, by simp, rfl⟩
  case round =>
    obtain ⟨k, q, hk, rfl, ha, rfl⟩ := hrel
    have HA := Lib.hid ha; clear ha
    have hKe : Kp (fun _ => False) w ((w.alloc (.cells #[.int .u8 (x.kind : Int), .int .i64 (x.idx : Int), .string x.name] 100)).drewN q) := ((Kp.refl _ w).alloc _).drewN q
    by_cases hlt : k < n
    · obtain ⟨b, off, rfl, h0, h1, h2⟩ := sy_cells HR.out (k := k) (by rw [HN.out]; exact hlt)
      have i0 : (0 : Int) ≤ (k : Int) := by omega
      have i1 : (k : Int) < (n : Int) := by omega
      have HT := Lib.hid (any_take (L := L) (x := x) (k := k) (by rw [HN.out]; exact hlt))
      obtain ⟨y, hy⟩ : ∃ y, sy L k = y := ⟨_, rfl⟩
      rw [hy] at h0 h1 h2 HT
      clear hy
      by_cases c1 : y.kind = x.kind
      · have d1 : ((y.kind : Int) == (x.kind : Int)) = true := by simp [c1]
        by_cases c2 : y.idx = x.idx
        · have d2 : ((y.idx : Int) == (x.idx : Int)) = true := by simp [c2]
          have HE : Hid (L.any (fun y => alike y x) = true) := by
            show _ = _
            have h1 : (L.take (k + 1)).any (fun y => alike y x) = true := by rw [HT.out]; simp [alike, c1, c2]
            rw [List.any_eq_true] at h1 ⊢
            obtain ⟨z, hz, hz2⟩ := h1
            exact ⟨z, List.mem_of_mem_take hz, hz2⟩
          clear c1 c2
          go_wp2_with fail
          go_quiet (fail)
          go_wp2_with fail
          go_ret
          rw [HE.out]
          exact ⟨rfl, hKe.drewN _⟩
        · have d2 : ((y.idx : Int) == (x.idx : Int)) = false := by simp; omega
          have HE : Hid ((L.take (k + 1)).any (fun y => alike y x) = false) := by show _ = _; rw [HT.out, HA.out]; simp [alike, c2]
          clear c1 c2
          go_wp2_with fail
          go_quiet (fail)
          go_wp2_with fail
          go_roundw
          case rel => exact ⟨k + 1, _, by omega, by go_num, HE.out, rfl⟩
          case measure => simp [intOf]; omega
      · have d1 : ((y.kind : Int) == (x.kind : Int)) = false := by simp; omega
        have HE : Hid ((L.take (k + 1)).any (fun y => alike y x) = false) := by show _ = _; rw [HT.out, HA.out]; simp [alike, c1]
        clear c1
        go_wp2_with fail
        go_quiet (fail)
        go_wp2_with fail
        go_roundw
        case rel => exact ⟨k + 1, _, by omega, by go_num, HE.out, rfl⟩
        case measure => simp [intOf]; omega
    · have HE : Hid (L.any (fun y => alike y x) = false) := by
        show _ = _
        have h1 := HA.out
        rw [List.take_of_length_le (by rw [HN.out]; omega)] at h1
        exact h1
      go_wp2_with fail
      go_ret
      rw [HE.out]
      exact ⟨rfl, hKe⟩

set_option maxHeartbeats 1000000 in
theorem ref12_Same (a a' : Option Addr) (L : List Sym) (n cap cap' : Nat) (w : World) (hr : RowAt w a (L.map symCells).flatten) (hr' : RowAt w a' (L.map symCells).flatten) (hn : L.length = n) (hl : n ≤ 100000) :
    Calls Tryd.prog 28 #[.slice a n cap, .slice a' n cap'] w fun e w' => e = .returned (.bool true) ∧ ∃ q, w' = w.drewN q := by
  have HN := Lib.hid hn; clear hn
  have HR := Lib.hid hr; clear hr
  have HR' := Lib.hid hr'; clear hr'
  have b1 : ((n : Int) != (n : Int)) = false := by simp
  go_enter Tryd.func28, Tryd.ntmps28
  go_wp2_with fail
  go_loopw [5] (fun v5 wr => ∃ k q : Nat, k ≤ n ∧ v5 = .int .i64 k ∧ wr = w.drewN q) (fun v5 _ => n - (intOf v5).toNat)
  case atStart => exact ⟨0, 0, Nat.zero_le _, rfl, rfl⟩
  case round =>
    obtain ⟨k, q, hk, rfl, rfl⟩ := hrel
    by_cases hlt : k < n
    · obtain ⟨b, off, rfl, h0, h1, h2⟩ := sy_cells HR.out (k := k) (by rw [HN.out]; exact hlt)
      obtain ⟨b', off', rfl, h0', h1', h2'⟩ := sy_cells HR'.out (k := k) (by rw [HN.out]; exact hlt)
      have i0 : (0 : Int) ≤ (k : Int) := by omega
      have i1 : (k : Int) < (n : Int) := by omega
      obtain ⟨y, hy⟩ : ∃ y, sy L k = y := ⟨_, rfl⟩
      rw [hy] at h0 h1 h2 h0' h1' h2'
      clear hy
      go_wp2_with fail
      go_quiet (fail)
      go_wp2_with fail
      go_roundw
      case rel => exact ⟨k + 1, _, by omega, by go_num, rfl⟩
      case measure => simp [intOf]; omega
    · go_wp2_with fail
      go_ret
      exact ⟨rfl, q, rfl⟩

end Go.Proofs.YtojodmfkenfhlaaDoor
