/-
  tail.Count, thing, symbol; latchetref12.Count.
-/
import Derived.Test.YtojodmfkenfhlaaDoorTailPlain
import Derived.Test.YtojodmfkenfhlaaDoorOctNatWalk
import Derived.Test.YtojodmfkenfhlaaDoorLineWalk
namespace Go.Proofs.YtojodmfkenfhlaaDoor
open Go.RowKit

def hdV (h : Hd) : Value := .agg #[.bool h.bin, .int .i64 h.m, .int .i64 h.i, .int .i64 h.l, .int .i64 h.o, .int .i64 h.a, .int .i64 h.b, .int .i64 h.c]
def hdCells (h : Hd) : Array Value := #[.bool h.bin, .int .i64 h.m, .int .i64 h.i, .int .i64 h.l, .int .i64 h.o, .int .i64 h.a, .int .i64 h.b, .int .i64 h.c]

theorem cnt_none {h : Hd} {k : Nat} (hk : ¬ isKind k) : cnt h k = 0 := by
  unfold isKind at hk
  unfold cnt
  rw [if_neg (by omega), if_neg (by omega), if_neg (by omega), if_neg (by omega), if_neg (by omega)]

set_option maxHeartbeats 1000000 in
theorem tail_Count (h : Hd) (k : Nat) (w : World) :
    Calls Tryd.prog 30 #[hdV h, .int .u8 k] w fun e w' => e = .returned (.int .i64 (cnt h k)) ∧ Kp (fun _ => False) w w' := by
  obtain ⟨bin, m, i, l, o, a, b, c⟩ := h
  unfold hdV
  by_cases hk : isKind k
  · rcases hk with rfl | rfl | rfl | rfl | rfl
    all_goals
      go_enter Tryd.func30, Tryd.ntmps30
      go_wp2
      go_ret
      exact ⟨by simp [cnt], (Kp.refl _ w).alloc _⟩
  · have HC := Lib.hid (cnt_none (h := ⟨bin, m, i, l, o, a, b, c⟩) hk)
    unfold isKind at hk
    have b1 : ((k : Int) == 105) = false := by simp; omega
    have b2 : ((k : Int) == 108) = false := by simp; omega
    have b3 : ((k : Int) == 111) = false := by simp; omega
    have b4 : ((k : Int) == 98) = false := by simp; omega
    have b5 : ((k : Int) == 99) = false := by simp; omega
    clear hk
    go_enter Tryd.func30, Tryd.ntmps30
    go_wp2
    go_ret
    rw [HC.out]
    exact ⟨rfl, (Kp.refl _ w).alloc _⟩

set_option maxHeartbeats 2000000 in
theorem ref12_Count (h : Hd) (k : Nat) (w : World) :
    Calls Tryd.prog 31 #[hdV h, .int .u8 k] w fun e w' => e = .returned (.int .i64 (cnt h k)) ∧ Kp (fun _ => False) w w' := by
  obtain ⟨bin, m, i, l, o, a, b, c⟩ := h
  unfold hdV
  by_cases hk : isKind k
  · rcases hk with rfl | rfl | rfl | rfl | rfl
    all_goals
      go_enter Tryd.func31, Tryd.ntmps31
      go_wp2
      refine wp_loop_rounds 6 ?_
      rw [rounds_succ]
      go_wp2
      repeat (rw [rounds_succ]; go_wp2)
      go_ret
      exact ⟨by simp [cnt], ((Kp.refl _ w).alloc _).alloc _⟩
  · have HC := Lib.hid (cnt_none (h := ⟨bin, m, i, l, o, a, b, c⟩) hk)
    unfold isKind at hk
    have b1 : ((k : Int) == 105) = false := by simp; omega
    have b2 : ((k : Int) == 108) = false := by simp; omega
    have b3 : ((k : Int) == 111) = false := by simp; omega
    have b4 : ((k : Int) == 98) = false := by simp; omega
    have b5 : ((k : Int) == 99) = false := by simp; omega
    clear hk
    have e0 : ((⟨#[105, 108, 111, 98, 99]⟩ : ByteArray)[0]'(by decide)).toNat = 105 := rfl
    have e1 : ((⟨#[105, 108, 111, 98, 99]⟩ : ByteArray)[1]'(by decide)).toNat = 108 := rfl
    have e2 : ((⟨#[105, 108, 111, 98, 99]⟩ : ByteArray)[2]'(by decide)).toNat = 111 := rfl
    have e3 : ((⟨#[105, 108, 111, 98, 99]⟩ : ByteArray)[3]'(by decide)).toNat = 98 := rfl
    have e4 : ((⟨#[105, 108, 111, 98, 99]⟩ : ByteArray)[4]'(by decide)).toNat = 99 := rfl
    go_enter Tryd.func31, Tryd.ntmps31
    go_wp2
    refine wp_loop_rounds 6 ?_
    rw [rounds_succ]
    go_wp2
    repeat (rw [rounds_succ]; go_wp2)
    go_ret
    rw [HC.out]
    exact ⟨rfl, ((Kp.refl _ w).alloc _).alloc _⟩

set_option maxHeartbeats 1000000 in
theorem tail_thing (k n : Int) (nm : ByteArray) (w : World) :
    Calls Tryd.prog 57 #[.agg #[.int .u8 k, .int .i64 n, .string nm]] w fun e w' => e = .returned (.agg #[.int .u8 k, .int .i64 n, .string ⟨#[]⟩]) ∧ Kp (fun _ => False) w w' := by
  go_enter Tryd.func57, Tryd.ntmps57
  go_wp2
  exact bodyPost_ret (v := .agg #[.int .u8 k, .int .i64 n, .string ⟨#[]⟩]) (by simp [results, Tryd.results57, go_sem]) rfl ⟨rfl, ((Kp.refl _ w).alloc _).alloc _⟩

end Go.Proofs.YtojodmfkenfhlaaDoor
