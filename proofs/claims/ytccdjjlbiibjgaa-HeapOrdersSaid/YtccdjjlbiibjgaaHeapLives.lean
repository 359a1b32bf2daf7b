/-
  latchetlaw06.lives.
-/
import Derived.Test.YtccdjjlbiibjgaaHeapList
import Derived.Test.YtccdjjlbiibjgaaInts
namespace Go.Proofs.Ytccdjjlbiibjgaa
open Go.RowKit

theorem HOk.new {w w' : World} {n : Nat} {e : Ending} (h : NewPost n w e w') : ∃ h, e = .returned (.pointer (some ⟨h, 0, none⟩)) ∧ HOk w' w.heap.size h n 0 (fun _ => 0) (fun _ => 0) (fun _ => -1) ∧ Kp (fun _ => False) w w' := by
  obtain ⟨b, vs, va, rfl, H, hK⟩ := h
  exact ⟨b, rfl, ⟨⟨_, _, _, H⟩, ⟨fun i hi => by omega, fun x hx => .inl rfl⟩, fun j _ hj => by omega⟩, hK⟩

theorem not_in {n m : Nat} {T : Nat → Nat} {Q : Nat → Int} (hI : Inv n m T Q) {k : Nat} (hk : k < n) (h : ∀ j, j < m → T j ≠ k) : Q k < 0 := by
  rcases hI.there k hk with h1 | ⟨i, hi, _, h2⟩
  · omega
  · exact absurd h2 (h i hi)

def oneF : Nat := 4607182418800017408
def nanF : Nat := 9221120237041090561
def lifeS : Nat → Nat := up1 (up1 (up1 (fun _ => 0) 0 oneF) 1 nanF) 2 oneF

theorem life_row {T : Nat → Nat} {Q : Nat → Int} (hI : Inv 3 3 T Q) {l : List Nat} (hp : l.Perm ((List.range 3).map T)) (hs : l.Pairwise (fun a b => ¬ ah lifeS b a)) : l = [0, 2, 1] := by
  have h0 := (hI.here 0 (by omega)).1
  have h1 := (hI.here 1 (by omega)).1
  have h2 := (hI.here 2 (by omega)).1
  have n01 : T 0 ≠ T 1 := fun e => by have := hI.inj (i := 0) (k := 1) (by omega) (by omega) e; omega
  have n02 : T 0 ≠ T 2 := fun e => by have := hI.inj (i := 0) (k := 2) (by omega) (by omega) e; omega
  have n12 : T 1 ≠ T 2 := fun e => by have := hI.inj (i := 1) (k := 2) (by omega) (by omega) e; omega
  have hT : ((List.range 3).map T).Perm [0, 2, 1] := by
    show [T 0, T 1, T 2].Perm [0, 2, 1]
    have : (T 0 = 0 ∧ T 1 = 1 ∧ T 2 = 2) ∨ (T 0 = 0 ∧ T 1 = 2 ∧ T 2 = 1) ∨ (T 0 = 1 ∧ T 1 = 0 ∧ T 2 = 2) ∨ (T 0 = 1 ∧ T 1 = 2 ∧ T 2 = 0) ∨ (T 0 = 2 ∧ T 1 = 0 ∧ T 2 = 1) ∨ (T 0 = 2 ∧ T 1 = 1 ∧ T 2 = 0) := by omega
    rcases this with ⟨a, b, c⟩ | ⟨a, b, c⟩ | ⟨a, b, c⟩ | ⟨a, b, c⟩ | ⟨a, b, c⟩ | ⟨a, b, c⟩ <;> rw [a, b, c] <;> decide
  refine List.Perm.eq_of_pairwise (le := fun a b => ¬ ah lifeS b a) (fun a b _ _ h1 h2 => ?_) hs ?_ (hp.trans hT)
  · apply Classical.byContradiction
    intro hne
    exact h1 ((ah_ord lifeS).tot hne h2)
  · have a1 : ¬ ah lifeS 2 0 := by have : aheadB lifeS 2 0 = false := by decide +kernel
                                   simp [ah, this]
    have a2 : ¬ ah lifeS 1 0 := by have : aheadB lifeS 1 0 = false := by decide +kernel
                                   simp [ah, this]
    have a3 : ¬ ah lifeS 1 2 := by have : aheadB lifeS 1 2 = false := by decide +kernel
                                   simp [ah, this]
    simp [a1, a2, a3]

theorem nat_ints (l : List Nat) : l.map natV = (l.map (fun i : Nat => (i : Int))).map (Value.int .i64) := by rw [List.map_map]; rfl

set_option maxRecDepth 100000 in
set_option maxHeartbeats 2000000 in
theorem heap_lives (w : World) :
    Calls Try.prog 13 #[] w fun e w' => e = .returned (.bool true) ∧ Kp (fun _ => False) w w' := by
  go_enter Try.func13, Try.ntmps13
  go_wp2_with fail
  refine (heap_New 3 (by omega) _).mono ?_
  intro e w1 hnew
  obtain ⟨h, rfl, HO, hK⟩ := HOk.new hnew
  have HH := Lib.hid HO; clear HO hnew
  go_wp2_with fail
  refine (heap_Set (id := 0) HH.out (by omega) (by omega) (by omega) oneF).mono ?_
  rintro e w2 ⟨rfl, T2, Q2, HO2, hS2, hK2⟩
  have hKa := hK.trans hK2 (fun i hi h => by omega)
  have HH2 := Lib.hid HO2; clear HO2 hS2 hK2 hK HH
  go_wp2_with fail
  refine (math_NaN _).mono ?_
  rintro e w' ⟨rfl, rfl⟩
  go_wp2_with fail
  refine (heap_Set (id := 1) HH2.out (by omega) (by omega) (by omega) nanF).mono ?_
  rintro e w3 ⟨rfl, T3, Q3, HO3, hS3, hK3⟩
  have hKb := hKa.trans hK3 (fun i hi h => by omega)
  have HH3 := Lib.hid HO3; clear HO3 hS3 hK3 hKa HH2
  go_wp2_with fail
  refine (heap_Set (id := 2) HH3.out (by omega) (by omega) (by omega) oneF).mono ?_
  rintro e w4 ⟨rfl, T4, Q4, HO4, hS4, hK4⟩
  have hKc := hKb.trans hK4 (fun i hi h => by omega)
  have HH4 := Lib.hid HO4; clear HO4 hS4 hK4 hKb HH3
  go_wp2_with fail
  refine (heap_Push (id := 1) HH4.out (by omega) (by omega) (by omega) (not_in HH4.out.inv (by omega) (fun j hj => by omega))).mono ?_
  rintro e w5 ⟨rfl, T5, Q5, HO5, hT5, hK5⟩
  have hKd := hKc.trans hK5 (fun i hi h => by omega)
  have HT5 := Lib.hid hT5
  have HH5 := Lib.hid HO5; clear HO5 hT5 hK5 hKc HH4
  go_wp2_with fail
  refine (heap_Push (id := 2) HH5.out (by omega) (by omega) (by omega) (not_in HH5.out.inv (by omega) (fun j hj => by rcases HT5.out j hj with h | ⟨k, hk, _⟩ <;> omega))).mono ?_
  rintro e w6 ⟨rfl, T6, Q6, HO6, hT6, hK6⟩
  have hKe := hKd.trans hK6 (fun i hi h => by omega)
  have HT6 := Lib.hid hT6
  have HH6 := Lib.hid HO6; clear HO6 hT6 hK6 hKd HH5
  go_wp2_with fail
  refine (heap_Push (id := 0) HH6.out (by omega) (by omega) (by omega) (not_in HH6.out.inv (by omega) (fun j hj => by
    rcases HT6.out j hj with h | ⟨k, hk, h⟩
    · omega
    · rcases HT5.out k (by omega) with h2 | ⟨k2, hk2, _⟩ <;> omega))).mono ?_
  rintro e w7 ⟨rfl, T7, Q7, HO7, hT7, hK7⟩
  have hKf := hKe.trans hK7 (fun i hi h => by omega)
  have HH7 := Lib.hid HO7; clear HO7 hT7 hK7 hKe HH6 HT5 HT6
  go_wp2_with fail
  refine (heap_List HH7.out (by omega) (by omega) (by omega)).mono ?_
  rintro e w8 ⟨v, l, rfl, hl1, hl2, hO8, hK8⟩
  have hKg := hKf.trans hK8 (fun _ _ h => h)
  obtain rfl := life_row HH7.out.inv hl1 hl2
  obtain ⟨a, c, rfl, _, _, _, hra⟩ := hO8.form
  have hra1 : IntsAt (w8.alloc (.cells #[.int .i64 0, .int .i64 2, .int .i64 1] 3)) a [0, 2, 1] := by
    have h1 := hra.kp ((Kp.refl (fun _ => False) w8).alloc (.cells #[.int .i64 0, .int .i64 2, .int .i64 1] 3)) (fun _ _ h => h)
    rw [nat_ints] at h1
    exact h1
  have hra2 : IntsAt (w8.alloc (.cells #[.int .i64 0, .int .i64 2, .int .i64 1] 3)) (some ⟨w8.heap.size, 0, none⟩) [0, 2, 1] :=
    (Blk.new w8 (ints [0, 2, 1]) 3).intsAt
  have HR := Lib.hid (ref_Ints a (some ⟨w8.heap.size, 0, none⟩) 3 3 c 3 [0, 2, 1] [0, 2, 1] _ hra1 hra2 rfl rfl (by omega))
  clear hra hra1 hra2 hO8 hl1 hl2
  go_wp2_with fail
  refine HR.out.mono ?_
  rintro e w' ⟨rfl, q, rfl⟩
  have hend := (hKg.alloc (.cells #[.int .i64 0, .int .i64 2, .int .i64 1] 3)).drewN q
  go_wp2_with fail
  go_ret
  exact ⟨rfl, hend⟩

end Go.Proofs.Ytccdjjlbiibjgaa
