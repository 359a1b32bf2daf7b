/-
  latchetlaw04.RandPlays: its walk.
-/
import Derived.Test.YtmfhbjfphohfkaaRandNone
import Derived.Test.YtmfhbjfphohfkaaRandRef
import Derived.Test.YtmfhbjfphohfkaaRandAsks
import Derived.Test.YtmfhbjfphohfkaaInts
namespace Go.Proofs.Ytmfhbjfphohfkaa
open Go.RowKit

theorem after_store {W w2 : World} {b : Nat} (s s' : Int) (hR : RandBlk w2 b s) (hS : Blk w2 (W.heap.size + 1) #[.int .u64 s] 34) (hb : b ≠ W.heap.size + 1) (hK : Kp (fun _ => False) W w2) :
    RandBlk ((w2.setCell ⟨W.heap.size + 1, 0, none⟩ (.int .u64 s')).alloc (.cells #[.int .u64 s'] 34)) b s ∧
    Blk ((w2.setCell ⟨W.heap.size + 1, 0, none⟩ (.int .u64 s')).alloc (.cells #[.int .u64 s'] 34)) (W.heap.size + 1) #[.int .u64 s'] 34 ∧
    Kp (fun _ => False) W ((w2.setCell ⟨W.heap.size + 1, 0, none⟩ (.int .u64 s')).alloc (.cells #[.int .u64 s'] 34)) :=
  ⟨(hR.set_other (by simpa using hb) _).alloc _, (hS.set_same 0 _).alloc _, (hK.setCell (p := ⟨W.heap.size + 1, 0, none⟩) (fun h => absurd h (by simp)) _).alloc _⟩

theorem kindCases (K : Int) : K = 0 ∨ K = 1 ∨ K = 2 ∨ K = 3 ∨ K = 4 ∨ ((K == 0) = false ∧ (K == 1) = false ∧ (K == 2) = false ∧ (K == 3) = false ∧ (K == 4) = false) := by
  simp only [beq_eq_false_iff_ne, ne_eq]
  omega

/-- what the loop holds -/
def PlayRel (W : World) (m : Nat) (v5 v7 : Value) (wr : World) : Prop :=
  ∃ (k b : Nat) (s : Int), k ≤ m ∧ v7 = .int .i64 k ∧ v5 = .pointer (some ⟨b, 0, none⟩) ∧ RandBlk wr b s ∧ Blk wr (W.heap.size + 1) #[.int .u64 s] 34 ∧ b ≠ W.heap.size + 1 ∧ W.heap.size ≤ b ∧ Kp (fun _ => False) W wr

set_option maxRecDepth 100000 in
set_option maxHeartbeats 4000000 in
theorem randPlays_walk (W : World) (seed : Int) (_ws : (Lit.int .u64 seed).wf = true) (v : Value) (hv : PairsAt W v) :
    Calls Try.prog 4 #[.int .u64 seed, v] W fun e w' => e = .returned (.bool true) ∧ Below W.heap.size W w' := by
  obtain ⟨a, len, cap, ks, ns, rfl, hlc, hcm, hcell⟩ := hv
  unfold maxLen at hcm
  have HC := Lib.hid hcell; clear hcell
  by_cases h60 : 60 < len
  · have c1 : decide ((60 : Int) < (len : Int)) = true := by simp; omega
    obtain ⟨b1, off1, rfl, _⟩ := HC.out 0 (by omega)
    go_enter Try.func4, Try.ntmps4
    go_wp2_with (go_at_call 6; refine (rand_New _ _).mono ?_; rintro e w' ⟨rfl, rfl⟩)
    refine (rand_lives _).mono ?_
    rintro e w1 ⟨rfl, hK1⟩
    have hR1 : RandBlk w1 W.heap.size seed := Blk.kp (w := (W.alloc _).alloc _) ((Blk.new _ _ _).alloc _) hK1 (by simp)
    have hS1 : Blk w1 (W.heap.size + 1) #[.int .u64 seed] 34 := Blk.kp (w := (W.alloc _).alloc _) (by simpa using Blk.new (W.alloc _) _ _) hK1 (by simp)
    have hKW : Kp (fun _ => False) W w1 := (((Kp.refl _ W).alloc _).alloc _).trans hK1 (fun _ _ h => h)
    go_wp2
    go_loopw [5, 7] (fun v5 v7 wr => PlayRel W 60 v5 v7 wr) (fun _ i _ => 60 - (intOf i).toNat)
    case atStart => exact ⟨0, _, seed, Nat.zero_le _, rfl, rfl, hR1, hS1, by omega, by omega, hKW⟩
    case round =>
      obtain ⟨k, b, s, hk, rfl, rfl, hR, hS, hb1, hb2, hK⟩ := hrel
      clear hR1 hS1 hKW hK1
      have hblt := hR.lt
      have hS0 : wr.cell? ⟨W.heap.size + 1, 0, none⟩ = some (.int .u64 s) := hS.cell rfl
      have hSf := hS.free 0
      have hslt := hS.lt
      by_cases hlt : k < 60
      · obtain ⟨b2, off2, ha, q0, q1, r0, r1⟩ := HC.out k (by omega)
        obtain ⟨rfl, rfl⟩ : b1 = b2 ∧ off1 = off2 := by simpa using ha
        clear ha
        have hblk : b1 < W.heap.size := World.block_lt_of_cell? W _ q0
        have q0' : wr.cell? ⟨b1, off1 + k * 2, none⟩ = some (.int .i64 (ks k)) := (World.cell?_of_block (w := W) (hK.block b1 hblk (by simp))).trans q0
        have q1' : wr.cell? ⟨b1, off1 + k * 2 + 1, none⟩ = some (.int .i64 (ns k)) := (World.cell?_of_block (w := W) (hK.block b1 hblk (by simp))).trans q1
        clear q0 q1
        unfold I64 at r0 r1
        generalize ks k = K at q0' r0
        generalize ns k = N at q1' r1
        by_cases hN : 300 < N
        · have n1 : decide ((300 : Int) < N) = true := by simp; omega
          by_cases hN2 : N ≤ 100000
          · have n2 : decide (N ≤ 100000) = true := by simp; omega
            obtain ⟨M, hM, hM2⟩ : ∃ M : Int, N % 300 = M ∧ 0 ≤ M ∧ M ≤ 300 := ⟨_, rfl, by omega, by omega⟩
            rcases kindCases K with rfl | rfl | rfl | rfl | rfl | ⟨t0, t1, t2, t3, t4⟩
            · go_wp2_with fail
              refine (ref_Next s _).mono ?_
              rintro e w2 ⟨rfl, hK2⟩
              have hz2 := hK2.size
              have c2 : w2.cell? ⟨W.heap.size + 1, 0, none⟩ = some (.int .u64 s) := (hS.kp hK2 (by simp)).cell rfl
              have f2 := (hS.kp hK2 (by simp)).free 0
              have l2 : W.heap.size + 1 < w2.heap.size := by omega
              have HA := Lib.hid (after_store (W := W) (w2 := w2) (b := b) s (nxt s) (hR.kp hK2 (by simp)) (hS.kp hK2 (by simp)) hb1 (hK.trans hK2 (fun _ _ h => h)))
              go_wp2_with fail
              refine (rand_Next' b s _ HA.out.1).mono ?_
              rintro e w3 ⟨rfl, hR3, hK3⟩
              have hS4 := HA.out.2.1.kp hK3 (fun h => hb1 h.symm)
              have hK4 := HA.out.2.2.trans hK3 (fun i hi h => by omega)
              have b1 : (told (nxt s) != told (nxt s)) = false := by simp
              clear HA c2 f2 hS0 hSf
              go_wp2
              go_roundw
              case rel => exact ⟨k + 1, b, nxt s, by omega, by go_num, rfl, hR3, hS4, hb1, hb2, hK4⟩
              case measure => simp [intOf]; omega
            · by_cases hm : M < 1
              · go_wp2_with fail
                refine (ref_Below_less s M _ hm).mono ?_
                rintro e w2 ⟨rfl, hK2⟩
                have hz2 := hK2.size
                have c2 : w2.cell? ⟨W.heap.size + 1, 0, none⟩ = some (.int .u64 s) := (hS.kp hK2 (by simp)).cell rfl
                have f2 := (hS.kp hK2 (by simp)).free 0
                have l2 : W.heap.size + 1 < w2.heap.size := by omega
                have HA := Lib.hid (after_store (W := W) (w2 := w2) (b := b) s s (hR.kp hK2 (by simp)) (hS.kp hK2 (by simp)) hb1 (hK.trans hK2 (fun _ _ h => h)))
                go_wp2_with fail
                refine (rand_Below_less _ M _ hm).mono ?_
                rintro e w3 ⟨rfl, rfl⟩
                have hR3 := HA.out.1
                have hS4 := HA.out.2.1
                have hK4 := HA.out.2.2
                clear HA c2 f2 hS0 hSf
                go_wp2
                go_roundw
                case rel => exact ⟨k + 1, b, s, by omega, by go_num, rfl, hR3, hS4, hb1, hb2, hK4⟩
                case measure => simp [intOf]; omega
              · go_wp2_with fail
                refine (ref_Below s M _ (by omega) (by omega)).mono ?_
                rintro e w2 ⟨rfl, hK2⟩
                have hz2 := hK2.size
                have c2 : w2.cell? ⟨W.heap.size + 1, 0, none⟩ = some (.int .u64 s) := (hS.kp hK2 (by simp)).cell rfl
                have f2 := (hS.kp hK2 (by simp)).free 0
                have l2 : W.heap.size + 1 < w2.heap.size := by omega
                have HA := Lib.hid (after_store (W := W) (w2 := w2) (b := b) s (nxt s) (hR.kp hK2 (by simp)) (hS.kp hK2 (by simp)) hb1 (hK.trans hK2 (fun _ _ h => h)))
                go_wp2_with fail
                refine (rand_Below3 b s M _ HA.out.1 (by omega) (by omega)).mono ?_
                rintro e w3 ⟨rfl, hR3, hK3⟩
                have hS4 := HA.out.2.1.kp hK3 (fun h => hb1 h.symm)
                have hK4 := HA.out.2.2.trans hK3 (fun i hi h => by omega)
                have b1 : (told (nxt s) % M != told (nxt s) % M) = false := by simp
                clear HA c2 f2 hS0 hSf
                go_wp2
                go_roundw
                case rel => exact ⟨k + 1, b, nxt s, by omega, by go_num, rfl, hR3, hS4, hb1, hb2, hK4⟩
                case measure => simp [intOf]; omega
            · have t0 : 0 ≤ told (nxt s) := (u64_told _).1
              go_wp2_with fail
              refine (ref_Next s _).mono ?_
              rintro e w2 ⟨rfl, hK2⟩
              have hz2 := hK2.size
              have c2 : w2.cell? ⟨W.heap.size + 1, 0, none⟩ = some (.int .u64 s) := (hS.kp hK2 (by simp)).cell rfl
              have f2 := (hS.kp hK2 (by simp)).free 0
              have l2 : W.heap.size + 1 < w2.heap.size := by omega
              have HA := Lib.hid (after_store (W := W) (w2 := w2) (b := b) s (nxt s) (hR.kp hK2 (by simp)) (hS.kp hK2 (by simp)) hb1 (hK.trans hK2 (fun _ _ h => h)))
              go_wp2_with fail
              refine (rand_Bit' b s _ HA.out.1).mono ?_
              rintro e w3 ⟨rfl, hR3, hK3⟩
              have hS4 := HA.out.2.1.kp hK3 (fun h => hb1 h.symm)
              have hK4 := HA.out.2.2.trans hK3 (fun i hi h => by omega)
              have b1 : ((told (nxt s) % 2 == 1) != (told (nxt s) % 2 == 1)) = false := by simp
              clear HA c2 f2 hS0 hSf
              go_wp2
              go_roundw
              case rel => exact ⟨k + 1, b, nxt s, by omega, by go_num, rfl, hR3, hS4, hb1, hb2, hK4⟩
              case measure => simp [intOf]; omega
            · by_cases hm : M < 0 ∨ 100000 < M
              · exfalso; omega
              · obtain ⟨n, hn⟩ : ∃ n : Nat, M = (n : Int) := ⟨M.toNat, by omega⟩
                have hn2 : n ≤ 100000 := by omega
                subst hn
                go_wp2_with fail
                refine (ref_Perm n s _ hn2).mono ?_
                rintro e w2 ⟨v2, rfl, hO2, hK2⟩
                obtain ⟨a2, cap2, rfl, _, _, hfrom2, hrow2⟩ := hO2.form
                rw [show ((permL s n).map (Value.int .i64)).length = n from by simp [permL_length]]
                have hz2 := hK2.size
                have c2 : w2.cell? ⟨W.heap.size + 1, 0, none⟩ = some (.int .u64 s) := (hS.kp hK2 (by simp)).cell rfl
                have f2 := (hS.kp hK2 (by simp)).free 0
                have l2 : W.heap.size + 1 < w2.heap.size := by omega
                have HA := Lib.hid (after_store (W := W) (w2 := w2) (b := b) s (permS s n) (hR.kp hK2 (by simp)) (hS.kp hK2 (by simp)) hb1 (hK.trans hK2 (fun _ _ h => h)))
                go_wp2_with fail
                have hz5 : ∃ g, ((w2.setCell ⟨W.heap.size + 1, 0, none⟩ (.int .u64 (permS s n))).alloc (.cells #[.int .u64 (permS s n)] 34)).heap.size = g := ⟨_, rfl⟩
                obtain ⟨g, hg⟩ := hz5
                refine (rand_Perm' b n g s _ HA.out.1 hn2 hg).mono ?_
                rintro e w3 ⟨rfl, hL3, hR3, hK3⟩
                have hrow3 : IntsAt w3 a2 (permL s n) := by
                  refine RowAt.kp (w := (w2.setCell _ _).alloc _) (fun j u hu => ?_) hK3 (fun p hp h => ?_)
                  · have h1 := (hrow2 j u hu).kp (Kp.set w2 ⟨W.heap.size + 1, 0, none⟩ (.int .u64 (permS s n))) (fun p hp h => by obtain ⟨q, rfl, h5, h6⟩ := hfrom2 p hp; simp at h; omega)
                    exact h1.kp ((Kp.refl (fun _ => False) _).alloc _) (by simp)
                  · obtain ⟨q, rfl, h5, h6⟩ := hfrom2 p hp; simp at h; omega
                go_wp2_with fail
                refine (ref_Ints _ _ n n _ _ (permL s n) (permL s n) _ hL3.intsAt hrow3 (permL_length s n) (permL_length s n) (by omega)).mono ?_
                rintro e w4 ⟨rfl, m4, rfl⟩
                have b1 : ((permL s n) == (permL s n)) = true := by simp
                rw [b1]
                have hR5 := hR3.drewN m4
                have hS5 := (HA.out.2.1.kp hK3 (fun h => hb1 h.symm)).drewN m4
                have hK5 := (HA.out.2.2.trans hK3 (fun i hi h => by omega)).drewN m4
                clear HA c2 f2 hS0 hSf hL3 hrow3 hO2 hrow2 hfrom2 b1
                go_wp2
                go_roundw
                case rel => exact ⟨k + 1, b, permS s n, by omega, by go_num, rfl, hR5, hS5, hb1, hb2, hK5⟩
                case measure => simp [intOf]; omega
            · have hRc : wr.cell? ⟨b, 0, none⟩ = some (.int .u64 s) := hR.cell rfl
              go_wp2_with fail
              refine (rand_Clone ⟨b, 0, none⟩ s _ hRc).mono ?_
              rintro e w2 ⟨rfl, rfl⟩
              go_wp2_with fail
              refine (rand_Next' b s _ (hR.alloc _)).mono ?_
              rintro e w3 ⟨rfl, hR3, hK3⟩
              have hC3 : RandBlk w3 wr.heap.size s := Blk.kp (Blk.new wr _ _) hK3 (by omega)
              have hS4 := (hS.alloc (.cells #[.int .u64 s] 48)).kp hK3 (fun h => hb1 h.symm)
              have hK4 := (hK.alloc (.cells #[.int .u64 s] 48)).trans hK3 (fun i hi h => by omega)
              clear hRc hS0 hSf
              go_wp2
              go_roundw
              case rel => exact ⟨k + 1, wr.heap.size, s, by omega, by go_num, rfl, hC3, hS4, by omega, by omega, hK4⟩
              case measure => simp [intOf]; omega
            · clear hS0 hSf
              go_wp2
              go_roundw
              case rel => exact ⟨k + 1, b, s, by omega, by go_num, rfl, hR, hS, hb1, hb2, hK⟩
              case measure => simp [intOf]; omega
          · have n2 : decide (N ≤ 100000) = false := by simp; omega
            obtain ⟨M, rfl⟩ : ∃ M, M = N := ⟨_, rfl⟩
            rcases kindCases K with rfl | rfl | rfl | rfl | rfl | ⟨t0, t1, t2, t3, t4⟩
            · go_wp2_with fail
              refine (ref_Next s _).mono ?_
              rintro e w2 ⟨rfl, hK2⟩
              have hz2 := hK2.size
              have c2 : w2.cell? ⟨W.heap.size + 1, 0, none⟩ = some (.int .u64 s) := (hS.kp hK2 (by simp)).cell rfl
              have f2 := (hS.kp hK2 (by simp)).free 0
              have l2 : W.heap.size + 1 < w2.heap.size := by omega
              have HA := Lib.hid (after_store (W := W) (w2 := w2) (b := b) s (nxt s) (hR.kp hK2 (by simp)) (hS.kp hK2 (by simp)) hb1 (hK.trans hK2 (fun _ _ h => h)))
              go_wp2_with fail
              refine (rand_Next' b s _ HA.out.1).mono ?_
              rintro e w3 ⟨rfl, hR3, hK3⟩
              have hS4 := HA.out.2.1.kp hK3 (fun h => hb1 h.symm)
              have hK4 := HA.out.2.2.trans hK3 (fun i hi h => by omega)
              have b1 : (told (nxt s) != told (nxt s)) = false := by simp
              clear HA c2 f2 hS0 hSf
              go_wp2
              go_roundw
              case rel => exact ⟨k + 1, b, nxt s, by omega, by go_num, rfl, hR3, hS4, hb1, hb2, hK4⟩
              case measure => simp [intOf]; omega
            · by_cases hm : M < 1
              · exfalso; omega
              · go_wp2_with fail
                refine (ref_Below s M _ (by omega) (by omega)).mono ?_
                rintro e w2 ⟨rfl, hK2⟩
                have hz2 := hK2.size
                have c2 : w2.cell? ⟨W.heap.size + 1, 0, none⟩ = some (.int .u64 s) := (hS.kp hK2 (by simp)).cell rfl
                have f2 := (hS.kp hK2 (by simp)).free 0
                have l2 : W.heap.size + 1 < w2.heap.size := by omega
                have HA := Lib.hid (after_store (W := W) (w2 := w2) (b := b) s (nxt s) (hR.kp hK2 (by simp)) (hS.kp hK2 (by simp)) hb1 (hK.trans hK2 (fun _ _ h => h)))
                go_wp2_with fail
                refine (rand_Below3 b s M _ HA.out.1 (by omega) (by omega)).mono ?_
                rintro e w3 ⟨rfl, hR3, hK3⟩
                have hS4 := HA.out.2.1.kp hK3 (fun h => hb1 h.symm)
                have hK4 := HA.out.2.2.trans hK3 (fun i hi h => by omega)
                have b1 : (told (nxt s) % M != told (nxt s) % M) = false := by simp
                clear HA c2 f2 hS0 hSf
                go_wp2
                go_roundw
                case rel => exact ⟨k + 1, b, nxt s, by omega, by go_num, rfl, hR3, hS4, hb1, hb2, hK4⟩
                case measure => simp [intOf]; omega
            · have t0 : 0 ≤ told (nxt s) := (u64_told _).1
              go_wp2_with fail
              refine (ref_Next s _).mono ?_
              rintro e w2 ⟨rfl, hK2⟩
              have hz2 := hK2.size
              have c2 : w2.cell? ⟨W.heap.size + 1, 0, none⟩ = some (.int .u64 s) := (hS.kp hK2 (by simp)).cell rfl
              have f2 := (hS.kp hK2 (by simp)).free 0
              have l2 : W.heap.size + 1 < w2.heap.size := by omega
              have HA := Lib.hid (after_store (W := W) (w2 := w2) (b := b) s (nxt s) (hR.kp hK2 (by simp)) (hS.kp hK2 (by simp)) hb1 (hK.trans hK2 (fun _ _ h => h)))
              go_wp2_with fail
              refine (rand_Bit' b s _ HA.out.1).mono ?_
              rintro e w3 ⟨rfl, hR3, hK3⟩
              have hS4 := HA.out.2.1.kp hK3 (fun h => hb1 h.symm)
              have hK4 := HA.out.2.2.trans hK3 (fun i hi h => by omega)
              have b1 : ((told (nxt s) % 2 == 1) != (told (nxt s) % 2 == 1)) = false := by simp
              clear HA c2 f2 hS0 hSf
              go_wp2
              go_roundw
              case rel => exact ⟨k + 1, b, nxt s, by omega, by go_num, rfl, hR3, hS4, hb1, hb2, hK4⟩
              case measure => simp [intOf]; omega
            · by_cases hm : M < 0 ∨ 100000 < M
              · go_wp2_with fail
                refine (ref_Perm_none s M _ hm).mono ?_
                rintro e w2 ⟨a2, cap2, rfl, hK2⟩
                have hz2 := hK2.size
                have c2 : w2.cell? ⟨W.heap.size + 1, 0, none⟩ = some (.int .u64 s) := (hS.kp hK2 (by simp)).cell rfl
                have f2 := (hS.kp hK2 (by simp)).free 0
                have l2 : W.heap.size + 1 < w2.heap.size := by omega
                have HA := Lib.hid (after_store (W := W) (w2 := w2) (b := b) s s (hR.kp hK2 (by simp)) (hS.kp hK2 (by simp)) hb1 (hK.trans hK2 (fun _ _ h => h)))
                go_wp2_with fail
                refine (rand_Perm_none _ M _ (.inr hm)).mono ?_
                rintro e w3 ⟨rfl, rfl⟩
                go_wp2_with fail
                refine (ref_Ints _ _ 0 0 _ _ [] [] _ (RowAt.nil _ _) (RowAt.nil _ _) rfl rfl (by omega)).mono ?_
                rintro e w4 ⟨rfl, m4, rfl⟩
                have hR3 := HA.out.1.drewN m4
                have hS4 := HA.out.2.1.drewN m4
                have hK4 := HA.out.2.2.drewN m4
                have b1 : (([] : List Int) == []) = true := by simp
                rw [b1]
                clear HA c2 f2 hS0 hSf
                go_wp2
                go_roundw
                case rel => exact ⟨k + 1, b, s, by omega, by go_num, rfl, hR3, hS4, hb1, hb2, hK4⟩
                case measure => simp [intOf]; omega
              · exfalso; omega
            · have hRc : wr.cell? ⟨b, 0, none⟩ = some (.int .u64 s) := hR.cell rfl
              go_wp2_with fail
              refine (rand_Clone ⟨b, 0, none⟩ s _ hRc).mono ?_
              rintro e w2 ⟨rfl, rfl⟩
              go_wp2_with fail
              refine (rand_Next' b s _ (hR.alloc _)).mono ?_
              rintro e w3 ⟨rfl, hR3, hK3⟩
              have hC3 : RandBlk w3 wr.heap.size s := Blk.kp (Blk.new wr _ _) hK3 (by omega)
              have hS4 := (hS.alloc (.cells #[.int .u64 s] 48)).kp hK3 (fun h => hb1 h.symm)
              have hK4 := (hK.alloc (.cells #[.int .u64 s] 48)).trans hK3 (fun i hi h => by omega)
              clear hRc hS0 hSf
              go_wp2
              go_roundw
              case rel => exact ⟨k + 1, wr.heap.size, s, by omega, by go_num, rfl, hC3, hS4, by omega, by omega, hK4⟩
              case measure => simp [intOf]; omega
            · clear hS0 hSf
              go_wp2
              go_roundw
              case rel => exact ⟨k + 1, b, s, by omega, by go_num, rfl, hR, hS, hb1, hb2, hK⟩
              case measure => simp [intOf]; omega
        · have n1 : decide ((300 : Int) < N) = false := by simp; omega
          obtain ⟨M, rfl⟩ : ∃ M, M = N := ⟨_, rfl⟩
          rcases kindCases K with rfl | rfl | rfl | rfl | rfl | ⟨t0, t1, t2, t3, t4⟩
          · go_wp2_with fail
            refine (ref_Next s _).mono ?_
            rintro e w2 ⟨rfl, hK2⟩
            have hz2 := hK2.size
            have c2 : w2.cell? ⟨W.heap.size + 1, 0, none⟩ = some (.int .u64 s) := (hS.kp hK2 (by simp)).cell rfl
            have f2 := (hS.kp hK2 (by simp)).free 0
            have l2 : W.heap.size + 1 < w2.heap.size := by omega
            have HA := Lib.hid (after_store (W := W) (w2 := w2) (b := b) s (nxt s) (hR.kp hK2 (by simp)) (hS.kp hK2 (by simp)) hb1 (hK.trans hK2 (fun _ _ h => h)))
            go_wp2_with fail
            refine (rand_Next' b s _ HA.out.1).mono ?_
            rintro e w3 ⟨rfl, hR3, hK3⟩
            have hS4 := HA.out.2.1.kp hK3 (fun h => hb1 h.symm)
            have hK4 := HA.out.2.2.trans hK3 (fun i hi h => by omega)
            have b1 : (told (nxt s) != told (nxt s)) = false := by simp
            clear HA c2 f2 hS0 hSf
            go_wp2
            go_roundw
            case rel => exact ⟨k + 1, b, nxt s, by omega, by go_num, rfl, hR3, hS4, hb1, hb2, hK4⟩
            case measure => simp [intOf]; omega
          · by_cases hm : M < 1
            · go_wp2_with fail
              refine (ref_Below_less s M _ hm).mono ?_
              rintro e w2 ⟨rfl, hK2⟩
              have hz2 := hK2.size
              have c2 : w2.cell? ⟨W.heap.size + 1, 0, none⟩ = some (.int .u64 s) := (hS.kp hK2 (by simp)).cell rfl
              have f2 := (hS.kp hK2 (by simp)).free 0
              have l2 : W.heap.size + 1 < w2.heap.size := by omega
              have HA := Lib.hid (after_store (W := W) (w2 := w2) (b := b) s s (hR.kp hK2 (by simp)) (hS.kp hK2 (by simp)) hb1 (hK.trans hK2 (fun _ _ h => h)))
              go_wp2_with fail
              refine (rand_Below_less _ M _ hm).mono ?_
              rintro e w3 ⟨rfl, rfl⟩
              have hR3 := HA.out.1
              have hS4 := HA.out.2.1
              have hK4 := HA.out.2.2
              clear HA c2 f2 hS0 hSf
              go_wp2
              go_roundw
              case rel => exact ⟨k + 1, b, s, by omega, by go_num, rfl, hR3, hS4, hb1, hb2, hK4⟩
              case measure => simp [intOf]; omega
            · go_wp2_with fail
              refine (ref_Below s M _ (by omega) (by omega)).mono ?_
              rintro e w2 ⟨rfl, hK2⟩
              have hz2 := hK2.size
              have c2 : w2.cell? ⟨W.heap.size + 1, 0, none⟩ = some (.int .u64 s) := (hS.kp hK2 (by simp)).cell rfl
              have f2 := (hS.kp hK2 (by simp)).free 0
              have l2 : W.heap.size + 1 < w2.heap.size := by omega
              have HA := Lib.hid (after_store (W := W) (w2 := w2) (b := b) s (nxt s) (hR.kp hK2 (by simp)) (hS.kp hK2 (by simp)) hb1 (hK.trans hK2 (fun _ _ h => h)))
              go_wp2_with fail
              refine (rand_Below3 b s M _ HA.out.1 (by omega) (by omega)).mono ?_
              rintro e w3 ⟨rfl, hR3, hK3⟩
              have hS4 := HA.out.2.1.kp hK3 (fun h => hb1 h.symm)
              have hK4 := HA.out.2.2.trans hK3 (fun i hi h => by omega)
              have b1 : (told (nxt s) % M != told (nxt s) % M) = false := by simp
              clear HA c2 f2 hS0 hSf
              go_wp2
              go_roundw
              case rel => exact ⟨k + 1, b, nxt s, by omega, by go_num, rfl, hR3, hS4, hb1, hb2, hK4⟩
              case measure => simp [intOf]; omega
          · have t0 : 0 ≤ told (nxt s) := (u64_told _).1
            go_wp2_with fail
            refine (ref_Next s _).mono ?_
            rintro e w2 ⟨rfl, hK2⟩
            have hz2 := hK2.size
            have c2 : w2.cell? ⟨W.heap.size + 1, 0, none⟩ = some (.int .u64 s) := (hS.kp hK2 (by simp)).cell rfl
            have f2 := (hS.kp hK2 (by simp)).free 0
            have l2 : W.heap.size + 1 < w2.heap.size := by omega
            have HA := Lib.hid (after_store (W := W) (w2 := w2) (b := b) s (nxt s) (hR.kp hK2 (by simp)) (hS.kp hK2 (by simp)) hb1 (hK.trans hK2 (fun _ _ h => h)))
            go_wp2_with fail
            refine (rand_Bit' b s _ HA.out.1).mono ?_
            rintro e w3 ⟨rfl, hR3, hK3⟩
            have hS4 := HA.out.2.1.kp hK3 (fun h => hb1 h.symm)
            have hK4 := HA.out.2.2.trans hK3 (fun i hi h => by omega)
            have b1 : ((told (nxt s) % 2 == 1) != (told (nxt s) % 2 == 1)) = false := by simp
            clear HA c2 f2 hS0 hSf
            go_wp2
            go_roundw
            case rel => exact ⟨k + 1, b, nxt s, by omega, by go_num, rfl, hR3, hS4, hb1, hb2, hK4⟩
            case measure => simp [intOf]; omega
          · by_cases hm : M < 0 ∨ 100000 < M
            · go_wp2_with fail
              refine (ref_Perm_none s M _ hm).mono ?_
              rintro e w2 ⟨a2, cap2, rfl, hK2⟩
              have hz2 := hK2.size
              have c2 : w2.cell? ⟨W.heap.size + 1, 0, none⟩ = some (.int .u64 s) := (hS.kp hK2 (by simp)).cell rfl
              have f2 := (hS.kp hK2 (by simp)).free 0
              have l2 : W.heap.size + 1 < w2.heap.size := by omega
              have HA := Lib.hid (after_store (W := W) (w2 := w2) (b := b) s s (hR.kp hK2 (by simp)) (hS.kp hK2 (by simp)) hb1 (hK.trans hK2 (fun _ _ h => h)))
              go_wp2_with fail
              refine (rand_Perm_none _ M _ (.inr hm)).mono ?_
              rintro e w3 ⟨rfl, rfl⟩
              go_wp2_with fail
              refine (ref_Ints _ _ 0 0 _ _ [] [] _ (RowAt.nil _ _) (RowAt.nil _ _) rfl rfl (by omega)).mono ?_
              rintro e w4 ⟨rfl, m4, rfl⟩
              have hR3 := HA.out.1.drewN m4
              have hS4 := HA.out.2.1.drewN m4
              have hK4 := HA.out.2.2.drewN m4
              have b1 : (([] : List Int) == []) = true := by simp
              rw [b1]
              clear HA c2 f2 hS0 hSf
              go_wp2
              go_roundw
              case rel => exact ⟨k + 1, b, s, by omega, by go_num, rfl, hR3, hS4, hb1, hb2, hK4⟩
              case measure => simp [intOf]; omega
            · obtain ⟨n, hn⟩ : ∃ n : Nat, M = (n : Int) := ⟨M.toNat, by omega⟩
              have hn2 : n ≤ 100000 := by omega
              subst hn
              go_wp2_with fail
              refine (ref_Perm n s _ hn2).mono ?_
              rintro e w2 ⟨v2, rfl, hO2, hK2⟩
              obtain ⟨a2, cap2, rfl, _, _, hfrom2, hrow2⟩ := hO2.form
              rw [show ((permL s n).map (Value.int .i64)).length = n from by simp [permL_length]]
              have hz2 := hK2.size
              have c2 : w2.cell? ⟨W.heap.size + 1, 0, none⟩ = some (.int .u64 s) := (hS.kp hK2 (by simp)).cell rfl
              have f2 := (hS.kp hK2 (by simp)).free 0
              have l2 : W.heap.size + 1 < w2.heap.size := by omega
              have HA := Lib.hid (after_store (W := W) (w2 := w2) (b := b) s (permS s n) (hR.kp hK2 (by simp)) (hS.kp hK2 (by simp)) hb1 (hK.trans hK2 (fun _ _ h => h)))
              go_wp2_with fail
              have hz5 : ∃ g, ((w2.setCell ⟨W.heap.size + 1, 0, none⟩ (.int .u64 (permS s n))).alloc (.cells #[.int .u64 (permS s n)] 34)).heap.size = g := ⟨_, rfl⟩
              obtain ⟨g, hg⟩ := hz5
              refine (rand_Perm' b n g s _ HA.out.1 hn2 hg).mono ?_
              rintro e w3 ⟨rfl, hL3, hR3, hK3⟩
              have hrow3 : IntsAt w3 a2 (permL s n) := by
                refine RowAt.kp (w := (w2.setCell _ _).alloc _) (fun j u hu => ?_) hK3 (fun p hp h => ?_)
                · have h1 := (hrow2 j u hu).kp (Kp.set w2 ⟨W.heap.size + 1, 0, none⟩ (.int .u64 (permS s n))) (fun p hp h => by obtain ⟨q, rfl, h5, h6⟩ := hfrom2 p hp; simp at h; omega)
                  exact h1.kp ((Kp.refl (fun _ => False) _).alloc _) (by simp)
                · obtain ⟨q, rfl, h5, h6⟩ := hfrom2 p hp; simp at h; omega
              go_wp2_with fail
              refine (ref_Ints _ _ n n _ _ (permL s n) (permL s n) _ hL3.intsAt hrow3 (permL_length s n) (permL_length s n) (by omega)).mono ?_
              rintro e w4 ⟨rfl, m4, rfl⟩
              have b1 : ((permL s n) == (permL s n)) = true := by simp
              rw [b1]
              have hR5 := hR3.drewN m4
              have hS5 := (HA.out.2.1.kp hK3 (fun h => hb1 h.symm)).drewN m4
              have hK5 := (HA.out.2.2.trans hK3 (fun i hi h => by omega)).drewN m4
              clear HA c2 f2 hS0 hSf hL3 hrow3 hO2 hrow2 hfrom2 b1
              go_wp2
              go_roundw
              case rel => exact ⟨k + 1, b, permS s n, by omega, by go_num, rfl, hR5, hS5, hb1, hb2, hK5⟩
              case measure => simp [intOf]; omega
          · have hRc : wr.cell? ⟨b, 0, none⟩ = some (.int .u64 s) := hR.cell rfl
            go_wp2_with fail
            refine (rand_Clone ⟨b, 0, none⟩ s _ hRc).mono ?_
            rintro e w2 ⟨rfl, rfl⟩
            go_wp2_with fail
            refine (rand_Next' b s _ (hR.alloc _)).mono ?_
            rintro e w3 ⟨rfl, hR3, hK3⟩
            have hC3 : RandBlk w3 wr.heap.size s := Blk.kp (Blk.new wr _ _) hK3 (by omega)
            have hS4 := (hS.alloc (.cells #[.int .u64 s] 48)).kp hK3 (fun h => hb1 h.symm)
            have hK4 := (hK.alloc (.cells #[.int .u64 s] 48)).trans hK3 (fun i hi h => by omega)
            clear hRc hS0 hSf
            go_wp2
            go_roundw
            case rel => exact ⟨k + 1, wr.heap.size, s, by omega, by go_num, rfl, hC3, hS4, by omega, by omega, hK4⟩
            case measure => simp [intOf]; omega
          · clear hS0 hSf
            go_wp2
            go_roundw
            case rel => exact ⟨k + 1, b, s, by omega, by go_num, rfl, hR, hS, hb1, hb2, hK⟩
            case measure => simp [intOf]; omega
      · go_wp2_with fail
        refine (ref_Next s _).mono ?_
        rintro e w2 ⟨rfl, hK2⟩
        have hR2 := hR.kp hK2 (by simp)
        go_wp2_with fail
        refine (rand_Next' b s _ (hR2.alloc _)).mono ?_
        rintro e w3 ⟨rfl, hR3, hK3⟩
        have b1 : (told (nxt s) == told (nxt s)) = true := by simp
        go_wp2
        go_ret
        exact ⟨rfl, Kp.below (((hK.trans hK2 (fun _ _ h => h)).alloc _).trans hK3 (fun i hi h => by omega)) (Nat.le_refl _) (fun _ _ h => h)⟩
  · have c1 : decide ((60 : Int) < (len : Int)) = false := by simp; omega
    go_enter Try.func4, Try.ntmps4
    go_wp2_with (go_at_call 6; refine (rand_New _ _).mono ?_; rintro e w' ⟨rfl, rfl⟩)
    refine (rand_lives _).mono ?_
    rintro e w1 ⟨rfl, hK1⟩
    have hR1 : RandBlk w1 W.heap.size seed := Blk.kp (w := (W.alloc _).alloc _) ((Blk.new _ _ _).alloc _) hK1 (by simp)
    have hS1 : Blk w1 (W.heap.size + 1) #[.int .u64 seed] 34 := Blk.kp (w := (W.alloc _).alloc _) (by simpa using Blk.new (W.alloc _) _ _) hK1 (by simp)
    have hKW : Kp (fun _ => False) W w1 := (((Kp.refl _ W).alloc _).alloc _).trans hK1 (fun _ _ h => h)
    go_wp2
    go_loopw [5, 7] (fun v5 v7 wr => PlayRel W len v5 v7 wr) (fun _ i _ => len - (intOf i).toNat)
    case atStart => exact ⟨0, _, seed, Nat.zero_le _, rfl, rfl, hR1, hS1, by omega, by omega, hKW⟩
    case round =>
      obtain ⟨k, b, s, hk, rfl, rfl, hR, hS, hb1, hb2, hK⟩ := hrel
      clear hR1 hS1 hKW hK1
      have hblt := hR.lt
      have hS0 : wr.cell? ⟨W.heap.size + 1, 0, none⟩ = some (.int .u64 s) := hS.cell rfl
      have hSf := hS.free 0
      have hslt := hS.lt
      by_cases hlt : k < len
      · obtain ⟨b1, off1, rfl, q0, q1, r0, r1⟩ := HC.out k (by omega)
        have hblk : b1 < W.heap.size := World.block_lt_of_cell? W _ q0
        have q0' : wr.cell? ⟨b1, off1 + k * 2, none⟩ = some (.int .i64 (ks k)) := (World.cell?_of_block (w := W) (hK.block b1 hblk (by simp))).trans q0
        have q1' : wr.cell? ⟨b1, off1 + k * 2 + 1, none⟩ = some (.int .i64 (ns k)) := (World.cell?_of_block (w := W) (hK.block b1 hblk (by simp))).trans q1
        clear q0 q1
        unfold I64 at r0 r1
        generalize ks k = K at q0' r0
        generalize ns k = N at q1' r1
        by_cases hN : 300 < N
        · have n1 : decide ((300 : Int) < N) = true := by simp; omega
          by_cases hN2 : N ≤ 100000
          · have n2 : decide (N ≤ 100000) = true := by simp; omega
            obtain ⟨M, hM, hM2⟩ : ∃ M : Int, N % 300 = M ∧ 0 ≤ M ∧ M ≤ 300 := ⟨_, rfl, by omega, by omega⟩
            rcases kindCases K with rfl | rfl | rfl | rfl | rfl | ⟨t0, t1, t2, t3, t4⟩
            · go_wp2_with fail
              refine (ref_Next s _).mono ?_
              rintro e w2 ⟨rfl, hK2⟩
              have hz2 := hK2.size
              have c2 : w2.cell? ⟨W.heap.size + 1, 0, none⟩ = some (.int .u64 s) := (hS.kp hK2 (by simp)).cell rfl
              have f2 := (hS.kp hK2 (by simp)).free 0
              have l2 : W.heap.size + 1 < w2.heap.size := by omega
              have HA := Lib.hid (after_store (W := W) (w2 := w2) (b := b) s (nxt s) (hR.kp hK2 (by simp)) (hS.kp hK2 (by simp)) hb1 (hK.trans hK2 (fun _ _ h => h)))
              go_wp2_with fail
              refine (rand_Next' b s _ HA.out.1).mono ?_
              rintro e w3 ⟨rfl, hR3, hK3⟩
              have hS4 := HA.out.2.1.kp hK3 (fun h => hb1 h.symm)
              have hK4 := HA.out.2.2.trans hK3 (fun i hi h => by omega)
              have b1 : (told (nxt s) != told (nxt s)) = false := by simp
              clear HA c2 f2 hS0 hSf
              go_wp2
              go_roundw
              case rel => exact ⟨k + 1, b, nxt s, by omega, by go_num, rfl, hR3, hS4, hb1, hb2, hK4⟩
              case measure => simp [intOf]; omega
            · by_cases hm : M < 1
              · go_wp2_with fail
                refine (ref_Below_less s M _ hm).mono ?_
                rintro e w2 ⟨rfl, hK2⟩
                have hz2 := hK2.size
                have c2 : w2.cell? ⟨W.heap.size + 1, 0, none⟩ = some (.int .u64 s) := (hS.kp hK2 (by simp)).cell rfl
                have f2 := (hS.kp hK2 (by simp)).free 0
                have l2 : W.heap.size + 1 < w2.heap.size := by omega
                have HA := Lib.hid (after_store (W := W) (w2 := w2) (b := b) s s (hR.kp hK2 (by simp)) (hS.kp hK2 (by simp)) hb1 (hK.trans hK2 (fun _ _ h => h)))
                go_wp2_with fail
                refine (rand_Below_less _ M _ hm).mono ?_
                rintro e w3 ⟨rfl, rfl⟩
                have hR3 := HA.out.1
                have hS4 := HA.out.2.1
                have hK4 := HA.out.2.2
                clear HA c2 f2 hS0 hSf
                go_wp2
                go_roundw
                case rel => exact ⟨k + 1, b, s, by omega, by go_num, rfl, hR3, hS4, hb1, hb2, hK4⟩
                case measure => simp [intOf]; omega
              · go_wp2_with fail
                refine (ref_Below s M _ (by omega) (by omega)).mono ?_
                rintro e w2 ⟨rfl, hK2⟩
                have hz2 := hK2.size
                have c2 : w2.cell? ⟨W.heap.size + 1, 0, none⟩ = some (.int .u64 s) := (hS.kp hK2 (by simp)).cell rfl
                have f2 := (hS.kp hK2 (by simp)).free 0
                have l2 : W.heap.size + 1 < w2.heap.size := by omega
                have HA := Lib.hid (after_store (W := W) (w2 := w2) (b := b) s (nxt s) (hR.kp hK2 (by simp)) (hS.kp hK2 (by simp)) hb1 (hK.trans hK2 (fun _ _ h => h)))
                go_wp2_with fail
                refine (rand_Below3 b s M _ HA.out.1 (by omega) (by omega)).mono ?_
                rintro e w3 ⟨rfl, hR3, hK3⟩
                have hS4 := HA.out.2.1.kp hK3 (fun h => hb1 h.symm)
                have hK4 := HA.out.2.2.trans hK3 (fun i hi h => by omega)
                have b1 : (told (nxt s) % M != told (nxt s) % M) = false := by simp
                clear HA c2 f2 hS0 hSf
                go_wp2
                go_roundw
                case rel => exact ⟨k + 1, b, nxt s, by omega, by go_num, rfl, hR3, hS4, hb1, hb2, hK4⟩
                case measure => simp [intOf]; omega
            · have t0 : 0 ≤ told (nxt s) := (u64_told _).1
              go_wp2_with fail
              refine (ref_Next s _).mono ?_
              rintro e w2 ⟨rfl, hK2⟩
              have hz2 := hK2.size
              have c2 : w2.cell? ⟨W.heap.size + 1, 0, none⟩ = some (.int .u64 s) := (hS.kp hK2 (by simp)).cell rfl
              have f2 := (hS.kp hK2 (by simp)).free 0
              have l2 : W.heap.size + 1 < w2.heap.size := by omega
              have HA := Lib.hid (after_store (W := W) (w2 := w2) (b := b) s (nxt s) (hR.kp hK2 (by simp)) (hS.kp hK2 (by simp)) hb1 (hK.trans hK2 (fun _ _ h => h)))
              go_wp2_with fail
              refine (rand_Bit' b s _ HA.out.1).mono ?_
              rintro e w3 ⟨rfl, hR3, hK3⟩
              have hS4 := HA.out.2.1.kp hK3 (fun h => hb1 h.symm)
              have hK4 := HA.out.2.2.trans hK3 (fun i hi h => by omega)
              have b1 : ((told (nxt s) % 2 == 1) != (told (nxt s) % 2 == 1)) = false := by simp
              clear HA c2 f2 hS0 hSf
              go_wp2
              go_roundw
              case rel => exact ⟨k + 1, b, nxt s, by omega, by go_num, rfl, hR3, hS4, hb1, hb2, hK4⟩
              case measure => simp [intOf]; omega
            · by_cases hm : M < 0 ∨ 100000 < M
              · exfalso; omega
              · obtain ⟨n, hn⟩ : ∃ n : Nat, M = (n : Int) := ⟨M.toNat, by omega⟩
                have hn2 : n ≤ 100000 := by omega
                subst hn
                go_wp2_with fail
                refine (ref_Perm n s _ hn2).mono ?_
                rintro e w2 ⟨v2, rfl, hO2, hK2⟩
                obtain ⟨a2, cap2, rfl, _, _, hfrom2, hrow2⟩ := hO2.form
                rw [show ((permL s n).map (Value.int .i64)).length = n from by simp [permL_length]]
                have hz2 := hK2.size
                have c2 : w2.cell? ⟨W.heap.size + 1, 0, none⟩ = some (.int .u64 s) := (hS.kp hK2 (by simp)).cell rfl
                have f2 := (hS.kp hK2 (by simp)).free 0
                have l2 : W.heap.size + 1 < w2.heap.size := by omega
                have HA := Lib.hid (after_store (W := W) (w2 := w2) (b := b) s (permS s n) (hR.kp hK2 (by simp)) (hS.kp hK2 (by simp)) hb1 (hK.trans hK2 (fun _ _ h => h)))
                go_wp2_with fail
                have hz5 : ∃ g, ((w2.setCell ⟨W.heap.size + 1, 0, none⟩ (.int .u64 (permS s n))).alloc (.cells #[.int .u64 (permS s n)] 34)).heap.size = g := ⟨_, rfl⟩
                obtain ⟨g, hg⟩ := hz5
                refine (rand_Perm' b n g s _ HA.out.1 hn2 hg).mono ?_
                rintro e w3 ⟨rfl, hL3, hR3, hK3⟩
                have hrow3 : IntsAt w3 a2 (permL s n) := by
                  refine RowAt.kp (w := (w2.setCell _ _).alloc _) (fun j u hu => ?_) hK3 (fun p hp h => ?_)
                  · have h1 := (hrow2 j u hu).kp (Kp.set w2 ⟨W.heap.size + 1, 0, none⟩ (.int .u64 (permS s n))) (fun p hp h => by obtain ⟨q, rfl, h5, h6⟩ := hfrom2 p hp; simp at h; omega)
                    exact h1.kp ((Kp.refl (fun _ => False) _).alloc _) (by simp)
                  · obtain ⟨q, rfl, h5, h6⟩ := hfrom2 p hp; simp at h; omega
                go_wp2_with fail
                refine (ref_Ints _ _ n n _ _ (permL s n) (permL s n) _ hL3.intsAt hrow3 (permL_length s n) (permL_length s n) (by omega)).mono ?_
                rintro e w4 ⟨rfl, m4, rfl⟩
                have b1 : ((permL s n) == (permL s n)) = true := by simp
                rw [b1]
                have hR5 := hR3.drewN m4
                have hS5 := (HA.out.2.1.kp hK3 (fun h => hb1 h.symm)).drewN m4
                have hK5 := (HA.out.2.2.trans hK3 (fun i hi h => by omega)).drewN m4
                clear HA c2 f2 hS0 hSf hL3 hrow3 hO2 hrow2 hfrom2 b1
                go_wp2
                go_roundw
                case rel => exact ⟨k + 1, b, permS s n, by omega, by go_num, rfl, hR5, hS5, hb1, hb2, hK5⟩
                case measure => simp [intOf]; omega
            · have hRc : wr.cell? ⟨b, 0, none⟩ = some (.int .u64 s) := hR.cell rfl
              go_wp2_with fail
              refine (rand_Clone ⟨b, 0, none⟩ s _ hRc).mono ?_
              rintro e w2 ⟨rfl, rfl⟩
              go_wp2_with fail
              refine (rand_Next' b s _ (hR.alloc _)).mono ?_
              rintro e w3 ⟨rfl, hR3, hK3⟩
              have hC3 : RandBlk w3 wr.heap.size s := Blk.kp (Blk.new wr _ _) hK3 (by omega)
              have hS4 := (hS.alloc (.cells #[.int .u64 s] 48)).kp hK3 (fun h => hb1 h.symm)
              have hK4 := (hK.alloc (.cells #[.int .u64 s] 48)).trans hK3 (fun i hi h => by omega)
              clear hRc hS0 hSf
              go_wp2
              go_roundw
              case rel => exact ⟨k + 1, wr.heap.size, s, by omega, by go_num, rfl, hC3, hS4, by omega, by omega, hK4⟩
              case measure => simp [intOf]; omega
            · clear hS0 hSf
              go_wp2
              go_roundw
              case rel => exact ⟨k + 1, b, s, by omega, by go_num, rfl, hR, hS, hb1, hb2, hK⟩
              case measure => simp [intOf]; omega
          · have n2 : decide (N ≤ 100000) = false := by simp; omega
            obtain ⟨M, rfl⟩ : ∃ M, M = N := ⟨_, rfl⟩
            rcases kindCases K with rfl | rfl | rfl | rfl | rfl | ⟨t0, t1, t2, t3, t4⟩
            · go_wp2_with fail
              refine (ref_Next s _).mono ?_
              rintro e w2 ⟨rfl, hK2⟩
              have hz2 := hK2.size
              have c2 : w2.cell? ⟨W.heap.size + 1, 0, none⟩ = some (.int .u64 s) := (hS.kp hK2 (by simp)).cell rfl
              have f2 := (hS.kp hK2 (by simp)).free 0
              have l2 : W.heap.size + 1 < w2.heap.size := by omega
              have HA := Lib.hid (after_store (W := W) (w2 := w2) (b := b) s (nxt s) (hR.kp hK2 (by simp)) (hS.kp hK2 (by simp)) hb1 (hK.trans hK2 (fun _ _ h => h)))
              go_wp2_with fail
              refine (rand_Next' b s _ HA.out.1).mono ?_
              rintro e w3 ⟨rfl, hR3, hK3⟩
              have hS4 := HA.out.2.1.kp hK3 (fun h => hb1 h.symm)
              have hK4 := HA.out.2.2.trans hK3 (fun i hi h => by omega)
              have b1 : (told (nxt s) != told (nxt s)) = false := by simp
              clear HA c2 f2 hS0 hSf
              go_wp2
              go_roundw
              case rel => exact ⟨k + 1, b, nxt s, by omega, by go_num, rfl, hR3, hS4, hb1, hb2, hK4⟩
              case measure => simp [intOf]; omega
            · by_cases hm : M < 1
              · exfalso; omega
              · go_wp2_with fail
                refine (ref_Below s M _ (by omega) (by omega)).mono ?_
                rintro e w2 ⟨rfl, hK2⟩
                have hz2 := hK2.size
                have c2 : w2.cell? ⟨W.heap.size + 1, 0, none⟩ = some (.int .u64 s) := (hS.kp hK2 (by simp)).cell rfl
                have f2 := (hS.kp hK2 (by simp)).free 0
                have l2 : W.heap.size + 1 < w2.heap.size := by omega
                have HA := Lib.hid (after_store (W := W) (w2 := w2) (b := b) s (nxt s) (hR.kp hK2 (by simp)) (hS.kp hK2 (by simp)) hb1 (hK.trans hK2 (fun _ _ h => h)))
                go_wp2_with fail
                refine (rand_Below3 b s M _ HA.out.1 (by omega) (by omega)).mono ?_
                rintro e w3 ⟨rfl, hR3, hK3⟩
                have hS4 := HA.out.2.1.kp hK3 (fun h => hb1 h.symm)
                have hK4 := HA.out.2.2.trans hK3 (fun i hi h => by omega)
                have b1 : (told (nxt s) % M != told (nxt s) % M) = false := by simp
                clear HA c2 f2 hS0 hSf
                go_wp2
                go_roundw
                case rel => exact ⟨k + 1, b, nxt s, by omega, by go_num, rfl, hR3, hS4, hb1, hb2, hK4⟩
                case measure => simp [intOf]; omega
            · have t0 : 0 ≤ told (nxt s) := (u64_told _).1
              go_wp2_with fail
              refine (ref_Next s _).mono ?_
              rintro e w2 ⟨rfl, hK2⟩
              have hz2 := hK2.size
              have c2 : w2.cell? ⟨W.heap.size + 1, 0, none⟩ = some (.int .u64 s) := (hS.kp hK2 (by simp)).cell rfl
              have f2 := (hS.kp hK2 (by simp)).free 0
              have l2 : W.heap.size + 1 < w2.heap.size := by omega
              have HA := Lib.hid (after_store (W := W) (w2 := w2) (b := b) s (nxt s) (hR.kp hK2 (by simp)) (hS.kp hK2 (by simp)) hb1 (hK.trans hK2 (fun _ _ h => h)))
              go_wp2_with fail
              refine (rand_Bit' b s _ HA.out.1).mono ?_
              rintro e w3 ⟨rfl, hR3, hK3⟩
              have hS4 := HA.out.2.1.kp hK3 (fun h => hb1 h.symm)
              have hK4 := HA.out.2.2.trans hK3 (fun i hi h => by omega)
              have b1 : ((told (nxt s) % 2 == 1) != (told (nxt s) % 2 == 1)) = false := by simp
              clear HA c2 f2 hS0 hSf
              go_wp2
              go_roundw
              case rel => exact ⟨k + 1, b, nxt s, by omega, by go_num, rfl, hR3, hS4, hb1, hb2, hK4⟩
              case measure => simp [intOf]; omega
            · by_cases hm : M < 0 ∨ 100000 < M
              · go_wp2_with fail
                refine (ref_Perm_none s M _ hm).mono ?_
                rintro e w2 ⟨a2, cap2, rfl, hK2⟩
                have hz2 := hK2.size
                have c2 : w2.cell? ⟨W.heap.size + 1, 0, none⟩ = some (.int .u64 s) := (hS.kp hK2 (by simp)).cell rfl
                have f2 := (hS.kp hK2 (by simp)).free 0
                have l2 : W.heap.size + 1 < w2.heap.size := by omega
                have HA := Lib.hid (after_store (W := W) (w2 := w2) (b := b) s s (hR.kp hK2 (by simp)) (hS.kp hK2 (by simp)) hb1 (hK.trans hK2 (fun _ _ h => h)))
                go_wp2_with fail
                refine (rand_Perm_none _ M _ (.inr hm)).mono ?_
                rintro e w3 ⟨rfl, rfl⟩
                go_wp2_with fail
                refine (ref_Ints _ _ 0 0 _ _ [] [] _ (RowAt.nil _ _) (RowAt.nil _ _) rfl rfl (by omega)).mono ?_
                rintro e w4 ⟨rfl, m4, rfl⟩
                have hR3 := HA.out.1.drewN m4
                have hS4 := HA.out.2.1.drewN m4
                have hK4 := HA.out.2.2.drewN m4
                have b1 : (([] : List Int) == []) = true := by simp
                rw [b1]
                clear HA c2 f2 hS0 hSf
                go_wp2
                go_roundw
                case rel => exact ⟨k + 1, b, s, by omega, by go_num, rfl, hR3, hS4, hb1, hb2, hK4⟩
                case measure => simp [intOf]; omega
              · exfalso; omega
            · have hRc : wr.cell? ⟨b, 0, none⟩ = some (.int .u64 s) := hR.cell rfl
              go_wp2_with fail
              refine (rand_Clone ⟨b, 0, none⟩ s _ hRc).mono ?_
              rintro e w2 ⟨rfl, rfl⟩
              go_wp2_with fail
              refine (rand_Next' b s _ (hR.alloc _)).mono ?_
              rintro e w3 ⟨rfl, hR3, hK3⟩
              have hC3 : RandBlk w3 wr.heap.size s := Blk.kp (Blk.new wr _ _) hK3 (by omega)
              have hS4 := (hS.alloc (.cells #[.int .u64 s] 48)).kp hK3 (fun h => hb1 h.symm)
              have hK4 := (hK.alloc (.cells #[.int .u64 s] 48)).trans hK3 (fun i hi h => by omega)
              clear hRc hS0 hSf
              go_wp2
              go_roundw
              case rel => exact ⟨k + 1, wr.heap.size, s, by omega, by go_num, rfl, hC3, hS4, by omega, by omega, hK4⟩
              case measure => simp [intOf]; omega
            · clear hS0 hSf
              go_wp2
              go_roundw
              case rel => exact ⟨k + 1, b, s, by omega, by go_num, rfl, hR, hS, hb1, hb2, hK⟩
              case measure => simp [intOf]; omega
        · have n1 : decide ((300 : Int) < N) = false := by simp; omega
          obtain ⟨M, rfl⟩ : ∃ M, M = N := ⟨_, rfl⟩
          rcases kindCases K with rfl | rfl | rfl | rfl | rfl | ⟨t0, t1, t2, t3, t4⟩
          · go_wp2_with fail
            refine (ref_Next s _).mono ?_
            rintro e w2 ⟨rfl, hK2⟩
            have hz2 := hK2.size
            have c2 : w2.cell? ⟨W.heap.size + 1, 0, none⟩ = some (.int .u64 s) := (hS.kp hK2 (by simp)).cell rfl
            have f2 := (hS.kp hK2 (by simp)).free 0
            have l2 : W.heap.size + 1 < w2.heap.size := by omega
            have HA := Lib.hid (after_store (W := W) (w2 := w2) (b := b) s (nxt s) (hR.kp hK2 (by simp)) (hS.kp hK2 (by simp)) hb1 (hK.trans hK2 (fun _ _ h => h)))
            go_wp2_with fail
            refine (rand_Next' b s _ HA.out.1).mono ?_
            rintro e w3 ⟨rfl, hR3, hK3⟩
            have hS4 := HA.out.2.1.kp hK3 (fun h => hb1 h.symm)
            have hK4 := HA.out.2.2.trans hK3 (fun i hi h => by omega)
            have b1 : (told (nxt s) != told (nxt s)) = false := by simp
            clear HA c2 f2 hS0 hSf
            go_wp2
            go_roundw
            case rel => exact ⟨k + 1, b, nxt s, by omega, by go_num, rfl, hR3, hS4, hb1, hb2, hK4⟩
            case measure => simp [intOf]; omega
          · by_cases hm : M < 1
            · go_wp2_with fail
              refine (ref_Below_less s M _ hm).mono ?_
              rintro e w2 ⟨rfl, hK2⟩
              have hz2 := hK2.size
              have c2 : w2.cell? ⟨W.heap.size + 1, 0, none⟩ = some (.int .u64 s) := (hS.kp hK2 (by simp)).cell rfl
              have f2 := (hS.kp hK2 (by simp)).free 0
              have l2 : W.heap.size + 1 < w2.heap.size := by omega
              have HA := Lib.hid (after_store (W := W) (w2 := w2) (b := b) s s (hR.kp hK2 (by simp)) (hS.kp hK2 (by simp)) hb1 (hK.trans hK2 (fun _ _ h => h)))
              go_wp2_with fail
              refine (rand_Below_less _ M _ hm).mono ?_
              rintro e w3 ⟨rfl, rfl⟩
              have hR3 := HA.out.1
              have hS4 := HA.out.2.1
              have hK4 := HA.out.2.2
              clear HA c2 f2 hS0 hSf
              go_wp2
              go_roundw
              case rel => exact ⟨k + 1, b, s, by omega, by go_num, rfl, hR3, hS4, hb1, hb2, hK4⟩
              case measure => simp [intOf]; omega
            · go_wp2_with fail
              refine (ref_Below s M _ (by omega) (by omega)).mono ?_
              rintro e w2 ⟨rfl, hK2⟩
              have hz2 := hK2.size
              have c2 : w2.cell? ⟨W.heap.size + 1, 0, none⟩ = some (.int .u64 s) := (hS.kp hK2 (by simp)).cell rfl
              have f2 := (hS.kp hK2 (by simp)).free 0
              have l2 : W.heap.size + 1 < w2.heap.size := by omega
              have HA := Lib.hid (after_store (W := W) (w2 := w2) (b := b) s (nxt s) (hR.kp hK2 (by simp)) (hS.kp hK2 (by simp)) hb1 (hK.trans hK2 (fun _ _ h => h)))
              go_wp2_with fail
              refine (rand_Below3 b s M _ HA.out.1 (by omega) (by omega)).mono ?_
              rintro e w3 ⟨rfl, hR3, hK3⟩
              have hS4 := HA.out.2.1.kp hK3 (fun h => hb1 h.symm)
              have hK4 := HA.out.2.2.trans hK3 (fun i hi h => by omega)
              have b1 : (told (nxt s) % M != told (nxt s) % M) = false := by simp
              clear HA c2 f2 hS0 hSf
              go_wp2
              go_roundw
              case rel => exact ⟨k + 1, b, nxt s, by omega, by go_num, rfl, hR3, hS4, hb1, hb2, hK4⟩
              case measure => simp [intOf]; omega
          · have t0 : 0 ≤ told (nxt s) := (u64_told _).1
            go_wp2_with fail
            refine (ref_Next s _).mono ?_
            rintro e w2 ⟨rfl, hK2⟩
            have hz2 := hK2.size
            have c2 : w2.cell? ⟨W.heap.size + 1, 0, none⟩ = some (.int .u64 s) := (hS.kp hK2 (by simp)).cell rfl
            have f2 := (hS.kp hK2 (by simp)).free 0
            have l2 : W.heap.size + 1 < w2.heap.size := by omega
            have HA := Lib.hid (after_store (W := W) (w2 := w2) (b := b) s (nxt s) (hR.kp hK2 (by simp)) (hS.kp hK2 (by simp)) hb1 (hK.trans hK2 (fun _ _ h => h)))
            go_wp2_with fail
            refine (rand_Bit' b s _ HA.out.1).mono ?_
            rintro e w3 ⟨rfl, hR3, hK3⟩
            have hS4 := HA.out.2.1.kp hK3 (fun h => hb1 h.symm)
            have hK4 := HA.out.2.2.trans hK3 (fun i hi h => by omega)
            have b1 : ((told (nxt s) % 2 == 1) != (told (nxt s) % 2 == 1)) = false := by simp
            clear HA c2 f2 hS0 hSf
            go_wp2
            go_roundw
            case rel => exact ⟨k + 1, b, nxt s, by omega, by go_num, rfl, hR3, hS4, hb1, hb2, hK4⟩
            case measure => simp [intOf]; omega
          · by_cases hm : M < 0 ∨ 100000 < M
            · go_wp2_with fail
              refine (ref_Perm_none s M _ hm).mono ?_
              rintro e w2 ⟨a2, cap2, rfl, hK2⟩
              have hz2 := hK2.size
              have c2 : w2.cell? ⟨W.heap.size + 1, 0, none⟩ = some (.int .u64 s) := (hS.kp hK2 (by simp)).cell rfl
              have f2 := (hS.kp hK2 (by simp)).free 0
              have l2 : W.heap.size + 1 < w2.heap.size := by omega
              have HA := Lib.hid (after_store (W := W) (w2 := w2) (b := b) s s (hR.kp hK2 (by simp)) (hS.kp hK2 (by simp)) hb1 (hK.trans hK2 (fun _ _ h => h)))
              go_wp2_with fail
              refine (rand_Perm_none _ M _ (.inr hm)).mono ?_
              rintro e w3 ⟨rfl, rfl⟩
              go_wp2_with fail
              refine (ref_Ints _ _ 0 0 _ _ [] [] _ (RowAt.nil _ _) (RowAt.nil _ _) rfl rfl (by omega)).mono ?_
              rintro e w4 ⟨rfl, m4, rfl⟩
              have hR3 := HA.out.1.drewN m4
              have hS4 := HA.out.2.1.drewN m4
              have hK4 := HA.out.2.2.drewN m4
              have b1 : (([] : List Int) == []) = true := by simp
              rw [b1]
              clear HA c2 f2 hS0 hSf
              go_wp2
              go_roundw
              case rel => exact ⟨k + 1, b, s, by omega, by go_num, rfl, hR3, hS4, hb1, hb2, hK4⟩
              case measure => simp [intOf]; omega
            · obtain ⟨n, hn⟩ : ∃ n : Nat, M = (n : Int) := ⟨M.toNat, by omega⟩
              have hn2 : n ≤ 100000 := by omega
              subst hn
              go_wp2_with fail
              refine (ref_Perm n s _ hn2).mono ?_
              rintro e w2 ⟨v2, rfl, hO2, hK2⟩
              obtain ⟨a2, cap2, rfl, _, _, hfrom2, hrow2⟩ := hO2.form
              rw [show ((permL s n).map (Value.int .i64)).length = n from by simp [permL_length]]
              have hz2 := hK2.size
              have c2 : w2.cell? ⟨W.heap.size + 1, 0, none⟩ = some (.int .u64 s) := (hS.kp hK2 (by simp)).cell rfl
              have f2 := (hS.kp hK2 (by simp)).free 0
              have l2 : W.heap.size + 1 < w2.heap.size := by omega
              have HA := Lib.hid (after_store (W := W) (w2 := w2) (b := b) s (permS s n) (hR.kp hK2 (by simp)) (hS.kp hK2 (by simp)) hb1 (hK.trans hK2 (fun _ _ h => h)))
              go_wp2_with fail
              have hz5 : ∃ g, ((w2.setCell ⟨W.heap.size + 1, 0, none⟩ (.int .u64 (permS s n))).alloc (.cells #[.int .u64 (permS s n)] 34)).heap.size = g := ⟨_, rfl⟩
              obtain ⟨g, hg⟩ := hz5
              refine (rand_Perm' b n g s _ HA.out.1 hn2 hg).mono ?_
              rintro e w3 ⟨rfl, hL3, hR3, hK3⟩
              have hrow3 : IntsAt w3 a2 (permL s n) := by
                refine RowAt.kp (w := (w2.setCell _ _).alloc _) (fun j u hu => ?_) hK3 (fun p hp h => ?_)
                · have h1 := (hrow2 j u hu).kp (Kp.set w2 ⟨W.heap.size + 1, 0, none⟩ (.int .u64 (permS s n))) (fun p hp h => by obtain ⟨q, rfl, h5, h6⟩ := hfrom2 p hp; simp at h; omega)
                  exact h1.kp ((Kp.refl (fun _ => False) _).alloc _) (by simp)
                · obtain ⟨q, rfl, h5, h6⟩ := hfrom2 p hp; simp at h; omega
              go_wp2_with fail
              refine (ref_Ints _ _ n n _ _ (permL s n) (permL s n) _ hL3.intsAt hrow3 (permL_length s n) (permL_length s n) (by omega)).mono ?_
              rintro e w4 ⟨rfl, m4, rfl⟩
              have b1 : ((permL s n) == (permL s n)) = true := by simp
              rw [b1]
              have hR5 := hR3.drewN m4
              have hS5 := (HA.out.2.1.kp hK3 (fun h => hb1 h.symm)).drewN m4
              have hK5 := (HA.out.2.2.trans hK3 (fun i hi h => by omega)).drewN m4
              clear HA c2 f2 hS0 hSf hL3 hrow3 hO2 hrow2 hfrom2 b1
              go_wp2
              go_roundw
              case rel => exact ⟨k + 1, b, permS s n, by omega, by go_num, rfl, hR5, hS5, hb1, hb2, hK5⟩
              case measure => simp [intOf]; omega
          · have hRc : wr.cell? ⟨b, 0, none⟩ = some (.int .u64 s) := hR.cell rfl
            go_wp2_with fail
            refine (rand_Clone ⟨b, 0, none⟩ s _ hRc).mono ?_
            rintro e w2 ⟨rfl, rfl⟩
            go_wp2_with fail
            refine (rand_Next' b s _ (hR.alloc _)).mono ?_
            rintro e w3 ⟨rfl, hR3, hK3⟩
            have hC3 : RandBlk w3 wr.heap.size s := Blk.kp (Blk.new wr _ _) hK3 (by omega)
            have hS4 := (hS.alloc (.cells #[.int .u64 s] 48)).kp hK3 (fun h => hb1 h.symm)
            have hK4 := (hK.alloc (.cells #[.int .u64 s] 48)).trans hK3 (fun i hi h => by omega)
            clear hRc hS0 hSf
            go_wp2
            go_roundw
            case rel => exact ⟨k + 1, wr.heap.size, s, by omega, by go_num, rfl, hC3, hS4, by omega, by omega, hK4⟩
            case measure => simp [intOf]; omega
          · clear hS0 hSf
            go_wp2
            go_roundw
            case rel => exact ⟨k + 1, b, s, by omega, by go_num, rfl, hR, hS, hb1, hb2, hK⟩
            case measure => simp [intOf]; omega
      · go_wp2_with fail
        refine (ref_Next s _).mono ?_
        rintro e w2 ⟨rfl, hK2⟩
        have hR2 := hR.kp hK2 (by simp)
        go_wp2_with fail
        refine (rand_Next' b s _ (hR2.alloc _)).mono ?_
        rintro e w3 ⟨rfl, hR3, hK3⟩
        have b1 : (told (nxt s) == told (nxt s)) = true := by simp
        go_wp2
        go_ret
        exact ⟨rfl, Kp.below (((hK.trans hK2 (fun _ _ h => h)).alloc _).trans hK3 (fun i hi h => by omega)) (Nat.le_refl _) (fun _ _ h => h)⟩

end Go.Proofs.Ytmfhbjfphohfkaa
