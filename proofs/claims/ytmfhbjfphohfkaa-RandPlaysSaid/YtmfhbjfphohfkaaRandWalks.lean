/-
  What the generator's methods do (layer 4), said of blocks.
-/
import Derived.Test.YtmfhbjfphohfkaaRows
import Derived.Test.YtmfhbjfphohfkaaRandPlain
import Derived.Deep.QuietTactic
import Derived.BigQuiet
import Derived.BigRegion
namespace Go.Proofs.Ytmfhbjfphohfkaa
open Go.RowKit

/-- a generator's block -/
abbrev RandBlk (w : World) (b : Nat) (s : Int) : Prop := Blk w b #[.int .u64 s] 48

theorem rand_New (s : Int) (w : World) :
    Calls Try.prog 6 #[.int .u64 s] w fun e w' => e = .returned (.pointer (some ⟨w.heap.size, 0, none⟩)) ∧ w.alloc (.cells #[.int .u64 s] 48) = w' := by
  go_enter Try.func6, Try.ntmps6
  go_wp2
  go_ret
  exact ⟨rfl, rfl⟩

theorem rand_Next_nil (w : World) :
    Calls Try.prog 10 #[.pointer none] w fun e w' => e = .returned (.int .u64 0) ∧ w = w' := by
  go_enter Try.func10, Try.ntmps10
  go_wp2
  go_ret
  exact ⟨rfl, rfl⟩

theorem rand_Next (a : Addr) (s : Int) (w : World) (hc : w.cell? a = some (.int .u64 s)) (hf : w.frozen? a = false) :
    Calls Try.prog 10 #[.pointer (some a)] w fun e w' => e = .returned (.int .u64 (told (nxt s))) ∧ w.setCell a (.int .u64 (nxt s)) = w' := by
  go_enter Try.func10, Try.ntmps10
  go_wp2
  go_ret
  exact ⟨rfl, rfl⟩

theorem rand_Below_nil (n : Int) (w : World) :
    Calls Try.prog 13 #[.pointer none, .int .i64 n] w fun e w' => e = .returned (.int .i64 0) ∧ w = w' := by
  go_enter Try.func13, Try.ntmps13
  go_wp2
  go_ret
  exact ⟨rfl, rfl⟩

theorem rand_Below_less (a : Addr) (n : Int) (w : World) (hn : n < 1) :
    Calls Try.prog 13 #[.pointer (some a), .int .i64 n] w fun e w' => e = .returned (.int .i64 0) ∧ w = w' := by
  go_enter Try.func13, Try.ntmps13
  go_wp2
  go_ret
  exact ⟨rfl, rfl⟩

theorem rand_Below (a : Addr) (s n : Int) (w : World) (hc : w.cell? a = some (.int .u64 s)) (hf : w.frozen? a = false) (hn : 1 ≤ n) (hn2 : n ≤ 9223372036854775807) :
    Calls Try.prog 13 #[.pointer (some a), .int .i64 n] w fun e w' => e = .returned (.int .i64 (told (nxt s) % n)) ∧ w.setCell a (.int .u64 (nxt s)) = w' := by
  have t0 : 0 ≤ told (nxt s) := (u64_told _).1
  have t1 : 0 ≤ told (nxt s) % n := Int.emod_nonneg _ (by omega)
  have t2 : told (nxt s) % n < n := Int.emod_lt_of_pos _ (by omega)
  go_enter Try.func13, Try.ntmps13
  go_wp2_with (go_at_call 10; refine (rand_Next _ _ _ hc hf).mono ?_; rintro e w' ⟨rfl, rfl⟩)
  go_ret
  exact ⟨rfl, rfl⟩

theorem and_one_u64' (n : Int) (h : U64 n) : bits .and .u64 n 1 = n % 2 := by
  rw [Go.u64_and n 1 h.1 h.2 (by decide) (by decide), show (1 : Int).toNat = 1 from rfl, Nat.and_one_is_mod]
  have := h.1
  omega

theorem rand_Bit_nil (w : World) :
    Calls Try.prog 14 #[.pointer none] w fun e w' => e = .returned (.bool false) ∧ w = w' := by
  go_enter Try.func14, Try.ntmps14
  go_wp2_with (go_at_call 10; refine (rand_Next_nil _).mono ?_; rintro e w' ⟨rfl, rfl⟩)
  go_ret
  exact ⟨rfl, rfl⟩

theorem rand_Bit (a : Addr) (s : Int) (w : World) (hc : w.cell? a = some (.int .u64 s)) (hf : w.frozen? a = false) :
    Calls Try.prog 14 #[.pointer (some a)] w fun e w' => e = .returned (.bool (told (nxt s) % 2 == 1)) ∧ w.setCell a (.int .u64 (nxt s)) = w' := by
  go_enter Try.func14, Try.ntmps14
  go_wp2_with (go_at_call 10; refine (rand_Next _ _ _ hc hf).mono ?_; rintro e w' ⟨rfl, rfl⟩)
  go_ret
  have e := and_one_u64' (told (nxt s)) (u64_told _)
  rw [← e]
  exact ⟨rfl, rfl⟩

theorem rand_Clone_nil (w : World) :
    Calls Try.prog 16 #[.pointer none] w fun e w' => e = .returned (.pointer none) ∧ w = w' := by
  go_enter Try.func16, Try.ntmps16
  go_wp2
  go_ret
  exact ⟨rfl, rfl⟩

theorem rand_Clone (a : Addr) (s : Int) (w : World) (hc : w.cell? a = some (.int .u64 s)) :
    Calls Try.prog 16 #[.pointer (some a)] w fun e w' => e = .returned (.pointer (some ⟨w.heap.size, 0, none⟩)) ∧ w.alloc (.cells #[.int .u64 s] 48) = w' := by
  go_enter Try.func16, Try.ntmps16
  go_wp2
  go_ret
  exact ⟨rfl, rfl⟩

theorem ref_apart (a b : Int) (w : World) (ha : U64 a) (hb : U64 b) :
    Calls Try.prog 17 #[.int .u64 a, .int .u64 b] w fun e w' => e = .returned (.int .u64 (bits .xor .u64 a b)) ∧ w = w' := by
  have h := Lib.hid (apart_eq ha hb)
  go_enter Try.func17, Try.ntmps17
  go_wp2
  go_ret
  rw [← h.out]
  exact ⟨rfl, rfl⟩

theorem tdiv_u64 {n k : Int} (h : U64 n) (hk : 0 < k) : IntKind.u64.wrap (n.tdiv k) = n / k := by
  rw [Int.tdiv_eq_ediv_of_nonneg h.1]
  exact u64_wrap_id (u64_div h k hk)

theorem ref_Next (s : Int) (w : World) :
    Calls Try.prog 11 #[.agg #[.int .u64 s]] w fun e w' => e = .returned (.tuple #[.int .u64 (told (nxt s)), .agg #[.int .u64 (nxt s)]]) ∧ Kp (fun _ => False) w w' := by
  have hn : IntKind.u64.wrap (s + 11400714819323198485) = nxt s := rfl
  have d1 : IntKind.u64.wrap ((nxt s).tdiv 1073741824) = nxt s / 1073741824 := tdiv_u64 (u64_nxt s) (by decide)
  have d2 : IntKind.u64.wrap ((mixA (nxt s)).tdiv 134217728) = mixA (nxt s) / 134217728 := tdiv_u64 (u64_mixA _) (by decide)
  have d3 : IntKind.u64.wrap ((mixB (mixA (nxt s))).tdiv 2147483648) = mixB (mixA (nxt s)) / 2147483648 := tdiv_u64 (u64_mixB _) (by decide)
  have hA : IntKind.u64.wrap (bits .xor .u64 (nxt s) (nxt s / 1073741824) * 13787848793156543929) = mixA (nxt s) := rfl
  have hB : IntKind.u64.wrap (bits .xor .u64 (mixA (nxt s)) (mixA (nxt s) / 134217728) * 10723151780598845931) = mixB (mixA (nxt s)) := rfl
  go_enter Try.func11, Try.ntmps11
  go_wp2_with fail
  refine (ref_apart _ _ _ (u64_nxt s) (u64_div (u64_nxt s) _ (by decide))).mono ?_
  rintro e w' ⟨rfl, rfl⟩
  go_wp2_with fail
  refine (ref_apart _ _ _ (u64_mixA _) (u64_div (u64_mixA _) _ (by decide))).mono ?_
  rintro e w' ⟨rfl, rfl⟩
  go_wp2_with fail
  refine (ref_apart _ _ _ (u64_mixB _) (u64_div (u64_mixB _) _ (by decide))).mono ?_
  rintro e w' ⟨rfl, rfl⟩
  go_wp2_with fail
  exact bodyPost_ret (v := .tuple #[.int .u64 (told (nxt s)), .agg #[.int .u64 (nxt s)]]) (by simp [results, Try.results11, go_sem, told, mixC]) rfl ⟨rfl, ((Kp.refl _ _).alloc _).alloc _⟩

theorem rand_Below' (b : Nat) (s n : Int) (w : World) (hb : RandBlk w b s) (hn : 1 ≤ n) (hn2 : n ≤ 9223372036854775807) :
    Calls Try.prog 13 #[.pointer (some ⟨b, 0, none⟩), .int .i64 n] w fun e w' => ∃ k, e = .returned (.int .i64 k) ∧ Hid (k = told (nxt s) % n) ∧ 0 ≤ k ∧ k < n ∧ RandBlk w' b (nxt s) ∧ Kp (· = b) w w' := by
  refine (rand_Below _ s n w (hb.cell rfl) (hb.free 0) hn hn2).mono ?_
  rintro e w' ⟨rfl, rfl⟩
  exact ⟨_, rfl, rfl, Int.emod_nonneg _ (by omega), Int.emod_lt_of_pos _ (by omega), hb.set_same 0 _, (Kp.refl (· = b) w).setCell (p := ⟨b, 0, none⟩) (fun _ => rfl) _⟩

theorem Try.info3 : (Try.prog.info? 3).map (fun i => (i.zero, i.size, i.bytes)) = some (some (.int .i64 0), 1, 8) := by kernel_rfl

theorem made_ints (n : Nat) : madeCells #[.int .i64 0] n = ints (List.replicate n 0) := by
  apply Array.ext
  · simp [madeCells, ints]
  · intro i h1 h2
    simp [madeCells, ints, Nat.mod_one]

theorem rand_Perm_none (v : Option Addr) (n : Int) (w : World) (h : v = none ∨ n < 0 ∨ 100000 < n) :
    Calls Try.prog 7 #[.pointer v, .int .i64 n] w fun e w' => e = .returned (.slice none 0 0) ∧ w = w' := by
  cases v with
  | none =>
    go_enter Try.func7, Try.ntmps7
    go_wp2
    go_ret
    exact ⟨rfl, rfl⟩
  | some a =>
    rcases h with h | h | h
    · cases h
    · go_enter Try.func7, Try.ntmps7
      go_wp2
      go_ret
      exact ⟨rfl, rfl⟩
    · have h' : ¬ n < 0 := by omega
      go_enter Try.func7, Try.ntmps7
      go_wp2
      go_ret
      exact ⟨rfl, rfl⟩

set_option maxHeartbeats 400000 in
theorem rand_Perm (b n : Nat) (s : Int) (w : World) (hb : RandBlk w b s) (hn : n ≤ 100000) :
    Calls Try.prog 7 #[.pointer (some ⟨b, 0, none⟩), .int .i64 n] w fun e w' =>
      e = .returned (.slice (some ⟨w.heap.size, 0, none⟩) n n) ∧ Blk w' w.heap.size (ints (permL s n)) 3 ∧ RandBlk w' b (permS s n) ∧ Kp (· = b) w w' := by
  obtain ⟨i0, hi, hz0, hz1, hz2⟩ := info_parts Try.info3
  have hmk : ∀ u : World, (Instr.makeSlice 25 (.int .i64 (n : Int)) (.int .i64 (n : Int))).run Try.prog u =
      .ok (.slice (some ⟨u.heap.size, 0, none⟩) n n) (u.alloc (.cells (madeCells #[.int .i64 0] n) 3)) := fun u => by
    have h := run_make (P := Try.prog) u 25 3 i0 (.int .i64 0) Try.underlying25 hi hz0 .i64 .i64 (n : Int) (n : Int) (by omega) (Int.le_refl _) (by rw [hz2]; omega) (by omega)
    simpa [hz1, Value.cells] using h
  clear hi hz0 hz1 hz2 i0
  have hblt := hb.lt
  have g1 : decide ((n : Int) < 0) = false := by simp
  have g2 : decide ((100000 : Int) < (n : Int)) = false := by simp; omega
  have hmade := made_ints n
  go_enter Try.func7, Try.ntmps7
  go_wp2
  go_loopw [22] (fun i wr => ∃ (k : Nat) (l : List Int), k ≤ n ∧ i = .int .i64 k ∧ l.length = n ∧ (∀ j, j < k → l[j]? = some (j : Int)) ∧ Blk wr w.heap.size (ints l) 3 ∧ RandBlk wr b s ∧ Kp (· = b) w wr) (fun i _ => n - (intOf i).toNat)
  case atStart => exact ⟨0, List.replicate n 0, Nat.zero_le _, rfl, by simp, fun j hj => by omega, by rw [← hmade]; exact Blk.new _ _ _, hb.alloc _, (Kp.refl _ _).alloc _⟩
  case round =>
    obtain ⟨k, l, hk, rfl, hl, hle, hB, hR, hK⟩ := hrel
    have HL := Lib.hid hl; clear hl
    have HLE := Lib.hid hle; clear hle
    by_cases hlt : k < n
    · have hc := hB.cell (ints_at (l := l) (i := k) (by rw [HL.out]; exact hlt))
      have hf := hB.free k
      go_wp2
      go_roundw
      case rel =>
        refine ⟨k + 1, l.set k k, by omega, by go_num, by simp [HL.out], fun j hj => ?_, ?_, hR.set_other (by simp; omega) _, hK.setCell (by simp) _⟩
        · rw [List.getElem?_set]
          by_cases e : k = j
          · subst e; simp [HL.out, hlt]
          · rw [if_neg e]; exact HLE.out j (by omega)
        · rw [← ints_set]; exact hB.set_same k _
      case measure => simp [intOf]; omega
    · have e : l = countUp n := by
        have ek : k = n := by omega
        apply List.ext_getElem?
        intro j
        by_cases hj : j < n
        · rw [HLE.out j (by omega)]; simp [countUp, hj]
        · rw [List.getElem?_eq_none (by rw [HL.out]; omega), List.getElem?_eq_none (by simp [countUp]; omega)]
      subst e
      clear HLE HL
      go_wp2
      obtain ⟨wo, rfl⟩ : ∃ wo : World, wo = wr := ⟨_, rfl⟩
      go_loopw [7] (fun i wr => ∃ (x s' : Int) (l : List Int), i = .int .i64 x ∧ -1 ≤ x ∧ x < n ∧ l.length = n ∧ shuf x.toNat s' l = permL s n ∧ shufS x.toNat s' = permS s n ∧ Blk wr w.heap.size (ints l) 3 ∧ RandBlk wr b s' ∧ Kp (· = b) w wr) (fun i _ => (intOf i).toNat)
      case atStart =>
        have e1 : ((n : Int) - 1).toNat = n - 1 := by omega
        exact ⟨(n : Int) - 1, s, countUp n, rfl, by omega, by omega, by simp [countUp], by rw [e1]; rfl, by rw [e1]; rfl, hB, hR, hK⟩
      case round =>
        clear hB hR hK
        obtain ⟨x, s', l, rfl, hx1, hx2, hl, hs1, hs2, hB, hR, hK⟩ := hrel
        have HL := Lib.hid hl; clear hl
        have HS1 := Lib.hid hs1; clear hs1
        have HS2 := Lib.hid hs2; clear hs2
        by_cases hpos : 0 < x
        · go_wp2_with fail
          refine (rand_Below' b s' _ _ hR (by omega) (by omega)).mono ?_
          rintro e w1 ⟨q, rfl, HQ, hq1, hq2, hR1, hK1⟩
          have hB1 := hB.kp hK1 (by omega)
          have hcx := hB1.cell (ints_at (l := l) (i := x.toNat) (by rw [HL.out]; omega))
          have hcq := hB1.cell (ints_at (l := l) (i := q.toNat) (by rw [HL.out]; omega))
          have hfx := hB1.free x.toNat
          have hfq := hB1.free q.toNat
          obtain ⟨v', hv'⟩ := cell_after_set (p := ⟨w.heap.size, x.toNat, none⟩) (.int .i64 (gi l q.toNat)) hcq
          go_wp2
          go_region
          all_goals go_wp2
          all_goals go_roundw
          case rel =>
            refine ⟨x - 1, nxt s', swapL l x.toNat q.toNat, rfl, by omega, by omega, by rw [swapL_length]; exact HL.out, ?_, ?_, ?_, ?_, ?_⟩
            · have h := HS1.out
              rw [show x.toNat = (x - 1).toNat + 1 from by omega] at h
              simp only [shuf] at h
              rw [show (((x - 1).toNat : Nat) : Int) + 2 = x + 1 from by omega, show (x - 1).toNat + 1 = x.toNat from by omega] at h
              rw [HQ.out]
              exact h
            · have h := HS2.out
              rw [show x.toNat = (x - 1).toNat + 1 from by omega] at h
              exact h
            · unfold swapL
              rw [← ints_set, ← ints_set]
              exact ((hB1.set_same x.toNat _).set_same q.toNat _).drew
            · exact ((hR1.set_other (p := ⟨w.heap.size, x.toNat, none⟩) (by simp; omega) _).set_other (p := ⟨w.heap.size, q.toNat, none⟩) (by simp; omega) _).drew
            · exact (((hK.trans hK1 (fun _ _ h => h)).setCell (p := ⟨w.heap.size, x.toNat, none⟩) (by simp) _).setCell (p := ⟨w.heap.size, q.toNat, none⟩) (by simp) _).drew
          case measure => simp [intOf]; omega
        · have h0 : x.toNat = 0 := by omega
          rw [h0] at HS1 HS2
          go_wp2
          go_ret
          exact ⟨rfl, by rw [← HS1.out]; exact hB, by rw [← HS2.out]; exact hR, hK⟩

theorem rand_Perm' (b n g : Nat) (s : Int) (w : World) (hb : RandBlk w b s) (hn : n ≤ 100000) (hg : w.heap.size = g) :
    Calls Try.prog 7 #[.pointer (some ⟨b, 0, none⟩), .int .i64 n] w fun e w' =>
      e = .returned (.slice (some ⟨g, 0, none⟩) n n) ∧ Blk w' g (ints (permL s n)) 3 ∧ RandBlk w' b (permS s n) ∧ Kp (· = b) w w' := by
  subst hg
  exact rand_Perm b n s w hb hn

theorem rand_Next' (b : Nat) (s : Int) (w : World) (hb : RandBlk w b s) :
    Calls Try.prog 10 #[.pointer (some ⟨b, 0, none⟩)] w fun e w' => e = .returned (.int .u64 (told (nxt s))) ∧ RandBlk w' b (nxt s) ∧ Kp (· = b) w w' := by
  refine (rand_Next _ s w (hb.cell rfl) (hb.free 0)).mono ?_
  rintro e w' ⟨rfl, rfl⟩
  exact ⟨rfl, hb.set_same 0 _, (Kp.refl (· = b) w).setCell (p := ⟨b, 0, none⟩) (fun _ => rfl) _⟩

theorem ref_Below_less (s n : Int) (w : World) (hn : n < 1) :
    Calls Try.prog 12 #[.agg #[.int .u64 s], .int .i64 n] w fun e w' => e = .returned (.tuple #[.int .i64 0, .agg #[.int .u64 s]]) ∧ Kp (fun _ => False) w w' := by
  go_enter Try.func12, Try.ntmps12
  go_wp2
  go_region
  all_goals go_wp2
  all_goals exact bodyPost_ret (v := .tuple #[.int .i64 0, .agg #[.int .u64 s]]) (by simp [results, Try.results12, go_sem]) rfl ⟨rfl, (((Kp.refl _ _).alloc _).alloc _).drew⟩

theorem ref_Below (s n : Int) (w : World) (hn : 1 ≤ n) (hn2 : n ≤ 9223372036854775807) :
    Calls Try.prog 12 #[.agg #[.int .u64 s], .int .i64 n] w fun e w' => e = .returned (.tuple #[.int .i64 (told (nxt s) % n), .agg #[.int .u64 (nxt s)]]) ∧ Kp (fun _ => False) w w' := by
  have t0 : 0 ≤ told (nxt s) := (u64_told _).1
  have t1 : 0 ≤ told (nxt s) % n := Int.emod_nonneg _ (by omega)
  have t2 : told (nxt s) % n < n := Int.emod_lt_of_pos _ (by omega)
  go_enter Try.func12, Try.ntmps12
  go_wp2_with fail
  refine (ref_Next _ _).mono ?_
  rintro e w1 ⟨rfl, hK1⟩
  have hz : w.heap.size + 2 ≤ w1.heap.size := by have := hK1.size; simpa using this
  have hR1 : Blk w1 (w.heap.size + 1) #[.int .u64 0] 34 := Blk.kp (w := (w.alloc _).alloc _) (by simpa using Blk.new (w.alloc _) _ _) hK1 (by simp)
  have hc1 : w1.cell? ⟨w.heap.size + 1, 0, none⟩ = some (.int .u64 0) := hR1.cell rfl
  have hf1 := hR1.free 0
  have hlt1 : w.heap.size + 1 < w1.heap.size := by omega
  go_wp2
  go_region
  all_goals go_wp2
  all_goals exact bodyPost_ret (v := .tuple #[.int .i64 (told (nxt s) % n), .agg #[.int .u64 (nxt s)]]) (by simp [results, Try.results12, go_sem, hlt1, World.cell?_setCell_same _ _ _ hc1]) rfl ⟨rfl, ((((((Kp.refl _ w).alloc _).alloc _).trans hK1 (fun _ _ h => h)).setCell (p := ⟨w.heap.size + 1, 0, none⟩) (fun h => absurd h (by simp)) _).alloc _).drew⟩

theorem rand_Below3 (b : Nat) (s n : Int) (w : World) (hb : RandBlk w b s) (hn : 1 ≤ n) (hn2 : n ≤ 9223372036854775807) :
    Calls Try.prog 13 #[.pointer (some ⟨b, 0, none⟩), .int .i64 n] w fun e w' => e = .returned (.int .i64 (told (nxt s) % n)) ∧ RandBlk w' b (nxt s) ∧ Kp (· = b) w w' := by
  refine (rand_Below _ s n w (hb.cell rfl) (hb.free 0) hn hn2).mono ?_
  rintro e w' ⟨rfl, rfl⟩
  exact ⟨rfl, hb.set_same 0 _, Kp.set w ⟨b, 0, none⟩ _⟩

theorem rand_Bit' (b : Nat) (s : Int) (w : World) (hb : RandBlk w b s) :
    Calls Try.prog 14 #[.pointer (some ⟨b, 0, none⟩)] w fun e w' => e = .returned (.bool (told (nxt s) % 2 == 1)) ∧ RandBlk w' b (nxt s) ∧ Kp (· = b) w w' := by
  refine (rand_Bit _ s w (hb.cell rfl) (hb.free 0)).mono ?_
  rintro e w' ⟨rfl, rfl⟩
  exact ⟨rfl, hb.set_same 0 _, Kp.set w ⟨b, 0, none⟩ _⟩

end Go.Proofs.Ytmfhbjfphohfkaa
