/-
  latchetlaw04.RandPerms: its walk.
-/
import Derived.Test.YtmfhbjfphohfkaaRandNone
import Derived.Test.YtmfhbjfphohfkaaInts
namespace Go.Proofs.Ytmfhbjfphohfkaa
open Go.RowKit

/-- what is marked when the first k numbers of l have been seen -/
def marks (l : List Int) (k n : Nat) : List Bool := (List.range n).map (fun x : Nat => decide ((x : Int) ∈ l.take k))

def bools (l : List Bool) : Array Value := (l.map Value.bool).toArray

theorem bools_made (l : List Int) (n : Nat) : madeCells #[.bool false] n = bools (marks l 0 n) := by
  apply Array.ext
  · simp [madeCells, bools, marks]
  · intro i h1 h2
    simp [madeCells, bools, marks, Nat.mod_one]

theorem marks_get {l : List Int} {k n x : Nat} (hx : x < n) : (bools (marks l k n))[x]? = some (.bool (decide ((x : Int) ∈ l.take k))) := by
  simp [bools, marks, hx]

theorem bools_set (l : List Bool) (i : Nat) (x : Bool) : (bools l).setIfInBounds i (.bool x) = bools (l.set i x) := by
  simp [bools, List.map_set]

theorem marks_next {l : List Int} {k n : Nat} (hk : k < l.length) (h0 : 0 ≤ gi l k) : (bools (marks l k n)).setIfInBounds (gi l k).toNat (.bool true) = bools (marks l (k + 1) n) := by
  have e : gi l k = l[k] := by simp [gi, hk]
  rw [e] at h0 ⊢
  rw [bools_set]
  congr 1
  apply List.ext_getElem
  · simp [marks]
  · intro i h1 h2
    simp only [marks, List.length_map, List.length_range] at h2
    simp only [marks, List.getElem_set, List.getElem_map, List.getElem_range]
    rw [List.take_succ_eq_append_getElem hk]
    simp only [List.mem_append, List.mem_singleton]
    split
    · rename_i hi
      have : (i : Int) = l[k] := by omega
      simp [this]
    · rename_i hi
      have hne : ¬ ((i : Int) = l[k]) := by omega
      simp [hne]

theorem gi_mem {l : List Int} {k : Nat} (hk : k < l.length) : gi l k ∈ l := by
  have e : gi l k = l[k] := by simp [gi, hk]
  rw [e]; exact List.getElem_mem hk

theorem gi_new {l : List Int} (hd : l.Nodup) {k : Nat} (hk : k < l.length) (h0 : 0 ≤ gi l k) : decide (((gi l k).toNat : Int) ∈ l.take k) = false := by
  have e : gi l k = l[k] := by simp [gi, hk]
  have h := nodup_not_taken hd hk
  rw [e] at h0 ⊢
  rw [show ((l[k].toNat : Nat) : Int) = l[k] from by omega]
  simpa using h

theorem Try.info4 : (Try.prog.info? 4).map (fun i => (i.zero, i.size, i.bytes)) = some (some (.bool false), 1, 1) := by kernel_rfl

set_option maxHeartbeats 1000000 in
theorem randPerms_in (seed a1 : Int) (n : Nat) (w : World) (hn : n ≤ 100000)
    (ha : (n : Int) = a1 ∧ a1 ≤ 500 ∨ 500 < a1 ∧ a1 ≤ 100000 ∧ a1 % 500 = (n : Int)) :
    Calls Try.prog 3 #[.int .u64 seed, .int .i64 a1] w fun e w' => e = .returned (.bool true) ∧ Below w.heap.size w w' := by
  obtain ⟨i0, hi, hz0, hz1, hz2⟩ := info_parts Try.info4
  have hmk : ∀ u : World, (Instr.makeSlice 28 (.int .i64 (n : Int)) (.int .i64 (n : Int))).run Try.prog u =
      .ok (.slice (some ⟨u.heap.size, 0, none⟩) n n) (u.alloc (.cells (madeCells #[.bool false] n) 4)) := fun u => by
    have h := run_make (P := Try.prog) u 28 4 i0 (.bool false) Try.underlying28 hi hz0 .i64 .i64 (n : Int) (n : Int) (by omega) (Int.le_refl _) (by rw [hz2]; omega) (by omega)
    simpa [hz1, Value.cells] using h
  clear hi hz0 hz1 hz2 i0
  have g1 : decide ((n : Int) < 0) = false := by simp
  have g2 : decide ((100000 : Int) < (n : Int)) = false := by simp; omega
  rcases ha with ⟨rfl, h5⟩ | ⟨h5, h6, h7⟩
  · have c1 : decide ((500 : Int) < (n : Int)) = false := by simp; omega
    go_enter Try.func3, Try.ntmps3
    go_wp2_with (go_at_call 6; refine (rand_New _ _).mono ?_; rintro e w' ⟨rfl, rfl⟩)
    refine (rand_Perm' w.heap.size n (w.heap.size + 2) seed _ ((Blk.new _ _ _).alloc _) hn (by simp)).mono ?_
    rintro e w1 ⟨rfl, hL1, hRa1, hK1⟩
    have hRb1 : RandBlk w1 (w.heap.size + 1) seed := Blk.kp (w := (w.alloc _).alloc _) (by simpa using Blk.new (w.alloc _) _ _) hK1 (by omega)
    go_wp2_with fail
    have hz1 : w.heap.size + 2 < w1.heap.size := hL1.lt
    obtain ⟨g, hg⟩ : ∃ g, w1.heap.size = g := ⟨_, rfl⟩
    refine (rand_Perm' (w.heap.size + 1) n g seed _ hRb1 hn hg).mono ?_
    rintro e w2 ⟨rfl, hM2, hRb2, hK2⟩
    have hz2 : g < w2.heap.size := hM2.lt
    have hL2 := hL1.kp hK2 (by omega)
    have hRa2 := hRa1.kp hK2 (by omega)
    have hKw : Kp (fun _ => False) w w2 := (((((Kp.refl _ w).alloc _).alloc _).trans hK1 (by omega)).trans hK2 (by omega))
    have hLd := permL_nodup seed n
    have hLm : ∀ x, x ∈ permL seed n → 0 ≤ x ∧ x < n := fun x h => permL_mem h
    have HLl := Lib.hid (permL_length seed n)
    generalize permL seed n = L at hL2 hM2 hLd hLm HLl
    generalize permS seed n = T at hRa2 hRb2
    obtain ⟨S, hS⟩ : ∃ S, w2.heap.size = S := ⟨_, rfl⟩
    have hgS : w.heap.size + 2 < g ∨ w.heap.size + 2 = g := by omega
    clear hL1 hRa1 hRb1 hK1 hK2 hg
    have HM := Lib.hid hLm; clear hLm
    have HD := Lib.hid hLd; clear hLd
    have hmade := bools_made L n
    go_wp2
    go_loopw [57] (fun i wr => ∃ k : Nat, k ≤ n ∧ i = .int .i64 k ∧ Blk wr S (bools (marks L k n)) 4 ∧ Kp (· = S) w2 wr) (fun i _ => n - (intOf i).toNat)
    case atStart =>
      refine ⟨0, Nat.zero_le _, rfl, ?_, (Kp.refl _ _).alloc _⟩
      rw [← hmade, ← hS]; exact Blk.new _ _ _
    case round =>
      obtain ⟨k, hk, rfl, hSk, hKs⟩ := hrel
      by_cases hlt : k < n
      · have hkl : k < L.length := by rw [HLl.out]; exact hlt
        have hc := (hL2.kp hKs (by omega)).cell (ints_at hkl)
        obtain ⟨x1, x2⟩ := HM.out _ (gi_mem hkl)
        have hnew := gi_new HD.out hkl x1
        have hcs := hSk.cell (marks_get (l := L) (k := k) (n := n) (x := (gi L k).toNat) (by omega))
        rw [hnew] at hcs
        have hfs := hSk.free (gi L k).toNat
        have c2 : decide (gi L k < 0) = false := by simp; omega
        have c3 : decide ((n : Int) ≤ gi L k) = false := by simp; omega
        clear hnew hkl
        go_wp2
        go_roundw
        case rel =>
          refine ⟨k + 1, by omega, by go_num, ?_, hKs.setCell (p := ⟨S, (gi L k).toNat, none⟩) (fun _ => rfl) _⟩
          rw [← marks_next (by rw [HLl.out]; exact hlt) x1]
          exact hSk.set_same _ _
        case measure => simp [intOf]; omega
      · have hRa3 := hRa2.kp hKs (by omega)
        have hRb3 := hRb2.kp hKs (by omega)
        have hL3 := hL2.kp hKs (by omega)
        have hM3 := hM2.kp hKs (by omega)
        have b3 : ((n : Int) == (n : Int)) = true := by simp
        go_wp2_with fail
        refine (ref_Ints _ _ n n _ _ L L _ hL3.intsAt hM3.intsAt HLl.out HLl.out (by omega)).mono ?_
        rintro e w4 ⟨rfl, m4, rfl⟩
        have b4 : (L == L) = true := by simp
        rw [b4]
        go_wp2_with fail
        refine (rand_Next' w.heap.size T _ (hRa3.drewN m4)).mono ?_
        rintro e w5 ⟨rfl, hRa5, hK5⟩
        have hRb5 := Blk.kp (hRb3.drewN m4) hK5 (by omega)
        go_wp2_with fail
        refine (rand_Next' (w.heap.size + 1) T _ hRb5).mono ?_
        rintro e w6 ⟨rfl, hRb6, hK6⟩
        have b5 : (told (nxt T) == told (nxt T)) = true := by simp
        go_wp2_with fail
        refine (rand_lives _).mono ?_
        rintro e w7 ⟨rfl, hK7⟩
        go_wp2
        go_ret
        refine ⟨rfl, Kp.below ?_ (Nat.le_refl _) (fun _ _ h => h)⟩
        exact ((((hKw.trans hKs (by omega)).drewN m4).trans hK5 (by omega)).trans hK6 (by omega)).trans hK7 (fun _ _ h => h)
  · have c1 : decide ((500 : Int) < a1) = true := by simp; omega
    have c4 : decide (a1 ≤ 100000) = true := by simp; omega
    go_enter Try.func3, Try.ntmps3
    go_wp2_with (go_at_call 6; refine (rand_New _ _).mono ?_; rintro e w' ⟨rfl, rfl⟩)
    refine (rand_Perm' w.heap.size n (w.heap.size + 2) seed _ ((Blk.new _ _ _).alloc _) hn (by simp)).mono ?_
    rintro e w1 ⟨rfl, hL1, hRa1, hK1⟩
    have hRb1 : RandBlk w1 (w.heap.size + 1) seed := Blk.kp (w := (w.alloc _).alloc _) (by simpa using Blk.new (w.alloc _) _ _) hK1 (by omega)
    go_wp2_with fail
    have hz1 : w.heap.size + 2 < w1.heap.size := hL1.lt
    obtain ⟨g, hg⟩ : ∃ g, w1.heap.size = g := ⟨_, rfl⟩
    refine (rand_Perm' (w.heap.size + 1) n g seed _ hRb1 hn hg).mono ?_
    rintro e w2 ⟨rfl, hM2, hRb2, hK2⟩
    have hz2 : g < w2.heap.size := hM2.lt
    have hL2 := hL1.kp hK2 (by omega)
    have hRa2 := hRa1.kp hK2 (by omega)
    have hKw : Kp (fun _ => False) w w2 := (((((Kp.refl _ w).alloc _).alloc _).trans hK1 (by omega)).trans hK2 (by omega))
    have hLd := permL_nodup seed n
    have hLm : ∀ x, x ∈ permL seed n → 0 ≤ x ∧ x < n := fun x h => permL_mem h
    have HLl := Lib.hid (permL_length seed n)
    generalize permL seed n = L at hL2 hM2 hLd hLm HLl
    generalize permS seed n = T at hRa2 hRb2
    obtain ⟨S, hS⟩ : ∃ S, w2.heap.size = S := ⟨_, rfl⟩
    have hgS : w.heap.size + 2 < g ∨ w.heap.size + 2 = g := by omega
    clear hL1 hRa1 hRb1 hK1 hK2 hg
    have HM := Lib.hid hLm; clear hLm
    have HD := Lib.hid hLd; clear hLd
    have hmade := bools_made L n
    go_wp2
    go_loopw [57] (fun i wr => ∃ k : Nat, k ≤ n ∧ i = .int .i64 k ∧ Blk wr S (bools (marks L k n)) 4 ∧ Kp (· = S) w2 wr) (fun i _ => n - (intOf i).toNat)
    case atStart =>
      refine ⟨0, Nat.zero_le _, rfl, ?_, (Kp.refl _ _).alloc _⟩
      rw [← hmade, ← hS]; exact Blk.new _ _ _
    case round =>
      obtain ⟨k, hk, rfl, hSk, hKs⟩ := hrel
      by_cases hlt : k < n
      · have hkl : k < L.length := by rw [HLl.out]; exact hlt
        have hc := (hL2.kp hKs (by omega)).cell (ints_at hkl)
        obtain ⟨x1, x2⟩ := HM.out _ (gi_mem hkl)
        have hnew := gi_new HD.out hkl x1
        have hcs := hSk.cell (marks_get (l := L) (k := k) (n := n) (x := (gi L k).toNat) (by omega))
        rw [hnew] at hcs
        have hfs := hSk.free (gi L k).toNat
        have c2 : decide (gi L k < 0) = false := by simp; omega
        have c3 : decide ((n : Int) ≤ gi L k) = false := by simp; omega
        clear hnew hkl
        go_wp2
        go_roundw
        case rel =>
          refine ⟨k + 1, by omega, by go_num, ?_, hKs.setCell (p := ⟨S, (gi L k).toNat, none⟩) (fun _ => rfl) _⟩
          rw [← marks_next (by rw [HLl.out]; exact hlt) x1]
          exact hSk.set_same _ _
        case measure => simp [intOf]; omega
      · have hRa3 := hRa2.kp hKs (by omega)
        have hRb3 := hRb2.kp hKs (by omega)
        have hL3 := hL2.kp hKs (by omega)
        have hM3 := hM2.kp hKs (by omega)
        have b3 : ((n : Int) == (n : Int)) = true := by simp
        go_wp2_with fail
        refine (ref_Ints _ _ n n _ _ L L _ hL3.intsAt hM3.intsAt HLl.out HLl.out (by omega)).mono ?_
        rintro e w4 ⟨rfl, m4, rfl⟩
        have b4 : (L == L) = true := by simp
        rw [b4]
        go_wp2_with fail
        refine (rand_Next' w.heap.size T _ (hRa3.drewN m4)).mono ?_
        rintro e w5 ⟨rfl, hRa5, hK5⟩
        have hRb5 := Blk.kp (hRb3.drewN m4) hK5 (by omega)
        go_wp2_with fail
        refine (rand_Next' (w.heap.size + 1) T _ hRb5).mono ?_
        rintro e w6 ⟨rfl, hRb6, hK6⟩
        have b5 : (told (nxt T) == told (nxt T)) = true := by simp
        go_wp2_with fail
        refine (rand_lives _).mono ?_
        rintro e w7 ⟨rfl, hK7⟩
        go_wp2
        go_ret
        refine ⟨rfl, Kp.below ?_ (Nat.le_refl _) (fun _ _ h => h)⟩
        exact ((((hKw.trans hKs (by omega)).drewN m4).trans hK5 (by omega)).trans hK6 (by omega)).trans hK7 (fun _ _ h => h)

theorem randPerms_walk (seed : Int) (_ws : (Lit.int .u64 seed).wf = true) (a1 : Int) (_wa : (Lit.int .i64 a1).wf = true) (w : World) :
    Calls Try.prog 3 #[.int .u64 seed, .int .i64 a1] w fun e w' => e = .returned (.bool true) ∧ Below w.heap.size w w' := by
  by_cases h0 : a1 < 0 ∨ 100000 < a1
  · have d1 : (decide ((500 : Int) < a1) && decide (a1 ≤ 100000)) = false := by simp; omega
    have d2 : (decide (a1 < 0) || decide ((100000 : Int) < a1)) = true := by simp; omega
    rcases h0 with h0 | h0
    all_goals
      go_enter Try.func3, Try.ntmps3
      go_wp2_with (go_at_call 6; refine (rand_New _ _).mono ?_; rintro e w' ⟨rfl, rfl⟩)
      refine (rand_Perm_none _ a1 _ (by omega)).mono ?_
      rintro e w' ⟨rfl, rfl⟩
      go_wp2_with fail
      refine (rand_Perm_none _ a1 _ (by omega)).mono ?_
      rintro e w' ⟨rfl, rfl⟩
      go_wp2_with fail
      refine (rand_lives _).mono ?_
      rintro e w7 ⟨rfl, hK7⟩
      go_wp2
      go_ret
      exact ⟨rfl, Kp.below ((((Kp.refl _ _).alloc _).alloc _).trans hK7 (fun _ _ h => h)) (Nat.le_refl _) (fun _ _ h => h)⟩
  · by_cases h5 : a1 ≤ 500
    · exact randPerms_in seed a1 a1.toNat w (by omega) (.inl ⟨by omega, h5⟩)
    · exact randPerms_in seed a1 (a1 % 500).toNat w (by omega) (.inr ⟨by omega, by omega, by omega⟩)

end Go.Proofs.Ytmfhbjfphohfkaa
