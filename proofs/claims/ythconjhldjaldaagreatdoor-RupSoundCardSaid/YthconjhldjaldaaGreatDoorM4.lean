/-
  lit.Sorted, lit.Has.
-/
import Derived.Test.YthconjhldjaldaaGreatDoorM2
import Derived.Test.YthconjhldjaldaaGreatDoorM3
import Derived.Test.YthconjhldjaldaaGreatDoorM1
import Derived.BigQuiet
import Derived.Test.YthconjhldjaldaaGreatDoorRows
import Derived.ProofKit
import Derived.Deep.SlicePairs
import Derived.Deep.Grids
import Derived.Lib.SmallJoins
import Derived.Lib.LaidTab
import Derived.Stop.LaidErr
set_option linter.unusedVariables false
set_option linter.unusedSimpArgs false
set_option linter.unusedVariables false
set_option linter.unusedSimpArgs false
namespace Go.Proofs.YthconjhldjaldaaGreatDoor
open Go.RowKit

theorem compact_rise (d : Array Int) (hs : ∀ i j, i ≤ j → j < d.size → d[i]! ≤ d[j]!) : ∀ m, m ≤ d.size → Rising (Lib.compactUpTo d m) ∧ ∀ x, x ∈ Lib.compactUpTo d m ↔ ∃ j, j < m ∧ d[j]! = x
  | 0, _ => ⟨List.Pairwise.nil, fun x => ⟨fun h => (by simp [Lib.compactUpTo] at h), fun ⟨j, h, _⟩ => (by omega)⟩⟩
  | m + 1, h => by
    obtain ⟨h1, h2⟩ := compact_rise d hs m (by omega)
    rw [Lib.compactUpTo_succ]
    cases hk : Lib.keeps d m with
    | true =>
      rw [if_pos rfl]
      refine ⟨?_, fun x => ?_⟩
      · unfold Rising at *
        rw [List.pairwise_append]
        refine ⟨h1, by simp, fun a ha b hb => ?_⟩
        simp at hb
        obtain ⟨j, hj, rfl⟩ := (h2 a).1 ha
        subst hb
        have hm0 : m ≠ 0 := by omega
        have hne : d[m]! ≠ d[m - 1]! := by
          unfold Lib.keeps at hk
          simpa [hm0] using hk
        have a1 := hs j (m - 1) (by omega) (by omega)
        have a2 := hs (m - 1) m (by omega) (by omega)
        omega
      · rw [List.mem_append, h2]
        constructor
        · rintro (⟨j, hj, e⟩ | h)
          · exact ⟨j, by omega, e⟩
          · simp at h; exact ⟨m, by omega, h.symm⟩
        · rintro ⟨j, hj, e⟩
          by_cases q : j = m
          · right; subst q; simp [e]
          · left; exact ⟨j, by omega, e⟩
    | false =>
      rw [if_neg (by simp), List.append_nil]
      refine ⟨h1, fun x => ?_⟩
      rw [h2]
      constructor
      · rintro ⟨j, hj, e⟩; exact ⟨j, by omega, e⟩
      · rintro ⟨j, hj, e⟩
        by_cases q : j = m
        · subst q
          unfold Lib.keeps at hk
          simp at hk
          exact ⟨j - 1, by omega, by rw [← e, hk.2]⟩
        · exact ⟨j, by omega, e⟩

theorem compact_sorted (l : List Int) : Lib.compact (l.mergeSort fun x y => decide (x ≤ y)) = srtD l := by
  have hp : (l.mergeSort fun x y => decide (x ≤ y)).Pairwise (fun x y => decide (x ≤ y) = true) := List.pairwise_mergeSort (by simp; omega) (by simp; omega) l
  have hmem : ∀ x, x ∈ (l.mergeSort fun x y => decide (x ≤ y)) ↔ x ∈ l := fun x => (List.mergeSort_perm l _).mem_iff
  generalize (l.mergeSort fun x y => decide (x ≤ y)) = s at hp hmem
  have hc := compact_rise s.toArray (fun i j hij hj => by
    have hj' : j < s.length := by simpa using hj
    by_cases e : i = j
    · subst e; exact Int.le_refl _
    · have := List.pairwise_iff_getElem.1 hp i j (by omega) hj' (by omega)
      rw [getElem!_pos s.toArray i (by simpa using (show i < s.length by omega)), getElem!_pos s.toArray j hj]
      simpa using this) s.length (by simp)
  refine rising_uniq hc.1 (srtD_rising l) fun x => ?_
  show x ∈ Lib.compactUpTo s.toArray s.length ↔ _
  rw [hc.2, srtD_mem, ← hmem]
  constructor
  · rintro ⟨j, hj, rfl⟩
    rw [getElem!_pos s.toArray j (by simpa using hj)]
    simp
  · intro hx
    obtain ⟨j, hj, e⟩ := List.mem_iff_getElem.1 hx
    exact ⟨j, hj, by rw [getElem!_pos s.toArray j (by simpa using hj)]; simpa using e⟩

/-- a slice of ints of the call's own, to be read -/
def RdInts (w : World) (base : Nat) (v : Value) (l : List Int) : Prop := ∃ a cap, v = .slice a l.length cap ∧ SlOK a l.length cap ∧ RowAt w a (iv l) ∧ ∀ p, a = some p → base ≤ p.block ∧ p.block < w.heap.size
theorem RdInts.kp {w w' : World} {base : Nat} {v : Value} {l : List Int} (h : RdInts w base v l) (k : Kp (fun _ => False) w w') : RdInts w' base v l := by
  obtain ⟨a, cap, e, h1, h2, h3⟩ := h
  exact ⟨a, cap, e, h1, h2.kp k (fun _ _ h => h), fun p hp => ⟨(h3 p hp).1, Nat.lt_of_lt_of_le (h3 p hp).2 k.size⟩⟩

set_option maxRecDepth 100000 in
set_option maxHeartbeats 2000000 in
theorem lit_Sorted (a : Option Addr) (n c : Nat) (l : List Int) (w : World) (hr : RowAt w a (iv l)) (hl : l.length = n) (ho : SlOK a n c) (hn : n ≤ 1000000) :
    Calls Tryz.prog 45 #[.slice a n c] w fun e w' => ∃ v, e = .returned v ∧ RdInts w' w.heap.size v (srtD l) ∧ Kp (fun _ => False) w w' := by
  have HC := Lib.hid (clone_ints a n c l w hr hl ho hn)
  have HL := Lib.hid hl
  clear hr hl ho
  by_cases h0 : l = []
  · subst h0
    have HS := Lib.hid (fun p cap u => (Tryz.slices_Sort_int_none p cap u).mono (R' := fun e w' => e = .returned (.tuple #[]) ∧ u = w') fun e w' h => ⟨h.1, h.2.symm⟩)
    have HK := Lib.hid (fun p cap u => (Tryz.slices_Compact_int_empty p cap u).mono (R' := fun e w' => e = .returned (.slice p 0 cap) ∧ u = w') fun e w' h => ⟨h.1, h.2.symm⟩)
    go_enter Tryz.func45, Tryz.ntmps45
    go_wp2_with (first
      | (go_at_call 19; refine HC.out.mono ?_; rintro e w1 ⟨v, rfl, hO, hK⟩; obtain ⟨ga, gc, eg, l1, l2, l3, -⟩ := hO.form; have HN := Lib.hid (And.intro l2 (And.intro (own_nilc (eg ▸ hO)) l3)); simp at eg; subst eg; have HK1 := Lib.hid hK; clear hO hK l1 l2 l3)
      | (go_at_call 69; refine (HS.out _ _ _).mono ?_; rintro e w2 ⟨rfl, rfl⟩)
      | (go_at_call 70; refine (HK.out _ _ _).mono ?_; rintro e w2 ⟨rfl, rfl⟩))
    go_ret
    refine ⟨_, rfl, ⟨ga, gc, rfl, ⟨Nat.zero_le _, HN.out.1, HN.out.2.1⟩, RowAt.nil _ _, fun p hp => ?_⟩, HK1.out⟩
    obtain ⟨q, rfl, q1, q2⟩ := HN.out.2.2 p hp
    exact ⟨q1, q2⟩
  · have hpos : 0 < n := by rw [← HL.out]; exact List.length_pos_iff.2 h0
    have HSo := Lib.hid (fun (u : World) (g cap : Nat) (hO : Own u w.heap.size 3 (.slice (some ⟨g, 0, none⟩) n cap) (iv l)) =>
      show Calls Tryz.prog 69 #[.slice (some ⟨g, 0, none⟩) n cap] u fun e w' => e = .returned (.tuple #[]) ∧ Own w' w.heap.size 3 (.slice (some ⟨g, 0, none⟩) n cap) (iv (l.mergeSort fun x y => decide (x ≤ y))) ∧ Kp (· = g) u w' from by
        have hO' : Own u w.heap.size 3 (.slice (some ⟨g, 0, none⟩) n cap) (l.toArray.toList.map (Value.int .i64)) := by simpa [iv] using hO
        have h := Tryz.slices_Sort_int g 0 cap l u (own_holds hO') (hO.lt g rfl).2 (by rw [HL.out]; omega)
        rw [HL.out] at h
        refine h.mono ?_
        rintro e w' ⟨rfl, q, os, rfl⟩
        have := own_sorted (d' := (l.mergeSort fun x y => decide (x ≤ y)).toArray) (m := q) (os := os) hO' (by simp)
        exact ⟨rfl, by simpa [iv] using this.1, this.2⟩)
    have HCo := Lib.hid (fun (u : World) (g cap : Nat) (hO : Own u w.heap.size 3 (.slice (some ⟨g, 0, none⟩) n cap) (iv (l.mergeSort fun x y => decide (x ≤ y)))) =>
      show Calls Tryz.prog 70 #[.slice (some ⟨g, 0, none⟩) n cap] u fun e w' => e = .returned (.slice (some ⟨g, 0, none⟩) (srtD l).length cap) ∧ RowAt w' (some ⟨g, 0, none⟩) (iv (srtD l)) ∧ Kp (· = g) u w' from by
        have hsl : (l.mergeSort fun x y => decide (x ≤ y)).length = n := by rw [List.length_mergeSort, HL.out]
        have hO' : Own u w.heap.size 3 (.slice (some ⟨g, 0, none⟩) n cap) ((l.mergeSort fun x y => decide (x ≤ y)).toArray.toList.map (Value.int .i64)) := by simpa [iv] using hO
        have hcl := Lib.compact_length_le (l.mergeSort fun x y => decide (x ≤ y))
        obtain ⟨_, _, e2, hc1, -⟩ := hO.form
        simp only [Value.slice.injEq] at e2
        have h := Tryz.slices_Compact_int g 0 cap (l.mergeSort fun x y => decide (x ≤ y)) u (own_holds hO') (by rw [hsl]; omega) (by rw [iv_length] at hc1; rw [e2.2.2]; exact hc1)
        rw [hsl, compact_sorted] at h
        rw [hsl, compact_sorted] at hcl
        refine h.mono ?_
        rintro e w' ⟨rfl, q, rfl⟩
        have := own_sorted (d' := (srtD l ++ List.replicate (n - (srtD l).length) 0).toArray) (m := q) (os := #[]) hO' (by simp [hsl, List.length_mergeSort] at *; omega)
        rw [Sort.grow_empty] at this
        refine ⟨rfl, ?_, this.2⟩
        obtain ⟨a', c', e3, -, -, -, hrow⟩ := this.1.form
        simp only [Value.slice.injEq] at e3
        rw [← e3.1] at hrow
        have h2 := hrow.take (srtD l).length
        simp only [iv, List.map_append, List.map_toArray] at h2 ⊢
        simpa using h2)
    clear h0
    go_enter Tryz.func45, Tryz.ntmps45
    go_wp2_with (first
      | (go_at_call 19
         refine HC.out.mono ?_
         rintro e w1 ⟨v, rfl, hO, hK⟩
         obtain ⟨g, gc, eg, hg1, hg2⟩ := hO.leads (by rw [List.length_map, HL.out]; exact hpos)
         rw [List.length_map, HL.out] at eg
         subst eg
         have HOs := Lib.hid (HSo.out w1 g gc hO)
         have HK1 := Lib.hid hK
         have HG := Lib.hid hg1
         obtain ⟨_, _, e5, hc5, hm5, -⟩ := hO.form
         simp only [Value.slice.injEq] at e5
         have HCp := Lib.hid (show n ≤ gc ∧ gc ≤ maxLen from by rw [List.length_map, HL.out] at hc5; rw [e5.2.2]; exact ⟨hc5, hm5⟩)
         have HGl := Lib.hid hg2
         clear hO hK hg1 hg2 e5 hc5 hm5)
      | (go_at_call 69; refine HOs.out.mono ?_; rintro e w2 ⟨rfl, hO2, hK2⟩; have HOc := Lib.hid (HCo.out w2 g gc hO2); have HK2 := Lib.hid hK2; clear hO2 hK2)
      | (go_at_call 70; refine HOc.out.mono ?_; rintro e w3 ⟨rfl, hR3, hK3⟩; have HR3 := Lib.hid hR3; have HK3 := Lib.hid hK3; clear hR3 hK3))
    go_ret
    have hg := HG.out
    have hsl : (srtD l).length ≤ n := by
      have := Lib.compact_length_le (l.mergeSort fun x y => decide (x ≤ y))
      rw [compact_sorted, List.length_mergeSort, HL.out] at this
      exact this
    refine ⟨_, rfl, ⟨_, gc, rfl, ⟨Nat.le_trans hsl HCp.out.1, HCp.out.2, fun h => by cases h⟩, HR3.out, fun p hp => ?_⟩, ?_⟩
    · simp only [Option.some.injEq] at hp
      subst hp
      exact ⟨hg, Nat.lt_of_lt_of_le HGl.out (Nat.le_trans HK2.out.size HK3.out.size)⟩
    · exact (HK1.out.trans HK2.out (fun j hj e => by omega)).trans HK3.out (fun j hj e => by omega)

end Go.Proofs.YthconjhldjaldaaGreatDoor

/-
  lit.Has, lit.Tied.
-/
namespace Go.Proofs.YthconjhldjaldaaGreatDoor
open Go.RowKit

theorem lit_Has (a : Option Addr) (n c : Nat) (l : List Int) (x : Int) (w : World) (hr : RowAt w a (iv l)) (hl : l.length = n) (hn : n ≤ 1000000) :
    Calls Tryz.prog 46 #[.slice a n c, .int .i64 x] w fun e w' => e = .returned (.bool (l.contains x)) ∧ w = w' := by
  have HC : Hid (Calls Tryz.prog 71 #[.slice a n c, .int .i64 x] w fun e w' => e = .returned (.bool (l.contains x)) ∧ w = w') := Lib.hid (by
    by_cases h0 : n = 0
    · subst h0
      have : l = [] := List.eq_nil_of_length_eq_zero hl
      subst this
      exact (Tryz.slices_Contains_int_empty a c x w).mono fun e w' h => ⟨h.1, h.2.symm⟩
    · obtain ⟨b, off, rfl, -⟩ := hr 0 _ (iv_at (by omega))
      refine (Tryz.slices_Contains_int b off n c l x w (by omega) (by omega) (fun j hj => ?_)).mono fun e w' h => ⟨by rw [h.1, ← hl, List.take_length], h.2.symm⟩
      obtain ⟨b2, off2, e2, hc⟩ := hr j _ (iv_at hj)
      simp only [Option.some.injEq, Addr.mk.injEq, and_true] at e2
      obtain ⟨rfl, rfl⟩ := e2
      rw [hc]
      unfold gi
      rfl)
  clear hr hl
  obtain ⟨r, hr⟩ : ∃ r, l.contains x = r := ⟨_, rfl⟩
  rw [hr] at HC ⊢
  clear hr
  go_enter Tryz.func46, Tryz.ntmps46
  go_wp2_with (go_at_call 71; refine HC.out.mono ?_; rintro e w1 ⟨rfl, rfl⟩)
  go_ret
  exact ⟨rfl, rfl⟩

/-- lit.Neg of whatever number -/
theorem lit_Neg_any (l : Int) (w : World) : Calls Tryz.prog 72 #[.int .i64 l] w fun e w' => e = .returned (.bool (gl l && decide (l % 2 = 1))) ∧ w = w' := by
  cases hg : gl l with
  | true =>
    refine (lit_Neg l hg w).mono ?_
    rintro e w' ⟨rfl, h⟩
    exact ⟨by rw [show (l % 2 == 1) = (true && decide (l % 2 = 1)) by rw [Bool.true_and, Bool.eq_iff_iff]; simp], h⟩
  | false =>
    have HG := Lib.hid ((lit_Good l w).mono (R' := fun e w' => e = .returned (.bool false) ∧ w = w') (by rintro e w' ⟨rfl, h⟩; rw [hg]; exact ⟨rfl, h⟩))
    clear hg
    go_enter Tryz.func72, Tryz.ntmps72
    go_wp2_with (go_at_call 50; refine HG.out.mono ?_; rintro e w1 ⟨rfl, rfl⟩)
    go_ret
    exact ⟨rfl, rfl⟩

/-- neighbours among rising numbers -/
theorem tied_near {s : List Int} (hs : Rising s) : tiedB s = true ↔ ∃ i, 1 ≤ i ∧ i < s.length ∧ gl (gi s i) = true ∧ gi s i % 2 = 1 ∧ gi s (i - 1) = gi s i - 1 := by
  unfold tiedB
  rw [List.any_eq_true]
  have mono : ∀ i j, i < j → j < s.length → gi s i < gi s j := fun i j hij hj => by
    unfold gi
    rw [List.getElem?_eq_getElem hj, List.getElem?_eq_getElem (by omega)]
    exact List.pairwise_iff_getElem.1 hs i j (by omega) hj hij
  constructor
  · rintro ⟨x, hx, h⟩
    simp at h
    obtain ⟨i, hi, rfl⟩ := mem_gi hx
    obtain ⟨j, hj, e⟩ := mem_gi h.2
    have hji : j < i := by
      rcases Nat.lt_trichotomy j i with q | q | q
      · exact q
      · subst q; omega
      · have := mono i j q hj; omega
    refine ⟨i, by omega, hi, h.1.1, h.1.2, ?_⟩
    by_cases q : j = i - 1
    · rw [← q, e]
    · have a1 := mono j (i - 1) (by omega) (by omega)
      have a2 := mono (i - 1) i (by omega) hi
      omega
  · rintro ⟨i, h1, hi, h2, h3, h4⟩
    refine ⟨gi s i, gi_mem hi, ?_⟩
    simp
    exact ⟨⟨h2, h3⟩, by rw [← h4]; exact gi_mem (by omega)⟩

set_option maxRecDepth 100000 in
set_option maxHeartbeats 4000000 in
theorem lit_Tied (a : Option Addr) (n c : Nat) (l : List Int) (w : World) (hr : RowAt w a (iv l)) (hl : l.length = n) (ho : SlOK a n c) (hn : n ≤ 1000000) (hb : ∀ x ∈ l, -9223372036854775808 ≤ x ∧ x ≤ 9223372036854775807) :
    Calls Tryz.prog 47 #[.slice a n c] w fun e w' => e = .returned (.bool (tiedB (srtD l))) ∧ Kp (fun _ => False) w w' := by
  have HS := Lib.hid (lit_Sorted a n c l w hr hl ho hn)
  have HT := Lib.hid (tied_near (srtD_rising l))
  have HNg := Lib.hid (fun x u => lit_Neg_any x u)
  have HB := Lib.hid (show ∀ x ∈ srtD l, -9223372036854775808 ≤ x ∧ x ≤ 9223372036854775807 from fun x hx => hb x (srtD_mem.1 hx))
  have HLs := Lib.hid (show (srtD l).length ≤ 1000000 by
    have := Lib.compact_length_le (l.mergeSort fun x y => decide (x ≤ y))
    rw [compact_sorted, List.length_mergeSort] at this
    omega)
  obtain ⟨s, hs⟩ : ∃ s, srtD l = s := ⟨_, rfl⟩
  rw [hs] at HS HT HB HLs ⊢
  clear hr hl ho hb hs
  obtain ⟨m, hm⟩ : ∃ m, s.length = m := ⟨_, rfl⟩
  have HM := Lib.hid hm
  clear hm
  go_enter Tryz.func47, Tryz.ntmps47
  go_wp2_with (go_at_call 45; refine HS.out.mono ?_; rintro e w1 ⟨v, rfl, ⟨sa, sc, rfl, -, hr, -⟩, hK⟩; have HR := Lib.hid hr; have HK := Lib.hid hK; clear hr hK; rw [HM.out])
  go_loopw [4] (fun v4 wr => ∃ k : Nat, 1 ≤ k ∧ (k ≤ m ∨ k = 1) ∧ v4 = .int .i64 k ∧ (∀ i, 1 ≤ i → i < k → ¬ (gl (gi s i) = true ∧ gi s i % 2 = 1 ∧ gi s (i - 1) = gi s i - 1)) ∧ ∃ q, wr = w1.drewN q) (fun v4 _ => m + 1 - (intOf v4).toNat)
  case atStart => exact ⟨1, Nat.le_refl _, .inr rfl, rfl, fun i h1 h2 => by omega, 0, rfl⟩
  case round =>
    obtain ⟨k, hk1, hk2, rfl, hno, q, rfl⟩ := hrel
    have HNo := Lib.hid hno
    clear hno
    by_cases hlt : k < m
    · have hkl : k < s.length := by rw [HM.out]; exact hlt
      obtain ⟨b, off, rfl, hcell⟩ := HR.out k _ (iv_at hkl)
      obtain ⟨b2, off2, e2, hcell2⟩ := HR.out (k - 1) _ (iv_at (by omega))
      simp only [Option.some.injEq, Addr.mk.injEq, and_true] at e2
      obtain ⟨rfl, rfl⟩ := e2
      have HNk := Lib.hid (fun u => HNg.out (gi s k) u)
      obtain ⟨k0, hk0⟩ : ∃ k0, k - 1 = k0 := ⟨_, rfl⟩
      have HK0 := Lib.hid hk0
      rw [hk0] at hcell2
      obtain ⟨x, hx⟩ : ∃ x, gi s k = x := ⟨_, rfl⟩
      obtain ⟨y, hy⟩ : ∃ y, gi s k0 = y := ⟨_, rfl⟩
      have HX := Lib.hid hx
      have HY := Lib.hid hy
      rw [hx] at hcell
      rw [hy] at hcell2
      simp only [hx] at HNk
      obtain ⟨nb, hnb⟩ : ∃ nb, (gl x && decide (x % 2 = 1)) = nb := ⟨_, rfl⟩
      simp only [hnb] at HNk
      have HNb := Lib.hid hnb
      have i0 : (0 : Int) ≤ (k : Int) := by omega
      have i1 : (k : Int) < (m : Int) := by omega
      have j0 : (0 : Int) ≤ (k0 : Int) := by omega
      have j1 : (k0 : Int) < (m : Int) := by omega
      have jw : IntKind.i64.wrap ((k : Int) - 1) = (k0 : Int) := by have := HLs.out; rw [HM.out] at this; rw [IntKind.wrap_i64]; omega
      have kb : (k : Int) ≤ 1000000 := by have := HLs.out; rw [HM.out] at this; omega
      cases nb with
      | false =>
        clear hkl hx hy hnb hk0
        go_upto_region 5 with fail
        go_quiet ((go_at_call 72; exact (HNk.out _).mono (fun e u' ⟨h1, h2⟩ => ⟨h1, _, h2.symm⟩)))
        go_wp2_with fail
        go_roundw
        case rel =>
          refine ⟨k + 1, by omega, .inl hlt, by go_num, fun i h1 h2 => ?_, ?_⟩
          · by_cases e : i = k
            · rw [e, HX.out]
              rintro ⟨g1, g2, -⟩
              have := HNb.out
              rw [g1, decide_eq_true g2] at this
              cases this
            · exact HNo.out i h1 (by omega)
          · try simp only [drewN_twice]
            exact ⟨_, rfl⟩
        case measure => simp [intOf]; omega
      | true =>
        have hg : 0 ≤ x ∧ x ≤ 33554433 ∧ x % 2 = 1 := by
          unfold gl at hnb
          simp at hnb
          omega
        have xw : IntKind.i64.wrap (x - 1) = x - 1 := by rw [IntKind.wrap_i64]; omega
        by_cases hyx : y = x - 1
        · have b1 : (y == x - 1) = true := by simp [hyx]
          have HTr := Lib.hid (show tiedB s = true from HT.out.2 ⟨k, hk1, hkl, by rw [HX.out]; unfold gl; simp; omega, by rw [HX.out]; exact hg.2.2, by rw [HK0.out, HX.out, HY.out]; exact hyx⟩)
          clear hkl hx hy hnb hk0 hyx hg
          go_upto_region 5 with fail
          go_quiet ((go_at_call 72; exact (HNk.out _).mono (fun e u' ⟨h1, h2⟩ => ⟨h1, _, h2.symm⟩)))
          go_wp2_with fail
          go_ret
          rw [HTr.out]
          exact ⟨rfl, by first | exact HK.out.drewN _ | exact (HK.out.drewN _).drewN _⟩
        · have b1 : (y == x - 1) = false := by simp [hyx]
          have HYX := Lib.hid hyx
          clear hkl hx hy hnb hk0 hyx hg
          go_upto_region 5 with fail
          go_quiet ((go_at_call 72; exact (HNk.out _).mono (fun e u' ⟨h1, h2⟩ => ⟨h1, _, h2.symm⟩)))
          go_wp2_with fail
          go_roundw
          case rel =>
            refine ⟨k + 1, by omega, .inl hlt, by go_num, fun i h1 h2 => ?_, ?_⟩
            · by_cases e : i = k
              · rw [e, HX.out, HK0.out, HY.out]
                rintro ⟨-, -, g3⟩
                exact HYX.out g3
              · exact HNo.out i h1 (by omega)
            · try simp only [drewN_twice]
              exact ⟨_, rfl⟩
          case measure => simp [intOf]; omega
    · have HF := Lib.hid (show tiedB s = false from by
        cases e : tiedB s with
        | false => rfl
        | true =>
          obtain ⟨i, h1, h2, h3⟩ := HT.out.1 e
          exact absurd h3 (HNo.out i h1 (by rw [HM.out] at h2; omega)))
      go_wp2_with fail
      go_ret
      rw [HF.out]
      exact ⟨rfl, HK.out.drewN _⟩

end Go.Proofs.YthconjhldjaldaaGreatDoor

/-
  clause.Norm.
-/
namespace Go.Proofs.YthconjhldjaldaaGreatDoor
open Go.RowKit

/-- what Norm leaves -/
def NormP (w : World) (l : List Int) (e : Ending) (w' : World) : Prop :=
  ((normC l = none ∧ e = .returned (.tuple #[.slice none 0 0, .bool false])) ∨ ∃ c v, normC l = some c ∧ e = .returned (.tuple #[v, .bool true]) ∧ RdInts w' w.heap.size v c) ∧ Kp (fun _ => False) w w'

theorem norm_not_good {l : List Int} {w : World} : TellsP 49 #[] (fun x => !gl x) l w := by
  intro x _ u _
  have HG := Lib.hid (lit_Good x u)
  show Calls Tryz.prog 49 #[.int .i64 x] u fun e w' => e = .returned (.bool (!gl x)) ∧ Kp (fun _ => False) u w'
  obtain ⟨r, hr⟩ : ∃ r, gl x = r := ⟨_, rfl⟩
  rw [hr] at HG ⊢
  clear hr
  go_enter Tryz.func49, Tryz.ntmps49
  go_wp2_with (go_at_call 50; refine HG.out.mono ?_; rintro e w' ⟨rfl, rfl⟩)
  go_ret
  exact ⟨rfl, Kp.refl _ _⟩

theorem RowAt.tail1 {w : World} {b off : Nat} {x : Value} {r : List Value} (h : RowAt w (some ⟨b, off, none⟩) (x :: r)) : RowAt w (some ⟨b, off + 1, none⟩) r := by
  intro j u hu
  obtain ⟨b2, off2, e, hc⟩ := h (j + 1) u (by simpa using hu)
  simp only [Option.some.injEq, Addr.mk.injEq, and_true] at e
  obtain ⟨rfl, rfl⟩ := e
  exact ⟨b, off + 1, rfl, by rw [show off + 1 + j = off + (j + 1) by omega]; exact hc⟩

set_option maxRecDepth 100000 in
set_option maxHeartbeats 4000000 in
theorem clause_Norm (a : Option Addr) (n c : Nat) (l : List Int) (w : World) (hr : RowAt w a (iv l)) (hl : l.length = n) (ho : SlOK a n c) (hn : n ≤ 1000000) (hb : ∀ x ∈ l, -9223372036854775808 ≤ x ∧ x ≤ 9223372036854775807) :
    Calls Tryz.prog 26 #[.slice a n c] w (NormP w l) := by
  have HS := Lib.hid (lit_Sorted a n c l w hr hl ho hn)
  have HB := Lib.hid (show ∀ x ∈ srtD l, -9223372036854775808 ≤ x ∧ x ≤ 9223372036854775807 from fun x hx => hb x (srtD_mem.1 hx))
  have HRi := Lib.hid (srtD_rising l)
  have HLs := Lib.hid (show (srtD l).length ≤ 1000000 by
    have := Lib.compact_length_le (l.mergeSort fun x y => decide (x ≤ y))
    rw [compact_sorted, List.length_mergeSort] at this
    omega)
  have HNc := Lib.hid (show normC l = if (srtD l).contains 1 || tiedB (srtD l) || (srtD l).any (fun x => !gl x) then none else some (if (srtD l).head? = some 0 then (srtD l).tail else srtD l) from rfl)
  obtain ⟨s, hs⟩ : ∃ s, srtD l = s := ⟨_, rfl⟩
  rw [hs] at HS HB HRi HLs HNc
  clear hr hl ho hb hs
  obtain ⟨m, hm⟩ : ∃ m, s.length = m := ⟨_, rfl⟩
  have HM := Lib.hid hm
  have hm6 : m ≤ 1000000 := by rw [← hm]; exact HLs.out
  clear hm
  have HHas := Lib.hid (fun (u : World) (sa : Option Addr) (sc : Nat) (hr : RowAt u sa (iv s)) => lit_Has sa m sc s 1 u hr HM.out hm6)
  have HTd := Lib.hid (fun (u : World) (sa : Option Addr) (sc : Nat) (hr : RowAt u sa (iv s)) (ho : SlOK sa m sc) => show Calls Tryz.prog 47 #[.slice sa m sc] u fun e w' => e = .returned (.bool (tiedB s)) ∧ Kp (fun _ => False) u w' from by
    have := lit_Tied sa m sc s u hr HM.out ho hm6 HB.out
    rw [srtD_id HRi.out] at this
    exact this)
  have HCf := Lib.hid (fun (u : World) (sa : Option Addr) (sc : Nat) (hr : RowAt u sa (iv s)) => ints_ContainsFunc 49 #[] (fun x => !gl x) (enters_of Tryz.func49 (by kernel_rfl) rfl) sa m sc s u hr HM.out hm6 norm_not_good)
  obtain ⟨b1, hb1⟩ : ∃ b, s.contains 1 = b := ⟨_, rfl⟩
  obtain ⟨b2, hb2⟩ : ∃ b, tiedB s = b := ⟨_, rfl⟩
  obtain ⟨b3, hb3⟩ : ∃ b, s.any (fun x => !gl x) = b := ⟨_, rfl⟩
  rw [hb1, hb2, hb3] at HNc
  simp only [hb1] at HHas
  simp only [hb2] at HTd
  simp only [hb3] at HCf
  clear hb1 hb2 hb3
  have no : (b1 || b2 || b3) = true → normC l = none := fun h => by rw [HNc.out, if_pos h]
  have HNo := Lib.hid no
  clear no
  cases b1 with
  | true =>
    go_enter Tryz.func26, Tryz.ntmps26
    go_wp2_with (first
      | (go_at_call 45; refine HS.out.mono ?_; rintro e w1 ⟨v, rfl, ⟨sa, sc, rfl, -, hr, -⟩, hK⟩; rw [HM.out]; have HHas1 := Lib.hid (HHas.out w1 sa sc hr); have HK := Lib.hid hK; clear hr hK)
      | (go_at_call 46; refine HHas1.out.mono ?_; rintro e w2 ⟨rfl, rfl⟩))
    exact bodyPost_ret (v := .tuple #[.slice none 0 0, .bool false]) (by simp [results, Tryz.results26, go_sem]) rfl ⟨.inl ⟨HNo.out rfl, rfl⟩, HK.out⟩
  | false =>
    cases b2 with
    | true =>
      go_enter Tryz.func26, Tryz.ntmps26
      go_wp2_with (first
        | (go_at_call 45; refine HS.out.mono ?_; rintro e w1 ⟨v, rfl, ⟨sa, sc, rfl, ho, hr, -⟩, hK⟩; rw [HM.out] at ho ⊢; have HHas1 := Lib.hid (HHas.out w1 sa sc hr); have HTd1 := Lib.hid (HTd.out w1 sa sc hr ho); have HK := Lib.hid hK; clear hr hK ho)
        | (go_at_call 46; refine HHas1.out.mono ?_; rintro e w2 ⟨rfl, rfl⟩)
        | (go_at_call 47; refine HTd1.out.mono ?_; rintro e w2 ⟨rfl, hK2⟩; have HK2 := Lib.hid hK2; clear hK2))
      exact bodyPost_ret (v := .tuple #[.slice none 0 0, .bool false]) (by simp [results, Tryz.results26, go_sem]) rfl ⟨.inl ⟨HNo.out rfl, rfl⟩, HK.out.trans HK2.out (fun _ _ h => h)⟩
    | false =>
      cases b3 with
      | true =>
        go_enter Tryz.func26, Tryz.ntmps26
        go_wp2_with (first
          | (go_at_call 45; refine HS.out.mono ?_; rintro e w1 ⟨v, rfl, ⟨sa, sc, rfl, ho, hr, -⟩, hK⟩; rw [HM.out] at ho ⊢; have HHas1 := Lib.hid (HHas.out w1 sa sc hr); have HTd1 := Lib.hid (HTd.out w1 sa sc hr ho); have HCf1 := Lib.hid (fun u (hu : Kp (fun _ => False) w1 u) => HCf.out u sa sc (hr.kp hu (fun _ _ h => h))); have HK := Lib.hid hK; clear hr hK ho)
          | (go_at_call 46; refine HHas1.out.mono ?_; rintro e w2 ⟨rfl, rfl⟩)
          | (go_at_call 47; refine HTd1.out.mono ?_; rintro e w2 ⟨rfl, hK2⟩; have HCf2 := Lib.hid (HCf1.out w2 hK2); have HK2 := Lib.hid hK2; clear hK2)
          | (go_at_call 48; refine HCf2.out.mono ?_; rintro e w3 ⟨rfl, hK3⟩; have HK3 := Lib.hid hK3; clear hK3))
        exact bodyPost_ret (v := .tuple #[.slice none 0 0, .bool false]) (by simp [results, Tryz.results26, go_sem]) rfl ⟨.inl ⟨HNo.out rfl, rfl⟩, (HK.out.trans HK2.out (fun _ _ h => h)).trans HK3.out (fun _ _ h => h)⟩
      | false =>
        have HYes := Lib.hid (show normC l = some (if s.head? = some 0 then s.tail else s) by rw [HNc.out]; rfl)
        clear HNo HNc
        go_enter Tryz.func26, Tryz.ntmps26
        go_upto_region 4 with (first
            | (go_at_call 45; refine HS.out.mono ?_; rintro e w1 ⟨v, rfl, ⟨sa, sc, rfl, ho, hr, hbl⟩, hK⟩; rw [HM.out] at ho ⊢; have HHas1 := Lib.hid (HHas.out w1 sa sc hr); have HTd1 := Lib.hid (HTd.out w1 sa sc hr ho); have HCf1 := Lib.hid (fun u (hu : Kp (fun _ => False) w1 u) => HCf.out u sa sc (hr.kp hu (fun _ _ h => h))); have HK := Lib.hid hK; have HR := Lib.hid hr; have HO := Lib.hid ho; have HBl := Lib.hid hbl; clear hr hK ho hbl)
            | (go_at_call 46; refine HHas1.out.mono ?_; rintro e w2 ⟨rfl, rfl⟩)
            | (go_at_call 47; refine HTd1.out.mono ?_; rintro e w2 ⟨rfl, hK2⟩; have HCf2 := Lib.hid (HCf1.out w2 hK2); have HK2 := Lib.hid hK2; clear hK2)
            | (go_at_call 48; refine HCf2.out.mono ?_; rintro e w3 ⟨rfl, hK3⟩; have HK3 := Lib.hid (HK2.out.trans hK3 (fun _ _ h => h)); clear hK3))
        have HRd := Lib.hid (show RdInts w3 w.heap.size (.slice sa m sc) s from by
          have : RdInts w1 w.heap.size (.slice sa m sc) s := ⟨sa, sc, by rw [HM.out], by rw [HM.out]; exact HO.out, HR.out, HBl.out⟩
          exact this.kp HK3.out)
        have HKK := Lib.hid (HK.out.trans HK3.out (fun _ _ h => h))
        cases s with
        | nil =>
          have hm0 : m = 0 := HM.out.symm
          subst hm0
          go_wp2_with fail
          exact bodyPost_ret (v := .tuple #[.slice sa 0 sc, .bool true]) (by simp [results, Tryz.results26, go_sem]) rfl ⟨.inr ⟨[], _, by rw [HYes.out]; rfl, rfl, HRd.out⟩, HKK.out⟩
        | cons x r =>
          have hmr : r.length + 1 = m := by have := HM.out; simpa using this
          have HMr := Lib.hid hmr
          have hm1 : 0 < m := by omega
          have hm2 : 1 ≤ m := hm1
          have hmi : (0 : Int) < (m : Int) := by omega
          obtain ⟨b, off, rfl, hcell⟩ := (HR.out.kp HK3.out (fun _ _ h => h)) 0 (.int .i64 x) rfl
          rw [Nat.add_zero] at hcell
          by_cases hx : x = 0
          · subst hx
            have HO1 := Lib.hid HO.out.le
            have hsc : m ≤ sc := HO.out.le
            have HYs := Lib.hid (show normC l = some r by rw [HYes.out]; rfl)
            have hbl := HRd.out
            have HBk := Lib.hid (show w.heap.size ≤ b ∧ b < w3.heap.size by
              obtain ⟨_, _, e9, _, _, h9⟩ := hbl
              simp only [Value.slice.injEq] at e9
              exact h9 _ e9.1.symm)
            have HRt := Lib.hid (show RowAt w3 (some ⟨b, off + 1, none⟩) (iv r) from RowAt.tail1 (x := .int .i64 0) (HR.out.kp HK3.out (fun _ _ h => h)))
            clear hbl HYes
            by_cases hs1 : sc = 1
            · have hm9 : m = 1 := by omega
              have hr9 : r = [] := List.eq_nil_of_length_eq_zero (by omega)
              subst hs1 hm9 hr9
              clear hmr
              go_wp2_with fail
              exact bodyPost_ret (v := .tuple #[.slice (some ⟨b, off, none⟩) 0 0, .bool true]) (by simp [results, Tryz.results26, go_sem]) rfl ⟨.inr ⟨[], _, HYs.out, rfl, some ⟨b, off, none⟩, 0, rfl, ⟨Nat.le_refl _, by simp [maxLen], fun _ => rfl⟩, RowAt.nil _ _, fun p hp => by simp only [Option.some.injEq] at hp; subst hp; exact HBk.out⟩, HKK.out⟩
            · have hmc := HO.out.most
              clear hmr
              go_wp2_with fail
              exact bodyPost_ret (v := .tuple #[.slice (some ⟨b, off + 1, none⟩) (m - 1) (sc - 1), .bool true]) (by simp [results, Tryz.results26, go_sem]) rfl ⟨.inr ⟨r, _, HYs.out, rfl, some ⟨b, off + 1, none⟩, sc - 1, by rw [← HMr.out]; rfl, ⟨by have := HMr.out; omega, by omega, fun h => by cases h⟩, HRt.out, fun p hp => by simp only [Option.some.injEq] at hp; subst hp; exact HBk.out⟩, HKK.out⟩
          · have hb0 : (x == 0) = false := by simp [hx]
            have HX := Lib.hid hx
            clear hx hmr
            go_wp2_with fail
            exact bodyPost_ret (v := .tuple #[.slice (some ⟨b, off, none⟩) m sc, .bool true]) (by simp [results, Tryz.results26, go_sem]) rfl ⟨.inr ⟨x :: r, _, by rw [HYes.out, if_neg (by simp; exact HX.out)], rfl, HRd.out⟩, HKK.out⟩

end Go.Proofs.YthconjhldjaldaaGreatDoor

/-
  deriv.Write.
-/
namespace Go.Proofs.YthconjhldjaldaaGreatDoor
open Go.RowKit

/-- a slice of ints that reads l -/
def IntsSl (w : World) (v : Value) (l : List Int) : Prop := ∃ a cap, v = .slice a l.length cap ∧ l.length ≤ cap ∧ cap ≤ maxLen ∧ (a = none → cap = 0) ∧ IntsAt w a l

theorem IntsSl.kp {w w' : World} {v : Value} {l : List Int} (h : IntsSl w v l) (k : Kp (fun _ => False) w w') : IntsSl w' v l := by
  obtain ⟨a, cap, e, h1, h2, h3, h4⟩ := h
  exact ⟨a, cap, e, h1, h2, h3, h4.kp k (fun _ _ h => h)⟩

/-- rows of lines that read L -/
def LnsAt (w : World) (a : Option Addr) (L : List (Bool × List Int)) : Prop :=
  ∃ rs : List (Bool × Value), RowAt w a (lrows rs).flatten ∧ rs.length = L.length ∧ ∀ (k : Nat) (r : Bool × Value) (x : Bool × List Int), rs[k]? = some r → L[k]? = some x → r.1 = x.1 ∧ IntsSl w r.2 x.2

theorem LnsAt.kp {w w' : World} {a : Option Addr} {L : List (Bool × List Int)} (h : LnsAt w a L) (k : Kp (fun _ => False) w w') : LnsAt w' a L := by
  obtain ⟨rs, h1, h2, h3⟩ := h
  exact ⟨rs, h1.kp k (fun _ _ h => h), h2, fun i r x hr hx => ⟨(h3 i r x hr hx).1, (h3 i r x hr hx).2.kp k⟩⟩

theorem lrows_len (rs : List (Bool × Value)) : ∀ r ∈ lrows rs, r.length = 2 := by
  intro r hr
  obtain ⟨x, _, rfl⟩ := List.mem_map.1 hr
  rfl

def li (L : List (Bool × List Int)) (k : Nat) : Bool × List Int := L[k]?.getD (false, [])
theorem li_at {L : List (Bool × List Int)} {k : Nat} (h : k < L.length) : L[k]? = some (li L k) := by unfold li; rw [List.getElem?_eq_getElem h]; rfl

/-- the cells of line k -/
theorem LnsAt.line {w : World} {a : Option Addr} {L : List (Bool × List Int)} (h : LnsAt w a L) {k : Nat} (hk : k < L.length) :
    ∃ b off v, a = some ⟨b, off, none⟩ ∧ w.cell? ⟨b, off + k * 2, none⟩ = some (.bool (li L k).1) ∧ w.cell? ⟨b, off + k * 2 + 1, none⟩ = some v ∧ IntsSl w v (li L k).2 := by
  obtain ⟨rs, h1, h2, h3⟩ := h
  have hk' : k < rs.length := by rw [h2]; exact hk
  have hr : rs[k]? = some rs[k] := List.getElem?_eq_getElem hk'
  have hl : (lrows rs)[k]? = some [.bool rs[k].1, rs[k].2] := by simp [lrows, hr]
  obtain ⟨b, off, rfl, c0⟩ := h1.cellAt (lrows_len rs) (j := k) (i := 0) hl rfl
  obtain ⟨b1, off1, e1, c1⟩ := h1.cellAt (lrows_len rs) (j := k) (i := 1) hl rfl
  simp only [Option.some.injEq, Addr.mk.injEq, and_true] at e1
  obtain ⟨rfl, rfl⟩ := e1
  obtain ⟨e, hi⟩ := h3 k _ _ hr (li_at hk)
  rw [e] at c0
  exact ⟨b, off, _, rfl, c0, c1, hi⟩

theorem Kp.cellAt {w w' : World} (k : Kp (fun _ => False) w w') {b o : Nat} {v : Value} (h : w.cell? ⟨b, o, none⟩ = some v) : w'.cell? ⟨b, o, none⟩ = some v :=
  (World.cell?_of_block (w := w) (w' := w') (a := ⟨b, o, none⟩) (k.block b (World.block_lt_of_cell? w _ h) (fun h => h))).trans h

end Go.Proofs.YthconjhldjaldaaGreatDoor

/-
  rup.Check.
-/
namespace Go.Proofs.YthconjhldjaldaaGreatDoor
open Go.RowKit

def okI (x : Int) : Prop := -9223372036854775808 ≤ x ∧ x ≤ 9223372036854775807

/-- where Check stands -/
structure CkS (w wr : World) (n m : Nat) (N : List (Int × Int)) (want : List Int) (L : List (Bool × List Int)) (p b : Nat) (i : Nat) (d : Bool) (v : Value) (q : Nat) (F : ByteArray → Int) (vs : List Value) (K : List (List Int)) : Prop where
  sh : ShAt wr w.heap.size p v b q F vs K
  kp : Kp (fun _ => False) w wr
  ok : KeptOK n m K
  ql : q ≤ i
  kl : K.length ≤ i
  so : rupG N want K d i (L.drop i) = rupCk N want L

set_option maxRecDepth 100000 in
set_option maxHeartbeats 8000000 in
theorem rup_Check (an : Option Addr) (n cn : Nat) (N : List (Int × Int)) (al : Option Addr) (ml cl : Nat) (l : List Int) (ax : Option Addr) (nx cx : Nat) (L : List (Bool × List Int)) (w : World)
    (hrn : RowAt w an (N.map pr2).flatten) (hnn : N.length = n) (hon : SlOK an n cn) (hn : n ≤ 100000) (hN : GoodN N) (hrl : RowAt w al (iv l)) (hll : l.length = ml) (hol : SlOK al ml cl) (hml : ml ≤ 40000) (hl : KnC n l)
    (hL : LnsAt w ax L) (hlx : L.length = nx) (hnx : nx ≤ 100000) (hcl : ∀ x ∈ L, x.2.length ≤ 40000) (hb : ∀ x ∈ L, ∀ y ∈ x.2, okI y) (ht : Tab w) :
    Calls Tryz.prog 16 #[.slice an n cn, .slice al ml cl, .slice ax nx cx] w fun e w' => e = .returned (.tuple #[.int .i64 (rupCk N l L).1, .int .i64 (rupCk N l L).2]) ∧ Kp (fun _ => False) w w' := by
  have HFol := Lib.hid (fun (u : World) (hu : Kp (fun _ => False) w u) (ak : Option Addr) (mk ck : Nat) (K : List (List Int)) (hc : Cls u ak mk K) (hmk : mk ≤ 100000) (hok : KeptOK n 40000 K) (ac : Option Addr) (mc cc : Nat) (c : List Int) (hrc : RowAt u ac (iv c)) (hlc : c.length = mc) (hmc : mc ≤ 40000) (hkc : KnC n c) =>
    rup_Follows an n cn N al ml cl l ak mk ck K ac mc cc c u (hrn.kp hu (fun _ _ h => h)) hnn hon (by omega) hN (hrl.kp hu (fun _ _ h => h)) hll hol (by omega) hl hc (by omega) hok.kn (fun c hc => by have := hok.le c hc; omega) hrc hlc (by omega) hkc)
  have HNn := Lib.hid hnn
  have HL := Lib.hid hL
  have HLx := Lib.hid hlx
  have HCl := Lib.hid hcl
  have HB := Lib.hid hb
  have HT := Lib.hid ht
  obtain ⟨W1, hW1⟩ : ∃ W1, (w.alloc (.map #[] 0)).alloc (.cells #[.slice none 0 0, .map (some w.heap.size)] 56) = W1 := ⟨_, rfl⟩
  have HW := Lib.hid hW1
  have HS0 : Hid (CkS w W1 n 40000 N l L (w.heap.size + 1) w.heap.size 0 false (.slice none 0 0) 0 (fun _ => 0) [] []) := Lib.hid (by
    have k0 : Kp (fun _ => False) w (w.alloc (.map #[] 0)) := (Kp.refl _ w).alloc _
    have k1 : Kp (fun _ => False) w W1 := by rw [← hW1]; exact k0.alloc _
    refine ⟨⟨?_, ClsV.nil _ (Own.nil _ _ _), ?_, by omega, Nat.le_refl _, by omega, fun h => by simp [Value.ownBlock] at h, fun h => by simp [Value.ownBlock] at h, fun c _ => by simp, fun c h => by cases h⟩, k1, KeptOK.nil _ _, Nat.le_refl _, Nat.le_refl _, rfl⟩
    · rw [← hW1]
      have := Blk.new (w.alloc (.map #[] 0)) #[.slice none 0 0, .map (some w.heap.size)] 56
      rw [World.size_alloc] at this
      exact this
    · rw [← hW1]
      exact (TMap.made w).kp ((Kp.refl (fun _ => False) _).alloc _) (fun h => h))
  clear hrn hnn hon hN hrl hll hol hl hL hlx hcl hb ht hW1
  have hmm := @run_makeMap Tryz.prog
  go_enter Tryz.func16, Tryz.ntmps16
  go_upto_region 2 with fail
  rw [HW.out]
  clear hmm HW
  go_wp2_with fail
  obtain ⟨b, hbb⟩ : ∃ b, w.heap.size = b := ⟨_, rfl⟩
  obtain ⟨p, hpp⟩ : ∃ p, b + 1 = p := ⟨_, rfl⟩
  have HB0 := Lib.hid hbb
  rw [hbb, hpp] at HS0
  rw [hbb, hpp]
  have HLo := Lib.hid (show w.heap.size ≤ b by omega)
  clear hbb hpp
  go_loopw [9, 19] (fun v9 v19 wr => ∃ (i : Nat) (d : Bool) (v : Value) (q : Nat) (F : ByteArray → Int) (vs : List Value) (K : List (List Int)), v19 = .int .i64 (i : Int) ∧ v9 = .bool d ∧ i ≤ nx ∧ CkS w wr n 40000 N l L p b i d v q F vs K) (fun _ v19 _ => nx - (intOf v19).toNat)
  case atStart => exact ⟨0, false, _, _, _, _, _, rfl, rfl, Nat.zero_le _, HS0.out⟩
  case round =>
    clear HS0
    obtain ⟨i, d, v, q, F, vs, K, rfl, rfl, hi, hS⟩ := hrel
    have HS := Lib.hid hS
    clear hS
    obtain ⟨wp, rfl⟩ : ∃ wp : World, wp = wr := ⟨_, rfl⟩
    by_cases hlt : i < nx
    · have hil : i < L.length := by rw [HLx.out]; exact hlt
      obtain ⟨b0, off, vx, rfl, c0, c1, hv⟩ := (HL.out.kp HS.out.kp).line hil
      have hx9 := li_at hil
      obtain ⟨xa, xc, rfl, h1, h2, h3, hrx⟩ := hv
      obtain ⟨x, hx⟩ : ∃ x, li L i = x := ⟨_, rfl⟩
      rw [hx] at c0 c1 h1 hrx hx9
      obtain ⟨f, cx0⟩ := x
      obtain ⟨mx, hmx⟩ : ∃ mx, cx0.length = mx := ⟨_, rfl⟩
      simp only [hmx] at c0 c1 h1 hrx
      have hmem := List.mem_of_getElem? hx9
      have hmx9 : mx ≤ 40000 := by have := HCl.out _ hmem; rw [← hmx]; exact this
      have HDr := Lib.hid (drop_li hx9)
      have HBx := Lib.hid (HB.out _ hmem)
      have HRx := Lib.hid hrx
      have HMx := Lib.hid hmx
      have HSx := Lib.hid (show SlOK xa mx xc from ⟨h1, h2, h3⟩)
      have i0 : (0 : Int) ≤ (i : Int) := by omega
      have i1 : (i : Int) < (nx : Int) := by omega
      clear hil hx9 h1 h2 h3 hrx hx hmx hmem
      go_upto_region 5 with fail
      obtain ⟨W2, hW2⟩ : ∃ W2, wp.alloc (.cells #[.bool f, .slice xa mx xc] 45) = W2 := ⟨_, rfl⟩
      have k2 : Kp (fun _ => False) wp W2 := by rw [← hW2]; exact (Kp.refl _ wp).alloc _
      have HBX := Lib.hid (show Blk W2 wp.heap.size #[.bool f, .slice xa mx xc] 45 by rw [← hW2]; exact Blk.new wp _ _)
      have hz2 : wp.heap.size ≤ W2.heap.size := k2.size
      rw [hW2]
      clear hW2
      have HK2 := Lib.hid k2
      have HNo := Lib.hid (clause_Norm xa mx xc cx0 W2 (HRx.out.kp k2 (fun _ _ h => h)) HMx.out HSx.out (by omega) HBx.out)
      have e1 : W2.cell? ⟨wp.heap.size, 1, none⟩ = some (.slice xa mx xc) := HBX.out.cell rfl
      have HKw := Lib.hid (HS.out.kp.trans k2 (fun _ _ h => h))
      have HSo := Lib.hid (show rupG N l K d i ((f, cx0) :: L.drop (i + 1)) = rupCk N l L by rw [← HDr.out]; exact HS.out.so)
      clear k2 HRx HSx c0 c1
      cases hno : normC cx0 with
      | none =>
        have HE := Lib.hid (show rupCk N l L = (i, 5) by rw [← HSo.out]; exact rupG_err (rupL_none (x := (f, cx0)) hno))
        have HN2 := Lib.hid (HNo.out.mono (R' := fun e w' => e = .returned (.tuple #[.slice none 0 0, .bool false]) ∧ Kp (fun _ => False) W2 w') (by
          rintro e w' ⟨⟨-, h⟩ | ⟨c, v, h, -⟩, hk⟩
          · exact ⟨h, hk⟩
          · rw [hno] at h; cases h))
        clear HNo hno HSo
        go_wp2_with (go_at_call 26; refine HN2.out.mono ?_; rintro e w3 ⟨rfl, hK3⟩; have HK3 := Lib.hid hK3; clear hK3)
        exact bodyPost_ret (v := .tuple #[.int .i64 i, .int .i64 5]) (by simp [results, Tryz.results16, go_sem]) rfl ⟨by rw [HE.out], HKw.out.trans HK3.out (fun _ _ h => h)⟩
      | some c =>
        have hg := normC_good hno
        have hlen := normC_len hno
        have HGd := Lib.hid (show GdC c from fun x hx => (hg.2.1 x hx).2)
        have HRi := Lib.hid hg.1
        have HNC := Lib.hid hno
        have HRg := Lib.hid (fun x (hx : x ∈ c) => show 2 ≤ x ∧ x < 33554434 from ⟨(hg.2.1 x hx).1, by have := (hg.2.1 x hx).2; unfold gl at this; simp at this; omega⟩)
        obtain ⟨mc, hmc⟩ : ∃ mc, c.length = mc := ⟨_, rfl⟩
        have HMc := Lib.hid hmc
        have hmc9 : mc ≤ 40000 := by rw [← hmc]; have := HMx.out; omega
        have HN2 := Lib.hid (HNo.out.mono (R' := fun e w' => (∃ a cap, e = .returned (.tuple #[.slice a mc cap, .bool true]) ∧ RowAt w' a (iv c) ∧ ∀ p, a = some p → W2.heap.size ≤ p.block ∧ p.block < w'.heap.size) ∧ Kp (fun _ => False) W2 w') (by
          rintro e w' ⟨⟨h, -⟩ | ⟨c', v, h, rfl, a, cap, rfl, -, h4, h5⟩, hk⟩
          · rw [hno] at h; cases h
          · rw [hno] at h
            cases h
            rw [hmc]
            exact ⟨⟨a, cap, rfl, h4, h5⟩, hk⟩))
        obtain ⟨ak, ck, rfl, hok4, hcls⟩ := HS.out.sh.row.cls
        obtain ⟨mk, hmk⟩ : ∃ mk, K.length = mk := ⟨_, rfl⟩
        have HMk := Lib.hid hmk
        have hmk9 : mk ≤ 100000 := by rw [← hmk]; have := HS.out.kl; omega
        rw [hmk] at hcls
        have HCls := Lib.hid hcls
        have HS2 := Lib.hid HS.out
        rw [hmk] at HS2
        clear HNo hno hg hlen hmc hmk hcls hok4
        by_cases hm0 : mc = 0
        · subst hm0
          have hc0 : c = [] := List.eq_nil_of_length_eq_zero HMc.out
          have HCe := Lib.hid hc0
          have HBd := Lib.hid (show ¬ ∃ y ∈ c, (N.length : Int) < y / 2 by rw [hc0]; rintro ⟨y, hy, -⟩; cases hy)
          have HKn := Lib.hid (show KnC n c by rw [hc0]; intro y hy; cases hy)
          clear hc0
          cases f with
          | true =>
            by_cases hin : c ∈ K
            · have HIn := Lib.hid hin
              have HSn := Lib.hid (show rupG N l (K.erase c) d (i + 1) (L.drop (i + 1)) = rupCk N l L by
                rw [← HSo.out, rupG_ok (rupL_drop (x := (true, cx0)) HNC.out HBd.out rfl hin)]
                congr 1
                simp [rupE])
              clear hin HSo
              go_upto_region 8 with (go_at_call 26; refine HN2.out.mono ?_; rintro e w3 ⟨⟨ac, cc, rfl, hr3, hf3⟩, hK3⟩; have HR3 := Lib.hid hr3; have HF3 := Lib.hid hf3; have HK3 := Lib.hid hK3; have HKp := Lib.hid (HK2.out.trans hK3 (fun _ _ h => h)); have d0 : w3.cell? ⟨wp.heap.size, 0, none⟩ = some (.bool true) := (HBX.out.kp hK3 (fun h => h)).cell rfl; have d1 : w3.cell? ⟨p, 0, none⟩ = some (.slice ak mk ck) := (HS2.out.sh.kp HKp.out).blk.cell rfl; have HT3 := Lib.hid (HT.out.kp (HKw.out.trans hK3 (fun _ _ h => h))); have HDp := Lib.hid (shelf_drop (cc := cc) HS2.out.sh HKp.out (by have := HS2.out.ql; omega) (by rw [HMk.out]; omega) (fun c hc => by have := HS2.out.ok.le c hc; omega) hr3 HMc.out (by omega) HGd.out (fun q hq => ⟨Nat.le_trans hz2 (hf3 q hq).1, (hf3 q hq).2⟩) HT3.out); clear hr3 hf3 hK3)
              have HD2 := Lib.hid (HDp.out.mono (R' := fun e w' => e = .returned (.bool true) ∧ (∃ v' vs' F', ShAt w' w.heap.size p v' b (q + 1) F' vs' (K.erase c)) ∧ Kp (fun j => j = p ∨ j = b) w3 w') (by
                rintro e w' ⟨⟨h, -⟩ | ⟨-, h, h2⟩, hk⟩
                · exact absurd HIn.out h
                · exact ⟨h, h2, hk⟩))
              clear HDp
              go_upto_region 10 with (go_at_call 27; refine HD2.out.mono ?_; rintro e w4 ⟨rfl, ⟨v', vs', F', hS4⟩, hK4⟩; have HS4 := Lib.hid hS4; have HK4 := Lib.hid hK4; have d4 : w4.cell? ⟨wp.heap.size, 0, none⟩ = some (.bool true) := ((HBX.out.kp HK3.out (fun h => h)).kp hK4 (fun e => by have h1 := HS2.out.sh.blk.lt; have h2 := HS2.out.sh.map.lt; omega)).cell rfl; clear hS4 hK4)
              go_wp2_with fail
              go_roundw
              case rel => exact ⟨i + 1, d, v', q + 1, F', vs', K.erase c, by go_num, rfl, hlt, HS4.out, (HKw.out.trans HK3.out (fun _ _ h => h)).trans HK4.out (fun j hj hl => by have := HS2.out.sh.lop; have := HS2.out.sh.lob; omega), HS2.out.ok.erase c, by have := HS2.out.ql; omega, by have := List.length_erase_le (a := c) (l := K); have := HS2.out.kl; omega, HSn.out⟩
              case measure => simp [intOf]; omega
            · have HIn := Lib.hid hin
              have HE := Lib.hid (show rupCk N l L = (i, 9) by rw [← HSo.out]; exact rupG_err (rupL_gone (x := (true, cx0)) HNC.out HBd.out rfl hin))
              clear hin HSo
              go_upto_region 8 with (go_at_call 26; refine HN2.out.mono ?_; rintro e w3 ⟨⟨ac, cc, rfl, hr3, hf3⟩, hK3⟩; have HR3 := Lib.hid hr3; have HF3 := Lib.hid hf3; have HK3 := Lib.hid hK3; have HKp := Lib.hid (HK2.out.trans hK3 (fun _ _ h => h)); have d0 : w3.cell? ⟨wp.heap.size, 0, none⟩ = some (.bool true) := (HBX.out.kp hK3 (fun h => h)).cell rfl; have d1 : w3.cell? ⟨p, 0, none⟩ = some (.slice ak mk ck) := (HS2.out.sh.kp HKp.out).blk.cell rfl; have HT3 := Lib.hid (HT.out.kp (HKw.out.trans hK3 (fun _ _ h => h))); have HDp := Lib.hid (shelf_drop (cc := cc) HS2.out.sh HKp.out (by have := HS2.out.ql; omega) (by rw [HMk.out]; omega) (fun c hc => by have := HS2.out.ok.le c hc; omega) hr3 HMc.out (by omega) HGd.out (fun q hq => ⟨Nat.le_trans hz2 (hf3 q hq).1, (hf3 q hq).2⟩) HT3.out); clear hr3 hf3 hK3)
              have HD2 := Lib.hid (HDp.out.mono (R' := fun e w' => e = .returned (.bool false) ∧ Kp (fun j => j = p ∨ j = b) w3 w') (by
                rintro e w' ⟨⟨-, h⟩ | ⟨h, -⟩, hk⟩
                · exact ⟨h, hk⟩
                · exact absurd h HIn.out))
              clear HDp
              go_wp2_with (go_at_call 27; refine HD2.out.mono ?_; rintro e w4 ⟨rfl, hK4⟩; have HK4 := Lib.hid hK4; clear hK4)
              exact bodyPost_ret (v := .tuple #[.int .i64 i, .int .i64 9]) (by simp [results, Tryz.results16, go_sem]) rfl ⟨by rw [HE.out], (HKw.out.trans HK3.out (fun _ _ h => h)).trans HK4.out (fun j hj hl => by have := HS2.out.sh.lop; have := HS2.out.sh.lob; omega)⟩
          | false =>
            by_cases hfo : Fol N l K c
            · have HFo := Lib.hid hfo
              have HSn := Lib.hid (show rupG N l (K ++ [c]) (d || rupE (false, cx0)) (i + 1) (L.drop (i + 1)) = rupCk N l L by
                rw [← HSo.out, rupG_ok (rupL_put (x := (false, cx0)) HNC.out HBd.out rfl hfo)])
              have hre : rupE (false, cx0) = true := by unfold rupE; rw [HNC.out]; rw [HCe.out]; rfl
              rw [hre] at HSn
              clear hfo HSo hre
              go_upto_region 8 with (go_at_call 26; refine HN2.out.mono ?_; rintro e w3 ⟨⟨ac, cc, rfl, hr3, hf3⟩, hK3⟩; have HR3 := Lib.hid hr3; have HF3 := Lib.hid hf3; have HK3 := Lib.hid hK3; have HKp := Lib.hid (HK2.out.trans hK3 (fun _ _ h => h)); have d0 : w3.cell? ⟨wp.heap.size, 0, none⟩ = some (.bool false) := (HBX.out.kp hK3 (fun h => h)).cell rfl; have d1 : w3.cell? ⟨p, 0, none⟩ = some (.slice ak mk ck) := (HS2.out.sh.kp HKp.out).blk.cell rfl; have HT3 := Lib.hid (HT.out.kp (HKw.out.trans hK3 (fun _ _ h => h))); have HFl := Lib.hid (HFol.out w3 (HKw.out.trans hK3 (fun _ _ h => h)) ak mk ck K (HCls.out.kp HKp.out) hmk9 HS2.out.ok ac _ cc c hr3 HMc.out hmc9 HKn.out); clear hr3 hf3 hK3)
              have HF2 := Lib.hid (HFl.out.mono (R' := fun e w' => e = .returned (.bool true) ∧ Kp (fun _ => False) w3 w') (by
                rintro e w' ⟨b, rfl, h, hk⟩
                rw [h.2 HFo.out]
                exact ⟨rfl, hk⟩))
              clear HFl
              have HPt := Lib.hid (fun w4 (hK4 : Kp (fun _ => False) w3 w4) => shelf_put (cc := cc) HS2.out.sh (HKp.out.trans hK4 (fun _ _ h => h)) (by have := HS2.out.ql; omega) (by rw [HMk.out]; omega) (HR3.out.kp hK4 (fun _ _ h => h)) HMc.out (by omega) HGd.out (fun q hq => ⟨Nat.le_trans hz2 (HF3.out q hq).1, Nat.lt_of_lt_of_le (HF3.out q hq).2 hK4.size⟩) (HT3.out.kp hK4))
              go_upto_region 14 with (first
                | (go_at_call 9; refine HF2.out.mono ?_; rintro e w4 ⟨rfl, hK4⟩; have HK4 := Lib.hid hK4; have HP4 := Lib.hid (HPt.out w4 hK4); clear hK4 HPt)
                | (go_at_call 28; refine HP4.out.mono ?_; rintro e w5 ⟨rfl, ⟨v', vs', F', hS5⟩, hK5⟩; have HS5 := Lib.hid hS5; have HK5 := Lib.hid hK5; clear hS5 hK5))
              cases d with
              | true =>
                go_wp2_with fail
                go_roundw
                case rel => exact ⟨i + 1, true, v', q + 1, F', vs', K ++ [c], by go_num, rfl, hlt, HS5.out, ((HKw.out.trans HK3.out (fun _ _ h => h)).trans HK4.out (fun _ _ h => h)).trans HK5.out (fun j hj hl => by omega), HS2.out.ok.put HKn.out (by rw [HMc.out]; exact hmc9), by have := HS2.out.ql; omega, by rw [List.length_append, List.length_singleton]; have := HS2.out.kl; omega, HSn.out⟩
                case measure => simp [intOf]; omega
              | false =>
                go_wp2_with fail
                go_roundw
                case rel => exact ⟨i + 1, true, v', q + 1, F', vs', K ++ [c], by go_num, rfl, hlt, HS5.out, ((HKw.out.trans HK3.out (fun _ _ h => h)).trans HK4.out (fun _ _ h => h)).trans HK5.out (fun j hj hl => by omega), HS2.out.ok.put HKn.out (by rw [HMc.out]; exact hmc9), by have := HS2.out.ql; omega, by rw [List.length_append, List.length_singleton]; have := HS2.out.kl; omega, HSn.out⟩
                case measure => simp [intOf]; omega
            · have HFo := Lib.hid hfo
              have HE := Lib.hid (show rupCk N l L = (i, 11) by rw [← HSo.out]; exact rupG_err (rupL_not (x := (false, cx0)) HNC.out HBd.out rfl hfo))
              clear hfo HSo
              go_upto_region 8 with (go_at_call 26; refine HN2.out.mono ?_; rintro e w3 ⟨⟨ac, cc, rfl, hr3, hf3⟩, hK3⟩; have HR3 := Lib.hid hr3; have HF3 := Lib.hid hf3; have HK3 := Lib.hid hK3; have HKp := Lib.hid (HK2.out.trans hK3 (fun _ _ h => h)); have d0 : w3.cell? ⟨wp.heap.size, 0, none⟩ = some (.bool false) := (HBX.out.kp hK3 (fun h => h)).cell rfl; have d1 : w3.cell? ⟨p, 0, none⟩ = some (.slice ak mk ck) := (HS2.out.sh.kp HKp.out).blk.cell rfl; have HT3 := Lib.hid (HT.out.kp (HKw.out.trans hK3 (fun _ _ h => h))); have HFl := Lib.hid (HFol.out w3 (HKw.out.trans hK3 (fun _ _ h => h)) ak mk ck K (HCls.out.kp HKp.out) hmk9 HS2.out.ok ac _ cc c hr3 HMc.out hmc9 HKn.out); clear hr3 hf3 hK3)
              have HF2 := Lib.hid (HFl.out.mono (R' := fun e w' => e = .returned (.bool false) ∧ Kp (fun _ => False) w3 w') (by
                rintro e w' ⟨b, rfl, h, hk⟩
                cases b with
                | true => exact absurd (h.1 rfl) HFo.out
                | false => exact ⟨rfl, hk⟩))
              clear HFl
              go_wp2_with (go_at_call 9; refine HF2.out.mono ?_; rintro e w4 ⟨rfl, hK4⟩; have HK4 := Lib.hid hK4; clear hK4)
              exact bodyPost_ret (v := .tuple #[.int .i64 i, .int .i64 11]) (by simp [results, Tryz.results16, go_sem]) rfl ⟨by rw [HE.out], (HKw.out.trans HK3.out (fun _ _ h => h)).trans HK4.out (fun _ _ h => h)⟩
        · obtain ⟨k, hk⟩ : ∃ k, mc = k + 1 := ⟨mc - 1, by omega⟩
          have hk0 : 0 < mc := by omega
          have HCe := Lib.hid (show ¬ c = [] from fun e => by have := HMc.out; rw [e] at this; simp at this; omega)
          have wk : IntKind.i64.wrap ((mc : Int) - 1) = (k : Int) := by rw [IntKind.wrap_i64]; omega
          have HLs := Lib.hid (rising_last HRi.out (show c.length = k + 1 by rw [HMc.out]; exact hk))
          have HMm := Lib.hid (show gi c k ∈ c from gi_mem (by rw [HMc.out]; omega))
          obtain ⟨y, hy⟩ : ∃ y, gi c k = y := ⟨_, rfl⟩
          have HY := Lib.hid hy
          rw [hy] at HLs HMm
          have hy9 := HRg.out y HMm.out
          have ty : y.tdiv 2 = y / 2 := Int.tdiv_eq_ediv_of_nonneg (by omega)
          obtain ⟨y2, hy2⟩ : ∃ y2, y / 2 = y2 := ⟨_, rfl⟩
          rw [hy2] at ty
          have wy : IntKind.i64.wrap y2 = y2 := by rw [IntKind.wrap_i64]; omega
          have hk1 : (0 : Int) < (mc : Int) := by omega
          have hk2 : (k : Int) < (mc : Int) := by omega
          have hk3 : (0 : Int) ≤ (k : Int) := by omega
          have m0 : ((mc : Int) == 0) = false := by simp; omega
          have HY2 := Lib.hid hy2
          clear hy hy2 hm0 hk
          by_cases hbig : (n : Int) < y2
          · have db : decide ((n : Int) < y2) = true := by simp [hbig]
            have HE := Lib.hid (show rupCk N l L = (i, 5) by rw [← HSo.out]; exact rupG_err (rupL_big (x := (f, cx0)) HNC.out ⟨y, HMm.out, by rw [HNn.out, HY2.out]; exact hbig⟩))
            clear hbig HSo
            go_wp2_with (go_at_call 26; refine HN2.out.mono ?_; rintro e w3 ⟨⟨ac, cc, rfl, hr3, hf3⟩, hK3⟩; obtain ⟨bq, oq, rfl, hcq⟩ := hr3 k _ (iv_at (show k < c.length by rw [HMc.out]; omega)); rw [HY.out] at hcq; have HR3 := Lib.hid hr3; have HF3 := Lib.hid hf3; have HK3 := Lib.hid hK3; have HKp := Lib.hid (HK2.out.trans hK3 (fun _ _ h => h)); have d0 : w3.cell? ⟨wp.heap.size, 0, none⟩ = some (.bool f) := (HBX.out.kp hK3 (fun h => h)).cell rfl; have d1 : w3.cell? ⟨p, 0, none⟩ = some (.slice ak mk ck) := (HS2.out.sh.kp HKp.out).blk.cell rfl; have HT3 := Lib.hid (HT.out.kp (HKw.out.trans hK3 (fun _ _ h => h))); clear hr3 hf3 hK3)
            exact bodyPost_ret (v := .tuple #[.int .i64 i, .int .i64 5]) (by simp [results, Tryz.results16, go_sem]) rfl ⟨by rw [HE.out], HKw.out.trans HK3.out (fun _ _ h => h)⟩
          · have db : decide ((n : Int) < y2) = false := by simp; omega
            have HBd := Lib.hid (show ¬ ∃ y ∈ c, (N.length : Int) < y / 2 by
              rintro ⟨z, hz, h⟩
              have := HLs.out z hz
              have := HY2.out
              rw [HNn.out] at h
              omega)
            have HKn := Lib.hid (show KnC n c from fun z hz => by
              have := HLs.out z hz
              have := HY2.out
              have := (HRg.out z hz).1
              exact ⟨by omega, by omega⟩)
            clear hbig
            cases f with
            | true =>
              by_cases hin : c ∈ K
              · have HIn := Lib.hid hin
                have HSn := Lib.hid (show rupG N l (K.erase c) d (i + 1) (L.drop (i + 1)) = rupCk N l L by
                  rw [← HSo.out, rupG_ok (rupL_drop (x := (true, cx0)) HNC.out HBd.out rfl hin)]
                  congr 1
                  simp [rupE])
                clear hin HSo
                go_upto_region 8 with (go_at_call 26; refine HN2.out.mono ?_; rintro e w3 ⟨⟨ac, cc, rfl, hr3, hf3⟩, hK3⟩; obtain ⟨bq, oq, rfl, hcq⟩ := hr3 k _ (iv_at (show k < c.length by rw [HMc.out]; omega)); rw [HY.out] at hcq; have HR3 := Lib.hid hr3; have HF3 := Lib.hid hf3; have HK3 := Lib.hid hK3; have HKp := Lib.hid (HK2.out.trans hK3 (fun _ _ h => h)); have d0 : w3.cell? ⟨wp.heap.size, 0, none⟩ = some (.bool true) := (HBX.out.kp hK3 (fun h => h)).cell rfl; have d1 : w3.cell? ⟨p, 0, none⟩ = some (.slice ak mk ck) := (HS2.out.sh.kp HKp.out).blk.cell rfl; have HT3 := Lib.hid (HT.out.kp (HKw.out.trans hK3 (fun _ _ h => h))); have HDp := Lib.hid (shelf_drop (cc := cc) HS2.out.sh HKp.out (by have := HS2.out.ql; omega) (by rw [HMk.out]; omega) (fun c hc => by have := HS2.out.ok.le c hc; omega) hr3 HMc.out (by omega) HGd.out (fun q hq => ⟨Nat.le_trans hz2 (hf3 q hq).1, (hf3 q hq).2⟩) HT3.out); clear hr3 hf3 hK3)
                have HD2 := Lib.hid (HDp.out.mono (R' := fun e w' => e = .returned (.bool true) ∧ (∃ v' vs' F', ShAt w' w.heap.size p v' b (q + 1) F' vs' (K.erase c)) ∧ Kp (fun j => j = p ∨ j = b) w3 w') (by
                  rintro e w' ⟨⟨h, -⟩ | ⟨-, h, h2⟩, hk⟩
                  · exact absurd HIn.out h
                  · exact ⟨h, h2, hk⟩))
                clear HDp
                go_upto_region 10 with (go_at_call 27; refine HD2.out.mono ?_; rintro e w4 ⟨rfl, ⟨v', vs', F', hS4⟩, hK4⟩; have HS4 := Lib.hid hS4; have HK4 := Lib.hid hK4; have d4 : w4.cell? ⟨wp.heap.size, 0, none⟩ = some (.bool true) := ((HBX.out.kp HK3.out (fun h => h)).kp hK4 (fun e => by have h1 := HS2.out.sh.blk.lt; have h2 := HS2.out.sh.map.lt; omega)).cell rfl; clear hS4 hK4)
                go_wp2_with fail
                go_roundw
                case rel => exact ⟨i + 1, d, v', q + 1, F', vs', K.erase c, by go_num, rfl, hlt, HS4.out, (HKw.out.trans HK3.out (fun _ _ h => h)).trans HK4.out (fun j hj hl => by have := HS2.out.sh.lop; have := HS2.out.sh.lob; omega), HS2.out.ok.erase c, by have := HS2.out.ql; omega, by have := List.length_erase_le (a := c) (l := K); have := HS2.out.kl; omega, HSn.out⟩
                case measure => simp [intOf]; omega
              · have HIn := Lib.hid hin
                have HE := Lib.hid (show rupCk N l L = (i, 9) by rw [← HSo.out]; exact rupG_err (rupL_gone (x := (true, cx0)) HNC.out HBd.out rfl hin))
                clear hin HSo
                go_upto_region 8 with (go_at_call 26; refine HN2.out.mono ?_; rintro e w3 ⟨⟨ac, cc, rfl, hr3, hf3⟩, hK3⟩; obtain ⟨bq, oq, rfl, hcq⟩ := hr3 k _ (iv_at (show k < c.length by rw [HMc.out]; omega)); rw [HY.out] at hcq; have HR3 := Lib.hid hr3; have HF3 := Lib.hid hf3; have HK3 := Lib.hid hK3; have HKp := Lib.hid (HK2.out.trans hK3 (fun _ _ h => h)); have d0 : w3.cell? ⟨wp.heap.size, 0, none⟩ = some (.bool true) := (HBX.out.kp hK3 (fun h => h)).cell rfl; have d1 : w3.cell? ⟨p, 0, none⟩ = some (.slice ak mk ck) := (HS2.out.sh.kp HKp.out).blk.cell rfl; have HT3 := Lib.hid (HT.out.kp (HKw.out.trans hK3 (fun _ _ h => h))); have HDp := Lib.hid (shelf_drop (cc := cc) HS2.out.sh HKp.out (by have := HS2.out.ql; omega) (by rw [HMk.out]; omega) (fun c hc => by have := HS2.out.ok.le c hc; omega) hr3 HMc.out (by omega) HGd.out (fun q hq => ⟨Nat.le_trans hz2 (hf3 q hq).1, (hf3 q hq).2⟩) HT3.out); clear hr3 hf3 hK3)
                have HD2 := Lib.hid (HDp.out.mono (R' := fun e w' => e = .returned (.bool false) ∧ Kp (fun j => j = p ∨ j = b) w3 w') (by
                  rintro e w' ⟨⟨-, h⟩ | ⟨h, -⟩, hk⟩
                  · exact ⟨h, hk⟩
                  · exact absurd h HIn.out))
                clear HDp
                go_wp2_with (go_at_call 27; refine HD2.out.mono ?_; rintro e w4 ⟨rfl, hK4⟩; have HK4 := Lib.hid hK4; clear hK4)
                exact bodyPost_ret (v := .tuple #[.int .i64 i, .int .i64 9]) (by simp [results, Tryz.results16, go_sem]) rfl ⟨by rw [HE.out], (HKw.out.trans HK3.out (fun _ _ h => h)).trans HK4.out (fun j hj hl => by have := HS2.out.sh.lop; have := HS2.out.sh.lob; omega)⟩
            | false =>
              by_cases hfo : Fol N l K c
              · have HFo := Lib.hid hfo
                have HSn := Lib.hid (show rupG N l (K ++ [c]) (d || rupE (false, cx0)) (i + 1) (L.drop (i + 1)) = rupCk N l L by
                  rw [← HSo.out, rupG_ok (rupL_put (x := (false, cx0)) HNC.out HBd.out rfl hfo)])
                have hre : rupE (false, cx0) = false := by unfold rupE; rw [HNC.out]; simp; exact HCe.out
                rw [hre] at HSn
                clear hfo HSo hre
                go_upto_region 8 with (go_at_call 26; refine HN2.out.mono ?_; rintro e w3 ⟨⟨ac, cc, rfl, hr3, hf3⟩, hK3⟩; obtain ⟨bq, oq, rfl, hcq⟩ := hr3 k _ (iv_at (show k < c.length by rw [HMc.out]; omega)); rw [HY.out] at hcq; have HR3 := Lib.hid hr3; have HF3 := Lib.hid hf3; have HK3 := Lib.hid hK3; have HKp := Lib.hid (HK2.out.trans hK3 (fun _ _ h => h)); have d0 : w3.cell? ⟨wp.heap.size, 0, none⟩ = some (.bool false) := (HBX.out.kp hK3 (fun h => h)).cell rfl; have d1 : w3.cell? ⟨p, 0, none⟩ = some (.slice ak mk ck) := (HS2.out.sh.kp HKp.out).blk.cell rfl; have HT3 := Lib.hid (HT.out.kp (HKw.out.trans hK3 (fun _ _ h => h))); have HFl := Lib.hid (HFol.out w3 (HKw.out.trans hK3 (fun _ _ h => h)) ak mk ck K (HCls.out.kp HKp.out) hmk9 HS2.out.ok (some ⟨bq, oq, none⟩) _ cc c hr3 HMc.out hmc9 HKn.out); clear hr3 hf3 hK3)
                have HF2 := Lib.hid (HFl.out.mono (R' := fun e w' => e = .returned (.bool true) ∧ Kp (fun _ => False) w3 w') (by
                  rintro e w' ⟨b, rfl, h, hk⟩
                  rw [h.2 HFo.out]
                  exact ⟨rfl, hk⟩))
                clear HFl
                have HPt := Lib.hid (fun w4 (hK4 : Kp (fun _ => False) w3 w4) => shelf_put (cc := cc) HS2.out.sh (HKp.out.trans hK4 (fun _ _ h => h)) (by have := HS2.out.ql; omega) (by rw [HMk.out]; omega) (HR3.out.kp hK4 (fun _ _ h => h)) HMc.out (by omega) HGd.out (fun q hq => ⟨Nat.le_trans hz2 (HF3.out q hq).1, Nat.lt_of_lt_of_le (HF3.out q hq).2 hK4.size⟩) (HT3.out.kp hK4))
                go_upto_region 14 with (first
                  | (go_at_call 9; refine HF2.out.mono ?_; rintro e w4 ⟨rfl, hK4⟩; have HK4 := Lib.hid hK4; have HP4 := Lib.hid (HPt.out w4 hK4); clear hK4 HPt)
                  | (go_at_call 28; refine HP4.out.mono ?_; rintro e w5 ⟨rfl, ⟨v', vs', F', hS5⟩, hK5⟩; have HS5 := Lib.hid hS5; have HK5 := Lib.hid hK5; clear hS5 hK5))
                cases d with
                | true =>
                  go_wp2_with fail
                  go_roundw
                  case rel => exact ⟨i + 1, true, v', q + 1, F', vs', K ++ [c], by go_num, rfl, hlt, HS5.out, ((HKw.out.trans HK3.out (fun _ _ h => h)).trans HK4.out (fun _ _ h => h)).trans HK5.out (fun j hj hl => by omega), HS2.out.ok.put HKn.out (by rw [HMc.out]; exact hmc9), by have := HS2.out.ql; omega, by rw [List.length_append, List.length_singleton]; have := HS2.out.kl; omega, HSn.out⟩
                  case measure => simp [intOf]; omega
                | false =>
                  go_wp2_with fail
                  go_roundw
                  case rel => exact ⟨i + 1, false, v', q + 1, F', vs', K ++ [c], by go_num, rfl, hlt, HS5.out, ((HKw.out.trans HK3.out (fun _ _ h => h)).trans HK4.out (fun _ _ h => h)).trans HK5.out (fun j hj hl => by omega), HS2.out.ok.put HKn.out (by rw [HMc.out]; exact hmc9), by have := HS2.out.ql; omega, by rw [List.length_append, List.length_singleton]; have := HS2.out.kl; omega, HSn.out⟩
                  case measure => simp [intOf]; omega
              · have HFo := Lib.hid hfo
                have HE := Lib.hid (show rupCk N l L = (i, 11) by rw [← HSo.out]; exact rupG_err (rupL_not (x := (false, cx0)) HNC.out HBd.out rfl hfo))
                clear hfo HSo
                go_upto_region 8 with (go_at_call 26; refine HN2.out.mono ?_; rintro e w3 ⟨⟨ac, cc, rfl, hr3, hf3⟩, hK3⟩; obtain ⟨bq, oq, rfl, hcq⟩ := hr3 k _ (iv_at (show k < c.length by rw [HMc.out]; omega)); rw [HY.out] at hcq; have HR3 := Lib.hid hr3; have HF3 := Lib.hid hf3; have HK3 := Lib.hid hK3; have HKp := Lib.hid (HK2.out.trans hK3 (fun _ _ h => h)); have d0 : w3.cell? ⟨wp.heap.size, 0, none⟩ = some (.bool false) := (HBX.out.kp hK3 (fun h => h)).cell rfl; have d1 : w3.cell? ⟨p, 0, none⟩ = some (.slice ak mk ck) := (HS2.out.sh.kp HKp.out).blk.cell rfl; have HT3 := Lib.hid (HT.out.kp (HKw.out.trans hK3 (fun _ _ h => h))); have HFl := Lib.hid (HFol.out w3 (HKw.out.trans hK3 (fun _ _ h => h)) ak mk ck K (HCls.out.kp HKp.out) hmk9 HS2.out.ok (some ⟨bq, oq, none⟩) _ cc c hr3 HMc.out hmc9 HKn.out); clear hr3 hf3 hK3)
                have HF2 := Lib.hid (HFl.out.mono (R' := fun e w' => e = .returned (.bool false) ∧ Kp (fun _ => False) w3 w') (by
                  rintro e w' ⟨b, rfl, h, hk⟩
                  cases b with
                  | true => exact absurd (h.1 rfl) HFo.out
                  | false => exact ⟨rfl, hk⟩))
                clear HFl
                go_wp2_with (go_at_call 9; refine HF2.out.mono ?_; rintro e w4 ⟨rfl, hK4⟩; have HK4 := Lib.hid hK4; clear hK4)
                exact bodyPost_ret (v := .tuple #[.int .i64 i, .int .i64 11]) (by simp [results, Tryz.results16, go_sem]) rfl ⟨by rw [HE.out], (HKw.out.trans HK3.out (fun _ _ h => h)).trans HK4.out (fun _ _ h => h)⟩
    · have hi' : i = nx := by omega
      have hno : decide ((i : Int) < (nx : Int)) = false := by simp; omega
      have hdn : L.drop i = [] := List.drop_eq_nil_of_le (by rw [HLx.out]; omega)
      have HE := Lib.hid (show rupCk N l L = (nx, if d then 0 else 3) by rw [← HS.out.so, hdn, rupG, hi'])
      clear hdn
      cases d with
      | true =>
        go_wp2_with fail
        exact bodyPost_ret (v := .tuple #[.int .i64 nx, .int .i64 0]) (by simp [results, Tryz.results16, go_sem]) rfl ⟨by rw [HE.out]; rfl, HS.out.kp⟩
      | false =>
        go_wp2_with fail
        exact bodyPost_ret (v := .tuple #[.int .i64 nx, .int .i64 3]) (by simp [results, Tryz.results16, go_sem]) rfl ⟨by rw [HE.out]; rfl, HS.out.kp⟩

end Go.Proofs.YthconjhldjaldaaGreatDoor

/-
  The example of the law of rup.
-/
namespace Go.Proofs.YthconjhldjaldaaGreatDoor
open Go.RowKit

def rlN : List (Int × Int) := [(-1, 0), (-1, 0), (2, 4)]
def rlL : List (Bool × List Int) := [(false, [])]
theorem rl_good : GoodN rlN := fun j hj => by
  have : j = 0 ∨ j = 1 ∨ j = 2 := by have : rlN.length = 3 := rfl; omega
  rcases this with rfl | rfl | rfl
  · exact .inl (by decide)
  · exact .inl (by decide)
  · exact .inr (by decide)
theorem rl_all (l : List Int) : allK rlN l [] = l.map (fun x => [x]) ++ [[7, 2], [7, 4], [6, 3, 5]] := by
  unfold allK
  rw [List.append_nil]
  congr 1
theorem rl_yes : Fol rlN [6, 3] [] [] := by
  show UConf (allK rlN [6, 3] [])
  rw [rl_all]
  have u6 : UDer ([6, 3].map (fun x : Int => [x]) ++ [[7, 2], [7, 4], [6, 3, 5]]) 6 := .unit [6] 6 (by decide) (by decide) (fun x hx hn => absurd (by simpa using hx) hn)
  have u2 : UDer ([6, 3].map (fun x : Int => [x]) ++ [[7, 2], [7, 4], [6, 3, 5]]) 2 := .unit [7, 2] 2 (by decide) (by decide) (fun x hx hn => by
    have : x = 7 := by simp at hx; rcases hx with h | h; exact h; exact absurd h hn
    subst this
    exact u6)
  exact ⟨[3], by decide, fun x hx => by
    have : x = 3 := by simpa using hx
    subst this
    exact u2⟩
theorem rl_no : ¬ Fol rlN [6] [] [] := by
  show ¬ UConf (allK rlN [6] [])
  rw [rl_all]
  have tv : TV 3 [0, 1, 1, 1] := ⟨rfl, rfl, fun k hk => by
    have : k = 0 ∨ k = 1 ∨ k = 2 ∨ k = 3 := by omega
    rcases this with rfl | rfl | rfl | rfl <;> simp [gi]⟩
  refine Done.no_conf (n := 3) (V := [0, 1, 1, 1]) tv (fun c hc => ?_) (fun c hc => ?_)
  · simp at hc
    rcases hc with rfl | rfl | rfl | rfl <;> (intro x hx; simp at hx; unfold KnL; omega)
  · simp at hc
    rcases hc with rfl | rfl | rfl | rfl
    · exact .inl ⟨6, by simp, by decide⟩
    · exact .inl ⟨2, by simp, by decide⟩
    · exact .inl ⟨4, by simp, by decide⟩
    · exact .inl ⟨6, by simp, by decide⟩
theorem rl_nil : normC (false, ([] : List Int)).2 = some [] := normC_nil
theorem rl_none : ¬ ∃ y ∈ ([] : List Int), (rlN.length : Int) < y / 2 := by rintro ⟨y, hy, -⟩; cases hy
theorem rl_ck1 : rupCk rlN [6, 3] rlL = (1, 0) := by
  unfold rupCk rlL
  rw [rupG_ok (rupL_put (x := (false, [])) rl_nil rl_none rfl rl_yes), rupG]
  rfl
theorem rl_ck2 : rupCk rlN [6] rlL = (0, 11) := by
  unfold rupCk rlL
  rw [rupG_err (rupL_not (x := (false, [])) rl_nil rl_none rfl rl_no)]

theorem rl_lines {w : World} {b : Nat} (h : Blk w b #[.bool false, .slice none 0 0] 45) : LnsAt w (some ⟨b, 0, none⟩) rlL := by
  refine ⟨[(false, .slice none 0 0)], ?_, rfl, fun k r x hr hx => ?_⟩
  · exact h.rowAt (off := 0) (n := 2) rfl
  · match k with
    | 0 =>
      simp [rlL] at hr hx
      subst hr hx
      exact ⟨rfl, none, 0, rfl, Nat.le_refl _, by simp [maxLen], fun _ => rfl, RowAt.nil _ _⟩
    | k + 1 => simp at hr

set_option maxRecDepth 100000 in
set_option maxHeartbeats 4000000 in
theorem rup_lives (w : World) (ht : Tab w) : Calls Tryz.prog 8 #[] w fun e w' => e = .returned (.bool true) ∧ Kp (fun _ => False) w w' := by
  have HT := Lib.hid ht
  have HN := Lib.hid (show RowAt (w.alloc (.cells #[.int .i64 (-1), .int .i64 0, .int .i64 (-1), .int .i64 0, .int .i64 2, .int .i64 4] 43)) (some ⟨w.heap.size, 0, none⟩) (rlN.map pr2).flatten from (Blk.new w _ _).rowAt (off := 0) (n := 6) rfl)
  have HCk := Lib.hid (fun (u : World) (hu : Kp (fun _ => False) (w.alloc (.cells #[.int .i64 (-1), .int .i64 0, .int .i64 (-1), .int .i64 0, .int .i64 2, .int .i64 4] 43)) u) (l : List Int) (ml al ax : Nat) (hal : RowAt u (some ⟨al, 0, none⟩) (iv l)) (hll : l.length = ml) (hml : ml ≤ 10) (hl : KnC 3 l) (hx : LnsAt u (some ⟨ax, 0, none⟩) rlL) =>
    rup_Check (some ⟨w.heap.size, 0, none⟩) 3 3 rlN (some ⟨al, 0, none⟩) ml ml l (some ⟨ax, 0, none⟩) 1 1 rlL u (HN.out.kp hu (fun _ _ h => h)) rfl ⟨Nat.le_refl _, by simp [maxLen], fun h => by cases h⟩ (by omega) rl_good hal hll ⟨Nat.le_refl _, by unfold maxLen; omega, fun h => by cases h⟩ (by omega) hl hx rfl (by omega) (fun x hx => by simp [rlL] at hx; subst hx; simp) (fun x hx y hy => by simp [rlL] at hx; subst hx; cases hy) (HT.out.kp (((Kp.refl (fun _ => False) w).alloc _).trans hu (fun _ _ h => h))))
  clear ht
  go_enter Tryz.func8, Tryz.ntmps8
  go_upto_region 2 with fail
  obtain ⟨W1, hW1⟩ : ∃ W1, w.alloc (.cells #[.int .i64 (-1), .int .i64 0, .int .i64 (-1), .int .i64 0, .int .i64 2, .int .i64 4] 43) = W1 := ⟨_, rfl⟩
  have HK1 := Lib.hid (show Kp (fun _ => False) w W1 by rw [← hW1]; exact (Kp.refl _ w).alloc _)
  rw [hW1] at HCk
  rw [hW1]
  clear HN hW1
  have two : ∀ (u : World) (l : List Int), Kp (fun _ => False) u ((u.alloc (.cells (ints l) 3)).alloc (.cells #[.bool false, .slice none 0 0] 45)) ∧ RowAt ((u.alloc (.cells (ints l) 3)).alloc (.cells #[.bool false, .slice none 0 0] 45)) (some ⟨u.heap.size, 0, none⟩) (iv l) ∧ LnsAt ((u.alloc (.cells (ints l) 3)).alloc (.cells #[.bool false, .slice none 0 0] 45)) (some ⟨u.heap.size + 1, 0, none⟩) rlL := by
    intro u l
    refine ⟨((Kp.refl _ u).alloc _).alloc _, ((Blk.new u (ints l) 3).alloc _).intsAt, rl_lines ?_⟩
    have := Blk.new (u.alloc (.cells (ints l) 3)) #[.bool false, .slice none 0 0] 45
    rw [World.size_alloc] at this
    exact this
  have HTwo := Lib.hid two
  clear two
  have HC1 : Hid (Calls Tryz.prog 16 #[.slice (some ⟨w.heap.size, 0, none⟩) 3 3, .slice (some ⟨W1.heap.size, 0, none⟩) 2 2, .slice (some ⟨W1.heap.size + 1, 0, none⟩) 1 1] ((W1.alloc (.cells #[.int .i64 6, .int .i64 3] 3)).alloc (.cells #[.bool false, .slice none 0 0] 45)) fun e w' => e = .returned (.tuple #[.int .i64 1, .int .i64 0]) ∧ Kp (fun _ => False) W1 w') := Lib.hid (by
    obtain ⟨h1, h2, h3⟩ := HTwo.out W1 [6, 3]
    refine (HCk.out _ h1 [6, 3] 2 _ _ h2 rfl (by omega) (fun x hx => by simp at hx; unfold KnL; omega) h3).mono ?_
    rintro e w' ⟨rfl, hk⟩
    rw [rl_ck1]
    exact ⟨rfl, h1.trans hk (fun _ _ h => h)⟩)
  have HC2 : Hid (∀ u, Kp (fun _ => False) W1 u → Calls Tryz.prog 16 #[.slice (some ⟨w.heap.size, 0, none⟩) 3 3, .slice (some ⟨u.heap.size, 0, none⟩) 1 1, .slice (some ⟨u.heap.size + 1, 0, none⟩) 1 1] ((u.alloc (.cells #[.int .i64 6] 3)).alloc (.cells #[.bool false, .slice none 0 0] 45)) fun e w' => e = .returned (.tuple #[.int .i64 0, .int .i64 11]) ∧ Kp (fun _ => False) u w') := Lib.hid (by
    intro u hu
    obtain ⟨h1, h2, h3⟩ := HTwo.out u [6]
    refine (HCk.out _ (hu.trans h1 (fun _ _ h => h)) [6] 1 _ _ h2 rfl (by omega) (fun x hx => by simp at hx; unfold KnL; omega) h3).mono ?_
    rintro e w' ⟨rfl, hk⟩
    rw [rl_ck2]
    exact ⟨rfl, h1.trans hk (fun _ _ h => h)⟩)
  clear HCk HTwo
  go_upto_region 3 with (go_at_call 16; refine HC1.out.mono ?_; rintro e w3 ⟨rfl, hK3⟩; have HK3 := Lib.hid hK3; have HC3 := Lib.hid (HC2.out w3 hK3); clear hK3 HC2)
  go_wp2_with (go_at_call 16; refine HC3.out.mono ?_; rintro e w4 ⟨rfl, hK4⟩; have HK4 := Lib.hid hK4; clear hK4)
  go_ret
  exact ⟨rfl, (HK1.out.trans HK3.out (fun _ _ h => h)).trans HK4.out (fun _ _ h => h)⟩

end Go.Proofs.YthconjhldjaldaaGreatDoor

/-
  latchetref07.Values.
-/
namespace Go.Proofs.YthconjhldjaldaaGreatDoor
open Go.RowKit

set_option maxRecDepth 100000 in
set_option maxHeartbeats 4000000 in
/-- latchetref07.Values -/
theorem ref07_Values (a : Option Addr) (n c : Nat) (N : List (Int × Int)) (b : Option Addr) (m d : Nat) (ins : List Bool) (w : World) (hr : RowAt w a (N.map pr2).flatten) (hn : N.length = n) (hm : n ≤ 10000000) (hN : GoodN N) (hi : RowAt w b (bv ins)) (him : ins.length = m) (hmm : m ≤ 9223372036854775807) :
    Calls Tryz.prog 11 #[.slice a n c, .slice b m d] w fun e w' => ∃ v, e = .returned v ∧ Own w' w.heap.size 4 v (bv (valsOf N ins)) ∧ Kp (fun _ => False) w w' := by
  have HI := Lib.hid (show (Tryz.prog.info? 4).map (fun i => (i.zero, i.size, i.bytes)) = some (some (.bool false), 1, 1) by kernel_rfl)
  have HR := Lib.hid hr
  have HN := Lib.hid hn
  have HGN := Lib.hid hN
  have HIn := Lib.hid hi
  have HIm := Lib.hid him
  obtain ⟨wz, hwz⟩ : ∃ wz : World, wz = w.alloc (.cells #[.bool false] 4) := ⟨_, rfl⟩
  have HK0 := Lib.hid (show Kp (fun _ => False) w wz by rw [hwz]; exact (Kp.refl _ w).alloc _)
  have HO0 : Hid (Own wz w.heap.size 4 (.slice (some ⟨w.heap.size, 0, none⟩) 1 1) (bv (valsK N ins 0).1)) := Lib.hid (by rw [hwz]; exact Own.lit (cs := [.bool false]) (Blk.new w _ _) (Nat.le_refl _) (by decide))
  have HZ := Lib.hid hwz
  clear hr hn hN hi him hwz
  go_enter Tryz.func11, Tryz.ntmps11
  go_upto_region 2 with fail
  rw [← HZ.out]
  clear HZ
  go_wp2_with fail
  go_loopw [5, 6, 7] (fun v5 v6 v7 wr => ∃ k : Nat, v7 = .int .i64 k ∧ k ≤ n ∧ v6 = .int .i64 ((valsK N ins k).2 : Int) ∧ Own wr w.heap.size 4 v5 (bv (valsK N ins k).1) ∧ Kp (fun _ => False) w wr) (fun _ _ v7 _ => n - (intOf v7).toNat)
  case atStart => exact ⟨0, rfl, by omega, rfl, HO0.out, HK0.out⟩
  case round =>
    obtain ⟨k, rfl, hk, rfl, hO, hK⟩ := hrel
    clear HO0 HK0
    obtain ⟨wp, rfl⟩ : ∃ wp : World, wp = wr := ⟨_, rfl⟩
    have HO := Lib.hid hO
    have HK := Lib.hid hK
    clear hO hK
    by_cases hlt : k < n
    · have hkl : k < N.length := by rw [HN.out]; exact hlt
      obtain ⟨bb, off, rfl, e0, e1⟩ := pr2_cells (HR.out.kp HK.out (fun _ _ h => h)) hkl
      have hS := valsK_succ (ins := ins) hkl
      have hln := valsK_len (N := N) (ins := ins) k (by omega)
      have hct := valsK_cnt (N := N) (ins := ins) k (by omega)
      have hg := HGN.out k hkl
      obtain ⟨x1, hx1⟩ : ∃ x, (g2 N k).1 = x := ⟨_, rfl⟩
      obtain ⟨x2, hx2⟩ : ∃ x, (g2 N k).2 = x := ⟨_, rfl⟩
      obtain ⟨cn, hcn⟩ : ∃ x, (valsK N ins k).2 = x := ⟨_, rfl⟩
      unfold stepV at hS
      rw [hx1, hx2, hcn] at hS
      rw [hx1, hx2] at hg
      rw [hx1] at e0
      rw [hx2] at e1
      rw [hcn] at hct ⊢
      obtain ⟨vals, hvals⟩ : ∃ x, (valsK N ins k).1 = x := ⟨_, rfl⟩
      rw [hvals] at hS hln
      have HO2 := Lib.hid (show Own wp w.heap.size 4 u5 (bv vals) by rw [← hvals]; exact HO.out)
      have HLn := Lib.hid hln
      have i0 : (0 : Int) ≤ (k : Int) := by omega
      have i2 : (k : Int) < (n : Int) := by omega
      have HKs := Lib.hid HK.out.size
      clear hx1 hx2 hcn hvals hln HO hkl
      by_cases hneg : x1 < 0
      · rw [if_pos hneg] at hS
        have q1 : decide (x1 < 0) = true := decide_eq_true hneg
        by_cases hc : cn < m
        · have c0 : (0 : Int) ≤ (cn : Int) := by omega
          have c1 : (cn : Int) < (m : Int) := by omega
          obtain ⟨b3, off3, rfl, e3⟩ := HIn.out cn _ (bv_at (by rw [HIm.out]; exact hc))
          have e4 := HK.out.cellK e3
          obtain ⟨x, hx⟩ : ∃ x, vb ins cn = x := ⟨_, rfl⟩
          rw [hx] at e3 e4 hS
          have HS := Lib.hid hS
          have HNew := Lib.hid (Blk.new wp #[.bool x] 4)
          have HOw := Lib.hid (HO2.out.alloc (.cells #[.bool x] 4))
          clear hx hS e3
          cases x with
          | true =>
            go_wp2_with (at_builtin; refine wpList_append1_at rfl _ _ 25 4 rfl Tryz.underlying25 HI.out rfl HOw.out rfl ⟨wp.heap.size, 0, none⟩ (.bool true) rfl (HNew.out.cell rfl) rfl ?d1 ?d2 ?d3 ?_)
            case d1 => rw [bv_length, HLn.out]; omega
            case d2 => rw [bv_length, HLn.out]; unfold maxLen; omega
            case d3 => have := HKs.out; simp; omega
            intro v' w2 hO3 hg2 hat2
            have HR2 := Lib.hid (show ∃ k' : Nat, Value.int .i64 ((k : Int) + 1) = .int .i64 k' ∧ k' ≤ n ∧ Value.int .i64 ((cn : Int) + 1) = .int .i64 ((valsK N ins k').2 : Int) ∧ Own w2 w.heap.size 4 v' (bv (valsK N ins k').1) ∧ Kp (fun _ => False) w w2 from
              ⟨k + 1, by go_num, by omega, by rw [HS.out]; go_num, by rw [HS.out]; show Own _ _ _ _ (bv (vals ++ [true])); rw [bv_append]; exact hO3, (HK.out.alloc _).grown hg2 (fun j hj hl => by have := (HO2.out.lt j hj).1; omega)⟩)
            clear hO3 hg2 hat2 HNew HOw
            go_wp2_with fail
            go_roundw
            case rel => exact HR2.out
            case measure => simp [intOf]; omega
          | false =>
            go_wp2_with (at_builtin; refine wpList_append1_at rfl _ _ 25 4 rfl Tryz.underlying25 HI.out rfl HOw.out rfl ⟨wp.heap.size, 0, none⟩ (.bool false) rfl (HNew.out.cell rfl) rfl ?d1 ?d2 ?d3 ?_)
            case d1 => rw [bv_length, HLn.out]; omega
            case d2 => rw [bv_length, HLn.out]; unfold maxLen; omega
            case d3 => have := HKs.out; simp; omega
            intro v' w2 hO3 hg2 hat2
            have HR2 := Lib.hid (show ∃ k' : Nat, Value.int .i64 ((k : Int) + 1) = .int .i64 k' ∧ k' ≤ n ∧ Value.int .i64 ((cn : Int) + 1) = .int .i64 ((valsK N ins k').2 : Int) ∧ Own w2 w.heap.size 4 v' (bv (valsK N ins k').1) ∧ Kp (fun _ => False) w w2 from
              ⟨k + 1, by go_num, by omega, by rw [HS.out]; go_num, by rw [HS.out]; show Own _ _ _ _ (bv (vals ++ [false])); rw [bv_append]; exact hO3, (HK.out.alloc _).grown hg2 (fun j hj hl => by have := (HO2.out.lt j hj).1; omega)⟩)
            clear hO3 hg2 hat2 HNew HOw
            go_wp2_with fail
            go_roundw
            case rel => exact HR2.out
            case measure => simp [intOf]; omega
        · have c1 : decide ((cn : Int) < (m : Int)) = false := decide_eq_false (by omega)
          have hx : vb ins cn = false := vb_far (by rw [HIm.out]; omega)
          rw [hx] at hS
          have HS := Lib.hid hS
          have HNew := Lib.hid (Blk.new wp #[.bool false] 4)
          have HOw := Lib.hid (HO2.out.alloc (.cells #[.bool false] 4))
          clear hx hS
          go_wp2_with (at_builtin; refine wpList_append1_at rfl _ _ 25 4 rfl Tryz.underlying25 HI.out rfl HOw.out rfl ⟨wp.heap.size, 0, none⟩ (.bool false) rfl (HNew.out.cell rfl) rfl ?d1 ?d2 ?d3 ?_)
          case d1 => rw [bv_length, HLn.out]; omega
          case d2 => rw [bv_length, HLn.out]; unfold maxLen; omega
          case d3 => have := HKs.out; simp; omega
          intro v' w2 hO3 hg2 hat2
          have HR2 := Lib.hid (show ∃ k' : Nat, Value.int .i64 ((k : Int) + 1) = .int .i64 k' ∧ k' ≤ n ∧ Value.int .i64 ((cn : Int) + 1) = .int .i64 ((valsK N ins k').2 : Int) ∧ Own w2 w.heap.size 4 v' (bv (valsK N ins k').1) ∧ Kp (fun _ => False) w w2 from
            ⟨k + 1, by go_num, by omega, by rw [HS.out]; go_num, by rw [HS.out]; show Own _ _ _ _ (bv (vals ++ [false])); rw [bv_append]; exact hO3, (HK.out.alloc _).grown hg2 (fun j hj hl => by have := (HO2.out.lt j hj).1; omega)⟩)
          clear hO3 hg2 hat2 HNew HOw
          go_wp2_with fail
          go_roundw
          case rel => exact HR2.out
          case measure => simp [intOf]; omega
      · rw [if_neg hneg] at hS
        have q1 : decide (x1 < 0) = false := decide_eq_false hneg
        have hgg : 0 ≤ x1 ∧ x1 ≤ 2 * (k : Int) + 1 ∧ 0 ≤ x2 ∧ x2 ≤ 2 * (k : Int) + 1 := hg.resolve_left hneg
        obtain ⟨av, cv, ev, lv, mv, -, hrv⟩ := HO2.out.form
        rw [bv_length, HLn.out] at ev lv
        subst ev
        have HA1 := Lib.hid (ref07_Of av (k + 1) cv vals x1 wp hrv HLn.out (by omega) hgg.1 (by omega))
        have HA2 := Lib.hid (ref07_Of av (k + 1) cv vals x2 wp hrv HLn.out (by omega) hgg.2.2.1 (by omega))
        obtain ⟨r1, hr1⟩ : ∃ x, litN vals x1 = x := ⟨_, rfl⟩
        obtain ⟨r2, hr2⟩ : ∃ x, litN vals x2 = x := ⟨_, rfl⟩
        rw [hr1] at HA1 hS
        rw [hr2] at HA2 hS
        obtain ⟨rr, hrr⟩ : ∃ x, (r1 && r2) = x := ⟨_, rfl⟩
        rw [hrr] at hS
        have HS := Lib.hid hS
        have HRR := Lib.hid hrr
        have HNew := Lib.hid (Blk.new wp #[.bool rr] 4)
        have HOw := Lib.hid (HO2.out.alloc (.cells #[.bool rr] 4))
        have HFin := Lib.hid (show ∀ v' w2, Own w2 w.heap.size 4 v' (bv vals ++ [.bool rr]) → (wp.alloc (.cells #[.bool rr] 4)).grownBy w2 (Value.slice av (k + 1) cv).ownBlock → ∃ k' : Nat, Value.int .i64 ((k : Int) + 1) = .int .i64 k' ∧ k' ≤ n ∧ Value.int .i64 (cn : Int) = .int .i64 ((valsK N ins k').2 : Int) ∧ Own w2 w.heap.size 4 v' (bv (valsK N ins k').1) ∧ Kp (fun _ => False) w w2 from fun v' w2 hO3 hg2 =>
          ⟨k + 1, by go_num, by omega, by rw [HS.out], by rw [HS.out]; show Own _ _ _ _ (bv (vals ++ [rr])); rw [bv_append]; exact hO3, (HK.out.alloc _).grown hg2 (fun j hj hl => by have := (HO2.out.lt j hj).1; omega)⟩)
        clear hr1 hr2 hrr hS hgg hg hrv
        cases r1 with
        | true =>
          obtain rfl : rr = r2 := by rw [← HRR.out]; rfl
          cases rr with
          | true =>
            go_wp2_with (first | (go_at_call 23; with_reducible refine Calls.mono HA1.out ?_; rintro e w2 ⟨rfl, rfl⟩) | (go_at_call 23; with_reducible refine Calls.mono HA2.out ?_; rintro e w2 ⟨rfl, rfl⟩) | (at_builtin; refine wpList_append1_at rfl _ _ 25 4 rfl Tryz.underlying25 HI.out rfl HOw.out rfl ⟨wp.heap.size, 0, none⟩ (.bool true) rfl (HNew.out.cell rfl) rfl ?d1 ?d2 ?d3 ?_))
            case d1 => rw [bv_length, HLn.out]; omega
            case d2 => rw [bv_length, HLn.out]; unfold maxLen; omega
            case d3 => have := HKs.out; simp; omega
            intro v' w2 hO3 hg2 hat2
            have HR2 := Lib.hid (HFin.out v' w2 hO3 hg2)
            clear hO3 hg2 hat2 HNew HOw HFin
            go_wp2_with fail
            go_roundw
            case rel => exact HR2.out
            case measure => simp [intOf]; omega
          | false =>
            go_wp2_with (first | (go_at_call 23; with_reducible refine Calls.mono HA1.out ?_; rintro e w2 ⟨rfl, rfl⟩) | (go_at_call 23; with_reducible refine Calls.mono HA2.out ?_; rintro e w2 ⟨rfl, rfl⟩) | (at_builtin; refine wpList_append1_at rfl _ _ 25 4 rfl Tryz.underlying25 HI.out rfl HOw.out rfl ⟨wp.heap.size, 0, none⟩ (.bool false) rfl (HNew.out.cell rfl) rfl ?d1 ?d2 ?d3 ?_))
            case d1 => rw [bv_length, HLn.out]; omega
            case d2 => rw [bv_length, HLn.out]; unfold maxLen; omega
            case d3 => have := HKs.out; simp; omega
            intro v' w2 hO3 hg2 hat2
            have HR2 := Lib.hid (HFin.out v' w2 hO3 hg2)
            clear hO3 hg2 hat2 HNew HOw HFin
            go_wp2_with fail
            go_roundw
            case rel => exact HR2.out
            case measure => simp [intOf]; omega
        | false =>
          obtain rfl : rr = false := by rw [← HRR.out]; rfl
          go_wp2_with (first | (go_at_call 23; with_reducible refine Calls.mono HA1.out ?_; rintro e w2 ⟨rfl, rfl⟩) | (at_builtin; refine wpList_append1_at rfl _ _ 25 4 rfl Tryz.underlying25 HI.out rfl HOw.out rfl ⟨wp.heap.size, 0, none⟩ (.bool false) rfl (HNew.out.cell rfl) rfl ?d1 ?d2 ?d3 ?_))
          case d1 => rw [bv_length, HLn.out]; omega
          case d2 => rw [bv_length, HLn.out]; unfold maxLen; omega
          case d3 => have := HKs.out; simp; omega
          intro v' w2 hO3 hg2 hat2
          have HR2 := Lib.hid (HFin.out v' w2 hO3 hg2)
          clear hO3 hg2 hat2 HNew HOw HFin
          go_wp2_with fail
          go_roundw
          case rel => exact HR2.out
          case measure => simp [intOf]; omega
    · obtain rfl : k = n := by omega
      have HE := Lib.hid (show Own wp w.heap.size 4 u5 (bv (valsOf N ins)) from by unfold valsOf; rw [HN.out]; exact HO.out)
      go_wp2_with fail
      go_ret
      exact ⟨_, rfl, HE.out, HK.out⟩

end Go.Proofs.YthconjhldjaldaaGreatDoor

/-
  latchetlaw22.Few, latchetlaw28.Few, latchetref27.All, Ins.
-/
namespace Go.Proofs.YthconjhldjaldaaGreatDoor
open Go.RowKit

def FewL (m : Nat) (q : Int) (L : List (Bool × List Int)) : Prop := (m : Int) ≤ q ∧ ∀ x ∈ L, x.2.length ≤ 30
/-- what is told is so -/
def TellR (p : Bool → Prop) (e : Ending) : Prop := ∃ b : Bool, e = .returned (.bool b) ∧ p b

set_option maxRecDepth 100000 in
set_option maxHeartbeats 2000000 in
theorem law28_Few (a : Option Addr) (m c : Nat) (L : List (Bool × List Int)) (q : Int) (w : World) (hL : LnsAt w a L) (hl : L.length = m) (hm : m ≤ 9223372036854775807) :
    Calls Tryz.prog 15 #[.slice a m c, .int .i64 q] w fun e w' => TellR (fun b => b = true ↔ FewL m q L) e ∧ w = w' := by
  have HL := Lib.hid hL
  have HM := Lib.hid hl
  clear hL hl
  go_enter Tryz.func15, Tryz.ntmps15
  go_wp2_with fail
  go_loop [5] (fun v5 => ∃ k : Nat, v5 = .int .i64 (k : Int) ∧ k ≤ m ∧ ∀ j, j < k → (li L j).2.length ≤ 30) (fun v5 => m - (intOf v5).toNat)
  case atStart => exact ⟨0, rfl, Nat.zero_le _, fun j hj => absurd hj (Nat.not_lt_zero j)⟩
  case round =>
    obtain ⟨k, rfl, hk, hG⟩ := hrel
    have HG := Lib.hid hG
    clear hG
    by_cases hlt : k < m
    · obtain ⟨b, off, vx, rfl, -, hcell, xa, xc, rfl, -⟩ := HL.out.line (show k < L.length by rw [HM.out]; exact hlt)
      obtain ⟨y, hy⟩ : ∃ y, (li L k).2.length = y := ⟨_, rfl⟩
      rw [hy] at hcell
      have HY := Lib.hid hy
      have i0 : (0 : Int) ≤ (k : Int) := by omega
      have i1 : (k : Int) < (m : Int) := by omega
      clear hy
      by_cases h2 : 30 < y
      · have d1 : decide (30 < (y : Int)) = true := by simp; omega
        go_wp2_with fail
        go_ret
        exact ⟨⟨false, rfl, ⟨fun h => (by cases h), fun h => absurd (h.2 _ (List.mem_of_getElem? (li_at (show k < L.length by rw [HM.out]; exact hlt)))) (by rw [HY.out]; omega)⟩⟩, rfl⟩
      · have d1 : decide (30 < (y : Int)) = false := by simp; omega
        go_wp2_with fail
        go_round
        case rel => exact ⟨k + 1, by go_num, hlt, fun j hj => by
          by_cases e : j = k
          · rw [e, HY.out]; omega
          · exact HG.out j (by omega)⟩
        case measure => simp [intOf]; omega
    · have hk' : k = m := by omega
      have hno : decide ((k : Int) < (m : Int)) = false := by simp; omega
      have HZ : Hid (∀ x ∈ L, x.2.length ≤ 30) := Lib.hid (fun x hx => by
        obtain ⟨j, hj, e⟩ := List.mem_iff_getElem.1 hx
        have := li_at hj
        rw [List.getElem?_eq_getElem hj, e] at this
        simp at this
        rw [this]
        exact HG.out j (by rw [HM.out] at hj; omega))
      go_wp2_with fail
      exact bodyPost_ret (v := .bool (decide ((m : Int) ≤ q))) (by simp [results, Tryz.results15, go_sem]) rfl ⟨⟨_, rfl, ⟨fun h => ⟨by simpa using h, HZ.out⟩, fun h => by simpa using h.1⟩⟩, rfl⟩

set_option maxRecDepth 100000 in
set_option maxHeartbeats 2000000 in
theorem ref27_All (av : Option Addr) (mv cv : Nat) (vals : List Bool) (a : Option Addr) (m c : Nat) (l : List Int) (w : World) (hrv : RowAt w av (bv vals)) (hv : vals.length = mv) (hmv : mv ≤ 100000000) (hr : RowAt w a (iv l)) (hl : l.length = m) (hm : m ≤ 1000000) (hk : ∀ x ∈ l, 0 ≤ x ∧ (x / 2).toNat < mv) :
    Calls Tryz.prog 13 #[.slice av mv cv, .slice a m c] w fun e w' => e = .returned (.bool (l.all (litN vals))) ∧ w = w' := by
  have HOf := Lib.hid (fun x (hx : x ∈ l) => ref07_Of av mv cv vals x w hrv hv hmv (hk x hx).1 (hk x hx).2)
  have HR := Lib.hid hr
  have HM := Lib.hid hl
  clear hrv hv hr hl hk
  go_enter Tryz.func13, Tryz.ntmps13
  go_wp2_with fail
  go_loop [5] (fun v5 => ∃ k : Nat, v5 = .int .i64 (k : Int) ∧ k ≤ m ∧ ∀ j, j < k → litN vals (gi l j) = true) (fun v5 => m - (intOf v5).toNat)
  case atStart => exact ⟨0, rfl, Nat.zero_le _, fun j hj => absurd hj (Nat.not_lt_zero j)⟩
  case round =>
    obtain ⟨k, rfl, hk, hG⟩ := hrel
    have HG := Lib.hid hG
    clear hG
    by_cases hlt : k < m
    · have hkl : k < l.length := by rw [HM.out]; exact hlt
      obtain ⟨b, off, rfl, hcell⟩ := HR.out k _ (iv_at hkl)
      have HMem := Lib.hid (gi_mem hkl)
      have HO := Lib.hid (HOf.out _ (gi_mem hkl))
      obtain ⟨x, hx⟩ : ∃ x, gi l k = x := ⟨_, rfl⟩
      rw [hx] at hcell HO HMem
      have HX := Lib.hid hx
      obtain ⟨y, hy⟩ : ∃ y, litN vals x = y := ⟨_, rfl⟩
      rw [hy] at HO
      have HY := Lib.hid hy
      have i0 : (0 : Int) ≤ (k : Int) := by omega
      have i1 : (k : Int) < (m : Int) := by omega
      clear hx hy hkl
      cases y with
      | true =>
        go_wp2_with (go_at_call 23; refine HO.out.mono ?_; rintro e w' ⟨rfl, rfl⟩)
        go_round
        case rel => exact ⟨k + 1, by go_num, hlt, fun j hj => by
          by_cases e : j = k
          · rw [e, HX.out]; exact HY.out
          · exact HG.out j (by omega)⟩
        case measure => simp [intOf]; omega
      | false =>
        go_wp2_with (go_at_call 23; refine HO.out.mono ?_; rintro e w' ⟨rfl, rfl⟩)
        have e : l.all (litN vals) = false := by rw [List.all_eq_false]; exact ⟨x, HMem.out, by rw [HY.out]; decide⟩
        go_ret
        exact ⟨by rw [e]; rfl, rfl⟩
    · have hk' : k = m := by omega
      have e : l.all (litN vals) = true := by
        rw [List.all_eq_true]
        intro x hx
        obtain ⟨j, hj, rfl⟩ := mem_gi hx
        exact HG.out j (by rw [HM.out] at hj; omega)
      subst hk'
      have hno : decide ((k : Int) < (k : Int)) = false := by simp
      go_wp2_with fail
      go_ret
      first | exact ⟨rfl, rfl⟩ | exact ⟨by rw [e]; rfl, rfl⟩

end Go.Proofs.YthconjhldjaldaaGreatDoor

/-
  latchetref07.Inputs, latchetref27.Ins, latchetref27.Can of a net whose literals cannot be so.
-/
namespace Go.Proofs.YthconjhldjaldaaGreatDoor
open Go.RowKit

/-- how many of the first nodes are inputs -/
def insN (N : List (Int × Int)) : Nat → Nat
  | 0 => 0
  | k + 1 => insN N k + if (g2 N k).1 < 0 then 1 else 0
theorem insN_le (N : List (Int × Int)) : ∀ k, insN N k ≤ k
  | 0 => Nat.le_refl _
  | k + 1 => by have := insN_le N k; unfold insN; split <;> omega

set_option maxRecDepth 100000 in
set_option maxHeartbeats 4000000 in
theorem ref07_Inputs (an : Option Addr) (n cn : Nat) (N : List (Int × Int)) (w : World) (hr : RowAt w an (N.map pr2).flatten) (hnn : N.length = n) (hn : n ≤ 1000) :
    Calls Tryz.prog 25 #[.slice an n cn] w fun e w' => (∃ a c, e = .returned (.slice a (insN N n) c)) ∧ Kp (fun _ => False) w w' := by
  have HI := Lib.hid (show (Tryz.prog.info? 3).map (fun i => (i.zero, i.size, i.bytes)) = some (some (.int .i64 0), 1, 8) by kernel_rfl)
  have HR := Lib.hid hr
  have HN := Lib.hid hnn
  have HO0 : Hid (∃ L : List Int, L.length = insN N 0 ∧ Own (w.alloc (.cells #[] 3)) w.heap.size 3 (.slice (some ⟨w.heap.size, 0, none⟩) 0 0) (iv L)) := Lib.hid ⟨[], rfl, Own.lit (cs := []) (Blk.new w #[] 3) (Nat.le_refl _) (Nat.zero_le _)⟩
  have HK0 := Lib.hid ((Kp.refl (fun _ => False) w).alloc (.cells #[] 3))
  clear hr hnn
  go_enter Tryz.func25, Tryz.ntmps25
  go_wp2_with fail
  go_loopw [3, 4] (fun v3 v4 wr => ∃ (k : Nat) (L : List Int), v4 = .int .i64 (k : Int) ∧ k ≤ n ∧ L.length = insN N k ∧ Own wr w.heap.size 3 v3 (iv L) ∧ Kp (fun _ => False) w wr) (fun _ v4 _ => n - (intOf v4).toNat)
  case atStart =>
    obtain ⟨L, h1, h2⟩ := HO0.out
    exact ⟨0, L, rfl, Nat.zero_le _, h1, h2, HK0.out⟩
  case round =>
    clear HO0 HK0
    obtain ⟨k, L, rfl, hk, hL, hO, hK⟩ := hrel
    have HO := Lib.hid hO
    have HK := Lib.hid hK
    have HLn := Lib.hid hL
    clear hO hK hL
    obtain ⟨wp, rfl⟩ : ∃ wp : World, wp = wr := ⟨_, rfl⟩
    by_cases hlt : k < n
    · have hkl : k < N.length := by rw [HN.out]; exact hlt
      obtain ⟨b, off, rfl, e0, -⟩ := pr2_cells (HR.out.kp HK.out (fun _ _ h => h)) hkl
      have HS := Lib.hid (show insN N (k + 1) = insN N k + if (g2 N k).1 < 0 then 1 else 0 from rfl)
      have HLe := Lib.hid (insN_le N k)
      obtain ⟨x, hx⟩ : ∃ x, (g2 N k).1 = x := ⟨_, rfl⟩
      rw [hx] at e0 HS
      have i0 : (0 : Int) ≤ (k : Int) := by omega
      have i1 : (k : Int) < (n : Int) := by omega
      clear hx hkl
      by_cases h1 : x < 0
      · have d1 : decide (x < 0) = true := by simp [h1]
        rw [if_pos h1] at HS
        obtain ⟨z, hz⟩ : ∃ z : Int, (k : Int) + 1 = z := ⟨_, rfl⟩
        have wz : IntKind.i64.wrap ((k : Int) + 1) = z := by rw [IntKind.wrap_i64]; omega
        have HZ := Lib.hid (show z = ((k + 1 : Nat) : Int) by omega)
        have HNw := Lib.hid (Blk.new wp #[.int .i64 z] 3)
        have HOl := Lib.hid (HO.out.alloc (.cells #[.int .i64 z] 3))
        have HSz := Lib.hid HK.out.size
        clear h1 hz
        go_wp2_with (at_builtin; refine wpList_append1 rfl _ _ 23 3 rfl Tryz.underlying23 HI.out rfl HOl.out rfl ⟨wp.heap.size, 0, none⟩ (.int .i64 z) rfl (HNw.out.cell rfl) rfl ?d1 ?d2 ?d3 ?_)
        case d1 => rw [iv_length, HLn.out]; have := HLe.out; omega
        case d2 => rw [iv_length, HLn.out]; have := HLe.out; unfold maxLen; omega
        case d3 => have := HSz.out; first | omega | (rw [World.size_alloc]; omega)
        intro v' w2 hO3 hg2
        have HO3 := Lib.hid (show Own w2 w.heap.size 3 v' (iv (L ++ [z])) by simpa [iv] using hO3)
        have HK3 := Lib.hid (show Kp (fun _ => False) w w2 from (HK.out.alloc _).grown hg2 (fun j hj hl => by have := (HO.out.lt j hj).1; omega))
        clear hO3 hg2
        go_wp2_with fail
        go_roundw
        case rel => exact ⟨k + 1, L ++ [z], by first | rfl | (rw [HZ.out]) | go_num, hlt, by rw [List.length_append, HLn.out, HS.out]; rfl, HO3.out, HK3.out⟩
        case measure => have := HZ.out; simp [intOf]; omega
      · have d1 : decide (x < 0) = false := by simp; omega
        rw [if_neg h1] at HS
        clear h1
        go_wp2_with fail
        go_roundw
        case rel => exact ⟨k + 1, L, by go_num, hlt, by rw [HLn.out, HS.out]; rfl, HO.out, HK.out⟩
        case measure => simp [intOf]; omega
    · have hk' : k = n := by omega
      have hno : decide ((k : Int) < (n : Int)) = false := by simp; omega
      obtain ⟨a, c, e, -⟩ := HO.out.form
      rw [iv_length, HLn.out, hk'] at e
      subst e
      clear hk'
      go_wp2_with fail
      go_ret
      exact ⟨⟨a, c, rfl⟩, HK.out⟩

set_option maxRecDepth 100000 in
theorem ref27_Ins (an : Option Addr) (n cn : Nat) (N : List (Int × Int)) (w : World) (hr : RowAt w an (N.map pr2).flatten) (hnn : N.length = n) (hn : n ≤ 1000) :
    Calls Tryz.prog 14 #[.slice an n cn] w fun e w' => e = .returned (.int .i64 (insN N n)) ∧ Kp (fun _ => False) w w' := by
  have HC := Lib.hid (ref07_Inputs an n cn N w hr hnn hn)
  obtain ⟨q, hq⟩ : ∃ q, insN N n = q := ⟨_, rfl⟩
  rw [hq] at HC
  rw [hq]
  clear hr hnn hq
  go_enter Tryz.func14, Tryz.ntmps14
  go_wp2_with (go_at_call 25; refine HC.out.mono ?_; rintro e w1 ⟨⟨a, c, rfl⟩, hK⟩; have HK := Lib.hid hK; clear hK)
  go_ret
  exact ⟨rfl, HK.out⟩

set_option maxRecDepth 100000 in
set_option maxHeartbeats 8000000 in
theorem ref27_Can_no (an : Option Addr) (n cn : Nat) (N : List (Int × Int)) (al : Option Addr) (ml cl : Nat) (l : List Int) (w : World) (hr : RowAt w an (N.map pr2).flatten) (hnn : N.length = n) (hn : n ≤ 1000) (hN : GoodN N) (hrl : RowAt w al (iv l)) (hll : l.length = ml) (hml : ml ≤ 1000000) (hl : KnC n l) (hi : insN N n ≤ 7)
    (hno : ∀ ins, l.all (litN (valsOf N ins)) = false) :
    Calls Tryz.prog 17 #[.slice an n cn, .slice al ml cl] w fun e w' => e = .returned (.bool false) ∧ Kp (fun _ => False) w w' := by
  have HI := Lib.hid (show (Tryz.prog.info? 4).map (fun i => (i.zero, i.size, i.bytes)) = some (some (.bool false), 1, 1) by kernel_rfl)
  have HIn := Lib.hid (ref27_Ins an n cn N w hr hnn hn)
  have HVs := Lib.hid (fun (u : World) (hu : Kp (fun _ => False) w u) ai mi ci ins (hri : RowAt u ai (bv ins)) (hli : ins.length = mi) (hmi : mi ≤ 1000) => ref07_Values an n cn N ai mi ci ins u (hr.kp hu (fun _ _ h => h)) hnn (by omega) hN hri hli (by omega))
  have HAl := Lib.hid (fun (u : World) (hu : Kp (fun _ => False) w u) av cv ins (hrv : RowAt u av (bv (valsOf N ins))) => (ref27_All av (n + 1) cv (valsOf N ins) al ml cl l u hrv (by rw [valsOf_len, hnn]) (by omega) (hrl.kp hu (fun _ _ h => h)) hll hml (fun x hx => ⟨(hl x hx).1, by have := (hl x hx).2; have := (hl x hx).1; omega⟩)).mono (R' := fun e w' => e = .returned (.bool false) ∧ u = w') (by rintro e w' ⟨rfl, h⟩; rw [hno ins]; exact ⟨rfl, h⟩))
  have HVl := Lib.hid (fun ins => show (valsOf N ins).length = n + 1 by rw [valsOf_len, hnn])
  obtain ⟨q, hq⟩ : ∃ q, insN N n = q := ⟨_, rfl⟩
  rw [hq] at HIn hi
  clear hr hnn hN hrl hll hl hno hq
  go_enter Tryz.func17, Tryz.ntmps17
  go_upto_region 2 with (go_at_call 14; refine HIn.out.mono ?_; rintro e w1 ⟨rfl, hK1⟩; have HK1 := Lib.hid hK1; clear hK1)
  go_wp2_with fail
  go_loop [6, 7] (fun v6 v7 => ∃ (i m : Nat), v7 = .int .i64 (i : Int) ∧ i ≤ q ∧ v6 = .int .i64 (m : Int) ∧ m ≤ 2 ^ i) (fun _ v7 => q - (intOf v7).toNat)
  case atStart => exact ⟨0, 1, rfl, Nat.zero_le _, rfl, Nat.le_refl _⟩
  case round =>
    obtain ⟨i, m, rfl, hiq, rfl, hm⟩ := hrel
    have hp : 2 ^ i ≤ 2 ^ 7 := Nat.pow_le_pow_right (by decide) (by omega)
    have hm7 : m ≤ 128 := Nat.le_trans hm hp
    by_cases hlt : i < q
    · have i1 : (i : Int) < (q : Int) := by omega
      have HM := Lib.hid (show 2 * m ≤ 2 ^ (i + 1) by rw [Nat.pow_succ]; omega)
      have w2 : IntKind.i64.wrap (2 * (m : Int)) = 2 * (m : Int) := by rw [IntKind.wrap_i64]; omega
      clear hp hm
      go_wp2_with fail
      go_round
      case rel => exact ⟨i + 1, 2 * m, by go_num, hlt, by go_num, HM.out⟩
      case measure => simp [intOf]; omega
    · have hno : decide ((i : Int) < (q : Int)) = false := by simp; omega
      clear hp hm
      go_wp2_with fail
      go_loopw [8] (fun v8 wr => ∃ t : Nat, v8 = .int .i64 (t : Int) ∧ t ≤ m ∧ Kp (fun _ => False) w wr) (fun v8 _ => m - (intOf v8).toNat)
      case atStart => exact ⟨0, rfl, Nat.zero_le _, HK1.out⟩
      case round =>
        clear HK1
        obtain ⟨t, rfl, ht, hK⟩ := hrel
        have HK := Lib.hid hK
        clear hK
        obtain ⟨wp, rfl⟩ : ∃ wp : World, wp = wr := ⟨_, rfl⟩
        by_cases hlt2 : t < m
        · have t1 : (t : Int) < (m : Int) := by omega
          have HO0 : Hid (∃ bs : List Bool, bs.length = 0 ∧ Own (wp.alloc (.cells #[] 4)) wp.heap.size 4 (.slice (some ⟨wp.heap.size, 0, none⟩) 0 0) (bv bs)) := Lib.hid ⟨[], rfl, Own.lit (cs := []) (Blk.new wp #[] 4) (Nat.le_refl _) (Nat.zero_le _)⟩
          have HK0 := Lib.hid ((Kp.refl (fun _ => False) wp).alloc (.cells #[] 4))
          go_wp2_with fail
          go_loopw [9, 10, 11] (fun v9 v10 v11 wr => ∃ (j : Nat) (x : Int) (bs : List Bool), v11 = .int .i64 (j : Int) ∧ j ≤ q ∧ v10 = .int .i64 x ∧ 0 ≤ x ∧ x ≤ 128 ∧ bs.length = j ∧ Own wr wp.heap.size 4 v9 (bv bs) ∧ Kp (fun _ => False) wp wr) (fun _ _ v11 _ => q - (intOf v11).toNat)
          case atStart =>
            obtain ⟨bs, h1, h2⟩ := HO0.out
            exact ⟨0, t, bs, rfl, Nat.zero_le _, rfl, by omega, by omega, h1, h2, HK0.out⟩
          case round =>
            clear HO0 HK0
            obtain ⟨j, x, bs, rfl, hj, rfl, hx0, hx1, hb, hO, hK2⟩ := hrel
            have HO := Lib.hid hO
            have HK2 := Lib.hid hK2
            have HB := Lib.hid hb
            clear hO hK2 hb
            obtain ⟨wq, rfl⟩ : ∃ wq : World, wq = wr := ⟨_, rfl⟩
            by_cases hlt3 : j < q
            · have j1 : (j : Int) < (q : Int) := by omega
              have tx : x.tmod 2 = x % 2 := Int.tmod_eq_emod_of_nonneg hx0
              have dx : x.tdiv 2 = x / 2 := Int.tdiv_eq_ediv_of_nonneg hx0
              obtain ⟨y, hy⟩ : ∃ y, x / 2 = y := ⟨_, rfl⟩
              obtain ⟨z, hz⟩ : ∃ z, x % 2 = z := ⟨_, rfl⟩
              rw [hy] at dx
              rw [hz] at tx
              have wy : IntKind.i64.wrap y = y := by rw [IntKind.wrap_i64]; omega
              have wz : IntKind.i64.wrap z = z := by rw [IntKind.wrap_i64]; omega
              have hy0 : 0 ≤ y := by omega
              have hy1 : y ≤ 128 := by omega
              obtain ⟨c, hc⟩ : ∃ c, (z == 1) = c := ⟨_, rfl⟩
              have HNw := Lib.hid (Blk.new wq #[.bool c] 4)
              have HOl := Lib.hid (HO.out.alloc (.cells #[.bool c] 4))
              have HSz := Lib.hid HK2.out.size
              clear hy hz
              go_wp2_with (at_builtin; refine wpList_append1 rfl _ _ 25 4 rfl Tryz.underlying25 HI.out rfl HOl.out rfl ⟨wq.heap.size, 0, none⟩ (.bool c) rfl (HNw.out.cell rfl) rfl ?d1 ?d2 ?d3 ?_)
              case d1 => rw [bv_length, HB.out]; omega
              case d2 => rw [bv_length, HB.out]; unfold maxLen; omega
              case d3 => have := HSz.out; first | omega | (rw [World.size_alloc]; omega)
              intro v' w2 hO3 hg2
              have HO3 := Lib.hid (show Own w2 wp.heap.size 4 v' (bv (bs ++ [c])) by rw [bv_append]; exact hO3)
              have HK3 := Lib.hid (show Kp (fun _ => False) wp w2 from (HK2.out.alloc _).grown hg2 (fun j hj hl => by have := (HO.out.lt j hj).1; omega))
              clear hO3 hg2
              go_wp2_with fail
              go_roundw
              case rel => exact ⟨j + 1, y, bs ++ [c], by go_num, hlt3, rfl, hy0, hy1, by rw [List.length_append, HB.out]; rfl, HO3.out, HK3.out⟩
              case measure => simp [intOf]; omega
            · have hno3 : decide ((j : Int) < (q : Int)) = false := by simp; omega
              obtain ⟨a9, c9, e9, -, -, -, hr9⟩ := HO.out.form
              rw [bv_length, HB.out] at e9
              subst e9
              have HKq := Lib.hid (HK.out.trans HK2.out (fun _ _ h => h))
              have HV := Lib.hid (HVs.out wq HKq.out a9 j c9 bs hr9 HB.out (by omega))
              clear hr9 HO
              go_wp2_with (first
                | (go_at_call 11; refine HV.out.mono ?_; rintro e w5 ⟨v5, rfl, hO5, hK5⟩; obtain ⟨a5, c5, e5, -, -, -, hr5⟩ := hO5.form; rw [bv_length, HVl.out] at e5; subst e5; have HA5 := Lib.hid (HAl.out w5 (HKq.out.trans hK5 (fun _ _ h => h)) a5 c5 bs hr5); have HK5 := Lib.hid (HKq.out.trans hK5 (fun _ _ h => h)); clear hO5 hr5 hK5)
                | (go_at_call 13; refine HA5.out.mono ?_; rintro e w6 ⟨rfl, rfl⟩))
              go_roundw
              case rel => exact ⟨t + 1, by go_num, hlt2, HK5.out⟩
              case measure => simp [intOf]; omega
        · have hno2 : decide ((t : Int) < (m : Int)) = false := by simp; omega
          go_wp2_with fail
          go_ret
          exact ⟨rfl, HK.out⟩

end Go.Proofs.YthconjhldjaldaaGreatDoor

/-
  latchetref07.Check, latchetlaw07.Small: whether a net is good, and of few nodes.
-/
namespace Go.Proofs.YthconjhldjaldaaGreatDoor
open Go.RowKit

/-- a node that is good -/
def GoodJ (N : List (Int × Int)) (j : Nat) : Prop := (g2 N j).1 < 0 ∨ (0 ≤ (g2 N j).1 ∧ (g2 N j).1 ≤ 2 * (j : Int) + 1 ∧ 0 ≤ (g2 N j).2 ∧ (g2 N j).2 ≤ 2 * (j : Int) + 1)

set_option maxRecDepth 100000 in
set_option maxHeartbeats 4000000 in
theorem ref07_Check (an : Option Addr) (n cn : Nat) (N : List (Int × Int)) (w : World) (hr : RowAt w an (N.map pr2).flatten) (hnn : N.length = n) (hn : n ≤ 1000) :
    Calls Tryz.prog 18 #[.slice an n cn] w fun e w' => ∃ c : Int, e = .returned (.int .i64 c) ∧ ((c == 0) = true ↔ GoodN N) ∧ w = w' := by
  have HR := Lib.hid hr
  have HN := Lib.hid hnn
  clear hr hnn
  have d9 : decide (1048576 < (n : Int)) = false := by simp; omega
  go_enter Tryz.func18, Tryz.ntmps18
  go_wp2_with fail
  go_loop [3] (fun v3 => ∃ k : Nat, v3 = .int .i64 (k : Int) ∧ k ≤ n ∧ ∀ j, j < k → GoodJ N j) (fun v3 => n - (intOf v3).toNat)
  case atStart => exact ⟨0, rfl, Nat.zero_le _, fun j hj => absurd hj (Nat.not_lt_zero j)⟩
  case round =>
    obtain ⟨k, rfl, hk, hG⟩ := hrel
    have HG := Lib.hid hG
    clear hG
    by_cases hlt : k < n
    · have hkl : k < N.length := by rw [HN.out]; exact hlt
      obtain ⟨b, off, rfl, e0, e1⟩ := pr2_cells HR.out hkl
      have HJ := Lib.hid (show GoodJ N k ↔ _ from Iff.rfl)
      have HNo := Lib.hid (fun (h : ¬ GoodJ N k) => show ¬ GoodN N from fun hg => h (hg k hkl))
      have HYes := Lib.hid (fun (h : GoodJ N k) j (hj : j < k + 1) => show GoodJ N j from by
        by_cases e : j = k
        · rw [e]; exact h
        · exact HG.out j (by omega))
      unfold GoodJ at HJ
      obtain ⟨x, hx⟩ : ∃ x, (g2 N k).1 = x := ⟨_, rfl⟩
      obtain ⟨y, hy⟩ : ∃ y, (g2 N k).2 = y := ⟨_, rfl⟩
      rw [hx] at e0
      rw [hy] at e1
      have HX := Lib.hid hx
      have HY := Lib.hid hy
      have i0 : (0 : Int) ≤ (k : Int) := by omega
      have i1 : (k : Int) < (n : Int) := by omega
      have w2 : IntKind.i64.wrap (2 * (k : Int)) = 2 * (k : Int) := by rw [IntKind.wrap_i64]; omega
      have w3 : IntKind.i64.wrap (2 * (k : Int) + 1) = 2 * (k : Int) + 1 := by rw [IntKind.wrap_i64]; omega
      clear hx hy hkl HJ
      by_cases h1 : x < 0
      · have d1 : decide (0 ≤ x) = false := by simp; omega
        have HZ := Lib.hid (HYes.out (.inl (by rw [HX.out]; exact h1)))
        clear h1 HYes HNo
        go_wp2_with fail
        go_round
        case rel => exact ⟨k + 1, by go_num, hlt, HZ.out⟩
        case measure => simp [intOf]; omega
      · have d1 : decide (0 ≤ x) = true := by simp; omega
        by_cases h2 : 2 * (k : Int) + 1 < x
        · have d2 : decide (2 * (k : Int) + 1 < x) = true := by simp [h2]
          have HZ := Lib.hid (HNo.out (fun h => by unfold GoodJ at h; rw [HX.out] at h; omega))
          clear h1 h2 HYes HNo
          go_wp2_with fail
          go_ret
          exact ⟨5, rfl, ⟨fun h => by simp at h, fun h => absurd h HZ.out⟩, rfl⟩
        · have d2 : decide (2 * (k : Int) + 1 < x) = false := by simp; omega
          by_cases h3 : y < 0
          · have d3 : decide (y < 0) = true := by simp [h3]
            have HZ := Lib.hid (HNo.out (fun h => by unfold GoodJ at h; rw [HX.out, HY.out] at h; omega))
            clear h1 h2 h3 HYes HNo
            go_wp2_with fail
            go_ret
            exact ⟨5, rfl, ⟨fun h => by simp at h, fun h => absurd h HZ.out⟩, rfl⟩
          · have d3 : decide (y < 0) = false := by simp; omega
            by_cases h4 : 2 * (k : Int) + 1 < y
            · have d4 : decide (2 * (k : Int) + 1 < y) = true := by simp [h4]
              have HZ := Lib.hid (HNo.out (fun h => by unfold GoodJ at h; rw [HX.out, HY.out] at h; omega))
              clear h1 h2 h3 h4 HYes HNo
              go_wp2_with fail
              go_ret
              exact ⟨5, rfl, ⟨fun h => by simp at h, fun h => absurd h HZ.out⟩, rfl⟩
            · have d4 : decide (2 * (k : Int) + 1 < y) = false := by simp; omega
              have HZ := Lib.hid (HYes.out (.inr (by rw [HX.out, HY.out]; omega)))
              clear h1 h2 h3 h4 HYes HNo
              go_wp2_with fail
              go_round
              case rel => exact ⟨k + 1, by go_num, hlt, HZ.out⟩
              case measure => simp [intOf]; omega
    · have hk' : k = n := by omega
      have HZ : Hid (GoodN N) := Lib.hid (fun j hj => HG.out j (by rw [HN.out] at hj; omega))
      subst hk'
      have hno : decide ((k : Int) < (k : Int)) = false := by simp
      go_wp2_with fail
      go_ret
      exact ⟨0, rfl, ⟨fun _ => HZ.out, fun _ => rfl⟩, rfl⟩

set_option maxRecDepth 100000 in
theorem law07_Small (an : Option Addr) (n cn : Nat) (N : List (Int × Int)) (m : Int) (w : World) (hr : RowAt w an (N.map pr2).flatten) (hnn : N.length = n) (hm : m ≤ 1000) :
    Calls Tryz.prog 5 #[.slice an n cn, .int .i64 m] w fun e w' => ∃ b : Bool, e = .returned (.bool b) ∧ (b = true ↔ (n : Int) ≤ m ∧ GoodN N) ∧ w = w' := by
  by_cases hle : (n : Int) ≤ m
  · have HC := Lib.hid (ref07_Check an n cn N w hr hnn (by omega))
    have HL := Lib.hid hle
    have d1 : decide ((n : Int) ≤ m) = true := by simp [hle]
    clear hr hnn hm
    go_enter Tryz.func5, Tryz.ntmps5
    go_wp2_with (go_at_call 18; refine HC.out.mono ?_; rintro e w' ⟨c, rfl, hc, rfl⟩; have HCc := Lib.hid hc; clear hc)
    go_ret
    exact ⟨_, rfl, ⟨fun h => ⟨HL.out, HCc.out.1 h⟩, fun h => HCc.out.2 h.2⟩, rfl⟩
  · have d1 : decide ((n : Int) ≤ m) = false := by simp; omega
    have HL := Lib.hid hle
    clear hr hnn hm
    go_enter Tryz.func5, Tryz.ntmps5
    go_wp2_with fail
    go_ret
    exact .inl ⟨rfl, fun h => absurd h (Int.not_le.2 HL.out), rfl⟩

end Go.Proofs.YthconjhldjaldaaGreatDoor

/-
  latchetref03.Lit; latchetref02.Not.
-/
namespace Go.Proofs.YthconjhldjaldaaGreatDoor
open Go.RowKit

end Go.Proofs.YthconjhldjaldaaGreatDoor

/-
  latchetref20.Value, latchetref20.Unit.
-/
namespace Go.Proofs.YthconjhldjaldaaGreatDoor
open Go.RowKit

end Go.Proofs.YthconjhldjaldaaGreatDoor

/-
  latchetref22: set.
-/
namespace Go.Proofs.YthconjhldjaldaaGreatDoor
open Go.RowKit

end Go.Proofs.YthconjhldjaldaaGreatDoor

/-
  latchetref22: Known, and the clause of a gate.
-/
namespace Go.Proofs.YthconjhldjaldaaGreatDoor
open Go.RowKit

set_option maxRecDepth 100000 in
set_option maxHeartbeats 2000000 in
theorem ref22_Known (an : Option Addr) (n cn : Nat) (a : Option Addr) (m c : Nat) (l : List Int) (w : World) (hn : n ≤ 1000000) (hr : RowAt w a (iv l)) (hl : l.length = m) (hm : m ≤ 9223372036854775807) :
    Calls Tryz.prog 6 #[.slice an n cn, .slice a m c] w fun e w' => e = .returned (.bool (knB n l)) ∧ w = w' := by
  have HR := Lib.hid hr
  have HL := Lib.hid hl
  clear hr hl
  go_enter Tryz.func6, Tryz.ntmps6
  go_wp2_with fail
  go_loop [5] (fun v5 => ∃ k : Nat, k ≤ m ∧ v5 = .int .i64 k ∧ ∀ i, i < k → KnL n (gi l i)) (fun v5 => m - (intOf v5).toNat)
  case atStart => exact ⟨0, Nat.zero_le _, rfl, fun i hi => absurd hi (Nat.not_lt_zero i)⟩
  case round =>
    obtain ⟨k, hk, rfl, hS⟩ := hrel
    have HS := Lib.hid hS
    clear hS
    by_cases hlt : k < m
    · have hkl : k < l.length := by rw [HL.out]; exact hlt
      obtain ⟨b, off, rfl, hcell⟩ := HR.out k _ (iv_at hkl)
      have HM := Lib.hid (gi_mem hkl)
      obtain ⟨x, hx⟩ : ∃ x, gi l k = x := ⟨_, rfl⟩
      rw [hx] at hcell HM
      have HX := Lib.hid hx
      have i0 : (0 : Int) ≤ (k : Int) := by omega
      have i1 : (k : Int) < (m : Int) := by omega
      have wn : IntKind.i64.wrap (2 * (n : Int)) = 2 * (n : Int) := by rw [IntKind.wrap_i64]; omega
      have wn1 : IntKind.i64.wrap (2 * (n : Int) + 1) = 2 * (n : Int) + 1 := by rw [IntKind.wrap_i64]; omega
      clear hx hkl
      have HF : Hid (¬ KnL n x → knB n l = false) := Lib.hid fun hno => by
        rw [← Bool.not_eq_true]
        intro q
        exact hno (knB_iff.1 q x HM.out)
      by_cases h0 : x < 0
      · have d0 : decide (x < 0) = true := by simp [h0]
        have HZ := Lib.hid (HF.out (fun q => by unfold KnL at q; omega))
        clear HF h0
        go_wp2_with fail
        go_ret
        exact ⟨by rw [HZ.out]; rfl, rfl⟩
      · have d0 : decide (x < 0) = false := by simp; omega
        by_cases h1 : 2 * (n : Int) + 1 < x
        · have d1 : decide (2 * (n : Int) + 1 < x) = true := by simp [h1]
          have HZ := Lib.hid (HF.out (fun q => by unfold KnL at q; omega))
          clear HF h0 h1
          go_wp2_with fail
          go_ret
          exact ⟨by rw [HZ.out]; rfl, rfl⟩
        · have d1 : decide (2 * (n : Int) + 1 < x) = false := by simp; omega
          have HZ : Hid (KnL n x) := Lib.hid ⟨by omega, by omega⟩
          clear HF h0 h1
          go_wp2_with fail
          go_round
          case rel => exact ⟨k + 1, hlt, by go_num, fun i hi => by
            by_cases e : i = k
            · rw [e, HX.out]; exact HZ.out
            · exact HS.out i (by omega)⟩
          case measure => simp [intOf]; omega
    · have hk' : k = m := by omega
      subst hk'
      have hno : decide ((k : Int) < (k : Int)) = false := by simp
      have HZ : Hid (knB n l = true) := Lib.hid (knB_iff.2 fun x hx => by
        obtain ⟨i, hi, rfl⟩ := mem_gi hx
        exact HS.out i (by rw [← HL.out]; exact hi))
      go_wp2_with fail
      go_ret
      exact ⟨by rw [HZ.out]; rfl, rfl⟩

end Go.Proofs.YthconjhldjaldaaGreatDoor

/-
  How a net, clauses and lines that came in are opened.
-/
namespace Go.Proofs.YthconjhldjaldaaGreatDoor
open Go.RowKit Go.ChangeShapes Go.WideShapes Go.ChangeAt Go.Joins Go.Deep

/-- a row of ints among the cells of what came in -/
theorem ints_inB {H : Type} {enc : TypeId × Value → H} {W : World} {fuel : Nat} {v : Value} {x : DataW H × List MemPlace}
    (h : DataW.trod enc Tryz.prog W 0 (fun _ => true) true fuel 23 [v] = some x) : ∃ c : List Int, IntsSl W v c ∧ ∀ x ∈ c, okI x := by
  rcases open_ints Tryz.underlying23 Tryz.underlying3 (by kernel_rfl) h with ⟨hcs, _⟩ | ⟨a, len, cap, zs, hcs, _, hl, hm, hz, _, hcell, hwz⟩
  · simp at hcs
    subst hcs
    exact ⟨[], ⟨none, 0, rfl, Nat.le_refl _, by simp [maxLen], fun _ => rfl, RowAt.nil _ _⟩, fun x hx => by cases hx⟩
  · simp at hcs
    subst hcs
    simp only [if_true] at hz
    refine ⟨zs.take len, ⟨some a, cap, ?_, ?_, hm, (fun h => by cases h), ?_⟩, fun x hx => ?_⟩
    · rw [List.length_take, hz]; congr 1; omega
    · rw [List.length_take, hz]; omega
    · intro j u hu
      rw [List.getElem?_map, List.getElem?_take] at hu
      split at hu
      · rename_i hj
        have h0 := hcell 0 (by omega)
        have hs : a.spot = none := by
          have := World.cell?_spot h0
          simpa [Addr.add] using this
        obtain ⟨b, off, spot⟩ := a
        simp only at hs
        subst hs
        refine ⟨b, off, rfl, ?_⟩
        have hc := hcell j (by omega)
        rw [add_plain'] at hc
        rw [hc]
        rw [List.getElem?_eq_getElem (by omega)] at hu
        simp only [Option.map_some] at hu
        rw [← hu]
        simp [List.getD, List.getElem?_eq_getElem (show j < zs.length by omega)]
      · simp at hu
    · have := hwz x (List.mem_of_mem_take hx)
      simp [Lit.wf, IntKind.min, IntKind.max, IntKind.signed, IntKind.bits] at this
      unfold okI
      omega

/-- lines that came in -/
def LnsBArg (W : World) (v : Value) : Prop := ∃ (L : List (Bool × List Int)) (a : Option Addr) (n cap : Nat), v = .slice a n cap ∧ L.length = n ∧ SlOK a n cap ∧ LnsAt W a L ∧ ∀ x ∈ L, ∀ y ∈ x.2, okI y

/-- a net that came in -/
def NodesArg (W : World) (v : Value) : Prop := ∃ (N : List (Int × Int)) (a : Option Addr) (n cap : Nat), v = .slice a n cap ∧ N.length = n ∧ SlOK a n cap ∧ RowAt W a (N.map pr2).flatten

set_option maxRecDepth 100000 in
theorem open_nodesArg {H : Type} {enc : TypeId × Value → H} {W : World} {base : Nat} {v : Value} {d : DataW H} {ps : List MemPlace}
    (hv : Value.okWide Tryz.prog W .any base 22 v) (h : DataW.Trod enc Tryz.prog W 0 (fun _ => true) true 22 v d ps) : NodesArg W v := by
  obtain ⟨a0, len0, cap0, rfl⟩ := okWide_slice Tryz.underlying22 hv
  obtain ⟨fuel, hf⟩ := h
  rcases open_slice_pairs Tryz.underlying22 Tryz.underlying43 (by kernel_rfl) (by kernel_rfl) (by kernel_rfl) (by kernel_rfl) (by kernel_rfl) hf with ⟨hcs, _⟩ | ⟨a, len, cap, m, n, V0, V1, D0, D1, P0, P1, hcs, _, hl, hm, hmm, _, hx⟩
  · simp [Value.cells] at hcs
    obtain ⟨rfl, rfl, rfl⟩ := hcs
    exact ⟨[], none, 0, 0, rfl, rfl, ⟨Nat.le_refl _, by simp [maxLen], fun _ => rfl⟩, RowAt.nil _ _⟩
  · simp [Value.cells] at hcs
    obtain ⟨rfl, rfl, rfl⟩ := hcs
    simp only [if_true] at hmm
    subst hmm
    have hb : ∀ i, i < len0 → ∃ f, V0 i = .int .i64 f := by
      intro i hi
      obtain ⟨f, e, _⟩ := DataW.trod_int Tryz.underlying3 (hx i (by omega)).2.2.1
      simp at e
      exact ⟨f, e⟩
    have hi : ∀ i, i < len0 → ∃ f, V1 i = .int .i64 f := by
      intro i hi
      obtain ⟨f, e, _⟩ := DataW.trod_int Tryz.underlying3 (hx i (by omega)).2.2.2
      simp at e
      exact ⟨f, e⟩
    obtain ⟨F, hF⟩ := choose_lt hb
    obtain ⟨C, hC⟩ := choose_lt hi
    refine ⟨(List.range len0).map (fun i => (F i, C i)), some a, len0, m, rfl, by simp, ⟨hl, hm, fun h => by cases h⟩, ?_⟩
    intro j u hu
    have hlen : (((List.range len0).map (fun i => (F i, C i))).map pr2).flatten.length = len0 * 2 := by
      rw [flat_length (pr2_len _)]; simp
    have hj : j < len0 * 2 := by rw [← hlen]; exact (List.getElem?_eq_some_iff.1 hu).1
    have hr : (((List.range len0).map (fun i => (F i, C i))).map pr2)[j / 2]? = some [.int .i64 (F (j / 2)), .int .i64 (C (j / 2))] := by
      have : j / 2 < len0 := by omega
      simp [this, pr2]
    obtain ⟨q0, q1, _, _⟩ := hx (j / 2) (by omega)
    have hs : a.spot = none := by
      have := World.cell?_spot (hx 0 (by omega)).1
      simpa [Addr.add] using this
    obtain ⟨b, off, spot⟩ := a
    simp only at hs
    subst hs
    refine ⟨b, off, rfl, ?_⟩
    rw [add_plain'] at q0 q1
    by_cases hp : j % 2 = 0
    · have h0 := flat_at (pr2_len _) hr (i := 0) rfl
      rw [show j / 2 * 2 + 0 = j by omega, hu] at h0
      rw [show off + j = off + j / 2 * 2 by omega, q0, hF (j / 2) (by omega)]
      simpa using h0.symm
    · have h0 := flat_at (pr2_len _) hr (i := 1) rfl
      rw [show j / 2 * 2 + 1 = j by omega, hu] at h0
      rw [show off + j = off + (j / 2 * 2 + 1) by omega, q1, hC (j / 2) (by omega)]
      simpa using h0.symm

set_option maxRecDepth 100000 in
theorem open_lnsBArg {H : Type} {enc : TypeId × Value → H} {W : World} {base : Nat} {v : Value} {d : DataW H} {ps : List MemPlace}
    (hv : Value.okWide Tryz.prog W .any base 35 v) (h : DataW.Trod enc Tryz.prog W 0 (fun _ => true) true 35 v d ps) : LnsBArg W v := by
  obtain ⟨a0, len0, cap0, rfl⟩ := okWide_slice Tryz.underlying35 hv
  obtain ⟨fuel, hf⟩ := h
  rcases open_slice_pairs Tryz.underlying35 Tryz.underlying45 (by kernel_rfl) (by kernel_rfl) (by kernel_rfl) (by kernel_rfl) (by kernel_rfl) hf with ⟨hcs, _⟩ | ⟨a, len, cap, m, n, V0, V1, D0, D1, P0, P1, hcs, _, hl, hm, hmm, _, hx⟩
  · simp [Value.cells] at hcs
    obtain ⟨rfl, rfl, rfl⟩ := hcs
    exact ⟨[], none, 0, 0, rfl, rfl, ⟨Nat.le_refl _, by simp [maxLen], fun _ => rfl⟩, ⟨[], RowAt.nil _ _, rfl, fun k r x hr => by simp at hr⟩, fun x hx => by cases hx⟩
  · simp [Value.cells] at hcs
    obtain ⟨rfl, rfl, rfl⟩ := hcs
    simp only [if_true] at hmm
    subst hmm
    have hb : ∀ i, i < len0 → ∃ f, V0 i = .bool f := by
      intro i hi
      obtain ⟨f, e, _⟩ := DataW.trod_bool Tryz.underlying4 (hx i (by omega)).2.2.1
      simp at e
      exact ⟨f, e⟩
    have hi : ∀ i, i < len0 → ∃ c, IntsSl W (V1 i) c ∧ ∀ x ∈ c, okI x := fun i hi => ints_inB (hx i (by omega)).2.2.2
    obtain ⟨F, hF⟩ := choose_lt hb
    obtain ⟨C, hC⟩ := choose_lt hi
    refine ⟨(List.range len0).map (fun i => (F i, C i)), some a, len0, m, rfl, by simp, ⟨hl, hm, fun h => by cases h⟩, ⟨(List.range len0).map (fun i => (F i, V1 i)), ?_, by simp, ?_⟩, fun x hx2 => ?_⟩
    · intro j u hu
      have hlen : ((lrows ((List.range len0).map (fun i => (F i, V1 i)))).flatten).length = len0 * 2 := by
        rw [flat_length (lrows_len _)]; simp [lrows]
      have hj : j < len0 * 2 := by rw [← hlen]; exact (List.getElem?_eq_some_iff.1 hu).1
      have hr : (lrows ((List.range len0).map (fun i => (F i, V1 i))))[j / 2]? = some [.bool (F (j / 2)), V1 (j / 2)] := by
        have : j / 2 < len0 := by omega
        simp [lrows, this]
      obtain ⟨q0, q1, _, _⟩ := hx (j / 2) (by omega)
      have hs : a.spot = none := by
        have := World.cell?_spot (hx 0 (by omega)).1
        simpa [Addr.add] using this
      obtain ⟨b, off, spot⟩ := a
      simp only at hs
      subst hs
      refine ⟨b, off, rfl, ?_⟩
      rw [add_plain'] at q0 q1
      by_cases hp : j % 2 = 0
      · have h0 := flat_at (lrows_len _) hr (i := 0) rfl
        rw [show j / 2 * 2 + 0 = j by omega, hu] at h0
        rw [show off + j = off + j / 2 * 2 by omega, q0, hF (j / 2) (by omega)]
        simpa using h0.symm
      · have h0 := flat_at (lrows_len _) hr (i := 1) rfl
        rw [show j / 2 * 2 + 1 = j by omega, hu] at h0
        rw [show off + j = off + (j / 2 * 2 + 1) by omega, q1]
        simpa using h0.symm
    · intro k r x hr hx2
      rw [List.getElem?_map] at hr hx2
      have hk : k < len0 := by
        rcases Nat.lt_or_ge k len0 with h | h
        · exact h
        · rw [List.getElem?_eq_none (by simpa using h)] at hr; cases hr
      rw [List.getElem?_range hk] at hr hx2
      simp only [Option.map_some, Option.some.injEq] at hr hx2
      subst hr hx2
      exact ⟨rfl, (hC k hk).1⟩
    · obtain ⟨i, hi, rfl⟩ := List.mem_map.1 hx2
      exact (hC i (List.mem_range.1 hi)).2

end Go.Proofs.YthconjhldjaldaaGreatDoor

/-
  How a slice of ints that came in is opened.
-/
namespace Go.Proofs.YthconjhldjaldaaGreatDoor
open Go.RowKit Go.ChangeShapes Go.WideShapes Go.ChangeAt

set_option maxRecDepth 100000 in
theorem open_intsArg {H : Type} {enc : TypeId × Value → H} {W : World} {base : Nat} {v : Value} {d : DataW H} {ps : List MemPlace}
    (hv : Value.okWide Tryz.prog W .any base 23 v) (h : DataW.Trod enc Tryz.prog W 0 (fun _ => true) true 23 v d ps) : IntsArg W v := by
  obtain ⟨a0, len0, cap0, rfl⟩ := okWide_slice Tryz.underlying23 hv
  obtain ⟨fuel, hf⟩ := h
  rcases open_ints Tryz.underlying23 Tryz.underlying3 (by kernel_rfl) hf with ⟨hcs, _⟩ | ⟨a, len, cap, zs, hcs, _, hl, hm, hz, _, hcell, hwz⟩
  · simp [Value.cells] at hcs
    obtain ⟨rfl, rfl, rfl⟩ := hcs
    exact ⟨none, 0, 0, [], rfl, rfl, by omega, by simp [maxLen], fun _ => rfl, RowAt.nil _ _, fun x hx => by cases hx⟩
  · simp [Value.cells] at hcs
    obtain ⟨rfl, rfl, rfl⟩ := hcs
    simp only [if_true] at hz
    refine ⟨some a, len0, cap0, zs.take len0, rfl, by simp; omega, hl, hm, (fun h => by cases h), ?_, fun x hx => ?_⟩
    · intro j u hu
      rw [List.getElem?_map, List.getElem?_take] at hu
      split at hu
      · rename_i hj
        have h0 := hcell 0 (by omega)
        have hs : a.spot = none := by
          have := World.cell?_spot h0
          simpa [Addr.add] using this
        obtain ⟨b, off, spot⟩ := a
        simp only at hs
        subst hs
        refine ⟨b, off, rfl, ?_⟩
        have hc := hcell j (by omega)
        rw [add_plain'] at hc
        rw [hc]
        rw [List.getElem?_eq_getElem (by omega)] at hu
        simp only [Option.map_some] at hu
        rw [← hu]
        simp [List.getD, List.getElem?_eq_getElem (show j < zs.length by omega)]
      · simp at hu
    · have := hwz x (List.mem_of_mem_take hx)
      simp [Lit.wf, IntKind.min, IntKind.max, IntKind.signed, IntKind.bits] at this
      omega

end Go.Proofs.YthconjhldjaldaaGreatDoor

/-
  latchetlaw29.RupSound.
-/
namespace Go.Proofs.YthconjhldjaldaaGreatDoor
open Go.RowKit

set_option maxRecDepth 100000 in
set_option maxHeartbeats 8000000 in
theorem rupSound_walk (w : World) (v0 : Value) (h0 : NodesArg w v0) (v1 : Value) (h1 : IntsArg w v1) (v2 : Value) (h2 : LnsBArg w v2) (ht : Tab w) :
    Calls Tryz.prog 4 #[v0, v1, v2] w fun e w' => e = .returned (.bool true) ∧ Below w.heap.size w w' := by
  obtain ⟨N, an, n, cn, rfl, hnn, hon, hrn⟩ := h0
  obtain ⟨al, ml, cl, l, rfl, hll, hl1, hl2, hl3, hrl, -⟩ := h1
  obtain ⟨L, ax, nx, cx, rfl, hlx, hox, hL, hLb⟩ := h2
  have hol : SlOK al ml cl := ⟨hl1, hl2, hl3⟩
  have hmaxl : maxLen ≤ 9223372036854775807 := by unfold maxLen; omega
  have HLv := Lib.hid (fun u (hu : Kp (fun _ => False) w u) => rup_lives u (ht.kp hu))
  have hnx9 : nx ≤ 9223372036854775807 := by have h7 := hox.le; have h8 := hox.most; omega
  obtain ⟨bs, hbs⟩ : ∃ b : Bool, b = true ↔ (n : Int) ≤ 24 ∧ GoodN N := by
    by_cases h : (n : Int) ≤ 24 ∧ GoodN N
    · exact ⟨true, fun _ => h, fun _ => rfl⟩
    · exact ⟨false, fun q => (by cases q), fun q => absurd q h⟩
  have HSm := Lib.hid ((law07_Small an n cn N 24 w hrn hnn (by omega)).mono (R' := fun e w' => e = .returned (.bool bs) ∧ w = w') (by
    rintro e w' ⟨b, rfl, hb, h⟩
    have : b = bs := by rw [Bool.eq_iff_iff, hb, hbs]
    rw [this]; exact ⟨rfl, h⟩))
  cases bs with
  | false =>
    clear hrn hrl hL hnn hon hll hlx hox hol hbs hLb
    go_enter Tryz.func4, Tryz.ntmps4
    go_wp2_with (first
      | (go_at_call 5; refine HSm.out.mono ?_; rintro e w' ⟨rfl, rfl⟩)
      | (go_at_call 8; refine (HLv.out w (Kp.refl _ w)).mono ?_; rintro e w9 ⟨rfl, hK9⟩; have HK9 := Lib.hid hK9; clear hK9))
    go_ret
    exact ⟨rfl, HK9.out.below (Nat.le_refl _) (fun _ _ h => h)⟩
  | true =>
  obtain ⟨hn24, hN⟩ := hbs.1 rfl
  clear hbs
  have HIn := Lib.hid (ref27_Ins an n cn N w hrn hnn (by omega))
  have hiq := insN_le N n
  obtain ⟨q, hq⟩ : ∃ q, insN N n = q := ⟨_, rfl⟩
  rw [hq] at HIn hiq
  by_cases hq7 : q ≤ 7
  case neg =>
    have dq : decide (7 < (q : Int)) = true := by simp; omega
    clear hrn hrl hL hnn hon hll hlx hox hol hLb hq
    go_enter Tryz.func4, Tryz.ntmps4
    go_wp2_with (first
      | (go_at_call 5; refine HSm.out.mono ?_; rintro e w' ⟨rfl, rfl⟩)
      | (go_at_call 14; refine HIn.out.mono ?_; rintro e w1 ⟨rfl, hK1⟩; have HK1 := Lib.hid hK1; clear hK1)
      | (go_at_call 8; refine (HLv.out w1 HK1.out).mono ?_; rintro e w9 ⟨rfl, hK9⟩; have HK9 := Lib.hid (HK1.out.trans hK9 (fun _ _ h => h)); clear hK9))
    go_ret
    exact ⟨rfl, HK9.out.below (Nat.le_refl _) (fun _ _ h => h)⟩
  have dq : decide (7 < (q : Int)) = false := by simp; omega
  by_cases hml : ml ≤ 20
  case neg =>
    have dml : decide (20 < (ml : Int)) = true := by simp; omega
    clear hrn hrl hL hnn hon hll hlx hox hol hLb hq
    go_enter Tryz.func4, Tryz.ntmps4
    go_wp2_with (first
      | (go_at_call 5; refine HSm.out.mono ?_; rintro e w' ⟨rfl, rfl⟩)
      | (go_at_call 14; refine HIn.out.mono ?_; rintro e w1 ⟨rfl, hK1⟩; have HK1 := Lib.hid hK1; clear hK1)
      | (go_at_call 8; refine (HLv.out w1 HK1.out).mono ?_; rintro e w9 ⟨rfl, hK9⟩; have HK9 := Lib.hid (HK1.out.trans hK9 (fun _ _ h => h)); clear hK9))
    go_ret
    exact ⟨rfl, HK9.out.below (Nat.le_refl _) (fun _ _ h => h)⟩
  have dml : decide (20 < (ml : Int)) = false := by simp; omega
  obtain ⟨bl, hbl⟩ : ∃ b, knB n l = b := ⟨_, rfl⟩
  have HKl := Lib.hid (fun u (hu : Kp (fun _ => False) w u) => show Calls Tryz.prog 6 #[.slice an n cn, .slice al ml cl] u (fun e w' => e = .returned (.bool bl) ∧ u = w') from by
    rw [← hbl]; exact ref22_Known an n cn al ml cl l u (by omega) (hrl.kp hu (fun _ _ h => h)) hll (by omega))
  cases bl with
  | false =>
    clear hrn hrl hL hnn hon hll hlx hox hol hLb hq hbl
    go_enter Tryz.func4, Tryz.ntmps4
    go_wp2_with (first
      | (go_at_call 5; refine HSm.out.mono ?_; rintro e w' ⟨rfl, rfl⟩)
      | (go_at_call 14; refine HIn.out.mono ?_; rintro e w1 ⟨rfl, hK1⟩; have HK1 := Lib.hid hK1; clear hK1)
      | (go_at_call 6; refine (HKl.out _ HK1.out).mono ?_; rintro e w' ⟨rfl, rfl⟩; clear HKl)
      | (go_at_call 8; refine (HLv.out w1 HK1.out).mono ?_; rintro e w9 ⟨rfl, hK9⟩; have HK9 := Lib.hid (HK1.out.trans hK9 (fun _ _ h => h)); clear hK9))
    go_ret
    exact ⟨rfl, HK9.out.below (Nat.le_refl _) (fun _ _ h => h)⟩
  | true =>
  have hkl := knB_iff.1 hbl
  clear hbl
  obtain ⟨bf, hbf⟩ : ∃ b : Bool, b = true ↔ FewL nx 30 L := by
    by_cases h : FewL nx 30 L
    · exact ⟨true, fun _ => h, fun _ => rfl⟩
    · exact ⟨false, fun q => (by cases q), fun q => absurd q h⟩
  have HFw := Lib.hid (fun u (hu : Kp (fun _ => False) w u) => (law28_Few ax nx cx L 30 u (hL.kp hu) hlx hnx9).mono (R' := fun e w' => e = .returned (.bool bf) ∧ u = w') (by
    rintro e w' ⟨⟨b, rfl, hb⟩, h⟩
    have : b = bf := by rw [Bool.eq_iff_iff, hb, hbf]
    rw [this]; exact ⟨rfl, h⟩))
  cases bf with
  | false =>
    clear hrn hrl hL hnn hon hll hlx hox hol hLb hq hkl hbf
    go_enter Tryz.func4, Tryz.ntmps4
    go_wp2_with (first
      | (go_at_call 5; refine HSm.out.mono ?_; rintro e w' ⟨rfl, rfl⟩)
      | (go_at_call 14; refine HIn.out.mono ?_; rintro e w1 ⟨rfl, hK1⟩; have HK1 := Lib.hid hK1; clear hK1)
      | (go_at_call 6; refine (HKl.out _ HK1.out).mono ?_; rintro e w' ⟨rfl, rfl⟩; clear HKl)
      | (go_at_call 15; refine (HFw.out _ HK1.out).mono ?_; rintro e w' ⟨rfl, rfl⟩)
      | (go_at_call 8; refine (HLv.out w1 HK1.out).mono ?_; rintro e w9 ⟨rfl, hK9⟩; have HK9 := Lib.hid (HK1.out.trans hK9 (fun _ _ h => h)); clear hK9))
    go_ret
    exact ⟨rfl, HK9.out.below (Nat.le_refl _) (fun _ _ h => h)⟩
  | true =>
  obtain ⟨hnx, hcl⟩ := hbf.1 rfl
  clear hbf
  have HCk := Lib.hid (fun u (hu : Kp (fun _ => False) w u) => rup_Check an n cn N al ml cl l ax nx cx L u (hrn.kp hu (fun _ _ h => h)) hnn hon (by omega) hN (hrl.kp hu (fun _ _ h => h)) hll hol (by omega) hkl (hL.kp hu) hlx (by omega) (fun x hx => by have := hcl x hx; omega) hLb (ht.kp hu))
  obtain ⟨r, hr⟩ : ∃ r, rupCk N l L = r := ⟨_, rfl⟩
  simp only [hr] at HCk
  obtain ⟨k, c⟩ := r
  have HCan := Lib.hid (fun (hc : c = 0) u (hu : Kp (fun _ => False) w u) => ref27_Can_no an n cn N al ml cl l u (hrn.kp hu (fun _ _ h => h)) hnn (by omega) hN (hrl.kp hu (fun _ _ h => h)) hll (by omega) hkl (by rw [hq]; exact hq7) (fun ins => by
    subst hc
    subst hnn
    have h1 := rupCk_sound hN hkl hr ins
    rw [← Bool.not_eq_true, List.all_eq_true]
    exact h1))
  clear hrn hrl hL hnn hon hll hlx hox hol hLb hq hkl hr hcl hN
  go_enter Tryz.func4, Tryz.ntmps4
  go_upto_region 3 with (first
    | (go_at_call 5; refine HSm.out.mono ?_; rintro e w' ⟨rfl, rfl⟩)
    | (go_at_call 14; refine HIn.out.mono ?_; rintro e w1 ⟨rfl, hK1⟩; have HK1 := Lib.hid hK1; clear hK1)
    | (go_at_call 6; refine (HKl.out _ HK1.out).mono ?_; rintro e w' ⟨rfl, rfl⟩; clear HKl)
    | (go_at_call 15; refine (HFw.out _ HK1.out).mono ?_; rintro e w' ⟨rfl, rfl⟩))
  have HCk1 := Lib.hid (HCk.out w1 HK1.out)
  clear HCk
  by_cases hc : c = 0
  · have HCan0 := Lib.hid (HCan.out hc)
    subst hc
    clear HCan
    go_upto_region 4 with (go_at_call 16; refine HCk1.out.mono ?_; rintro e w2 ⟨rfl, hK2⟩; have HK2 := Lib.hid (HK1.out.trans hK2 (fun _ _ h => h)); have HC2 := Lib.hid (HCan0.out w2 HK2.out); clear hK2)
    go_wp2_with (first
      | (go_at_call 17; refine HC2.out.mono ?_; rintro e w3 ⟨rfl, hK3⟩; have HK3 := Lib.hid (HK2.out.trans hK3 (fun _ _ h => h)); have HL3 := Lib.hid (HLv.out w3 HK3.out); clear hK3)
      | (go_at_call 8; refine HL3.out.mono ?_; rintro e w9 ⟨rfl, hK9⟩; have HK9 := Lib.hid (HK3.out.trans hK9 (fun _ _ h => h)); clear hK9))
    go_ret
    exact ⟨rfl, HK9.out.below (Nat.le_refl _) (fun _ _ h => h)⟩
  · have dc : (c != 0) = true := by simp [hc]
    clear HCan hc
    go_upto_region 4 with (go_at_call 16; refine HCk1.out.mono ?_; rintro e w2 ⟨rfl, hK2⟩; have HK2 := Lib.hid (HK1.out.trans hK2 (fun _ _ h => h)); have HL3 := Lib.hid (HLv.out w2 HK2.out); clear hK2)
    go_wp2_with (go_at_call 8; refine HL3.out.mono ?_; rintro e w9 ⟨rfl, hK9⟩; have HK9 := Lib.hid (HK2.out.trans hK9 (fun _ _ h => h)); clear hK9)
    go_ret
    exact ⟨rfl, HK9.out.below (Nat.le_refl _) (fun _ _ h => h)⟩

end Go.Proofs.YthconjhldjaldaaGreatDoor

/-
  The package-level variables that the rows list: a world that holds them, and the table of powers of ten out of a row's list.
-/
namespace Go.Proofs.YthconjhldjaldaaGreatDoor
open Go.RowKit

noncomputable def low : Nat := (World.holding Tryz.prog default ⟨#[], #[], []⟩).heap.size

def putCells (g : Nat) (cs : Array Value) (w : World) : World :=
  { w with heap := w.heap.modify g fun
      | .cells _ t frozen => .cells cs t frozen
      | o => o }

def tab32 : Array Value := #[0, 1, 28, 2, 29, 14, 24, 3, 30, 22, 20, 15, 25, 17, 4, 8, 31, 27, 13, 23, 21, 19, 16, 7, 26, 12, 18, 6, 11, 5, 10, 9].map (Value.int .u8)
def tab64 : Array Value := #[0, 1, 56, 2, 57, 49, 28, 3, 61, 58, 42, 50, 38, 29, 17, 4, 62, 47, 59, 36, 45, 43, 51, 22, 53, 39, 33, 30, 24, 18, 12, 5, 63, 55, 48, 27, 60, 41, 37, 16, 46, 35, 44, 21, 52, 32, 23, 11, 54, 26, 40, 15, 34, 20, 31, 10, 25, 14, 19, 9, 13, 8, 7, 6].map (Value.int .u8)
def tabPow : Array Value := (Lib.pow10Tab.map (Value.int .u64)).toArray

theorem gPowType : (Tryz.prog.globals[1]?).map (·.type) = some 147 := by kernel_rfl
theorem cells64 : Tryz.prog.cellsOf 128 = 1 := by kernel_rfl
theorem cellsPow : Tryz.prog.cellsOf 147 = 20 := by kernel_rfl

theorem tab_of_laid {W : World} {x y : String × DataW Unit} {r : List (String × DataW Unit)}
    (h : laidMet Tryz.prog (x :: y :: ("internal/strconv.uint64pow10", Rows.laid_internal_strconv_uint64pow10) :: r) W) : Tab W :=
  Lib.tabIs_of_head (zs := Lib.pow10Tab) gPow gPowType Tryz.underlying147 Tryz.underlying128 cells64 cellsPow (laidMet.tail (laidMet.tail h))

end Go.Proofs.YthconjhldjaldaaGreatDoor

/-
  A world that holds the three tables that the rows list.
-/
namespace Go.Proofs.YthconjhldjaldaaGreatDoor
open Go.RowKit

noncomputable def laidWorld3 (os : Os) : World :=
  putCells 3 tab64 (putCells 2 tab32 (putCells 1 tabPow
      (World.holding Tryz.prog os ⟨#[], #[], []⟩)))

end Go.Proofs.YthconjhldjaldaaGreatDoor
