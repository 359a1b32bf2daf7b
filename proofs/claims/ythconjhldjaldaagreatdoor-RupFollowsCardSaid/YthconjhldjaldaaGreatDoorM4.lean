/-
  lit.Sorted, lit.Has.
-/
import Derived.Test.YthconjhldjaldaaGreatDoorM2
import Derived.Test.YthconjhldjaldaaGreatDoorM3
import Derived.Test.YthconjhldjaldaaGreatDoorM1
import Derived.BigQuiet
set_option linter.unusedVariables false
set_option linter.unusedSimpArgs false
namespace Go.Proofs.YthconjhldjaldaaGreatDoor
open Go.RowKit

theorem compact_rise (d : Array Int) (hs : ∀ i j, i ≤ j → j < d.size → d[i]! ≤ d[j]!) : ∀ m, m ≤ d.size → Rising (Lib.compactUpTo d m) ∧ ∀ x, x ∈ Lib.compactUpTo d m ↔ ∃ j, j < m ∧ d[j]! = x
  | 0, _ => ⟨List.Pairwise.nil, fun x => ⟨fun h => (by simp [Lib.compactUpTo] at h), fun ⟨j, h, _⟩ => (by omega)⟩⟩
  | m + 1, h => by
    obtain ⟨h1, h2⟩ := compact_rise d hs m (by omega)
    rw [Lib.compactUpTo_succ]
    cases hk : Lib.keeps d m with
    | true =>
      rw [if_pos rfl]
      refine ⟨?_, fun x => ?_⟩
      · unfold Rising at *
        rw [List.pairwise_append]
        refine ⟨h1, by simp, fun a ha b hb => ?_⟩
        simp at hb
        obtain ⟨j, hj, rfl⟩ := (h2 a).1 ha
        subst hb
        have hm0 : m ≠ 0 := by omega
        have hne : d[m]! ≠ d[m - 1]! := by
          unfold Lib.keeps at hk
          simpa [hm0] using hk
        have a1 := hs j (m - 1) (by omega) (by omega)
        have a2 := hs (m - 1) m (by omega) (by omega)
        omega
      · rw [List.mem_append, h2]
        constructor
        · rintro (⟨j, hj, e⟩ | h)
          · exact ⟨j, by omega, e⟩
          · simp at h; exact ⟨m, by omega, h.symm⟩
        · rintro ⟨j, hj, e⟩
          by_cases q : j = m
          · right; subst q; simp [e]
          · left; exact ⟨j, by omega, e⟩
    | false =>
      rw [if_neg (by simp), List.append_nil]
      refine ⟨h1, fun x => ?_⟩
      rw [h2]
      constructor
      · rintro ⟨j, hj, e⟩; exact ⟨j, by omega, e⟩
      · rintro ⟨j, hj, e⟩
        by_cases q : j = m
        · subst q
          unfold Lib.keeps at hk
          simp at hk
          exact ⟨j - 1, by omega, by rw [← e, hk.2]⟩
        · exact ⟨j, by omega, e⟩

theorem compact_sorted (l : List Int) : Lib.compact (l.mergeSort fun x y => decide (x ≤ y)) = srtD l := by
  have hp : (l.mergeSort fun x y => decide (x ≤ y)).Pairwise (fun x y => decide (x ≤ y) = true) := List.pairwise_mergeSort (by simp; omega) (by simp; omega) l
  have hmem : ∀ x, x ∈ (l.mergeSort fun x y => decide (x ≤ y)) ↔ x ∈ l := fun x => (List.mergeSort_perm l _).mem_iff
  generalize (l.mergeSort fun x y => decide (x ≤ y)) = s at hp hmem
  have hc := compact_rise s.toArray (fun i j hij hj => by
    have hj' : j < s.length := by simpa using hj
    by_cases e : i = j
    · subst e; exact Int.le_refl _
    · have := List.pairwise_iff_getElem.1 hp i j (by omega) hj' (by omega)
      rw [getElem!_pos s.toArray i (by simpa using (show i < s.length by omega)), getElem!_pos s.toArray j hj]
      simpa using this) s.length (by simp)
  refine rising_uniq hc.1 (srtD_rising l) fun x => ?_
  show x ∈ Lib.compactUpTo s.toArray s.length ↔ _
  rw [hc.2, srtD_mem, ← hmem]
  constructor
  · rintro ⟨j, hj, rfl⟩
    rw [getElem!_pos s.toArray j (by simpa using hj)]
    simp
  · intro hx
    obtain ⟨j, hj, e⟩ := List.mem_iff_getElem.1 hx
    exact ⟨j, hj, by rw [getElem!_pos s.toArray j (by simpa using hj)]; simpa using e⟩

/-- a slice of ints of the call's own, to be read -/
def RdInts (w : World) (base : Nat) (v : Value) (l : List Int) : Prop := ∃ a cap, v = .slice a l.length cap ∧ SlOK a l.length cap ∧ RowAt w a (iv l) ∧ ∀ p, a = some p → base ≤ p.block ∧ p.block < w.heap.size
theorem RdInts.kp {w w' : World} {base : Nat} {v : Value} {l : List Int} (h : RdInts w base v l) (k : Kp (fun _ => False) w w') : RdInts w' base v l := by
  obtain ⟨a, cap, e, h1, h2, h3⟩ := h
  exact ⟨a, cap, e, h1, h2.kp k (fun _ _ h => h), fun p hp => ⟨(h3 p hp).1, Nat.lt_of_lt_of_le (h3 p hp).2 k.size⟩⟩

set_option maxRecDepth 100000 in
set_option maxHeartbeats 2000000 in
theorem lit_Sorted (a : Option Addr) (n c : Nat) (l : List Int) (w : World) (hr : RowAt w a (iv l)) (hl : l.length = n) (ho : SlOK a n c) (hn : n ≤ 1000000) :
    Calls Tryz.prog 45 #[.slice a n c] w fun e w' => ∃ v, e = .returned v ∧ RdInts w' w.heap.size v (srtD l) ∧ Kp (fun _ => False) w w' := by
  have HC := Lib.hid (clone_ints a n c l w hr hl ho hn)
  have HL := Lib.hid hl
  clear hr hl ho
  by_cases h0 : l = []
  · subst h0
    have HS := Lib.hid (fun p cap u => (Tryz.slices_Sort_int_none p cap u).mono (R' := fun e w' => e = .returned (.tuple #[]) ∧ u = w') fun e w' h => ⟨h.1, h.2.symm⟩)
    have HK := Lib.hid (fun p cap u => (Tryz.slices_Compact_int_empty p cap u).mono (R' := fun e w' => e = .returned (.slice p 0 cap) ∧ u = w') fun e w' h => ⟨h.1, h.2.symm⟩)
    go_enter Tryz.func45, Tryz.ntmps45
    go_wp2_with (first
      | (go_at_call 19; refine HC.out.mono ?_; rintro e w1 ⟨v, rfl, hO, hK⟩; obtain ⟨ga, gc, eg, l1, l2, l3, -⟩ := hO.form; have HN := Lib.hid (And.intro l2 (And.intro (own_nilc (eg ▸ hO)) l3)); simp at eg; subst eg; have HK1 := Lib.hid hK; clear hO hK l1 l2 l3)
      | (go_at_call 69; refine (HS.out _ _ _).mono ?_; rintro e w2 ⟨rfl, rfl⟩)
      | (go_at_call 70; refine (HK.out _ _ _).mono ?_; rintro e w2 ⟨rfl, rfl⟩))
    go_ret
    refine ⟨_, rfl, ⟨ga, gc, rfl, ⟨Nat.zero_le _, HN.out.1, HN.out.2.1⟩, RowAt.nil _ _, fun p hp => ?_⟩, HK1.out⟩
    obtain ⟨q, rfl, q1, q2⟩ := HN.out.2.2 p hp
    exact ⟨q1, q2⟩
  · have hpos : 0 < n := by rw [← HL.out]; exact List.length_pos_iff.2 h0
    have HSo := Lib.hid (fun (u : World) (g cap : Nat) (hO : Own u w.heap.size 3 (.slice (some ⟨g, 0, none⟩) n cap) (iv l)) =>
      show Calls Tryz.prog 69 #[.slice (some ⟨g, 0, none⟩) n cap] u fun e w' => e = .returned (.tuple #[]) ∧ Own w' w.heap.size 3 (.slice (some ⟨g, 0, none⟩) n cap) (iv (l.mergeSort fun x y => decide (x ≤ y))) ∧ Kp (· = g) u w' from by
        have hO' : Own u w.heap.size 3 (.slice (some ⟨g, 0, none⟩) n cap) (l.toArray.toList.map (Value.int .i64)) := by simpa [iv] using hO
        have h := Tryz.slices_Sort_int g 0 cap l u (own_holds hO') (hO.lt g rfl).2 (by rw [HL.out]; omega)
        rw [HL.out] at h
        refine h.mono ?_
        rintro e w' ⟨rfl, q, os, rfl⟩
        have := own_sorted (d' := (l.mergeSort fun x y => decide (x ≤ y)).toArray) (m := q) (os := os) hO' (by simp)
        exact ⟨rfl, by simpa [iv] using this.1, this.2⟩)
    have HCo := Lib.hid (fun (u : World) (g cap : Nat) (hO : Own u w.heap.size 3 (.slice (some ⟨g, 0, none⟩) n cap) (iv (l.mergeSort fun x y => decide (x ≤ y)))) =>
      show Calls Tryz.prog 70 #[.slice (some ⟨g, 0, none⟩) n cap] u fun e w' => e = .returned (.slice (some ⟨g, 0, none⟩) (srtD l).length cap) ∧ RowAt w' (some ⟨g, 0, none⟩) (iv (srtD l)) ∧ Kp (· = g) u w' from by
        have hsl : (l.mergeSort fun x y => decide (x ≤ y)).length = n := by rw [List.length_mergeSort, HL.out]
        have hO' : Own u w.heap.size 3 (.slice (some ⟨g, 0, none⟩) n cap) ((l.mergeSort fun x y => decide (x ≤ y)).toArray.toList.map (Value.int .i64)) := by simpa [iv] using hO
        have hcl := Lib.compact_length_le (l.mergeSort fun x y => decide (x ≤ y))
        obtain ⟨_, _, e2, hc1, -⟩ := hO.form
        simp only [Value.slice.injEq] at e2
        have h := Tryz.slices_Compact_int g 0 cap (l.mergeSort fun x y => decide (x ≤ y)) u (own_holds hO') (by rw [hsl]; omega) (by rw [iv_length] at hc1; rw [e2.2.2]; exact hc1)
        rw [hsl, compact_sorted] at h
        rw [hsl, compact_sorted] at hcl
        refine h.mono ?_
        rintro e w' ⟨rfl, q, rfl⟩
        have := own_sorted (d' := (srtD l ++ List.replicate (n - (srtD l).length) 0).toArray) (m := q) (os := #[]) hO' (by simp [hsl, List.length_mergeSort] at *; omega)
        rw [Sort.grow_empty] at this
        refine ⟨rfl, ?_, this.2⟩
        obtain ⟨a', c', e3, -, -, -, hrow⟩ := this.1.form
        simp only [Value.slice.injEq] at e3
        rw [← e3.1] at hrow
        have h2 := hrow.take (srtD l).length
        simp only [iv, List.map_append, List.map_toArray] at h2 ⊢
        simpa using h2)
    clear h0
    go_enter Tryz.func45, Tryz.ntmps45
    go_wp2_with (first
      | (go_at_call 19
         refine HC.out.mono ?_
         rintro e w1 ⟨v, rfl, hO, hK⟩
         obtain ⟨g, gc, eg, hg1, hg2⟩ := hO.leads (by rw [List.length_map, HL.out]; exact hpos)
         rw [List.length_map, HL.out] at eg
         subst eg
         have HOs := Lib.hid (HSo.out w1 g gc hO)
         have HK1 := Lib.hid hK
         have HG := Lib.hid hg1
         obtain ⟨_, _, e5, hc5, hm5, -⟩ := hO.form
         simp only [Value.slice.injEq] at e5
         have HCp := Lib.hid (show n ≤ gc ∧ gc ≤ maxLen from by rw [List.length_map, HL.out] at hc5; rw [e5.2.2]; exact ⟨hc5, hm5⟩)
         have HGl := Lib.hid hg2
         clear hO hK hg1 hg2 e5 hc5 hm5)
      | (go_at_call 69; refine HOs.out.mono ?_; rintro e w2 ⟨rfl, hO2, hK2⟩; have HOc := Lib.hid (HCo.out w2 g gc hO2); have HK2 := Lib.hid hK2; clear hO2 hK2)
      | (go_at_call 70; refine HOc.out.mono ?_; rintro e w3 ⟨rfl, hR3, hK3⟩; have HR3 := Lib.hid hR3; have HK3 := Lib.hid hK3; clear hR3 hK3))
    go_ret
    have hg := HG.out
    have hsl : (srtD l).length ≤ n := by
      have := Lib.compact_length_le (l.mergeSort fun x y => decide (x ≤ y))
      rw [compact_sorted, List.length_mergeSort, HL.out] at this
      exact this
    refine ⟨_, rfl, ⟨_, gc, rfl, ⟨Nat.le_trans hsl HCp.out.1, HCp.out.2, fun h => by cases h⟩, HR3.out, fun p hp => ?_⟩, ?_⟩
    · simp only [Option.some.injEq] at hp
      subst hp
      exact ⟨hg, Nat.lt_of_lt_of_le HGl.out (Nat.le_trans HK2.out.size HK3.out.size)⟩
    · exact (HK1.out.trans HK2.out (fun j hj e => by omega)).trans HK3.out (fun j hj e => by omega)

end Go.Proofs.YthconjhldjaldaaGreatDoor

/-
  lit.Has, lit.Tied.
-/
namespace Go.Proofs.YthconjhldjaldaaGreatDoor
open Go.RowKit

theorem lit_Has (a : Option Addr) (n c : Nat) (l : List Int) (x : Int) (w : World) (hr : RowAt w a (iv l)) (hl : l.length = n) (hn : n ≤ 1000000) :
    Calls Tryz.prog 46 #[.slice a n c, .int .i64 x] w fun e w' => e = .returned (.bool (l.contains x)) ∧ w = w' := by
  have HC : Hid (Calls Tryz.prog 71 #[.slice a n c, .int .i64 x] w fun e w' => e = .returned (.bool (l.contains x)) ∧ w = w') := Lib.hid (by
    by_cases h0 : n = 0
    · subst h0
      have : l = [] := List.eq_nil_of_length_eq_zero hl
      subst this
      exact (Tryz.slices_Contains_int_empty a c x w).mono fun e w' h => ⟨h.1, h.2.symm⟩
    · obtain ⟨b, off, rfl, -⟩ := hr 0 _ (iv_at (by omega))
      refine (Tryz.slices_Contains_int b off n c l x w (by omega) (by omega) (fun j hj => ?_)).mono fun e w' h => ⟨by rw [h.1, ← hl, List.take_length], h.2.symm⟩
      obtain ⟨b2, off2, e2, hc⟩ := hr j _ (iv_at hj)
      simp only [Option.some.injEq, Addr.mk.injEq, and_true] at e2
      obtain ⟨rfl, rfl⟩ := e2
      rw [hc]
      unfold gi
      rfl)
  clear hr hl
  obtain ⟨r, hr⟩ : ∃ r, l.contains x = r := ⟨_, rfl⟩
  rw [hr] at HC ⊢
  clear hr
  go_enter Tryz.func46, Tryz.ntmps46
  go_wp2_with (go_at_call 71; refine HC.out.mono ?_; rintro e w1 ⟨rfl, rfl⟩)
  go_ret
  exact ⟨rfl, rfl⟩

/-- lit.Neg of whatever number -/
theorem lit_Neg_any (l : Int) (w : World) : Calls Tryz.prog 72 #[.int .i64 l] w fun e w' => e = .returned (.bool (gl l && decide (l % 2 = 1))) ∧ w = w' := by
  cases hg : gl l with
  | true =>
    refine (lit_Neg l hg w).mono ?_
    rintro e w' ⟨rfl, h⟩
    exact ⟨by rw [show (l % 2 == 1) = (true && decide (l % 2 = 1)) by rw [Bool.true_and, Bool.eq_iff_iff]; simp], h⟩
  | false =>
    have HG := Lib.hid ((lit_Good l w).mono (R' := fun e w' => e = .returned (.bool false) ∧ w = w') (by rintro e w' ⟨rfl, h⟩; rw [hg]; exact ⟨rfl, h⟩))
    clear hg
    go_enter Tryz.func72, Tryz.ntmps72
    go_wp2_with (go_at_call 50; refine HG.out.mono ?_; rintro e w1 ⟨rfl, rfl⟩)
    go_ret
    exact ⟨rfl, rfl⟩

/-- neighbours among rising numbers -/
theorem tied_near {s : List Int} (hs : Rising s) : tiedB s = true ↔ ∃ i, 1 ≤ i ∧ i < s.length ∧ gl (gi s i) = true ∧ gi s i % 2 = 1 ∧ gi s (i - 1) = gi s i - 1 := by
  unfold tiedB
  rw [List.any_eq_true]
  have mono : ∀ i j, i < j → j < s.length → gi s i < gi s j := fun i j hij hj => by
    unfold gi
    rw [List.getElem?_eq_getElem hj, List.getElem?_eq_getElem (by omega)]
    exact List.pairwise_iff_getElem.1 hs i j (by omega) hj hij
  constructor
  · rintro ⟨x, hx, h⟩
    simp at h
    obtain ⟨i, hi, rfl⟩ := mem_gi hx
    obtain ⟨j, hj, e⟩ := mem_gi h.2
    have hji : j < i := by
      rcases Nat.lt_trichotomy j i with q | q | q
      · exact q
      · subst q; omega
      · have := mono i j q hj; omega
    refine ⟨i, by omega, hi, h.1.1, h.1.2, ?_⟩
    by_cases q : j = i - 1
    · rw [← q, e]
    · have a1 := mono j (i - 1) (by omega) (by omega)
      have a2 := mono (i - 1) i (by omega) hi
      omega
  · rintro ⟨i, h1, hi, h2, h3, h4⟩
    refine ⟨gi s i, gi_mem hi, ?_⟩
    simp
    exact ⟨⟨h2, h3⟩, by rw [← h4]; exact gi_mem (by omega)⟩

set_option maxRecDepth 100000 in
set_option maxHeartbeats 4000000 in
theorem lit_Tied (a : Option Addr) (n c : Nat) (l : List Int) (w : World) (hr : RowAt w a (iv l)) (hl : l.length = n) (ho : SlOK a n c) (hn : n ≤ 1000000) (hb : ∀ x ∈ l, -9223372036854775808 ≤ x ∧ x ≤ 9223372036854775807) :
    Calls Tryz.prog 47 #[.slice a n c] w fun e w' => e = .returned (.bool (tiedB (srtD l))) ∧ Kp (fun _ => False) w w' := by
  have HS := Lib.hid (lit_Sorted a n c l w hr hl ho hn)
  have HT := Lib.hid (tied_near (srtD_rising l))
  have HNg := Lib.hid (fun x u => lit_Neg_any x u)
  have HB := Lib.hid (show ∀ x ∈ srtD l, -9223372036854775808 ≤ x ∧ x ≤ 9223372036854775807 from fun x hx => hb x (srtD_mem.1 hx))
  have HLs := Lib.hid (show (srtD l).length ≤ 1000000 by
    have := Lib.compact_length_le (l.mergeSort fun x y => decide (x ≤ y))
    rw [compact_sorted, List.length_mergeSort] at this
    omega)
  obtain ⟨s, hs⟩ : ∃ s, srtD l = s := ⟨_, rfl⟩
  rw [hs] at HS HT HB HLs ⊢
  clear hr hl ho hb hs
  obtain ⟨m, hm⟩ : ∃ m, s.length = m := ⟨_, rfl⟩
  have HM := Lib.hid hm
  clear hm
  go_enter Tryz.func47, Tryz.ntmps47
  go_wp2_with (go_at_call 45; refine HS.out.mono ?_; rintro e w1 ⟨v, rfl, ⟨sa, sc, rfl, -, hr, -⟩, hK⟩; have HR := Lib.hid hr; have HK := Lib.hid hK; clear hr hK; rw [HM.out])
  go_loopw [4] (fun v4 wr => ∃ k : Nat, 1 ≤ k ∧ (k ≤ m ∨ k = 1) ∧ v4 = .int .i64 k ∧ (∀ i, 1 ≤ i → i < k → ¬ (gl (gi s i) = true ∧ gi s i % 2 = 1 ∧ gi s (i - 1) = gi s i - 1)) ∧ ∃ q, wr = w1.drewN q) (fun v4 _ => m + 1 - (intOf v4).toNat)
  case atStart => exact ⟨1, Nat.le_refl _, .inr rfl, rfl, fun i h1 h2 => by omega, 0, rfl⟩
  case round =>
    obtain ⟨k, hk1, hk2, rfl, hno, q, rfl⟩ := hrel
    have HNo := Lib.hid hno
    clear hno
    by_cases hlt : k < m
    · have hkl : k < s.length := by rw [HM.out]; exact hlt
      obtain ⟨b, off, rfl, hcell⟩ := HR.out k _ (iv_at hkl)
      obtain ⟨b2, off2, e2, hcell2⟩ := HR.out (k - 1) _ (iv_at (by omega))
      simp only [Option.some.injEq, Addr.mk.injEq, and_true] at e2
      obtain ⟨rfl, rfl⟩ := e2
      have HNk := Lib.hid (fun u => HNg.out (gi s k) u)
      obtain ⟨k0, hk0⟩ : ∃ k0, k - 1 = k0 := ⟨_, rfl⟩
      have HK0 := Lib.hid hk0
      rw [hk0] at hcell2
      obtain ⟨x, hx⟩ : ∃ x, gi s k = x := ⟨_, rfl⟩
      obtain ⟨y, hy⟩ : ∃ y, gi s k0 = y := ⟨_, rfl⟩
      have HX := Lib.hid hx
      have HY := Lib.hid hy
      rw [hx] at hcell
      rw [hy] at hcell2
      simp only [hx] at HNk
      obtain ⟨nb, hnb⟩ : ∃ nb, (gl x && decide (x % 2 = 1)) = nb := ⟨_, rfl⟩
      simp only [hnb] at HNk
      have HNb := Lib.hid hnb
      have i0 : (0 : Int) ≤ (k : Int) := by omega
      have i1 : (k : Int) < (m : Int) := by omega
      have j0 : (0 : Int) ≤ (k0 : Int) := by omega
      have j1 : (k0 : Int) < (m : Int) := by omega
      have jw : IntKind.i64.wrap ((k : Int) - 1) = (k0 : Int) := by have := HLs.out; rw [HM.out] at this; rw [IntKind.wrap_i64]; omega
      have kb : (k : Int) ≤ 1000000 := by have := HLs.out; rw [HM.out] at this; omega
      cases nb with
      | false =>
        clear hkl hx hy hnb hk0
        go_upto_region 5 with fail
        go_quiet ((go_at_call 72; exact (HNk.out _).mono (fun e u' ⟨h1, h2⟩ => ⟨h1, _, h2.symm⟩)))
        go_wp2_with fail
        go_roundw
        case rel =>
          refine ⟨k + 1, by omega, .inl hlt, by go_num, fun i h1 h2 => ?_, ?_⟩
          · by_cases e : i = k
            · rw [e, HX.out]
              rintro ⟨g1, g2, -⟩
              have := HNb.out
              rw [g1, decide_eq_true g2] at this
              cases this
            · exact HNo.out i h1 (by omega)
          · try simp only [drewN_twice]
            exact ⟨_, rfl⟩
        case measure => simp [intOf]; omega
      | true =>
        have hg : 0 ≤ x ∧ x ≤ 33554433 ∧ x % 2 = 1 := by
          unfold gl at hnb
          simp at hnb
          omega
        have xw : IntKind.i64.wrap (x - 1) = x - 1 := by rw [IntKind.wrap_i64]; omega
        by_cases hyx : y = x - 1
        · have b1 : (y == x - 1) = true := by simp [hyx]
          have HTr := Lib.hid (show tiedB s = true from HT.out.2 ⟨k, hk1, hkl, by rw [HX.out]; unfold gl; simp; omega, by rw [HX.out]; exact hg.2.2, by rw [HK0.out, HX.out, HY.out]; exact hyx⟩)
          clear hkl hx hy hnb hk0 hyx hg
          go_upto_region 5 with fail
          go_quiet ((go_at_call 72; exact (HNk.out _).mono (fun e u' ⟨h1, h2⟩ => ⟨h1, _, h2.symm⟩)))
          go_wp2_with fail
          go_ret
          rw [HTr.out]
          exact ⟨rfl, by first | exact HK.out.drewN _ | exact (HK.out.drewN _).drewN _⟩
        · have b1 : (y == x - 1) = false := by simp [hyx]
          have HYX := Lib.hid hyx
          clear hkl hx hy hnb hk0 hyx hg
          go_upto_region 5 with fail
          go_quiet ((go_at_call 72; exact (HNk.out _).mono (fun e u' ⟨h1, h2⟩ => ⟨h1, _, h2.symm⟩)))
          go_wp2_with fail
          go_roundw
          case rel =>
            refine ⟨k + 1, by omega, .inl hlt, by go_num, fun i h1 h2 => ?_, ?_⟩
            · by_cases e : i = k
              · rw [e, HX.out, HK0.out, HY.out]
                rintro ⟨-, -, g3⟩
                exact HYX.out g3
              · exact HNo.out i h1 (by omega)
            · try simp only [drewN_twice]
              exact ⟨_, rfl⟩
          case measure => simp [intOf]; omega
    · have HF := Lib.hid (show tiedB s = false from by
        cases e : tiedB s with
        | false => rfl
        | true =>
          obtain ⟨i, h1, h2, h3⟩ := HT.out.1 e
          exact absurd h3 (HNo.out i h1 (by rw [HM.out] at h2; omega)))
      go_wp2_with fail
      go_ret
      rw [HF.out]
      exact ⟨rfl, HK.out.drewN _⟩

end Go.Proofs.YthconjhldjaldaaGreatDoor

/-
  clause.Norm.
-/
namespace Go.Proofs.YthconjhldjaldaaGreatDoor
open Go.RowKit

/-- what Norm leaves -/
def NormP (w : World) (l : List Int) (e : Ending) (w' : World) : Prop :=
  ((normC l = none ∧ e = .returned (.tuple #[.slice none 0 0, .bool false])) ∨ ∃ c v, normC l = some c ∧ e = .returned (.tuple #[v, .bool true]) ∧ RdInts w' w.heap.size v c) ∧ Kp (fun _ => False) w w'

theorem norm_not_good {l : List Int} {w : World} : TellsP 49 #[] (fun x => !gl x) l w := by
  intro x _ u _
  have HG := Lib.hid (lit_Good x u)
  show Calls Tryz.prog 49 #[.int .i64 x] u fun e w' => e = .returned (.bool (!gl x)) ∧ Kp (fun _ => False) u w'
  obtain ⟨r, hr⟩ : ∃ r, gl x = r := ⟨_, rfl⟩
  rw [hr] at HG ⊢
  clear hr
  go_enter Tryz.func49, Tryz.ntmps49
  go_wp2_with (go_at_call 50; refine HG.out.mono ?_; rintro e w' ⟨rfl, rfl⟩)
  go_ret
  exact ⟨rfl, Kp.refl _ _⟩

theorem RowAt.tail1 {w : World} {b off : Nat} {x : Value} {r : List Value} (h : RowAt w (some ⟨b, off, none⟩) (x :: r)) : RowAt w (some ⟨b, off + 1, none⟩) r := by
  intro j u hu
  obtain ⟨b2, off2, e, hc⟩ := h (j + 1) u (by simpa using hu)
  simp only [Option.some.injEq, Addr.mk.injEq, and_true] at e
  obtain ⟨rfl, rfl⟩ := e
  exact ⟨b, off + 1, rfl, by rw [show off + 1 + j = off + (j + 1) by omega]; exact hc⟩

set_option maxRecDepth 100000 in
set_option maxHeartbeats 4000000 in
theorem clause_Norm (a : Option Addr) (n c : Nat) (l : List Int) (w : World) (hr : RowAt w a (iv l)) (hl : l.length = n) (ho : SlOK a n c) (hn : n ≤ 1000000) (hb : ∀ x ∈ l, -9223372036854775808 ≤ x ∧ x ≤ 9223372036854775807) :
    Calls Tryz.prog 26 #[.slice a n c] w (NormP w l) := by
  have HS := Lib.hid (lit_Sorted a n c l w hr hl ho hn)
  have HB := Lib.hid (show ∀ x ∈ srtD l, -9223372036854775808 ≤ x ∧ x ≤ 9223372036854775807 from fun x hx => hb x (srtD_mem.1 hx))
  have HRi := Lib.hid (srtD_rising l)
  have HLs := Lib.hid (show (srtD l).length ≤ 1000000 by
    have := Lib.compact_length_le (l.mergeSort fun x y => decide (x ≤ y))
    rw [compact_sorted, List.length_mergeSort] at this
    omega)
  have HNc := Lib.hid (show normC l = if (srtD l).contains 1 || tiedB (srtD l) || (srtD l).any (fun x => !gl x) then none else some (if (srtD l).head? = some 0 then (srtD l).tail else srtD l) from rfl)
  obtain ⟨s, hs⟩ : ∃ s, srtD l = s := ⟨_, rfl⟩
  rw [hs] at HS HB HRi HLs HNc
  clear hr hl ho hb hs
  obtain ⟨m, hm⟩ : ∃ m, s.length = m := ⟨_, rfl⟩
  have HM := Lib.hid hm
  have hm6 : m ≤ 1000000 := by rw [← hm]; exact HLs.out
  clear hm
  have HHas := Lib.hid (fun (u : World) (sa : Option Addr) (sc : Nat) (hr : RowAt u sa (iv s)) => lit_Has sa m sc s 1 u hr HM.out hm6)
  have HTd := Lib.hid (fun (u : World) (sa : Option Addr) (sc : Nat) (hr : RowAt u sa (iv s)) (ho : SlOK sa m sc) => show Calls Tryz.prog 47 #[.slice sa m sc] u fun e w' => e = .returned (.bool (tiedB s)) ∧ Kp (fun _ => False) u w' from by
    have := lit_Tied sa m sc s u hr HM.out ho hm6 HB.out
    rw [srtD_id HRi.out] at this
    exact this)
  have HCf := Lib.hid (fun (u : World) (sa : Option Addr) (sc : Nat) (hr : RowAt u sa (iv s)) => ints_ContainsFunc 49 #[] (fun x => !gl x) (enters_of Tryz.func49 (by kernel_rfl) rfl) sa m sc s u hr HM.out hm6 norm_not_good)
  obtain ⟨b1, hb1⟩ : ∃ b, s.contains 1 = b := ⟨_, rfl⟩
  obtain ⟨b2, hb2⟩ : ∃ b, tiedB s = b := ⟨_, rfl⟩
  obtain ⟨b3, hb3⟩ : ∃ b, s.any (fun x => !gl x) = b := ⟨_, rfl⟩
  rw [hb1, hb2, hb3] at HNc
  simp only [hb1] at HHas
  simp only [hb2] at HTd
  simp only [hb3] at HCf
  clear hb1 hb2 hb3
  have no : (b1 || b2 || b3) = true → normC l = none := fun h => by rw [HNc.out, if_pos h]
  have HNo := Lib.hid no
  clear no
  cases b1 with
  | true =>
    go_enter Tryz.func26, Tryz.ntmps26
    go_wp2_with (first
      | (go_at_call 45; refine HS.out.mono ?_; rintro e w1 ⟨v, rfl, ⟨sa, sc, rfl, -, hr, -⟩, hK⟩; rw [HM.out]; have HHas1 := Lib.hid (HHas.out w1 sa sc hr); have HK := Lib.hid hK; clear hr hK)
      | (go_at_call 46; refine HHas1.out.mono ?_; rintro e w2 ⟨rfl, rfl⟩))
    exact bodyPost_ret (v := .tuple #[.slice none 0 0, .bool false]) (by simp [results, Tryz.results26, go_sem]) rfl ⟨.inl ⟨HNo.out rfl, rfl⟩, HK.out⟩
  | false =>
    cases b2 with
    | true =>
      go_enter Tryz.func26, Tryz.ntmps26
      go_wp2_with (first
        | (go_at_call 45; refine HS.out.mono ?_; rintro e w1 ⟨v, rfl, ⟨sa, sc, rfl, ho, hr, -⟩, hK⟩; rw [HM.out] at ho ⊢; have HHas1 := Lib.hid (HHas.out w1 sa sc hr); have HTd1 := Lib.hid (HTd.out w1 sa sc hr ho); have HK := Lib.hid hK; clear hr hK ho)
        | (go_at_call 46; refine HHas1.out.mono ?_; rintro e w2 ⟨rfl, rfl⟩)
        | (go_at_call 47; refine HTd1.out.mono ?_; rintro e w2 ⟨rfl, hK2⟩; have HK2 := Lib.hid hK2; clear hK2))
      exact bodyPost_ret (v := .tuple #[.slice none 0 0, .bool false]) (by simp [results, Tryz.results26, go_sem]) rfl ⟨.inl ⟨HNo.out rfl, rfl⟩, HK.out.trans HK2.out (fun _ _ h => h)⟩
    | false =>
      cases b3 with
      | true =>
        go_enter Tryz.func26, Tryz.ntmps26
        go_wp2_with (first
          | (go_at_call 45; refine HS.out.mono ?_; rintro e w1 ⟨v, rfl, ⟨sa, sc, rfl, ho, hr, -⟩, hK⟩; rw [HM.out] at ho ⊢; have HHas1 := Lib.hid (HHas.out w1 sa sc hr); have HTd1 := Lib.hid (HTd.out w1 sa sc hr ho); have HCf1 := Lib.hid (fun u (hu : Kp (fun _ => False) w1 u) => HCf.out u sa sc (hr.kp hu (fun _ _ h => h))); have HK := Lib.hid hK; clear hr hK ho)
          | (go_at_call 46; refine HHas1.out.mono ?_; rintro e w2 ⟨rfl, rfl⟩)
          | (go_at_call 47; refine HTd1.out.mono ?_; rintro e w2 ⟨rfl, hK2⟩; have HCf2 := Lib.hid (HCf1.out w2 hK2); have HK2 := Lib.hid hK2; clear hK2)
          | (go_at_call 48; refine HCf2.out.mono ?_; rintro e w3 ⟨rfl, hK3⟩; have HK3 := Lib.hid hK3; clear hK3))
        exact bodyPost_ret (v := .tuple #[.slice none 0 0, .bool false]) (by simp [results, Tryz.results26, go_sem]) rfl ⟨.inl ⟨HNo.out rfl, rfl⟩, (HK.out.trans HK2.out (fun _ _ h => h)).trans HK3.out (fun _ _ h => h)⟩
      | false =>
        have HYes := Lib.hid (show normC l = some (if s.head? = some 0 then s.tail else s) by rw [HNc.out]; rfl)
        clear HNo HNc
        go_enter Tryz.func26, Tryz.ntmps26
        go_upto_region 4 with (first
            | (go_at_call 45; refine HS.out.mono ?_; rintro e w1 ⟨v, rfl, ⟨sa, sc, rfl, ho, hr, hbl⟩, hK⟩; rw [HM.out] at ho ⊢; have HHas1 := Lib.hid (HHas.out w1 sa sc hr); have HTd1 := Lib.hid (HTd.out w1 sa sc hr ho); have HCf1 := Lib.hid (fun u (hu : Kp (fun _ => False) w1 u) => HCf.out u sa sc (hr.kp hu (fun _ _ h => h))); have HK := Lib.hid hK; have HR := Lib.hid hr; have HO := Lib.hid ho; have HBl := Lib.hid hbl; clear hr hK ho hbl)
            | (go_at_call 46; refine HHas1.out.mono ?_; rintro e w2 ⟨rfl, rfl⟩)
            | (go_at_call 47; refine HTd1.out.mono ?_; rintro e w2 ⟨rfl, hK2⟩; have HCf2 := Lib.hid (HCf1.out w2 hK2); have HK2 := Lib.hid hK2; clear hK2)
            | (go_at_call 48; refine HCf2.out.mono ?_; rintro e w3 ⟨rfl, hK3⟩; have HK3 := Lib.hid (HK2.out.trans hK3 (fun _ _ h => h)); clear hK3))
        have HRd := Lib.hid (show RdInts w3 w.heap.size (.slice sa m sc) s from by
          have : RdInts w1 w.heap.size (.slice sa m sc) s := ⟨sa, sc, by rw [HM.out], by rw [HM.out]; exact HO.out, HR.out, HBl.out⟩
          exact this.kp HK3.out)
        have HKK := Lib.hid (HK.out.trans HK3.out (fun _ _ h => h))
        cases s with
        | nil =>
          have hm0 : m = 0 := HM.out.symm
          subst hm0
          go_wp2_with fail
          exact bodyPost_ret (v := .tuple #[.slice sa 0 sc, .bool true]) (by simp [results, Tryz.results26, go_sem]) rfl ⟨.inr ⟨[], _, by rw [HYes.out]; rfl, rfl, HRd.out⟩, HKK.out⟩
        | cons x r =>
          have hmr : r.length + 1 = m := by have := HM.out; simpa using this
          have HMr := Lib.hid hmr
          have hm1 : 0 < m := by omega
          have hm2 : 1 ≤ m := hm1
          have hmi : (0 : Int) < (m : Int) := by omega
          obtain ⟨b, off, rfl, hcell⟩ := (HR.out.kp HK3.out (fun _ _ h => h)) 0 (.int .i64 x) rfl
          rw [Nat.add_zero] at hcell
          by_cases hx : x = 0
          · subst hx
            have HO1 := Lib.hid HO.out.le
            have hsc : m ≤ sc := HO.out.le
            have HYs := Lib.hid (show normC l = some r by rw [HYes.out]; rfl)
            have hbl := HRd.out
            have HBk := Lib.hid (show w.heap.size ≤ b ∧ b < w3.heap.size by
              obtain ⟨_, _, e9, _, _, h9⟩ := hbl
              simp only [Value.slice.injEq] at e9
              exact h9 _ e9.1.symm)
            have HRt := Lib.hid (show RowAt w3 (some ⟨b, off + 1, none⟩) (iv r) from RowAt.tail1 (x := .int .i64 0) (HR.out.kp HK3.out (fun _ _ h => h)))
            clear hbl HYes
            by_cases hs1 : sc = 1
            · have hm9 : m = 1 := by omega
              have hr9 : r = [] := List.eq_nil_of_length_eq_zero (by omega)
              subst hs1 hm9 hr9
              clear hmr
              go_wp2_with fail
              exact bodyPost_ret (v := .tuple #[.slice (some ⟨b, off, none⟩) 0 0, .bool true]) (by simp [results, Tryz.results26, go_sem]) rfl ⟨.inr ⟨[], _, HYs.out, rfl, some ⟨b, off, none⟩, 0, rfl, ⟨Nat.le_refl _, by simp [maxLen], fun _ => rfl⟩, RowAt.nil _ _, fun p hp => by simp only [Option.some.injEq] at hp; subst hp; exact HBk.out⟩, HKK.out⟩
            · have hmc := HO.out.most
              clear hmr
              go_wp2_with fail
              exact bodyPost_ret (v := .tuple #[.slice (some ⟨b, off + 1, none⟩) (m - 1) (sc - 1), .bool true]) (by simp [results, Tryz.results26, go_sem]) rfl ⟨.inr ⟨r, _, HYs.out, rfl, some ⟨b, off + 1, none⟩, sc - 1, by rw [← HMr.out]; rfl, ⟨by have := HMr.out; omega, by omega, fun h => by cases h⟩, HRt.out, fun p hp => by simp only [Option.some.injEq] at hp; subst hp; exact HBk.out⟩, HKK.out⟩
          · have hb0 : (x == 0) = false := by simp [hx]
            have HX := Lib.hid hx
            clear hx hmr
            go_wp2_with fail
            exact bodyPost_ret (v := .tuple #[.slice (some ⟨b, off, none⟩) m sc, .bool true]) (by simp [results, Tryz.results26, go_sem]) rfl ⟨.inr ⟨x :: r, _, by rw [HYes.out, if_neg (by simp; exact HX.out)], rfl, HRd.out⟩, HKK.out⟩

end Go.Proofs.YthconjhldjaldaaGreatDoor

/-
  deriv.Write.
-/
namespace Go.Proofs.YthconjhldjaldaaGreatDoor
open Go.RowKit

/-- a slice of ints that reads l -/
def IntsSl (w : World) (v : Value) (l : List Int) : Prop := ∃ a cap, v = .slice a l.length cap ∧ l.length ≤ cap ∧ cap ≤ maxLen ∧ (a = none → cap = 0) ∧ IntsAt w a l

theorem IntsSl.kp {w w' : World} {v : Value} {l : List Int} (h : IntsSl w v l) (k : Kp (fun _ => False) w w') : IntsSl w' v l := by
  obtain ⟨a, cap, e, h1, h2, h3, h4⟩ := h
  exact ⟨a, cap, e, h1, h2, h3, h4.kp k (fun _ _ h => h)⟩

/-- rows of lines that read L -/
def LnsAt (w : World) (a : Option Addr) (L : List (Bool × List Int)) : Prop :=
  ∃ rs : List (Bool × Value), RowAt w a (lrows rs).flatten ∧ rs.length = L.length ∧ ∀ (k : Nat) (r : Bool × Value) (x : Bool × List Int), rs[k]? = some r → L[k]? = some x → r.1 = x.1 ∧ IntsSl w r.2 x.2

theorem LnsAt.kp {w w' : World} {a : Option Addr} {L : List (Bool × List Int)} (h : LnsAt w a L) (k : Kp (fun _ => False) w w') : LnsAt w' a L := by
  obtain ⟨rs, h1, h2, h3⟩ := h
  exact ⟨rs, h1.kp k (fun _ _ h => h), h2, fun i r x hr hx => ⟨(h3 i r x hr hx).1, (h3 i r x hr hx).2.kp k⟩⟩

theorem lrows_len (rs : List (Bool × Value)) : ∀ r ∈ lrows rs, r.length = 2 := by
  intro r hr
  obtain ⟨x, _, rfl⟩ := List.mem_map.1 hr
  rfl

def li (L : List (Bool × List Int)) (k : Nat) : Bool × List Int := L[k]?.getD (false, [])
theorem li_at {L : List (Bool × List Int)} {k : Nat} (h : k < L.length) : L[k]? = some (li L k) := by unfold li; rw [List.getElem?_eq_getElem h]; rfl

/-- the cells of line k -/
theorem LnsAt.line {w : World} {a : Option Addr} {L : List (Bool × List Int)} (h : LnsAt w a L) {k : Nat} (hk : k < L.length) :
    ∃ b off v, a = some ⟨b, off, none⟩ ∧ w.cell? ⟨b, off + k * 2, none⟩ = some (.bool (li L k).1) ∧ w.cell? ⟨b, off + k * 2 + 1, none⟩ = some v ∧ IntsSl w v (li L k).2 := by
  obtain ⟨rs, h1, h2, h3⟩ := h
  have hk' : k < rs.length := by rw [h2]; exact hk
  have hr : rs[k]? = some rs[k] := List.getElem?_eq_getElem hk'
  have hl : (lrows rs)[k]? = some [.bool rs[k].1, rs[k].2] := by simp [lrows, hr]
  obtain ⟨b, off, rfl, c0⟩ := h1.cellAt (lrows_len rs) (j := k) (i := 0) hl rfl
  obtain ⟨b1, off1, e1, c1⟩ := h1.cellAt (lrows_len rs) (j := k) (i := 1) hl rfl
  simp only [Option.some.injEq, Addr.mk.injEq, and_true] at e1
  obtain ⟨rfl, rfl⟩ := e1
  obtain ⟨e, hi⟩ := h3 k _ _ hr (li_at hk)
  rw [e] at c0
  exact ⟨b, off, _, rfl, c0, c1, hi⟩

theorem Kp.cellAt {w w' : World} (k : Kp (fun _ => False) w w') {b o : Nat} {v : Value} (h : w.cell? ⟨b, o, none⟩ = some v) : w'.cell? ⟨b, o, none⟩ = some v :=
  (World.cell?_of_block (w := w) (w' := w') (a := ⟨b, o, none⟩) (k.block b (World.block_lt_of_cell? w _ h) (fun h => h))).trans h

end Go.Proofs.YthconjhldjaldaaGreatDoor

/-
  rup.Check.
-/
namespace Go.Proofs.YthconjhldjaldaaGreatDoor
open Go.RowKit

def okI (x : Int) : Prop := -9223372036854775808 ≤ x ∧ x ≤ 9223372036854775807

/-- where Check stands -/
structure CkS (w wr : World) (n m : Nat) (N : List (Int × Int)) (want : List Int) (L : List (Bool × List Int)) (p b : Nat) (i : Nat) (d : Bool) (v : Value) (q : Nat) (F : ByteArray → Int) (vs : List Value) (K : List (List Int)) : Prop where
  sh : ShAt wr w.heap.size p v b q F vs K
  kp : Kp (fun _ => False) w wr
  ok : KeptOK n m K
  ql : q ≤ i
  kl : K.length ≤ i
  so : rupG N want K d i (L.drop i) = rupCk N want L

set_option maxRecDepth 100000 in
set_option maxHeartbeats 8000000 in
theorem rup_Check (an : Option Addr) (n cn : Nat) (N : List (Int × Int)) (al : Option Addr) (ml cl : Nat) (l : List Int) (ax : Option Addr) (nx cx : Nat) (L : List (Bool × List Int)) (w : World)
    (hrn : RowAt w an (N.map pr2).flatten) (hnn : N.length = n) (hon : SlOK an n cn) (hn : n ≤ 100000) (hN : GoodN N) (hrl : RowAt w al (iv l)) (hll : l.length = ml) (hol : SlOK al ml cl) (hml : ml ≤ 40000) (hl : KnC n l)
    (hL : LnsAt w ax L) (hlx : L.length = nx) (hnx : nx ≤ 100000) (hcl : ∀ x ∈ L, x.2.length ≤ 40000) (hb : ∀ x ∈ L, ∀ y ∈ x.2, okI y) (ht : Tab w) :
    Calls Tryz.prog 16 #[.slice an n cn, .slice al ml cl, .slice ax nx cx] w fun e w' => e = .returned (.tuple #[.int .i64 (rupCk N l L).1, .int .i64 (rupCk N l L).2]) ∧ Kp (fun _ => False) w w' := by
  have HFol := Lib.hid (fun (u : World) (hu : Kp (fun _ => False) w u) (ak : Option Addr) (mk ck : Nat) (K : List (List Int)) (hc : Cls u ak mk K) (hmk : mk ≤ 100000) (hok : KeptOK n 40000 K) (ac : Option Addr) (mc cc : Nat) (c : List Int) (hrc : RowAt u ac (iv c)) (hlc : c.length = mc) (hmc : mc ≤ 40000) (hkc : KnC n c) =>
    rup_Follows an n cn N al ml cl l ak mk ck K ac mc cc c u (hrn.kp hu (fun _ _ h => h)) hnn hon (by omega) hN (hrl.kp hu (fun _ _ h => h)) hll hol (by omega) hl hc (by omega) hok.kn (fun c hc => by have := hok.le c hc; omega) hrc hlc (by omega) hkc)
  have HNn := Lib.hid hnn
  have HL := Lib.hid hL
  have HLx := Lib.hid hlx
  have HCl := Lib.hid hcl
  have HB := Lib.hid hb
  have HT := Lib.hid ht
  obtain ⟨W1, hW1⟩ : ∃ W1, (w.alloc (.map #[] 0)).alloc (.cells #[.slice none 0 0, .map (some w.heap.size)] 56) = W1 := ⟨_, rfl⟩
  have HW := Lib.hid hW1
  have HS0 : Hid (CkS w W1 n 40000 N l L (w.heap.size + 1) w.heap.size 0 false (.slice none 0 0) 0 (fun _ => 0) [] []) := Lib.hid (by
    have k0 : Kp (fun _ => False) w (w.alloc (.map #[] 0)) := (Kp.refl _ w).alloc _
    have k1 : Kp (fun _ => False) w W1 := by rw [← hW1]; exact k0.alloc _
    refine ⟨⟨?_, ClsV.nil _ (Own.nil _ _ _), ?_, by omega, Nat.le_refl _, by omega, fun h => by simp [Value.ownBlock] at h, fun h => by simp [Value.ownBlock] at h, fun c _ => by simp, fun c h => by cases h⟩, k1, KeptOK.nil _ _, Nat.le_refl _, Nat.le_refl _, rfl⟩
    · rw [← hW1]
      have := Blk.new (w.alloc (.map #[] 0)) #[.slice none 0 0, .map (some w.heap.size)] 56
      rw [World.size_alloc] at this
      exact this
    · rw [← hW1]
      exact (TMap.made w).kp ((Kp.refl (fun _ => False) _).alloc _) (fun h => h))
  clear hrn hnn hon hN hrl hll hol hl hL hlx hcl hb ht hW1
  have hmm := @run_makeMap Tryz.prog
  go_enter Tryz.func16, Tryz.ntmps16
  go_upto_region 2 with fail
  rw [HW.out]
  clear hmm HW
  go_wp2_with fail
  obtain ⟨b, hbb⟩ : ∃ b, w.heap.size = b := ⟨_, rfl⟩
  obtain ⟨p, hpp⟩ : ∃ p, b + 1 = p := ⟨_, rfl⟩
  have HB0 := Lib.hid hbb
  rw [hbb, hpp] at HS0
  rw [hbb, hpp]
  have HLo := Lib.hid (show w.heap.size ≤ b by omega)
  clear hbb hpp
  go_loopw [9, 19] (fun v9 v19 wr => ∃ (i : Nat) (d : Bool) (v : Value) (q : Nat) (F : ByteArray → Int) (vs : List Value) (K : List (List Int)), v19 = .int .i64 (i : Int) ∧ v9 = .bool d ∧ i ≤ nx ∧ CkS w wr n 40000 N l L p b i d v q F vs K) (fun _ v19 _ => nx - (intOf v19).toNat)
  case atStart => exact ⟨0, false, _, _, _, _, _, rfl, rfl, Nat.zero_le _, HS0.out⟩
  case round =>
    clear HS0
    obtain ⟨i, d, v, q, F, vs, K, rfl, rfl, hi, hS⟩ := hrel
    have HS := Lib.hid hS
    clear hS
    obtain ⟨wp, rfl⟩ : ∃ wp : World, wp = wr := ⟨_, rfl⟩
    by_cases hlt : i < nx
    · have hil : i < L.length := by rw [HLx.out]; exact hlt
      obtain ⟨b0, off, vx, rfl, c0, c1, hv⟩ := (HL.out.kp HS.out.kp).line hil
      have hx9 := li_at hil
      obtain ⟨xa, xc, rfl, h1, h2, h3, hrx⟩ := hv
      obtain ⟨x, hx⟩ : ∃ x, li L i = x := ⟨_, rfl⟩
      rw [hx] at c0 c1 h1 hrx hx9
      obtain ⟨f, cx0⟩ := x
      obtain ⟨mx, hmx⟩ : ∃ mx, cx0.length = mx := ⟨_, rfl⟩
      simp only [hmx] at c0 c1 h1 hrx
      have hmem := List.mem_of_getElem? hx9
      have hmx9 : mx ≤ 40000 := by have := HCl.out _ hmem; rw [← hmx]; exact this
      have HDr := Lib.hid (drop_li hx9)
      have HBx := Lib.hid (HB.out _ hmem)
      have HRx := Lib.hid hrx
      have HMx := Lib.hid hmx
      have HSx := Lib.hid (show SlOK xa mx xc from ⟨h1, h2, h3⟩)
      have i0 : (0 : Int) ≤ (i : Int) := by omega
      have i1 : (i : Int) < (nx : Int) := by omega
      clear hil hx9 h1 h2 h3 hrx hx hmx hmem
      go_upto_region 5 with fail
      obtain ⟨W2, hW2⟩ : ∃ W2, wp.alloc (.cells #[.bool f, .slice xa mx xc] 45) = W2 := ⟨_, rfl⟩
      have k2 : Kp (fun _ => False) wp W2 := by rw [← hW2]; exact (Kp.refl _ wp).alloc _
      have HBX := Lib.hid (show Blk W2 wp.heap.size #[.bool f, .slice xa mx xc] 45 by rw [← hW2]; exact Blk.new wp _ _)
      have hz2 : wp.heap.size ≤ W2.heap.size := k2.size
      rw [hW2]
      clear hW2
      have HK2 := Lib.hid k2
      have HNo := Lib.hid (clause_Norm xa mx xc cx0 W2 (HRx.out.kp k2 (fun _ _ h => h)) HMx.out HSx.out (by omega) HBx.out)
      have e1 : W2.cell? ⟨wp.heap.size, 1, none⟩ = some (.slice xa mx xc) := HBX.out.cell rfl
      have HKw := Lib.hid (HS.out.kp.trans k2 (fun _ _ h => h))
      have HSo := Lib.hid (show rupG N l K d i ((f, cx0) :: L.drop (i + 1)) = rupCk N l L by rw [← HDr.out]; exact HS.out.so)
      clear k2 HRx HSx c0 c1
      cases hno : normC cx0 with
      | none =>
        have HE := Lib.hid (show rupCk N l L = (i, 5) by rw [← HSo.out]; exact rupG_err (rupL_none (x := (f, cx0)) hno))
        have HN2 := Lib.hid (HNo.out.mono (R' := fun e w' => e = .returned (.tuple #[.slice none 0 0, .bool false]) ∧ Kp (fun _ => False) W2 w') (by
          rintro e w' ⟨⟨-, h⟩ | ⟨c, v, h, -⟩, hk⟩
          · exact ⟨h, hk⟩
          · rw [hno] at h; cases h))
        clear HNo hno HSo
        go_wp2_with (go_at_call 26; refine HN2.out.mono ?_; rintro e w3 ⟨rfl, hK3⟩; have HK3 := Lib.hid hK3; clear hK3)
        exact bodyPost_ret (v := .tuple #[.int .i64 i, .int .i64 5]) (by simp [results, Tryz.results16, go_sem]) rfl ⟨by rw [HE.out], HKw.out.trans HK3.out (fun _ _ h => h)⟩
      | some c =>
        have hg := normC_good hno
        have hlen := normC_len hno
        have HGd := Lib.hid (show GdC c from fun x hx => (hg.2.1 x hx).2)
        have HRi := Lib.hid hg.1
        have HNC := Lib.hid hno
        have HRg := Lib.hid (fun x (hx : x ∈ c) => show 2 ≤ x ∧ x < 33554434 from ⟨(hg.2.1 x hx).1, by have := (hg.2.1 x hx).2; unfold gl at this; simp at this; omega⟩)
        obtain ⟨mc, hmc⟩ : ∃ mc, c.length = mc := ⟨_, rfl⟩
        have HMc := Lib.hid hmc
        have hmc9 : mc ≤ 40000 := by rw [← hmc]; have := HMx.out; omega
        have HN2 := Lib.hid (HNo.out.mono (R' := fun e w' => (∃ a cap, e = .returned (.tuple #[.slice a mc cap, .bool true]) ∧ RowAt w' a (iv c) ∧ ∀ p, a = some p → W2.heap.size ≤ p.block ∧ p.block < w'.heap.size) ∧ Kp (fun _ => False) W2 w') (by
          rintro e w' ⟨⟨h, -⟩ | ⟨c', v, h, rfl, a, cap, rfl, -, h4, h5⟩, hk⟩
          · rw [hno] at h; cases h
          · rw [hno] at h
            cases h
            rw [hmc]
            exact ⟨⟨a, cap, rfl, h4, h5⟩, hk⟩))
        obtain ⟨ak, ck, rfl, hok4, hcls⟩ := HS.out.sh.row.cls
        obtain ⟨mk, hmk⟩ : ∃ mk, K.length = mk := ⟨_, rfl⟩
        have HMk := Lib.hid hmk
        have hmk9 : mk ≤ 100000 := by rw [← hmk]; have := HS.out.kl; omega
        rw [hmk] at hcls
        have HCls := Lib.hid hcls
        have HS2 := Lib.hid HS.out
        rw [hmk] at HS2
        clear HNo hno hg hlen hmc hmk hcls hok4
        by_cases hm0 : mc = 0
        · subst hm0
          have hc0 : c = [] := List.eq_nil_of_length_eq_zero HMc.out
          have HCe := Lib.hid hc0
          have HBd := Lib.hid (show ¬ ∃ y ∈ c, (N.length : Int) < y / 2 by rw [hc0]; rintro ⟨y, hy, -⟩; cases hy)
          have HKn := Lib.hid (show KnC n c by rw [hc0]; intro y hy; cases hy)
          clear hc0
          cases f with
          | true =>
            by_cases hin : c ∈ K
            · have HIn := Lib.hid hin
              have HSn := Lib.hid (show rupG N l (K.erase c) d (i + 1) (L.drop (i + 1)) = rupCk N l L by
                rw [← HSo.out, rupG_ok (rupL_drop (x := (true, cx0)) HNC.out HBd.out rfl hin)]
                congr 1
                simp [rupE])
              clear hin HSo
              go_upto_region 8 with (go_at_call 26; refine HN2.out.mono ?_; rintro e w3 ⟨⟨ac, cc, rfl, hr3, hf3⟩, hK3⟩; have HR3 := Lib.hid hr3; have HF3 := Lib.hid hf3; have HK3 := Lib.hid hK3; have HKp := Lib.hid (HK2.out.trans hK3 (fun _ _ h => h)); have d0 : w3.cell? ⟨wp.heap.size, 0, none⟩ = some (.bool true) := (HBX.out.kp hK3 (fun h => h)).cell rfl; have d1 : w3.cell? ⟨p, 0, none⟩ = some (.slice ak mk ck) := (HS2.out.sh.kp HKp.out).blk.cell rfl; have HT3 := Lib.hid (HT.out.kp (HKw.out.trans hK3 (fun _ _ h => h))); have HDp := Lib.hid (shelf_drop (cc := cc) HS2.out.sh HKp.out (by have := HS2.out.ql; omega) (by rw [HMk.out]; omega) (fun c hc => by have := HS2.out.ok.le c hc; omega) hr3 HMc.out (by omega) HGd.out (fun q hq => ⟨Nat.le_trans hz2 (hf3 q hq).1, (hf3 q hq).2⟩) HT3.out); clear hr3 hf3 hK3)
              have HD2 := Lib.hid (HDp.out.mono (R' := fun e w' => e = .returned (.bool true) ∧ (∃ v' vs' F', ShAt w' w.heap.size p v' b (q + 1) F' vs' (K.erase c)) ∧ Kp (fun j => j = p ∨ j = b) w3 w') (by
                rintro e w' ⟨⟨h, -⟩ | ⟨-, h, h2⟩, hk⟩
                · exact absurd HIn.out h
                · exact ⟨h, h2, hk⟩))
              clear HDp
              go_upto_region 10 with (go_at_call 27; refine HD2.out.mono ?_; rintro e w4 ⟨rfl, ⟨v', vs', F', hS4⟩, hK4⟩; have HS4 := Lib.hid hS4; have HK4 := Lib.hid hK4; have d4 : w4.cell? ⟨wp.heap.size, 0, none⟩ = some (.bool true) := ((HBX.out.kp HK3.out (fun h => h)).kp hK4 (fun e => by have h1 := HS2.out.sh.blk.lt; have h2 := HS2.out.sh.map.lt; omega)).cell rfl; clear hS4 hK4)
              go_wp2_with fail
              go_roundw
              case rel => exact ⟨i + 1, d, v', q + 1, F', vs', K.erase c, by go_num, rfl, hlt, HS4.out, (HKw.out.trans HK3.out (fun _ _ h => h)).trans HK4.out (fun j hj hl => by have := HS2.out.sh.lop; have := HS2.out.sh.lob; omega), HS2.out.ok.erase c, by have := HS2.out.ql; omega, by have := List.length_erase_le (a := c) (l := K); have := HS2.out.kl; omega, HSn.out⟩
              case measure => simp [intOf]; omega
            · have HIn := Lib.hid hin
              have HE := Lib.hid (show rupCk N l L = (i, 9) by rw [← HSo.out]; exact rupG_err (rupL_gone (x := (true, cx0)) HNC.out HBd.out rfl hin))
              clear hin HSo
              go_upto_region 8 with (go_at_call 26; refine HN2.out.mono ?_; rintro e w3 ⟨⟨ac, cc, rfl, hr3, hf3⟩, hK3⟩; have HR3 := Lib.hid hr3; have HF3 := Lib.hid hf3; have HK3 := Lib.hid hK3; have HKp := Lib.hid (HK2.out.trans hK3 (fun _ _ h => h)); have d0 : w3.cell? ⟨wp.heap.size, 0, none⟩ = some (.bool true) := (HBX.out.kp hK3 (fun h => h)).cell rfl; have d1 : w3.cell? ⟨p, 0, none⟩ = some (.slice ak mk ck) := (HS2.out.sh.kp HKp.out).blk.cell rfl; have HT3 := Lib.hid (HT.out.kp (HKw.out.trans hK3 (fun _ _ h => h))); have HDp := Lib.hid (shelf_drop (cc := cc) HS2.out.sh HKp.out (by have := HS2.out.ql; omega) (by rw [HMk.out]; omega) (fun c hc => by have := HS2.out.ok.le c hc; omega) hr3 HMc.out (by omega) HGd.out (fun q hq => ⟨Nat.le_trans hz2 (hf3 q hq).1, (hf3 q hq).2⟩) HT3.out); clear hr3 hf3 hK3)
              have HD2 := Lib.hid (HDp.out.mono (R' := fun e w' => e = .returned (.bool false) ∧ Kp (fun j => j = p ∨ j = b) w3 w') (by
                rintro e w' ⟨⟨-, h⟩ | ⟨h, -⟩, hk⟩
                · exact ⟨h, hk⟩
                · exact absurd h HIn.out))
              clear HDp
              go_wp2_with (go_at_call 27; refine HD2.out.mono ?_; rintro e w4 ⟨rfl, hK4⟩; have HK4 := Lib.hid hK4; clear hK4)
              exact bodyPost_ret (v := .tuple #[.int .i64 i, .int .i64 9]) (by simp [results, Tryz.results16, go_sem]) rfl ⟨by rw [HE.out], (HKw.out.trans HK3.out (fun _ _ h => h)).trans HK4.out (fun j hj hl => by have := HS2.out.sh.lop; have := HS2.out.sh.lob; omega)⟩
          | false =>
            by_cases hfo : Fol N l K c
            · have HFo := Lib.hid hfo
              have HSn := Lib.hid (show rupG N l (K ++ [c]) (d || rupE (false, cx0)) (i + 1) (L.drop (i + 1)) = rupCk N l L by
                rw [← HSo.out, rupG_ok (rupL_put (x := (false, cx0)) HNC.out HBd.out rfl hfo)])
              have hre : rupE (false, cx0) = true := by unfold rupE; rw [HNC.out]; rw [HCe.out]; rfl
              rw [hre] at HSn
              clear hfo HSo hre
              go_upto_region 8 with (go_at_call 26; refine HN2.out.mono ?_; rintro e w3 ⟨⟨ac, cc, rfl, hr3, hf3⟩, hK3⟩; have HR3 := Lib.hid hr3; have HF3 := Lib.hid hf3; have HK3 := Lib.hid hK3; have HKp := Lib.hid (HK2.out.trans hK3 (fun _ _ h => h)); have d0 : w3.cell? ⟨wp.heap.size, 0, none⟩ = some (.bool false) := (HBX.out.kp hK3 (fun h => h)).cell rfl; have d1 : w3.cell? ⟨p, 0, none⟩ = some (.slice ak mk ck) := (HS2.out.sh.kp HKp.out).blk.cell rfl; have HT3 := Lib.hid (HT.out.kp (HKw.out.trans hK3 (fun _ _ h => h))); have HFl := Lib.hid (HFol.out w3 (HKw.out.trans hK3 (fun _ _ h => h)) ak mk ck K (HCls.out.kp HKp.out) hmk9 HS2.out.ok ac _ cc c hr3 HMc.out hmc9 HKn.out); clear hr3 hf3 hK3)
              have HF2 := Lib.hid (HFl.out.mono (R' := fun e w' => e = .returned (.bool true) ∧ Kp (fun _ => False) w3 w') (by
                rintro e w' ⟨b, rfl, h, hk⟩
                rw [h.2 HFo.out]
                exact ⟨rfl, hk⟩))
              clear HFl
              have HPt := Lib.hid (fun w4 (hK4 : Kp (fun _ => False) w3 w4) => shelf_put (cc := cc) HS2.out.sh (HKp.out.trans hK4 (fun _ _ h => h)) (by have := HS2.out.ql; omega) (by rw [HMk.out]; omega) (HR3.out.kp hK4 (fun _ _ h => h)) HMc.out (by omega) HGd.out (fun q hq => ⟨Nat.le_trans hz2 (HF3.out q hq).1, Nat.lt_of_lt_of_le (HF3.out q hq).2 hK4.size⟩) (HT3.out.kp hK4))
              go_upto_region 14 with (first
                | (go_at_call 9; refine HF2.out.mono ?_; rintro e w4 ⟨rfl, hK4⟩; have HK4 := Lib.hid hK4; have HP4 := Lib.hid (HPt.out w4 hK4); clear hK4 HPt)
                | (go_at_call 28; refine HP4.out.mono ?_; rintro e w5 ⟨rfl, ⟨v', vs', F', hS5⟩, hK5⟩; have HS5 := Lib.hid hS5; have HK5 := Lib.hid hK5; clear hS5 hK5))
              cases d with
              | true =>
                go_wp2_with fail
                go_roundw
                case rel => exact ⟨i + 1, true, v', q + 1, F', vs', K ++ [c], by go_num, rfl, hlt, HS5.out, ((HKw.out.trans HK3.out (fun _ _ h => h)).trans HK4.out (fun _ _ h => h)).trans HK5.out (fun j hj hl => by omega), HS2.out.ok.put HKn.out (by rw [HMc.out]; exact hmc9), by have := HS2.out.ql; omega, by rw [List.length_append, List.length_singleton]; have := HS2.out.kl; omega, HSn.out⟩
                case measure => simp [intOf]; omega
              | false =>
                go_wp2_with fail
                go_roundw
                case rel => exact ⟨i + 1, true, v', q + 1, F', vs', K ++ [c], by go_num, rfl, hlt, HS5.out, ((HKw.out.trans HK3.out (fun _ _ h => h)).trans HK4.out (fun _ _ h => h)).trans HK5.out (fun j hj hl => by omega), HS2.out.ok.put HKn.out (by rw [HMc.out]; exact hmc9), by have := HS2.out.ql; omega, by rw [List.length_append, List.length_singleton]; have := HS2.out.kl; omega, HSn.out⟩
                case measure => simp [intOf]; omega
            · have HFo := Lib.hid hfo
              have HE := Lib.hid (show rupCk N l L = (i, 11) by rw [← HSo.out]; exact rupG_err (rupL_not (x := (false, cx0)) HNC.out HBd.out rfl hfo))
              clear hfo HSo
              go_upto_region 8 with (go_at_call 26; refine HN2.out.mono ?_; rintro e w3 ⟨⟨ac, cc, rfl, hr3, hf3⟩, hK3⟩; have HR3 := Lib.hid hr3; have HF3 := Lib.hid hf3; have HK3 := Lib.hid hK3; have HKp := Lib.hid (HK2.out.trans hK3 (fun _ _ h => h)); have d0 : w3.cell? ⟨wp.heap.size, 0, none⟩ = some (.bool false) := (HBX.out.kp hK3 (fun h => h)).cell rfl; have d1 : w3.cell? ⟨p, 0, none⟩ = some (.slice ak mk ck) := (HS2.out.sh.kp HKp.out).blk.cell rfl; have HT3 := Lib.hid (HT.out.kp (HKw.out.trans hK3 (fun _ _ h => h))); have HFl := Lib.hid (HFol.out w3 (HKw.out.trans hK3 (fun _ _ h => h)) ak mk ck K (HCls.out.kp HKp.out) hmk9 HS2.out.ok ac _ cc c hr3 HMc.out hmc9 HKn.out); clear hr3 hf3 hK3)
              have HF2 := Lib.hid (HFl.out.mono (R' := fun e w' => e = .returned (.bool false) ∧ Kp (fun _ => False) w3 w') (by
                rintro e w' ⟨b, rfl, h, hk⟩
                cases b with
                | true => exact absurd (h.1 rfl) HFo.out
                | false => exact ⟨rfl, hk⟩))
              clear HFl
              go_wp2_with (go_at_call 9; refine HF2.out.mono ?_; rintro e w4 ⟨rfl, hK4⟩; have HK4 := Lib.hid hK4; clear hK4)
              exact bodyPost_ret (v := .tuple #[.int .i64 i, .int .i64 11]) (by simp [results, Tryz.results16, go_sem]) rfl ⟨by rw [HE.out], (HKw.out.trans HK3.out (fun _ _ h => h)).trans HK4.out (fun _ _ h => h)⟩
        · obtain ⟨k, hk⟩ : ∃ k, mc = k + 1 := ⟨mc - 1, by omega⟩
          have hk0 : 0 < mc := by omega
          have HCe := Lib.hid (show ¬ c = [] from fun e => by have := HMc.out; rw [e] at this; simp at this; omega)
          have wk : IntKind.i64.wrap ((mc : Int) - 1) = (k : Int) := by rw [IntKind.wrap_i64]; omega
          have HLs := Lib.hid (rising_last HRi.out (show c.length = k + 1 by rw [HMc.out]; exact hk))
          have HMm := Lib.hid (show gi c k ∈ c from gi_mem (by rw [HMc.out]; omega))
          obtain ⟨y, hy⟩ : ∃ y, gi c k = y := ⟨_, rfl⟩
          have HY := Lib.hid hy
          rw [hy] at HLs HMm
          have hy9 := HRg.out y HMm.out
          have ty : y.tdiv 2 = y / 2 := Int.tdiv_eq_ediv_of_nonneg (by omega)
          obtain ⟨y2, hy2⟩ : ∃ y2, y / 2 = y2 := ⟨_, rfl⟩
          rw [hy2] at ty
          have wy : IntKind.i64.wrap y2 = y2 := by rw [IntKind.wrap_i64]; omega
          have hk1 : (0 : Int) < (mc : Int) := by omega
          have hk2 : (k : Int) < (mc : Int) := by omega
          have hk3 : (0 : Int) ≤ (k : Int) := by omega
          have m0 : ((mc : Int) == 0) = false := by simp; omega
          have HY2 := Lib.hid hy2
          clear hy hy2 hm0 hk
          by_cases hbig : (n : Int) < y2
          · have db : decide ((n : Int) < y2) = true := by simp [hbig]
            have HE := Lib.hid (show rupCk N l L = (i, 5) by rw [← HSo.out]; exact rupG_err (rupL_big (x := (f, cx0)) HNC.out ⟨y, HMm.out, by rw [HNn.out, HY2.out]; exact hbig⟩))
            clear hbig HSo
            go_wp2_with (go_at_call 26; refine HN2.out.mono ?_; rintro e w3 ⟨⟨ac, cc, rfl, hr3, hf3⟩, hK3⟩; obtain ⟨bq, oq, rfl, hcq⟩ := hr3 k _ (iv_at (show k < c.length by rw [HMc.out]; omega)); rw [HY.out] at hcq; have HR3 := Lib.hid hr3; have HF3 := Lib.hid hf3; have HK3 := Lib.hid hK3; have HKp := Lib.hid (HK2.out.trans hK3 (fun _ _ h => h)); have d0 : w3.cell? ⟨wp.heap.size, 0, none⟩ = some (.bool f) := (HBX.out.kp hK3 (fun h => h)).cell rfl; have d1 : w3.cell? ⟨p, 0, none⟩ = some (.slice ak mk ck) := (HS2.out.sh.kp HKp.out).blk.cell rfl; have HT3 := Lib.hid (HT.out.kp (HKw.out.trans hK3 (fun _ _ h => h))); clear hr3 hf3 hK3)
            exact bodyPost_ret (v := .tuple #[.int .i64 i, .int .i64 5]) (by simp [results, Tryz.results16, go_sem]) rfl ⟨by rw [HE.out], HKw.out.trans HK3.out (fun _ _ h => h)⟩
          · have db : decide ((n : Int) < y2) = false := by simp; omega
            have HBd := Lib.hid (show ¬ ∃ y ∈ c, (N.length : Int) < y / 2 by
              rintro ⟨z, hz, h⟩
              have := HLs.out z hz
              have := HY2.out
              rw [HNn.out] at h
              omega)
            have HKn := Lib.hid (show KnC n c from fun z hz => by
              have := HLs.out z hz
              have := HY2.out
              have := (HRg.out z hz).1
              exact ⟨by omega, by omega⟩)
            clear hbig
            cases f with
            | true =>
              by_cases hin : c ∈ K
              · have HIn := Lib.hid hin
                have HSn := Lib.hid (show rupG N l (K.erase c) d (i + 1) (L.drop (i + 1)) = rupCk N l L by
                  rw [← HSo.out, rupG_ok (rupL_drop (x := (true, cx0)) HNC.out HBd.out rfl hin)]
                  congr 1
                  simp [rupE])
                clear hin HSo
                go_upto_region 8 with (go_at_call 26; refine HN2.out.mono ?_; rintro e w3 ⟨⟨ac, cc, rfl, hr3, hf3⟩, hK3⟩; obtain ⟨bq, oq, rfl, hcq⟩ := hr3 k _ (iv_at (show k < c.length by rw [HMc.out]; omega)); rw [HY.out] at hcq; have HR3 := Lib.hid hr3; have HF3 := Lib.hid hf3; have HK3 := Lib.hid hK3; have HKp := Lib.hid (HK2.out.trans hK3 (fun _ _ h => h)); have d0 : w3.cell? ⟨wp.heap.size, 0, none⟩ = some (.bool true) := (HBX.out.kp hK3 (fun h => h)).cell rfl; have d1 : w3.cell? ⟨p, 0, none⟩ = some (.slice ak mk ck) := (HS2.out.sh.kp HKp.out).blk.cell rfl; have HT3 := Lib.hid (HT.out.kp (HKw.out.trans hK3 (fun _ _ h => h))); have HDp := Lib.hid (shelf_drop (cc := cc) HS2.out.sh HKp.out (by have := HS2.out.ql; omega) (by rw [HMk.out]; omega) (fun c hc => by have := HS2.out.ok.le c hc; omega) hr3 HMc.out (by omega) HGd.out (fun q hq => ⟨Nat.le_trans hz2 (hf3 q hq).1, (hf3 q hq).2⟩) HT3.out); clear hr3 hf3 hK3)
                have HD2 := Lib.hid (HDp.out.mono (R' := fun e w' => e = .returned (.bool true) ∧ (∃ v' vs' F', ShAt w' w.heap.size p v' b (q + 1) F' vs' (K.erase c)) ∧ Kp (fun j => j = p ∨ j = b) w3 w') (by
                  rintro e w' ⟨⟨h, -⟩ | ⟨-, h, h2⟩, hk⟩
                  · exact absurd HIn.out h
                  · exact ⟨h, h2, hk⟩))
                clear HDp
                go_upto_region 10 with (go_at_call 27; refine HD2.out.mono ?_; rintro e w4 ⟨rfl, ⟨v', vs', F', hS4⟩, hK4⟩; have HS4 := Lib.hid hS4; have HK4 := Lib.hid hK4; have d4 : w4.cell? ⟨wp.heap.size, 0, none⟩ = some (.bool true) := ((HBX.out.kp HK3.out (fun h => h)).kp hK4 (fun e => by have h1 := HS2.out.sh.blk.lt; have h2 := HS2.out.sh.map.lt; omega)).cell rfl; clear hS4 hK4)
                go_wp2_with fail
                go_roundw
                case rel => exact ⟨i + 1, d, v', q + 1, F', vs', K.erase c, by go_num, rfl, hlt, HS4.out, (HKw.out.trans HK3.out (fun _ _ h => h)).trans HK4.out (fun j hj hl => by have := HS2.out.sh.lop; have := HS2.out.sh.lob; omega), HS2.out.ok.erase c, by have := HS2.out.ql; omega, by have := List.length_erase_le (a := c) (l := K); have := HS2.out.kl; omega, HSn.out⟩
                case measure => simp [intOf]; omega
              · have HIn := Lib.hid hin
                have HE := Lib.hid (show rupCk N l L = (i, 9) by rw [← HSo.out]; exact rupG_err (rupL_gone (x := (true, cx0)) HNC.out HBd.out rfl hin))
                clear hin HSo
                go_upto_region 8 with (go_at_call 26; refine HN2.out.mono ?_; rintro e w3 ⟨⟨ac, cc, rfl, hr3, hf3⟩, hK3⟩; obtain ⟨bq, oq, rfl, hcq⟩ := hr3 k _ (iv_at (show k < c.length by rw [HMc.out]; omega)); rw [HY.out] at hcq; have HR3 := Lib.hid hr3; have HF3 := Lib.hid hf3; have HK3 := Lib.hid hK3; have HKp := Lib.hid (HK2.out.trans hK3 (fun _ _ h => h)); have d0 : w3.cell? ⟨wp.heap.size, 0, none⟩ = some (.bool true) := (HBX.out.kp hK3 (fun h => h)).cell rfl; have d1 : w3.cell? ⟨p, 0, none⟩ = some (.slice ak mk ck) := (HS2.out.sh.kp HKp.out).blk.cell rfl; have HT3 := Lib.hid (HT.out.kp (HKw.out.trans hK3 (fun _ _ h => h))); have HDp := Lib.hid (shelf_drop (cc := cc) HS2.out.sh HKp.out (by have := HS2.out.ql; omega) (by rw [HMk.out]; omega) (fun c hc => by have := HS2.out.ok.le c hc; omega) hr3 HMc.out (by omega) HGd.out (fun q hq => ⟨Nat.le_trans hz2 (hf3 q hq).1, (hf3 q hq).2⟩) HT3.out); clear hr3 hf3 hK3)
                have HD2 := Lib.hid (HDp.out.mono (R' := fun e w' => e = .returned (.bool false) ∧ Kp (fun j => j = p ∨ j = b) w3 w') (by
                  rintro e w' ⟨⟨-, h⟩ | ⟨h, -⟩, hk⟩
                  · exact ⟨h, hk⟩
                  · exact absurd h HIn.out))
                clear HDp
                go_wp2_with (go_at_call 27; refine HD2.out.mono ?_; rintro e w4 ⟨rfl, hK4⟩; have HK4 := Lib.hid hK4; clear hK4)
                exact bodyPost_ret (v := .tuple #[.int .i64 i, .int .i64 9]) (by simp [results, Tryz.results16, go_sem]) rfl ⟨by rw [HE.out], (HKw.out.trans HK3.out (fun _ _ h => h)).trans HK4.out (fun j hj hl => by have := HS2.out.sh.lop; have := HS2.out.sh.lob; omega)⟩
            | false =>
              by_cases hfo : Fol N l K c
              · have HFo := Lib.hid hfo
                have HSn := Lib.hid (show rupG N l (K ++ [c]) (d || rupE (false, cx0)) (i + 1) (L.drop (i + 1)) = rupCk N l L by
                  rw [← HSo.out, rupG_ok (rupL_put (x := (false, cx0)) HNC.out HBd.out rfl hfo)])
                have hre : rupE (false, cx0) = false := by unfold rupE; rw [HNC.out]; simp; exact HCe.out
                rw [hre] at HSn
                clear hfo HSo hre
                go_upto_region 8 with (go_at_call 26; refine HN2.out.mono ?_; rintro e w3 ⟨⟨ac, cc, rfl, hr3, hf3⟩, hK3⟩; obtain ⟨bq, oq, rfl, hcq⟩ := hr3 k _ (iv_at (show k < c.length by rw [HMc.out]; omega)); rw [HY.out] at hcq; have HR3 := Lib.hid hr3; have HF3 := Lib.hid hf3; have HK3 := Lib.hid hK3; have HKp := Lib.hid (HK2.out.trans hK3 (fun _ _ h => h)); have d0 : w3.cell? ⟨wp.heap.size, 0, none⟩ = some (.bool false) := (HBX.out.kp hK3 (fun h => h)).cell rfl; have d1 : w3.cell? ⟨p, 0, none⟩ = some (.slice ak mk ck) := (HS2.out.sh.kp HKp.out).blk.cell rfl; have HT3 := Lib.hid (HT.out.kp (HKw.out.trans hK3 (fun _ _ h => h))); have HFl := Lib.hid (HFol.out w3 (HKw.out.trans hK3 (fun _ _ h => h)) ak mk ck K (HCls.out.kp HKp.out) hmk9 HS2.out.ok (some ⟨bq, oq, none⟩) _ cc c hr3 HMc.out hmc9 HKn.out); clear hr3 hf3 hK3)
                have HF2 := Lib.hid (HFl.out.mono (R' := fun e w' => e = .returned (.bool true) ∧ Kp (fun _ => False) w3 w') (by
                  rintro e w' ⟨b, rfl, h, hk⟩
                  rw [h.2 HFo.out]
                  exact ⟨rfl, hk⟩))
                clear HFl
                have HPt := Lib.hid (fun w4 (hK4 : Kp (fun _ => False) w3 w4) => shelf_put (cc := cc) HS2.out.sh (HKp.out.trans hK4 (fun _ _ h => h)) (by have := HS2.out.ql; omega) (by rw [HMk.out]; omega) (HR3.out.kp hK4 (fun _ _ h => h)) HMc.out (by omega) HGd.out (fun q hq => ⟨Nat.le_trans hz2 (HF3.out q hq).1, Nat.lt_of_lt_of_le (HF3.out q hq).2 hK4.size⟩) (HT3.out.kp hK4))
                go_upto_region 14 with (first
                  | (go_at_call 9; refine HF2.out.mono ?_; rintro e w4 ⟨rfl, hK4⟩; have HK4 := Lib.hid hK4; have HP4 := Lib.hid (HPt.out w4 hK4); clear hK4 HPt)
                  | (go_at_call 28; refine HP4.out.mono ?_; rintro e w5 ⟨rfl, ⟨v', vs', F', hS5⟩, hK5⟩; have HS5 := Lib.hid hS5; have HK5 := Lib.hid hK5; clear hS5 hK5))
                cases d with
                | true =>
                  go_wp2_with fail
                  go_roundw
                  case rel => exact ⟨i + 1, true, v', q + 1, F', vs', K ++ [c], by go_num, rfl, hlt, HS5.out, ((HKw.out.trans HK3.out (fun _ _ h => h)).trans HK4.out (fun _ _ h => h)).trans HK5.out (fun j hj hl => by omega), HS2.out.ok.put HKn.out (by rw [HMc.out]; exact hmc9), by have := HS2.out.ql; omega, by rw [List.length_append, List.length_singleton]; have := HS2.out.kl; omega, HSn.out⟩
                  case measure => simp [intOf]; omega
                | false =>
                  go_wp2_with fail
                  go_roundw
                  case rel => exact ⟨i + 1, false, v', q + 1, F', vs', K ++ [c], by go_num, rfl, hlt, HS5.out, ((HKw.out.trans HK3.out (fun _ _ h => h)).trans HK4.out (fun _ _ h => h)).trans HK5.out (fun j hj hl => by omega), HS2.out.ok.put HKn.out (by rw [HMc.out]; exact hmc9), by have := HS2.out.ql; omega, by rw [List.length_append, List.length_singleton]; have := HS2.out.kl; omega, HSn.out⟩
                  case measure => simp [intOf]; omega
              · have HFo := Lib.hid hfo
                have HE := Lib.hid (show rupCk N l L = (i, 11) by rw [← HSo.out]; exact rupG_err (rupL_not (x := (false, cx0)) HNC.out HBd.out rfl hfo))
                clear hfo HSo
                go_upto_region 8 with (go_at_call 26; refine HN2.out.mono ?_; rintro e w3 ⟨⟨ac, cc, rfl, hr3, hf3⟩, hK3⟩; obtain ⟨bq, oq, rfl, hcq⟩ := hr3 k _ (iv_at (show k < c.length by rw [HMc.out]; omega)); rw [HY.out] at hcq; have HR3 := Lib.hid hr3; have HF3 := Lib.hid hf3; have HK3 := Lib.hid hK3; have HKp := Lib.hid (HK2.out.trans hK3 (fun _ _ h => h)); have d0 : w3.cell? ⟨wp.heap.size, 0, none⟩ = some (.bool false) := (HBX.out.kp hK3 (fun h => h)).cell rfl; have d1 : w3.cell? ⟨p, 0, none⟩ = some (.slice ak mk ck) := (HS2.out.sh.kp HKp.out).blk.cell rfl; have HT3 := Lib.hid (HT.out.kp (HKw.out.trans hK3 (fun _ _ h => h))); have HFl := Lib.hid (HFol.out w3 (HKw.out.trans hK3 (fun _ _ h => h)) ak mk ck K (HCls.out.kp HKp.out) hmk9 HS2.out.ok (some ⟨bq, oq, none⟩) _ cc c hr3 HMc.out hmc9 HKn.out); clear hr3 hf3 hK3)
                have HF2 := Lib.hid (HFl.out.mono (R' := fun e w' => e = .returned (.bool false) ∧ Kp (fun _ => False) w3 w') (by
                  rintro e w' ⟨b, rfl, h, hk⟩
                  cases b with
                  | true => exact absurd (h.1 rfl) HFo.out
                  | false => exact ⟨rfl, hk⟩))
                clear HFl
                go_wp2_with (go_at_call 9; refine HF2.out.mono ?_; rintro e w4 ⟨rfl, hK4⟩; have HK4 := Lib.hid hK4; clear hK4)
                exact bodyPost_ret (v := .tuple #[.int .i64 i, .int .i64 11]) (by simp [results, Tryz.results16, go_sem]) rfl ⟨by rw [HE.out], (HKw.out.trans HK3.out (fun _ _ h => h)).trans HK4.out (fun _ _ h => h)⟩
    · have hi' : i = nx := by omega
      have hno : decide ((i : Int) < (nx : Int)) = false := by simp; omega
      have hdn : L.drop i = [] := List.drop_eq_nil_of_le (by rw [HLx.out]; omega)
      have HE := Lib.hid (show rupCk N l L = (nx, if d then 0 else 3) by rw [← HS.out.so, hdn, rupG, hi'])
      clear hdn
      cases d with
      | true =>
        go_wp2_with fail
        exact bodyPost_ret (v := .tuple #[.int .i64 nx, .int .i64 0]) (by simp [results, Tryz.results16, go_sem]) rfl ⟨by rw [HE.out]; rfl, HS.out.kp⟩
      | false =>
        go_wp2_with fail
        exact bodyPost_ret (v := .tuple #[.int .i64 nx, .int .i64 3]) (by simp [results, Tryz.results16, go_sem]) rfl ⟨by rw [HE.out]; rfl, HS.out.kp⟩

end Go.Proofs.YthconjhldjaldaaGreatDoor

/-
  The example of the law of rup.
-/
namespace Go.Proofs.YthconjhldjaldaaGreatDoor
open Go.RowKit

def rlN : List (Int × Int) := [(-1, 0), (-1, 0), (2, 4)]
def rlL : List (Bool × List Int) := [(false, [])]
theorem rl_good : GoodN rlN := fun j hj => by
  have : j = 0 ∨ j = 1 ∨ j = 2 := by have : rlN.length = 3 := rfl; omega
  rcases this with rfl | rfl | rfl
  · exact .inl (by decide)
  · exact .inl (by decide)
  · exact .inr (by decide)
theorem rl_all (l : List Int) : allK rlN l [] = l.map (fun x => [x]) ++ [[7, 2], [7, 4], [6, 3, 5]] := by
  unfold allK
  rw [List.append_nil]
  congr 1
theorem rl_yes : Fol rlN [6, 3] [] [] := by
  show UConf (allK rlN [6, 3] [])
  rw [rl_all]
  have u6 : UDer ([6, 3].map (fun x : Int => [x]) ++ [[7, 2], [7, 4], [6, 3, 5]]) 6 := .unit [6] 6 (by decide) (by decide) (fun x hx hn => absurd (by simpa using hx) hn)
  have u2 : UDer ([6, 3].map (fun x : Int => [x]) ++ [[7, 2], [7, 4], [6, 3, 5]]) 2 := .unit [7, 2] 2 (by decide) (by decide) (fun x hx hn => by
    have : x = 7 := by simp at hx; rcases hx with h | h; exact h; exact absurd h hn
    subst this
    exact u6)
  exact ⟨[3], by decide, fun x hx => by
    have : x = 3 := by simpa using hx
    subst this
    exact u2⟩
theorem rl_no : ¬ Fol rlN [6] [] [] := by
  show ¬ UConf (allK rlN [6] [])
  rw [rl_all]
  have tv : TV 3 [0, 1, 1, 1] := ⟨rfl, rfl, fun k hk => by
    have : k = 0 ∨ k = 1 ∨ k = 2 ∨ k = 3 := by omega
    rcases this with rfl | rfl | rfl | rfl <;> simp [gi]⟩
  refine Done.no_conf (n := 3) (V := [0, 1, 1, 1]) tv (fun c hc => ?_) (fun c hc => ?_)
  · simp at hc
    rcases hc with rfl | rfl | rfl | rfl <;> (intro x hx; simp at hx; unfold KnL; omega)
  · simp at hc
    rcases hc with rfl | rfl | rfl | rfl
    · exact .inl ⟨6, by simp, by decide⟩
    · exact .inl ⟨2, by simp, by decide⟩
    · exact .inl ⟨4, by simp, by decide⟩
    · exact .inl ⟨6, by simp, by decide⟩
theorem rl_nil : normC (false, ([] : List Int)).2 = some [] := normC_nil
theorem rl_none : ¬ ∃ y ∈ ([] : List Int), (rlN.length : Int) < y / 2 := by rintro ⟨y, hy, -⟩; cases hy
theorem rl_ck1 : rupCk rlN [6, 3] rlL = (1, 0) := by
  unfold rupCk rlL
  rw [rupG_ok (rupL_put (x := (false, [])) rl_nil rl_none rfl rl_yes), rupG]
  rfl
theorem rl_ck2 : rupCk rlN [6] rlL = (0, 11) := by
  unfold rupCk rlL
  rw [rupG_err (rupL_not (x := (false, [])) rl_nil rl_none rfl rl_no)]

theorem rl_lines {w : World} {b : Nat} (h : Blk w b #[.bool false, .slice none 0 0] 45) : LnsAt w (some ⟨b, 0, none⟩) rlL := by
  refine ⟨[(false, .slice none 0 0)], ?_, rfl, fun k r x hr hx => ?_⟩
  · exact h.rowAt (off := 0) (n := 2) rfl
  · match k with
    | 0 =>
      simp [rlL] at hr hx
      subst hr hx
      exact ⟨rfl, none, 0, rfl, Nat.le_refl _, by simp [maxLen], fun _ => rfl, RowAt.nil _ _⟩
    | k + 1 => simp at hr

set_option maxRecDepth 100000 in
set_option maxHeartbeats 4000000 in
theorem rup_lives (w : World) (ht : Tab w) : Calls Tryz.prog 8 #[] w fun e w' => e = .returned (.bool true) ∧ Kp (fun _ => False) w w' := by
  have HT := Lib.hid ht
  have HN := Lib.hid (show RowAt (w.alloc (.cells #[.int .i64 (-1), .int .i64 0, .int .i64 (-1), .int .i64 0, .int .i64 2, .int .i64 4] 43)) (some ⟨w.heap.size, 0, none⟩) (rlN.map pr2).flatten from (Blk.new w _ _).rowAt (off := 0) (n := 6) rfl)
  have HCk := Lib.hid (fun (u : World) (hu : Kp (fun _ => False) (w.alloc (.cells #[.int .i64 (-1), .int .i64 0, .int .i64 (-1), .int .i64 0, .int .i64 2, .int .i64 4] 43)) u) (l : List Int) (ml al ax : Nat) (hal : RowAt u (some ⟨al, 0, none⟩) (iv l)) (hll : l.length = ml) (hml : ml ≤ 10) (hl : KnC 3 l) (hx : LnsAt u (some ⟨ax, 0, none⟩) rlL) =>
    rup_Check (some ⟨w.heap.size, 0, none⟩) 3 3 rlN (some ⟨al, 0, none⟩) ml ml l (some ⟨ax, 0, none⟩) 1 1 rlL u (HN.out.kp hu (fun _ _ h => h)) rfl ⟨Nat.le_refl _, by simp [maxLen], fun h => by cases h⟩ (by omega) rl_good hal hll ⟨Nat.le_refl _, by unfold maxLen; omega, fun h => by cases h⟩ (by omega) hl hx rfl (by omega) (fun x hx => by simp [rlL] at hx; subst hx; simp) (fun x hx y hy => by simp [rlL] at hx; subst hx; cases hy) (HT.out.kp (((Kp.refl (fun _ => False) w).alloc _).trans hu (fun _ _ h => h))))
  clear ht
  go_enter Tryz.func8, Tryz.ntmps8
  go_upto_region 2 with fail
  obtain ⟨W1, hW1⟩ : ∃ W1, w.alloc (.cells #[.int .i64 (-1), .int .i64 0, .int .i64 (-1), .int .i64 0, .int .i64 2, .int .i64 4] 43) = W1 := ⟨_, rfl⟩
  have HK1 := Lib.hid (show Kp (fun _ => False) w W1 by rw [← hW1]; exact (Kp.refl _ w).alloc _)
  rw [hW1] at HCk
  rw [hW1]
  clear HN hW1
  have two : ∀ (u : World) (l : List Int), Kp (fun _ => False) u ((u.alloc (.cells (ints l) 3)).alloc (.cells #[.bool false, .slice none 0 0] 45)) ∧ RowAt ((u.alloc (.cells (ints l) 3)).alloc (.cells #[.bool false, .slice none 0 0] 45)) (some ⟨u.heap.size, 0, none⟩) (iv l) ∧ LnsAt ((u.alloc (.cells (ints l) 3)).alloc (.cells #[.bool false, .slice none 0 0] 45)) (some ⟨u.heap.size + 1, 0, none⟩) rlL := by
    intro u l
    refine ⟨((Kp.refl _ u).alloc _).alloc _, ((Blk.new u (ints l) 3).alloc _).intsAt, rl_lines ?_⟩
    have := Blk.new (u.alloc (.cells (ints l) 3)) #[.bool false, .slice none 0 0] 45
    rw [World.size_alloc] at this
    exact this
  have HTwo := Lib.hid two
  clear two
  have HC1 : Hid (Calls Tryz.prog 16 #[.slice (some ⟨w.heap.size, 0, none⟩) 3 3, .slice (some ⟨W1.heap.size, 0, none⟩) 2 2, .slice (some ⟨W1.heap.size + 1, 0, none⟩) 1 1] ((W1.alloc (.cells #[.int .i64 6, .int .i64 3] 3)).alloc (.cells #[.bool false, .slice none 0 0] 45)) fun e w' => e = .returned (.tuple #[.int .i64 1, .int .i64 0]) ∧ Kp (fun _ => False) W1 w') := Lib.hid (by
    obtain ⟨h1, h2, h3⟩ := HTwo.out W1 [6, 3]
    refine (HCk.out _ h1 [6, 3] 2 _ _ h2 rfl (by omega) (fun x hx => by simp at hx; unfold KnL; omega) h3).mono ?_
    rintro e w' ⟨rfl, hk⟩
    rw [rl_ck1]
    exact ⟨rfl, h1.trans hk (fun _ _ h => h)⟩)
  have HC2 : Hid (∀ u, Kp (fun _ => False) W1 u → Calls Tryz.prog 16 #[.slice (some ⟨w.heap.size, 0, none⟩) 3 3, .slice (some ⟨u.heap.size, 0, none⟩) 1 1, .slice (some ⟨u.heap.size + 1, 0, none⟩) 1 1] ((u.alloc (.cells #[.int .i64 6] 3)).alloc (.cells #[.bool false, .slice none 0 0] 45)) fun e w' => e = .returned (.tuple #[.int .i64 0, .int .i64 11]) ∧ Kp (fun _ => False) u w') := Lib.hid (by
    intro u hu
    obtain ⟨h1, h2, h3⟩ := HTwo.out u [6]
    refine (HCk.out _ (hu.trans h1 (fun _ _ h => h)) [6] 1 _ _ h2 rfl (by omega) (fun x hx => by simp at hx; unfold KnL; omega) h3).mono ?_
    rintro e w' ⟨rfl, hk⟩
    rw [rl_ck2]
    exact ⟨rfl, h1.trans hk (fun _ _ h => h)⟩)
  clear HCk HTwo
  go_upto_region 3 with (go_at_call 16; refine HC1.out.mono ?_; rintro e w3 ⟨rfl, hK3⟩; have HK3 := Lib.hid hK3; have HC3 := Lib.hid (HC2.out w3 hK3); clear hK3 HC2)
  go_wp2_with (go_at_call 16; refine HC3.out.mono ?_; rintro e w4 ⟨rfl, hK4⟩; have HK4 := Lib.hid hK4; clear hK4)
  go_ret
  exact ⟨rfl, (HK1.out.trans HK3.out (fun _ _ h => h)).trans HK4.out (fun _ _ h => h)⟩

end Go.Proofs.YthconjhldjaldaaGreatDoor

/-
  latchetref07.Values.
-/
namespace Go.Proofs.YthconjhldjaldaaGreatDoor
open Go.RowKit

set_option maxRecDepth 100000 in
set_option maxHeartbeats 4000000 in
/-- latchetref07.Values -/
theorem ref07_Values (a : Option Addr) (n c : Nat) (N : List (Int × Int)) (b : Option Addr) (m d : Nat) (ins : List Bool) (w : World) (hr : RowAt w a (N.map pr2).flatten) (hn : N.length = n) (hm : n ≤ 10000000) (hN : GoodN N) (hi : RowAt w b (bv ins)) (him : ins.length = m) (hmm : m ≤ 9223372036854775807) :
    Calls Tryz.prog 11 #[.slice a n c, .slice b m d] w fun e w' => ∃ v, e = .returned v ∧ Own w' w.heap.size 4 v (bv (valsOf N ins)) ∧ Kp (fun _ => False) w w' := by
  have HI := Lib.hid (show (Tryz.prog.info? 4).map (fun i => (i.zero, i.size, i.bytes)) = some (some (.bool false), 1, 1) by kernel_rfl)
  have HR := Lib.hid hr
  have HN := Lib.hid hn
  have HGN := Lib.hid hN
  have HIn := Lib.hid hi
  have HIm := Lib.hid him
  obtain ⟨wz, hwz⟩ : ∃ wz : World, wz = w.alloc (.cells #[.bool false] 4) := ⟨_, rfl⟩
  have HK0 := Lib.hid (show Kp (fun _ => False) w wz by rw [hwz]; exact (Kp.refl _ w).alloc _)
  have HO0 : Hid (Own wz w.heap.size 4 (.slice (some ⟨w.heap.size, 0, none⟩) 1 1) (bv (valsK N ins 0).1)) := Lib.hid (by rw [hwz]; exact Own.lit (cs := [.bool false]) (Blk.new w _ _) (Nat.le_refl _) (by decide))
  have HZ := Lib.hid hwz
  clear hr hn hN hi him hwz
  go_enter Tryz.func11, Tryz.ntmps11
  go_upto_region 2 with fail
  rw [← HZ.out]
  clear HZ
  go_wp2_with fail
  go_loopw [5, 6, 7] (fun v5 v6 v7 wr => ∃ k : Nat, v7 = .int .i64 k ∧ k ≤ n ∧ v6 = .int .i64 ((valsK N ins k).2 : Int) ∧ Own wr w.heap.size 4 v5 (bv (valsK N ins k).1) ∧ Kp (fun _ => False) w wr) (fun _ _ v7 _ => n - (intOf v7).toNat)
  case atStart => exact ⟨0, rfl, by omega, rfl, HO0.out, HK0.out⟩
  case round =>
    obtain ⟨k, rfl, hk, rfl, hO, hK⟩ := hrel
    clear HO0 HK0
    obtain ⟨wp, rfl⟩ : ∃ wp : World, wp = wr := ⟨_, rfl⟩
    have HO := Lib.hid hO
    have HK := Lib.hid hK
    clear hO hK
    by_cases hlt : k < n
    · have hkl : k < N.length := by rw [HN.out]; exact hlt
      obtain ⟨bb, off, rfl, e0, e1⟩ := pr2_cells (HR.out.kp HK.out (fun _ _ h => h)) hkl
      have hS := valsK_succ (ins := ins) hkl
      have hln := valsK_len (N := N) (ins := ins) k (by omega)
      have hct := valsK_cnt (N := N) (ins := ins) k (by omega)
      have hg := HGN.out k hkl
      obtain ⟨x1, hx1⟩ : ∃ x, (g2 N k).1 = x := ⟨_, rfl⟩
      obtain ⟨x2, hx2⟩ : ∃ x, (g2 N k).2 = x := ⟨_, rfl⟩
      obtain ⟨cn, hcn⟩ : ∃ x, (valsK N ins k).2 = x := ⟨_, rfl⟩
      unfold stepV at hS
      rw [hx1, hx2, hcn] at hS
      rw [hx1, hx2] at hg
      rw [hx1] at e0
      rw [hx2] at e1
      rw [hcn] at hct ⊢
      obtain ⟨vals, hvals⟩ : ∃ x, (valsK N ins k).1 = x := ⟨_, rfl⟩
      rw [hvals] at hS hln
      have HO2 := Lib.hid (show Own wp w.heap.size 4 u5 (bv vals) by rw [← hvals]; exact HO.out)
      have HLn := Lib.hid hln
      have i0 : (0 : Int) ≤ (k : Int) := by omega
      have i2 : (k : Int) < (n : Int) := by omega
      have HKs := Lib.hid HK.out.size
      clear hx1 hx2 hcn hvals hln HO hkl
      by_cases hneg : x1 < 0
      · rw [if_pos hneg] at hS
        have q1 : decide (x1 < 0) = true := decide_eq_true hneg
        by_cases hc : cn < m
        · have c0 : (0 : Int) ≤ (cn : Int) := by omega
          have c1 : (cn : Int) < (m : Int) := by omega
          obtain ⟨b3, off3, rfl, e3⟩ := HIn.out cn _ (bv_at (by rw [HIm.out]; exact hc))
          have e4 := HK.out.cellK e3
          obtain ⟨x, hx⟩ : ∃ x, vb ins cn = x := ⟨_, rfl⟩
          rw [hx] at e3 e4 hS
          have HS := Lib.hid hS
          have HNew := Lib.hid (Blk.new wp #[.bool x] 4)
          have HOw := Lib.hid (HO2.out.alloc (.cells #[.bool x] 4))
          clear hx hS e3
          cases x with
          | true =>
            go_wp2_with (at_builtin; refine wpList_append1_at rfl _ _ 25 4 rfl Tryz.underlying25 HI.out rfl HOw.out rfl ⟨wp.heap.size, 0, none⟩ (.bool true) rfl (HNew.out.cell rfl) rfl ?d1 ?d2 ?d3 ?_)
            case d1 => rw [bv_length, HLn.out]; omega
            case d2 => rw [bv_length, HLn.out]; unfold maxLen; omega
            case d3 => have := HKs.out; simp; omega
            intro v' w2 hO3 hg2 hat2
            have HR2 := Lib.hid (show ∃ k' : Nat, Value.int .i64 ((k : Int) + 1) = .int .i64 k' ∧ k' ≤ n ∧ Value.int .i64 ((cn : Int) + 1) = .int .i64 ((valsK N ins k').2 : Int) ∧ Own w2 w.heap.size 4 v' (bv (valsK N ins k').1) ∧ Kp (fun _ => False) w w2 from
              ⟨k + 1, by go_num, by omega, by rw [HS.out]; go_num, by rw [HS.out]; show Own _ _ _ _ (bv (vals ++ [true])); rw [bv_append]; exact hO3, (HK.out.alloc _).grown hg2 (fun j hj hl => by have := (HO2.out.lt j hj).1; omega)⟩)
            clear hO3 hg2 hat2 HNew HOw
            go_wp2_with fail
            go_roundw
            case rel => exact HR2.out
            case measure => simp [intOf]; omega
          | false =>
            go_wp2_with (at_builtin; refine wpList_append1_at rfl _ _ 25 4 rfl Tryz.underlying25 HI.out rfl HOw.out rfl ⟨wp.heap.size, 0, none⟩ (.bool false) rfl (HNew.out.cell rfl) rfl ?d1 ?d2 ?d3 ?_)
            case d1 => rw [bv_length, HLn.out]; omega
            case d2 => rw [bv_length, HLn.out]; unfold maxLen; omega
            case d3 => have := HKs.out; simp; omega
            intro v' w2 hO3 hg2 hat2
            have HR2 := Lib.hid (show ∃ k' : Nat, Value.int .i64 ((k : Int) + 1) = .int .i64 k' ∧ k' ≤ n ∧ Value.int .i64 ((cn : Int) + 1) = .int .i64 ((valsK N ins k').2 : Int) ∧ Own w2 w.heap.size 4 v' (bv (valsK N ins k').1) ∧ Kp (fun _ => False) w w2 from
              ⟨k + 1, by go_num, by omega, by rw [HS.out]; go_num, by rw [HS.out]; show Own _ _ _ _ (bv (vals ++ [false])); rw [bv_append]; exact hO3, (HK.out.alloc _).grown hg2 (fun j hj hl => by have := (HO2.out.lt j hj).1; omega)⟩)
            clear hO3 hg2 hat2 HNew HOw
            go_wp2_with fail
            go_roundw
            case rel => exact HR2.out
            case measure => simp [intOf]; omega
        · have c1 : decide ((cn : Int) < (m : Int)) = false := decide_eq_false (by omega)
          have hx : vb ins cn = false := vb_far (by rw [HIm.out]; omega)
          rw [hx] at hS
          have HS := Lib.hid hS
          have HNew := Lib.hid (Blk.new wp #[.bool false] 4)
          have HOw := Lib.hid (HO2.out.alloc (.cells #[.bool false] 4))
          clear hx hS
          go_wp2_with (at_builtin; refine wpList_append1_at rfl _ _ 25 4 rfl Tryz.underlying25 HI.out rfl HOw.out rfl ⟨wp.heap.size, 0, none⟩ (.bool false) rfl (HNew.out.cell rfl) rfl ?d1 ?d2 ?d3 ?_)
          case d1 => rw [bv_length, HLn.out]; omega
          case d2 => rw [bv_length, HLn.out]; unfold maxLen; omega
          case d3 => have := HKs.out; simp; omega
          intro v' w2 hO3 hg2 hat2
          have HR2 := Lib.hid (show ∃ k' : Nat, Value.int .i64 ((k : Int) + 1) = .int .i64 k' ∧ k' ≤ n ∧ Value.int .i64 ((cn : Int) + 1) = .int .i64 ((valsK N ins k').2 : Int) ∧ Own w2 w.heap.size 4 v' (bv (valsK N ins k').1) ∧ Kp (fun _ => False) w w2 from
            ⟨k + 1, by go_num, by omega, by rw [HS.out]; go_num, by rw [HS.out]; show Own _ _ _ _ (bv (vals ++ [false])); rw [bv_append]; exact hO3, (HK.out.alloc _).grown hg2 (fun j hj hl => by have := (HO2.out.lt j hj).1; omega)⟩)
          clear hO3 hg2 hat2 HNew HOw
          go_wp2_with fail
          go_roundw
          case rel => exact HR2.out
          case measure => simp [intOf]; omega
      · rw [if_neg hneg] at hS
        have q1 : decide (x1 < 0) = false := decide_eq_false hneg
        have hgg : 0 ≤ x1 ∧ x1 ≤ 2 * (k : Int) + 1 ∧ 0 ≤ x2 ∧ x2 ≤ 2 * (k : Int) + 1 := hg.resolve_left hneg
        obtain ⟨av, cv, ev, lv, mv, -, hrv⟩ := HO2.out.form
        rw [bv_length, HLn.out] at ev lv
        subst ev
        have HA1 := Lib.hid (ref07_Of av (k + 1) cv vals x1 wp hrv HLn.out (by omega) hgg.1 (by omega))
        have HA2 := Lib.hid (ref07_Of av (k + 1) cv vals x2 wp hrv HLn.out (by omega) hgg.2.2.1 (by omega))
        obtain ⟨r1, hr1⟩ : ∃ x, litN vals x1 = x := ⟨_, rfl⟩
        obtain ⟨r2, hr2⟩ : ∃ x, litN vals x2 = x := ⟨_, rfl⟩
        rw [hr1] at HA1 hS
        rw [hr2] at HA2 hS
        obtain ⟨rr, hrr⟩ : ∃ x, (r1 && r2) = x := ⟨_, rfl⟩
        rw [hrr] at hS
        have HS := Lib.hid hS
        have HRR := Lib.hid hrr
        have HNew := Lib.hid (Blk.new wp #[.bool rr] 4)
        have HOw := Lib.hid (HO2.out.alloc (.cells #[.bool rr] 4))
        have HFin := Lib.hid (show ∀ v' w2, Own w2 w.heap.size 4 v' (bv vals ++ [.bool rr]) → (wp.alloc (.cells #[.bool rr] 4)).grownBy w2 (Value.slice av (k + 1) cv).ownBlock → ∃ k' : Nat, Value.int .i64 ((k : Int) + 1) = .int .i64 k' ∧ k' ≤ n ∧ Value.int .i64 (cn : Int) = .int .i64 ((valsK N ins k').2 : Int) ∧ Own w2 w.heap.size 4 v' (bv (valsK N ins k').1) ∧ Kp (fun _ => False) w w2 from fun v' w2 hO3 hg2 =>
          ⟨k + 1, by go_num, by omega, by rw [HS.out], by rw [HS.out]; show Own _ _ _ _ (bv (vals ++ [rr])); rw [bv_append]; exact hO3, (HK.out.alloc _).grown hg2 (fun j hj hl => by have := (HO2.out.lt j hj).1; omega)⟩)
        clear hr1 hr2 hrr hS hgg hg hrv
        cases r1 with
        | true =>
          obtain rfl : rr = r2 := by rw [← HRR.out]; rfl
          cases rr with
          | true =>
            go_wp2_with (first | (go_at_call 23; with_reducible refine Calls.mono HA1.out ?_; rintro e w2 ⟨rfl, rfl⟩) | (go_at_call 23; with_reducible refine Calls.mono HA2.out ?_; rintro e w2 ⟨rfl, rfl⟩) | (at_builtin; refine wpList_append1_at rfl _ _ 25 4 rfl Tryz.underlying25 HI.out rfl HOw.out rfl ⟨wp.heap.size, 0, none⟩ (.bool true) rfl (HNew.out.cell rfl) rfl ?d1 ?d2 ?d3 ?_))
            case d1 => rw [bv_length, HLn.out]; omega
            case d2 => rw [bv_length, HLn.out]; unfold maxLen; omega
            case d3 => have := HKs.out; simp; omega
            intro v' w2 hO3 hg2 hat2
            have HR2 := Lib.hid (HFin.out v' w2 hO3 hg2)
            clear hO3 hg2 hat2 HNew HOw HFin
            go_wp2_with fail
            go_roundw
            case rel => exact HR2.out
            case measure => simp [intOf]; omega
          | false =>
            go_wp2_with (first | (go_at_call 23; with_reducible refine Calls.mono HA1.out ?_; rintro e w2 ⟨rfl, rfl⟩) | (go_at_call 23; with_reducible refine Calls.mono HA2.out ?_; rintro e w2 ⟨rfl, rfl⟩) | (at_builtin; refine wpList_append1_at rfl _ _ 25 4 rfl Tryz.underlying25 HI.out rfl HOw.out rfl ⟨wp.heap.size, 0, none⟩ (.bool false) rfl (HNew.out.cell rfl) rfl ?d1 ?d2 ?d3 ?_))
            case d1 => rw [bv_length, HLn.out]; omega
            case d2 => rw [bv_length, HLn.out]; unfold maxLen; omega
            case d3 => have := HKs.out; simp; omega
            intro v' w2 hO3 hg2 hat2
            have HR2 := Lib.hid (HFin.out v' w2 hO3 hg2)
            clear hO3 hg2 hat2 HNew HOw HFin
            go_wp2_with fail
            go_roundw
            case rel => exact HR2.out
            case measure => simp [intOf]; omega
        | false =>
          obtain rfl : rr = false := by rw [← HRR.out]; rfl
          go_wp2_with (first | (go_at_call 23; with_reducible refine Calls.mono HA1.out ?_; rintro e w2 ⟨rfl, rfl⟩) | (at_builtin; refine wpList_append1_at rfl _ _ 25 4 rfl Tryz.underlying25 HI.out rfl HOw.out rfl ⟨wp.heap.size, 0, none⟩ (.bool false) rfl (HNew.out.cell rfl) rfl ?d1 ?d2 ?d3 ?_))
          case d1 => rw [bv_length, HLn.out]; omega
          case d2 => rw [bv_length, HLn.out]; unfold maxLen; omega
          case d3 => have := HKs.out; simp; omega
          intro v' w2 hO3 hg2 hat2
          have HR2 := Lib.hid (HFin.out v' w2 hO3 hg2)
          clear hO3 hg2 hat2 HNew HOw HFin
          go_wp2_with fail
          go_roundw
          case rel => exact HR2.out
          case measure => simp [intOf]; omega
    · obtain rfl : k = n := by omega
      have HE := Lib.hid (show Own wp w.heap.size 4 u5 (bv (valsOf N ins)) from by unfold valsOf; rw [HN.out]; exact HO.out)
      go_wp2_with fail
      go_ret
      exact ⟨_, rfl, HE.out, HK.out⟩

end Go.Proofs.YthconjhldjaldaaGreatDoor

/-
  latchetlaw22.Few, latchetlaw28.Few, latchetref27.All, Ins.
-/
namespace Go.Proofs.YthconjhldjaldaaGreatDoor
open Go.RowKit

/-- few clauses, and few lines -/
def FewK (m : Nat) (q : Int) (K : List (List Int)) : Prop := (m : Int) ≤ q ∧ ∀ d ∈ K, d.length ≤ 20
/-- what is told is so -/
def TellR (p : Bool → Prop) (e : Ending) : Prop := ∃ b : Bool, e = .returned (.bool b) ∧ p b

set_option maxRecDepth 100000 in
set_option maxHeartbeats 2000000 in
theorem law22_Few (a : Option Addr) (m c : Nat) (K : List (List Int)) (q : Int) (w : World) (hK : Cls w a m K) (hm : m ≤ 9223372036854775807) :
    Calls Tryz.prog 7 #[.slice a m c, .int .i64 q] w fun e w' => TellR (fun b => b = true ↔ FewK m q K) e ∧ w = w' := by
  have HK := Lib.hid hK
  clear hK
  go_enter Tryz.func7, Tryz.ntmps7
  go_wp2_with fail
  go_loop [5] (fun v5 => ∃ k : Nat, v5 = .int .i64 (k : Int) ∧ k ≤ m ∧ ∀ j, j < k → (kc K j).length ≤ 20) (fun v5 => m - (intOf v5).toNat)
  case atStart => exact ⟨0, rfl, Nat.zero_le _, fun j hj => absurd hj (Nat.not_lt_zero j)⟩
  case round =>
    obtain ⟨k, rfl, hk, hG⟩ := hrel
    have HG := Lib.hid hG
    clear hG
    by_cases hlt : k < m
    · obtain ⟨b, off, dd, cc, rfl, hcell, -⟩ := HK.out.at hlt
      obtain ⟨y, hy⟩ : ∃ y, (kc K k).length = y := ⟨_, rfl⟩
      rw [hy] at hcell
      have HY := Lib.hid hy
      have i0 : (0 : Int) ≤ (k : Int) := by omega
      have i1 : (k : Int) < (m : Int) := by omega
      clear hy
      by_cases h2 : 20 < y
      · have d1 : decide (20 < (y : Int)) = true := by simp; omega
        go_wp2_with fail
        go_ret
        exact ⟨⟨false, rfl, ⟨fun h => (by cases h), fun h => absurd (h.2 _ (kc_mem (by rw [HK.out.len]; exact hlt))) (by rw [HY.out]; omega)⟩⟩, rfl⟩
      · have d1 : decide (20 < (y : Int)) = false := by simp; omega
        go_wp2_with fail
        go_round
        case rel => exact ⟨k + 1, by go_num, hlt, fun j hj => by
          by_cases e : j = k
          · rw [e, HY.out]; omega
          · exact HG.out j (by omega)⟩
        case measure => simp [intOf]; omega
    · have hk' : k = m := by omega
      have hno : decide ((k : Int) < (m : Int)) = false := by simp; omega
      have HZ : Hid (∀ d ∈ K, d.length ≤ 20) := Lib.hid (fun d hd => by
        obtain ⟨j, hj, rfl⟩ := mem_kc hd
        exact HG.out j (by rw [HK.out.len] at hj; omega))
      go_wp2_with fail
      exact bodyPost_ret (v := .bool (decide ((m : Int) ≤ q))) (by simp [results, Tryz.results7, go_sem]) rfl ⟨⟨_, rfl, ⟨fun h => ⟨by simpa using h, HZ.out⟩, fun h => by simpa using h.1⟩⟩, rfl⟩

set_option maxRecDepth 100000 in
set_option maxHeartbeats 2000000 in
theorem ref27_All (av : Option Addr) (mv cv : Nat) (vals : List Bool) (a : Option Addr) (m c : Nat) (l : List Int) (w : World) (hrv : RowAt w av (bv vals)) (hv : vals.length = mv) (hmv : mv ≤ 100000000) (hr : RowAt w a (iv l)) (hl : l.length = m) (hm : m ≤ 1000000) (hk : ∀ x ∈ l, 0 ≤ x ∧ (x / 2).toNat < mv) :
    Calls Tryz.prog 13 #[.slice av mv cv, .slice a m c] w fun e w' => e = .returned (.bool (l.all (litN vals))) ∧ w = w' := by
  have HOf := Lib.hid (fun x (hx : x ∈ l) => ref07_Of av mv cv vals x w hrv hv hmv (hk x hx).1 (hk x hx).2)
  have HR := Lib.hid hr
  have HM := Lib.hid hl
  clear hrv hv hr hl hk
  go_enter Tryz.func13, Tryz.ntmps13
  go_wp2_with fail
  go_loop [5] (fun v5 => ∃ k : Nat, v5 = .int .i64 (k : Int) ∧ k ≤ m ∧ ∀ j, j < k → litN vals (gi l j) = true) (fun v5 => m - (intOf v5).toNat)
  case atStart => exact ⟨0, rfl, Nat.zero_le _, fun j hj => absurd hj (Nat.not_lt_zero j)⟩
  case round =>
    obtain ⟨k, rfl, hk, hG⟩ := hrel
    have HG := Lib.hid hG
    clear hG
    by_cases hlt : k < m
    · have hkl : k < l.length := by rw [HM.out]; exact hlt
      obtain ⟨b, off, rfl, hcell⟩ := HR.out k _ (iv_at hkl)
      have HMem := Lib.hid (gi_mem hkl)
      have HO := Lib.hid (HOf.out _ (gi_mem hkl))
      obtain ⟨x, hx⟩ : ∃ x, gi l k = x := ⟨_, rfl⟩
      rw [hx] at hcell HO HMem
      have HX := Lib.hid hx
      obtain ⟨y, hy⟩ : ∃ y, litN vals x = y := ⟨_, rfl⟩
      rw [hy] at HO
      have HY := Lib.hid hy
      have i0 : (0 : Int) ≤ (k : Int) := by omega
      have i1 : (k : Int) < (m : Int) := by omega
      clear hx hy hkl
      cases y with
      | true =>
        go_wp2_with (go_at_call 23; refine HO.out.mono ?_; rintro e w' ⟨rfl, rfl⟩)
        go_round
        case rel => exact ⟨k + 1, by go_num, hlt, fun j hj => by
          by_cases e : j = k
          · rw [e, HX.out]; exact HY.out
          · exact HG.out j (by omega)⟩
        case measure => simp [intOf]; omega
      | false =>
        go_wp2_with (go_at_call 23; refine HO.out.mono ?_; rintro e w' ⟨rfl, rfl⟩)
        have e : l.all (litN vals) = false := by rw [List.all_eq_false]; exact ⟨x, HMem.out, by rw [HY.out]; decide⟩
        go_ret
        exact ⟨by rw [e]; rfl, rfl⟩
    · have hk' : k = m := by omega
      have e : l.all (litN vals) = true := by
        rw [List.all_eq_true]
        intro x hx
        obtain ⟨j, hj, rfl⟩ := mem_gi hx
        exact HG.out j (by rw [HM.out] at hj; omega)
      subst hk'
      have hno : decide ((k : Int) < (k : Int)) = false := by simp
      go_wp2_with fail
      go_ret
      first | exact ⟨rfl, rfl⟩ | exact ⟨by rw [e]; rfl, rfl⟩

end Go.Proofs.YthconjhldjaldaaGreatDoor

/-
  latchetref07.Check, latchetlaw07.Small: whether a net is good, and of few nodes.
-/
namespace Go.Proofs.YthconjhldjaldaaGreatDoor
open Go.RowKit

/-- a node that is good -/
def GoodJ (N : List (Int × Int)) (j : Nat) : Prop := (g2 N j).1 < 0 ∨ (0 ≤ (g2 N j).1 ∧ (g2 N j).1 ≤ 2 * (j : Int) + 1 ∧ 0 ≤ (g2 N j).2 ∧ (g2 N j).2 ≤ 2 * (j : Int) + 1)

set_option maxRecDepth 100000 in
set_option maxHeartbeats 4000000 in
theorem ref07_Check (an : Option Addr) (n cn : Nat) (N : List (Int × Int)) (w : World) (hr : RowAt w an (N.map pr2).flatten) (hnn : N.length = n) (hn : n ≤ 1000) :
    Calls Tryz.prog 18 #[.slice an n cn] w fun e w' => ∃ c : Int, e = .returned (.int .i64 c) ∧ ((c == 0) = true ↔ GoodN N) ∧ w = w' := by
  have HR := Lib.hid hr
  have HN := Lib.hid hnn
  clear hr hnn
  have d9 : decide (1048576 < (n : Int)) = false := by simp; omega
  go_enter Tryz.func18, Tryz.ntmps18
  go_wp2_with fail
  go_loop [3] (fun v3 => ∃ k : Nat, v3 = .int .i64 (k : Int) ∧ k ≤ n ∧ ∀ j, j < k → GoodJ N j) (fun v3 => n - (intOf v3).toNat)
  case atStart => exact ⟨0, rfl, Nat.zero_le _, fun j hj => absurd hj (Nat.not_lt_zero j)⟩
  case round =>
    obtain ⟨k, rfl, hk, hG⟩ := hrel
    have HG := Lib.hid hG
    clear hG
    by_cases hlt : k < n
    · have hkl : k < N.length := by rw [HN.out]; exact hlt
      obtain ⟨b, off, rfl, e0, e1⟩ := pr2_cells HR.out hkl
      have HJ := Lib.hid (show GoodJ N k ↔ _ from Iff.rfl)
      have HNo := Lib.hid (fun (h : ¬ GoodJ N k) => show ¬ GoodN N from fun hg => h (hg k hkl))
      have HYes := Lib.hid (fun (h : GoodJ N k) j (hj : j < k + 1) => show GoodJ N j from by
        by_cases e : j = k
        · rw [e]; exact h
        · exact HG.out j (by omega))
      unfold GoodJ at HJ
      obtain ⟨x, hx⟩ : ∃ x, (g2 N k).1 = x := ⟨_, rfl⟩
      obtain ⟨y, hy⟩ : ∃ y, (g2 N k).2 = y := ⟨_, rfl⟩
      rw [hx] at e0
      rw [hy] at e1
      have HX := Lib.hid hx
      have HY := Lib.hid hy
      have i0 : (0 : Int) ≤ (k : Int) := by omega
      have i1 : (k : Int) < (n : Int) := by omega
      have w2 : IntKind.i64.wrap (2 * (k : Int)) = 2 * (k : Int) := by rw [IntKind.wrap_i64]; omega
      have w3 : IntKind.i64.wrap (2 * (k : Int) + 1) = 2 * (k : Int) + 1 := by rw [IntKind.wrap_i64]; omega
      clear hx hy hkl HJ
      by_cases h1 : x < 0
      · have d1 : decide (0 ≤ x) = false := by simp; omega
        have HZ := Lib.hid (HYes.out (.inl (by rw [HX.out]; exact h1)))
        clear h1 HYes HNo
        go_wp2_with fail
        go_round
        case rel => exact ⟨k + 1, by go_num, hlt, HZ.out⟩
        case measure => simp [intOf]; omega
      · have d1 : decide (0 ≤ x) = true := by simp; omega
        by_cases h2 : 2 * (k : Int) + 1 < x
        · have d2 : decide (2 * (k : Int) + 1 < x) = true := by simp [h2]
          have HZ := Lib.hid (HNo.out (fun h => by unfold GoodJ at h; rw [HX.out] at h; omega))
          clear h1 h2 HYes HNo
          go_wp2_with fail
          go_ret
          exact ⟨5, rfl, ⟨fun h => by simp at h, fun h => absurd h HZ.out⟩, rfl⟩
        · have d2 : decide (2 * (k : Int) + 1 < x) = false := by simp; omega
          by_cases h3 : y < 0
          · have d3 : decide (y < 0) = true := by simp [h3]
            have HZ := Lib.hid (HNo.out (fun h => by unfold GoodJ at h; rw [HX.out, HY.out] at h; omega))
            clear h1 h2 h3 HYes HNo
            go_wp2_with fail
            go_ret
            exact ⟨5, rfl, ⟨fun h => by simp at h, fun h => absurd h HZ.out⟩, rfl⟩
          · have d3 : decide (y < 0) = false := by simp; omega
            by_cases h4 : 2 * (k : Int) + 1 < y
            · have d4 : decide (2 * (k : Int) + 1 < y) = true := by simp [h4]
              have HZ := Lib.hid (HNo.out (fun h => by unfold GoodJ at h; rw [HX.out, HY.out] at h; omega))
              clear h1 h2 h3 h4 HYes HNo
              go_wp2_with fail
              go_ret
              exact ⟨5, rfl, ⟨fun h => by simp at h, fun h => absurd h HZ.out⟩, rfl⟩
            · have d4 : decide (2 * (k : Int) + 1 < y) = false := by simp; omega
              have HZ := Lib.hid (HYes.out (.inr (by rw [HX.out, HY.out]; omega)))
              clear h1 h2 h3 h4 HYes HNo
              go_wp2_with fail
              go_round
              case rel => exact ⟨k + 1, by go_num, hlt, HZ.out⟩
              case measure => simp [intOf]; omega
    · have hk' : k = n := by omega
      have HZ : Hid (GoodN N) := Lib.hid (fun j hj => HG.out j (by rw [HN.out] at hj; omega))
      subst hk'
      have hno : decide ((k : Int) < (k : Int)) = false := by simp
      go_wp2_with fail
      go_ret
      exact ⟨0, rfl, ⟨fun _ => HZ.out, fun _ => rfl⟩, rfl⟩

set_option maxRecDepth 100000 in
theorem law07_Small (an : Option Addr) (n cn : Nat) (N : List (Int × Int)) (m : Int) (w : World) (hr : RowAt w an (N.map pr2).flatten) (hnn : N.length = n) (hm : m ≤ 1000) :
    Calls Tryz.prog 5 #[.slice an n cn, .int .i64 m] w fun e w' => ∃ b : Bool, e = .returned (.bool b) ∧ (b = true ↔ (n : Int) ≤ m ∧ GoodN N) ∧ w = w' := by
  by_cases hle : (n : Int) ≤ m
  · have HC := Lib.hid (ref07_Check an n cn N w hr hnn (by omega))
    have HL := Lib.hid hle
    have d1 : decide ((n : Int) ≤ m) = true := by simp [hle]
    clear hr hnn hm
    go_enter Tryz.func5, Tryz.ntmps5
    go_wp2_with (go_at_call 18; refine HC.out.mono ?_; rintro e w' ⟨c, rfl, hc, rfl⟩; have HCc := Lib.hid hc; clear hc)
    go_ret
    exact ⟨_, rfl, ⟨fun h => ⟨HL.out, HCc.out.1 h⟩, fun h => HCc.out.2 h.2⟩, rfl⟩
  · have d1 : decide ((n : Int) ≤ m) = false := by simp; omega
    have HL := Lib.hid hle
    clear hr hnn hm
    go_enter Tryz.func5, Tryz.ntmps5
    go_wp2_with fail
    go_ret
    exact .inl ⟨rfl, fun h => absurd h (Int.not_le.2 HL.out), rfl⟩

end Go.Proofs.YthconjhldjaldaaGreatDoor

/-
  latchetref03.Lit; latchetref02.Not.
-/
namespace Go.Proofs.YthconjhldjaldaaGreatDoor
open Go.RowKit

theorem ref03_value (a : Int) (ha : a = 0 ∨ a = 1 ∨ a = 2) (w : World) : Calls Tryz.prog 43 #[.int .i64 a] w fun e w' => e = .returned (.int .i64 a) ∧ w = w' := by
  rcases ha with rfl | rfl | rfl
  all_goals
    go_enter Tryz.func43, Tryz.ntmps43
    go_wp2_with fail
    go_ret
    exact ⟨rfl, rfl⟩

theorem ref03_Not (a : Int) (ha : a = 0 ∨ a = 1 ∨ a = 2) (w : World) : Calls Tryz.prog 44 #[.int .i64 a] w fun e w' => e = .returned (.int .i64 (flp a)) ∧ w = w' := by
  rcases ha with rfl | rfl | rfl
  · rw [show flp 0 = 1 by rfl]
    go_enter Tryz.func44, Tryz.ntmps44
    go_wp2_with fail
    go_ret
    exact ⟨rfl, rfl⟩
  · rw [show flp 1 = 0 by rfl]
    go_enter Tryz.func44, Tryz.ntmps44
    go_wp2_with fail
    go_ret
    exact ⟨rfl, rfl⟩
  · rw [show flp 2 = 2 by rfl]
    go_enter Tryz.func44, Tryz.ntmps44
    go_wp2_with fail
    go_ret
    exact ⟨rfl, rfl⟩

theorem ref02_Not {x : Int} (hg : gl x = true) (w : World) : Calls Tryz.prog 40 #[.int .i64 x] w fun e w' => e = .returned (.int .i64 (ng x)) ∧ w = w' := by
  have h : 0 ≤ x ∧ x ≤ 33554433 := by simpa [gl] using hg
  have HG := Lib.hid ((ref02_Good x w).mono (R' := fun e w' => e = .returned (.bool true) ∧ w = w') (by rintro e w' ⟨rfl, h⟩; rw [hg]; exact ⟨rfl, h⟩))
  have tm : x.tmod 2 = x % 2 := Int.tmod_eq_emod_of_nonneg h.1
  by_cases e : x % 2 = 1
  · have HN := Lib.hid (show ng x = x - 1 by unfold ng; rw [if_pos e])
    have hw : IntKind.i64.wrap (x - 1) = x - 1 := by rw [IntKind.wrap_i64]; omega
    rw [e] at tm
    rw [HN.out]
    clear hg h
    go_enter Tryz.func40, Tryz.ntmps40
    go_wp2_with (go_at_call 42; refine HG.out.mono ?_; rintro e w' ⟨rfl, rfl⟩)
    go_ret
    exact ⟨rfl, rfl⟩
  · have HN := Lib.hid (show ng x = x + 1 by unfold ng; rw [if_neg e])
    have hw : IntKind.i64.wrap (x + 1) = x + 1 := by rw [IntKind.wrap_i64]; omega
    have e0 : x % 2 = 0 := by omega
    rw [e0] at tm
    rw [HN.out]
    clear hg h e
    go_enter Tryz.func40, Tryz.ntmps40
    go_wp2_with (go_at_call 42; refine HG.out.mono ?_; rintro e w' ⟨rfl, rfl⟩)
    go_ret
    exact ⟨rfl, rfl⟩

set_option maxRecDepth 100000 in
set_option maxHeartbeats 4000000 in
theorem ref03_Lit (a : Option Addr) (m c : Nat) (V : List Int) (n : Nat) (x : Int) (w : World) (hr : RowAt w a (iv V)) (hV : TV n V) (hm : n + 1 = m) (hn : n ≤ 16777216) (hx : KnL n x) :
    Calls Tryz.prog 24 #[.slice a m c, .int .i64 x] w fun e w' => e = .returned (.int .i64 (vlit V x)) ∧ w = w' := by
  have hg := hx.gl hn
  have HGd := Lib.hid ((ref02_Good x w).mono (R' := fun e w' => e = .returned (.bool true) ∧ w = w') (by rintro e w' ⟨rfl, h⟩; rw [hg]; exact ⟨rfl, h⟩))
  have hk := hx
  unfold KnL at hk
  obtain ⟨q, hq⟩ : ∃ q : Nat, x / 2 = (q : Int) := ⟨(x / 2).toNat, by omega⟩
  have hq2 : (x / 2).toNat = q := by omega
  have hqm : q < m := by omega
  have hql : q < V.length := by rw [hV.len]; omega
  obtain ⟨b, off, rfl, hc⟩ := hr q _ (iv_at hql)
  have hz := hV.zero
  have hall := hV.all q (by omega)
  obtain ⟨y, hy⟩ : ∃ y, gi V q = y := ⟨_, rfl⟩
  have HR := Lib.hid (show vlit V x = if x % 2 = 1 then flp y else y by unfold vlit; rw [hq2, hy])
  rw [hy] at hc hall
  have HQ := Lib.hid (show q = 0 → y = 0 from fun e => by rw [← hy, e, hz])
  have HVl := Lib.hid (ref03_value y hall w)
  have HNt := Lib.hid (ref03_Not y hall w)
  have tq : x.tdiv 2 = (q : Int) := by rw [Int.tdiv_eq_ediv_of_nonneg hk.1]; exact hq
  have wq : IntKind.i64.wrap (q : Int) = (q : Int) := by rw [IntKind.wrap_i64]; omega
  have tm : x.tmod 2 = x % 2 := Int.tmod_eq_emod_of_nonneg hk.1
  have hmod : x % 2 = 1 ∨ x % 2 = 0 := by omega
  rw [HR.out]
  clear hr hV hx hg hk hq2 hql hz hy HR hall
  have H0 := Lib.hid (ref03_Not 0 (.inl rfl) w)
  rcases hmod with e | e
  · rw [if_pos e]
    rw [e] at tm
    by_cases h0 : q = 0
    · subst h0
      have := HQ.out rfl
      subst this
      go_enter Tryz.func24, Tryz.ntmps24
      go_wp2_with (first
        | (go_at_call 42; refine HGd.out.mono ?_; rintro e w' ⟨rfl, rfl⟩)
        | (go_at_call 44; refine H0.out.mono ?_; rintro e w' ⟨rfl, rfl⟩))
      go_ret
      exact ⟨rfl, rfl⟩
    · have q0 : ((q : Int) == 0) = false := by simp; omega
      have q1 : (0 : Int) < (q : Int) := by omega
      have q2 : (q : Int) < (m : Int) := by omega
      have q3 : (0 : Int) ≤ (q : Int) := by omega
      clear h0
      go_enter Tryz.func24, Tryz.ntmps24
      go_wp2_with (first
        | (go_at_call 42; refine HGd.out.mono ?_; rintro e w' ⟨rfl, rfl⟩)
        | (go_at_call 43; refine HVl.out.mono ?_; rintro e w' ⟨rfl, rfl⟩)
        | (go_at_call 44; refine HNt.out.mono ?_; rintro e w' ⟨rfl, rfl⟩))
      go_ret
      exact ⟨rfl, rfl⟩
  · rw [if_neg (by omega)]
    rw [e] at tm
    by_cases h0 : q = 0
    · subst h0
      have := HQ.out rfl
      subst this
      go_enter Tryz.func24, Tryz.ntmps24
      go_wp2_with (go_at_call 42; refine HGd.out.mono ?_; rintro e w' ⟨rfl, rfl⟩)
      go_ret
      exact ⟨rfl, rfl⟩
    · have q0 : ((q : Int) == 0) = false := by simp; omega
      have q1 : (0 : Int) < (q : Int) := by omega
      have q2 : (q : Int) < (m : Int) := by omega
      have q3 : (0 : Int) ≤ (q : Int) := by omega
      clear h0
      go_enter Tryz.func24, Tryz.ntmps24
      go_wp2_with (first
        | (go_at_call 42; refine HGd.out.mono ?_; rintro e w' ⟨rfl, rfl⟩)
        | (go_at_call 43; refine HVl.out.mono ?_; rintro e w' ⟨rfl, rfl⟩))
      go_ret
      exact ⟨rfl, rfl⟩

end Go.Proofs.YthconjhldjaldaaGreatDoor

/-
  latchetref20.Value, latchetref20.Unit.
-/
namespace Go.Proofs.YthconjhldjaldaaGreatDoor
open Go.RowKit

/-- the literal that is left, or -1 -/
def Unit20 (V c : List Int) (e : Ending) : Prop :=
  (∃ l, OneL V c l ∧ e = .returned (.int .i64 l)) ∨ ((∀ l, ¬ OneL V c l) ∧ e = .returned (.int .i64 (-1)))

set_option maxRecDepth 100000 in
set_option maxHeartbeats 4000000 in
theorem ref20_Value (av : Option Addr) (mv cv : Nat) (V : List Int) (n : Nat) (a : Option Addr) (m cc : Nat) (c : List Int) (w : World) (hrv : RowAt w av (iv V)) (hV : TV n V) (hmv : n + 1 = mv) (hn : n ≤ 900000) (hr : RowAt w a (iv c)) (hm : c.length = m) (hm2 : m ≤ 1000000) (hc : KnC n c) :
    Calls Tryz.prog 12 #[.slice av mv cv, .slice a m cc] w fun e w' => e = .returned (.int .i64 (clv V c)) ∧ w = w' := by
  have HVal := Lib.hid (fun x hx => ref03_Lit av mv cv V n x w hrv hV hmv (by omega) hx)
  have HR := Lib.hid hr
  have HC := Lib.hid hc
  have HL := Lib.hid hm
  have HV := Lib.hid hV
  clear hV hr hm hc hrv
  go_enter Tryz.func12, Tryz.ntmps12
  go_wp2_with fail
  go_loop [5, 6] (fun v5 v10 => ∃ (k : Nat) (s : Int), k ≤ m ∧ v10 = .int .i64 k ∧ v5 = .int .i64 s ∧ ClvS V c k s) (fun _ v10 => m - (intOf v10).toNat)
  case atStart => exact ⟨0, 0, Nat.zero_le _, rfl, rfl, .inl ⟨rfl, fun i hi => absurd hi (Nat.not_lt_zero i)⟩⟩
  case round =>
    obtain ⟨k, s, hk, rfl, rfl, hS⟩ := hrel
    have HS := Lib.hid hS
    clear hS
    by_cases hlt : k < m
    · have hkl : k < c.length := by rw [HL.out]; exact hlt
      obtain ⟨b, off, rfl, hcell⟩ := HR.out k _ (iv_at hkl)
      have hx := HC.out _ (gi_mem hkl)
      have HVx := Lib.hid (HVal.out _ hx)
      have hy := HV.out.vlit hx
      have HZ := Lib.hid (fun e => HS.out.zero e)
      have HF := Lib.hid (fun e => HS.out.free e)
      have HD1 := Lib.hid (fun (e : vlit V (gi c k) = 1) => clv_one (gi_mem hkl) e)
      obtain ⟨x, hxx⟩ : ∃ x, gi c k = x := ⟨_, rfl⟩
      simp only [hxx] at hcell HVx hy HZ HF HD1 hx
      obtain ⟨y, hyy⟩ : ∃ y, vlit V x = y := ⟨_, rfl⟩
      simp only [hyy] at HVx hy HZ HF HD1
      have i0 : (0 : Int) ≤ (k : Int) := by omega
      have i1 : (k : Int) < (m : Int) := by omega
      clear hx hxx hyy hkl HS
      rcases hy with rfl | rfl | rfl
      · have HZ1 := Lib.hid (HZ.out rfl)
        clear HZ HF HD1
        go_wp2_with (go_at_call 24; refine HVx.out.mono ?_; rintro e w' ⟨rfl, rfl⟩)
        go_round
        case rel => exact ⟨k + 1, s, hlt, by go_num, rfl, HZ1.out⟩
        case measure => simp [intOf]; omega
      · have HD := Lib.hid (HD1.out rfl)
        clear HZ HF HD1
        go_wp2_with (go_at_call 24; refine HVx.out.mono ?_; rintro e w' ⟨rfl, rfl⟩)
        go_ret
        rw [HD.out]
        exact ⟨rfl, rfl⟩
      · have HF1 := Lib.hid (HF.out rfl)
        clear HZ HF HD1
        go_wp2_with (go_at_call 24; refine HVx.out.mono ?_; rintro e w' ⟨rfl, rfl⟩)
        go_round
        case rel => exact ⟨k + 1, 2, hlt, by go_num, rfl, HF1.out⟩
        case measure => simp [intOf]; omega
    · have hk' : k = m := by omega
      subst hk'
      have HE := Lib.hid (show ClvS V c c.length s by rw [HL.out]; exact HS.out)
      clear HS
      have hno : decide ((k : Int) < (k : Int)) = false := by simp
      go_wp2_with fail
      go_ret
      rw [← HE.out.fin]
      exact ⟨rfl, rfl⟩

set_option maxRecDepth 100000 in
set_option maxHeartbeats 4000000 in
theorem ref20_Unit (av : Option Addr) (mv cv : Nat) (V : List Int) (n : Nat) (a : Option Addr) (m cc : Nat) (c : List Int) (w : World) (hrv : RowAt w av (iv V)) (hV : TV n V) (hmv : n + 1 = mv) (hn : n ≤ 900000) (hr : RowAt w a (iv c)) (hm : c.length = m) (hm2 : m ≤ 1000000) (hc : KnC n c) :
    Calls Tryz.prog 80 #[.slice av mv cv, .slice a m cc] w fun e w' => Unit20 V c e ∧ w = w' := by
  have HVal := Lib.hid (fun x hx => ref03_Lit av mv cv V n x w hrv hV hmv (by omega) hx)
  have HGood := Lib.hid (fun x (hx : KnL n x) => (ref02_Good x w).mono (R' := fun e w' => e = .returned (.bool true) ∧ w = w') (by rintro e w' ⟨rfl, h⟩; rw [hx.gl (by omega)]; exact ⟨rfl, h⟩))
  have HR := Lib.hid hr
  have HC := Lib.hid hc
  have HL := Lib.hid hm
  have HV := Lib.hid hV
  clear hV hr hm hc hrv
  go_enter Tryz.func80, Tryz.ntmps80
  go_wp2_with fail
  go_loop [5, 6] (fun v6 v12 => ∃ (k : Nat) (l : Int) (u : Bool) (s : Int), k ≤ m ∧ v12 = .int .i64 k ∧ v6 = .int .i64 s ∧ ((u = true ∧ s = l ∧ 0 ≤ l) ∨ (u = false ∧ s = -1)) ∧ LeftS V c k l u) (fun _ v12 => m - (intOf v12).toNat)
  case atStart => exact ⟨0, 0, false, -1, Nat.zero_le _, rfl, rfl, .inr ⟨rfl, rfl⟩, .inl ⟨rfl, rfl, fun i hi => absurd hi (Nat.not_lt_zero i)⟩⟩
  case round =>
    obtain ⟨k, l, u, s, hk, rfl, rfl, hs, hS⟩ := hrel
    have HS := Lib.hid hS
    clear hS
    by_cases hlt : k < m
    · have hkl : k < c.length := by rw [HL.out]; exact hlt
      obtain ⟨b, off, rfl, hcell⟩ := HR.out k _ (iv_at hkl)
      have hx := HC.out _ (gi_mem hkl)
      have HVx := Lib.hid (HVal.out _ hx)
      have HGx := Lib.hid (HGood.out _ hx)
      have hy := HV.out.vlit hx
      have hx0 := hx.1
      have HZ := Lib.hid (fun e => HS.out.zero e)
      have HF := Lib.hid (fun e q => HS.out.free e q)
      have HD1 := Lib.hid (fun (e : vlit V (gi c k) = 1) => show ∀ l, ¬ OneL V c l from fun l hl => hl.not_done (.inl ⟨_, gi_mem hkl, e⟩))
      have HD2 := Lib.hid (fun (e : vlit V (gi c k) = 2) (hu : u = true) (hn : gi c k ≠ l) => show ∀ l, ¬ OneL V c l from by
        rcases HS.out with ⟨q, _⟩ | ⟨_, ⟨i, hi, e2⟩, h2, _⟩
        · rw [q] at hu; cases hu
        · exact fun l' hl => hl.not_done (.inr ⟨gi c k, gi_mem hkl, l, by rw [← e2]; exact gi_mem (by omega), hn, e, h2⟩))
      obtain ⟨x, hxx⟩ : ∃ x, gi c k = x := ⟨_, rfl⟩
      simp only [hxx] at hcell HVx hy HZ HF HD1 HD2 hx HGx hx0
      obtain ⟨y, hyy⟩ : ∃ y, vlit V x = y := ⟨_, rfl⟩
      simp only [hyy] at HVx hy HZ HF HD1 HD2
      have i0 : (0 : Int) ≤ (k : Int) := by omega
      have i1 : (k : Int) < (m : Int) := by omega
      clear hx hxx hyy hkl HS
      rcases hy with rfl | rfl | rfl
      · have HZ1 := Lib.hid (HZ.out rfl)
        have HSs := Lib.hid hs
        clear HZ HF HD1 HD2 hs
        go_wp2_with (go_at_call 24; refine HVx.out.mono ?_; rintro e w' ⟨rfl, rfl⟩)
        go_round
        case rel => exact ⟨k + 1, l, u, s, hlt, by go_num, rfl, HSs.out, HZ1.out⟩
        case measure => simp [intOf]; omega
      · have HD := Lib.hid (HD1.out rfl)
        clear HZ HF HD1 HD2 hs
        go_wp2_with (go_at_call 24; refine HVx.out.mono ?_; rintro e w' ⟨rfl, rfl⟩)
        (go_ret; exact ⟨.inr ⟨HD.out, rfl⟩, rfl⟩)
      · rcases hs with ⟨rfl, rfl, hl0⟩ | ⟨rfl, rfl⟩
        · by_cases hne : x = s
          · have HF1 := Lib.hid (HF.out rfl (fun _ => hne))
            have b0 : decide (0 ≤ s) = true := by simp [hl0]
            have b1 : (s == x) = true := by simp [hne]
            have b2 : (s != x) = false := by simp [hne]
            clear HZ HF HD1 HD2 hne
            go_wp2_with (first
              | (go_at_call 24; refine HVx.out.mono ?_; rintro e w' ⟨rfl, rfl⟩)
              | (go_at_call 42; refine HGx.out.mono ?_; rintro e w' ⟨rfl, rfl⟩))
            go_round
            case rel => exact ⟨k + 1, x, true, x, hlt, by go_num, rfl, .inl ⟨rfl, rfl, hx0⟩, HF1.out⟩
            case measure => simp [intOf]; omega
          · have HD := Lib.hid (HD2.out rfl rfl hne)
            have b0 : decide (0 ≤ s) = true := by simp [hl0]
            have b1 : (s == x) = false := by simp; exact fun e => hne e.symm
            have b2 : (s != x) = true := by simp; exact fun e => hne e.symm
            clear HZ HF HD1 HD2 hne
            go_wp2_with (first
              | (go_at_call 24; refine HVx.out.mono ?_; rintro e w' ⟨rfl, rfl⟩)
              | (go_at_call 42; refine HGx.out.mono ?_; rintro e w' ⟨rfl, rfl⟩))
            (go_ret; exact ⟨.inr ⟨HD.out, rfl⟩, rfl⟩)
        · have HF1 := Lib.hid (HF.out rfl (fun q => by cases q))
          clear HZ HF HD1 HD2
          go_wp2_with (first
            | (go_at_call 24; refine HVx.out.mono ?_; rintro e w' ⟨rfl, rfl⟩)
            | (go_at_call 42; refine HGx.out.mono ?_; rintro e w' ⟨rfl, rfl⟩))
          go_round
          case rel => exact ⟨k + 1, x, true, x, hlt, by go_num, rfl, .inl ⟨rfl, rfl, hx0⟩, HF1.out⟩
          case measure => simp [intOf]; omega
    · have hk' : k = m := by omega
      subst hk'
      have HE := Lib.hid (show LeftS V c c.length l u by rw [HL.out]; exact HS.out)
      clear HS
      have hno : decide ((k : Int) < (k : Int)) = false := by simp
      rcases hs with ⟨rfl, rfl, hl0⟩ | ⟨rfl, rfl⟩
      · go_wp2_with fail
        go_ret
        rcases HE.out.unit with ⟨l', h1, h2⟩ | ⟨h1, h2⟩
        · simp at h2
          exact ⟨.inl ⟨l', h1, by rw [← h2]; rfl⟩, rfl⟩
        · simp at h2
      · go_wp2_with fail
        go_ret
        rcases HE.out.unit with ⟨l', h1, h2⟩ | ⟨h1, h2⟩
        · simp at h2
        · exact ⟨.inr ⟨h1, rfl⟩, rfl⟩

end Go.Proofs.YthconjhldjaldaaGreatDoor

/-
  latchetref22: set.
-/
namespace Go.Proofs.YthconjhldjaldaaGreatDoor
open Go.RowKit

set_option maxRecDepth 100000 in
set_option maxHeartbeats 2000000 in
theorem ref22_set {w : World} {base g m cap n : Nat} {V : List Int} (h : Own w base 3 (.slice (some ⟨g, 0, none⟩) m cap) (iv V)) (hV : TV n V) (hm : n + 1 = m) (hn : n ≤ 900000) {x : Int} (hx : KnL n x) :
    Calls Tryz.prog 81 #[.slice (some ⟨g, 0, none⟩) m cap, .int .i64 x] w fun e w' => e = .returned (.tuple #[]) ∧ Own w' base 3 (.slice (some ⟨g, 0, none⟩) m cap) (iv (vset V x)) ∧ Kp (· = g) w w' := by
  have hk := hx
  unfold KnL at hk
  obtain ⟨q, hq⟩ : ∃ q : Nat, x / 2 = (q : Int) := ⟨(x / 2).toNat, by omega⟩
  have hq2 : (x / 2).toNat = q := by omega
  have tq : x.tdiv 2 = (q : Int) := by rw [Int.tdiv_eq_ediv_of_nonneg hk.1]; exact hq
  have wq : IntKind.i64.wrap (q : Int) = (q : Int) := by rw [IntKind.wrap_i64]; omega
  have tm : x.tmod 2 = x % 2 := Int.tmod_eq_emod_of_nonneg hk.1
  have q2 : (q : Int) < (m : Int) := by omega
  have q3 : (0 : Int) ≤ (q : Int) := by omega
  have c0 := h.cell (j := q) (iv_at (l := V) (by rw [hV.len]; omega))
  have f0 := h.free q
  have hmod : x % 2 = 1 ∨ x % 2 = 0 := by omega
  have HS := Lib.hid (fun y => h.set q (.int .i64 y))
  have HVs := Lib.hid (show vset V x = V.set q (if x % 2 = 1 then 0 else 1) by unfold vset; rw [hq2])
  rcases hmod with e | e
  · have HE := Lib.hid (show vset V x = V.set q 0 by rw [HVs.out, if_pos e])
    rw [e] at tm
    clear h hV hx hk hq2 HVs
    go_enter Tryz.func81, Tryz.ntmps81
    go_wp2_with fail
    first | go_end0 | skip
    refine ⟨rfl, ?_, Kp.set w ⟨g, q, none⟩ _⟩
    rw [HE.out, ← iv_set]
    exact HS.out 0
  · have HE := Lib.hid (show vset V x = V.set q 1 by rw [HVs.out, if_neg (by omega)])
    rw [e] at tm
    clear h hV hx hk hq2 HVs
    go_enter Tryz.func81, Tryz.ntmps81
    go_wp2_with fail
    first | go_end0 | skip
    refine ⟨rfl, ?_, Kp.set w ⟨g, q, none⟩ _⟩
    rw [HE.out, ← iv_set]
    exact HS.out 1

end Go.Proofs.YthconjhldjaldaaGreatDoor

/-
  latchetref22: Known, and the clause of a gate.
-/
namespace Go.Proofs.YthconjhldjaldaaGreatDoor
open Go.RowKit

set_option maxRecDepth 100000 in
set_option maxHeartbeats 2000000 in
theorem ref22_Known (an : Option Addr) (n cn : Nat) (a : Option Addr) (m c : Nat) (l : List Int) (w : World) (hn : n ≤ 1000000) (hr : RowAt w a (iv l)) (hl : l.length = m) (hm : m ≤ 9223372036854775807) :
    Calls Tryz.prog 6 #[.slice an n cn, .slice a m c] w fun e w' => e = .returned (.bool (knB n l)) ∧ w = w' := by
  have HR := Lib.hid hr
  have HL := Lib.hid hl
  clear hr hl
  go_enter Tryz.func6, Tryz.ntmps6
  go_wp2_with fail
  go_loop [5] (fun v5 => ∃ k : Nat, k ≤ m ∧ v5 = .int .i64 k ∧ ∀ i, i < k → KnL n (gi l i)) (fun v5 => m - (intOf v5).toNat)
  case atStart => exact ⟨0, Nat.zero_le _, rfl, fun i hi => absurd hi (Nat.not_lt_zero i)⟩
  case round =>
    obtain ⟨k, hk, rfl, hS⟩ := hrel
    have HS := Lib.hid hS
    clear hS
    by_cases hlt : k < m
    · have hkl : k < l.length := by rw [HL.out]; exact hlt
      obtain ⟨b, off, rfl, hcell⟩ := HR.out k _ (iv_at hkl)
      have HM := Lib.hid (gi_mem hkl)
      obtain ⟨x, hx⟩ : ∃ x, gi l k = x := ⟨_, rfl⟩
      rw [hx] at hcell HM
      have HX := Lib.hid hx
      have i0 : (0 : Int) ≤ (k : Int) := by omega
      have i1 : (k : Int) < (m : Int) := by omega
      have wn : IntKind.i64.wrap (2 * (n : Int)) = 2 * (n : Int) := by rw [IntKind.wrap_i64]; omega
      have wn1 : IntKind.i64.wrap (2 * (n : Int) + 1) = 2 * (n : Int) + 1 := by rw [IntKind.wrap_i64]; omega
      clear hx hkl
      have HF : Hid (¬ KnL n x → knB n l = false) := Lib.hid fun hno => by
        rw [← Bool.not_eq_true]
        intro q
        exact hno (knB_iff.1 q x HM.out)
      by_cases h0 : x < 0
      · have d0 : decide (x < 0) = true := by simp [h0]
        have HZ := Lib.hid (HF.out (fun q => by unfold KnL at q; omega))
        clear HF h0
        go_wp2_with fail
        go_ret
        exact ⟨by rw [HZ.out]; rfl, rfl⟩
      · have d0 : decide (x < 0) = false := by simp; omega
        by_cases h1 : 2 * (n : Int) + 1 < x
        · have d1 : decide (2 * (n : Int) + 1 < x) = true := by simp [h1]
          have HZ := Lib.hid (HF.out (fun q => by unfold KnL at q; omega))
          clear HF h0 h1
          go_wp2_with fail
          go_ret
          exact ⟨by rw [HZ.out]; rfl, rfl⟩
        · have d1 : decide (2 * (n : Int) + 1 < x) = false := by simp; omega
          have HZ : Hid (KnL n x) := Lib.hid ⟨by omega, by omega⟩
          clear HF h0 h1
          go_wp2_with fail
          go_round
          case rel => exact ⟨k + 1, hlt, by go_num, fun i hi => by
            by_cases e : i = k
            · rw [e, HX.out]; exact HZ.out
            · exact HS.out i (by omega)⟩
          case measure => simp [intOf]; omega
    · have hk' : k = m := by omega
      subst hk'
      have hno : decide ((k : Int) < (k : Int)) = false := by simp
      have HZ : Hid (knB n l = true) := Lib.hid (knB_iff.2 fun x hx => by
        obtain ⟨i, hi, rfl⟩ := mem_gi hx
        exact HS.out i (by rw [← HL.out]; exact hi))
      go_wp2_with fail
      go_ret
      exact ⟨by rw [HZ.out]; rfl, rfl⟩

/-- a gate's clause, or none -/
def gclO (N : List (Int × Int)) (j k : Nat) : List Int := if (g2 N j).1 < 0 then [] else gcl (2 * (j : Int) + 2) (g2 N j).1 (g2 N j).2 k

set_option maxRecDepth 100000 in
set_option maxHeartbeats 2000000 in
theorem ref22_Clause (an : Option Addr) (n cn : Nat) (N : List (Int × Int)) (w : World) (hr : RowAt w an (N.map pr2).flatten) (hnn : N.length = n) (hn : n ≤ 900000) (hN : GoodN N) {j k : Nat} (hj : j < n) (hk : k < 3) :
    Calls Tryz.prog 82 #[.slice an n cn, .int .i64 (3 * ((j : Int) + 1) + k)] w fun e w' => (∃ a c, e = .returned (.slice a (gclO N j k).length c) ∧ RowAt w' a (iv (gclO N j k)) ∧ (gclO N j k = [] ∨ ∀ p, a = some p → w.heap.size ≤ p.block ∧ p.block < w'.heap.size)) ∧ Kp (fun _ => False) w w' := by
  have hg := hN j (by omega)
  obtain ⟨b, off, rfl, e0, e1⟩ := pr2_cells hr (by omega : j < N.length)
  have HG := Lib.hid (show gclO N j k = if (g2 N j).1 < 0 then [] else gcl (2 * (j : Int) + 2) (g2 N j).1 (g2 N j).2 k from rfl)
  obtain ⟨x1, hx1⟩ : ∃ x, (g2 N j).1 = x := ⟨_, rfl⟩
  obtain ⟨x2, hx2⟩ : ∃ x, (g2 N j).2 = x := ⟨_, rfl⟩
  rw [hx1] at e0 HG hg
  rw [hx2] at e1 HG hg
  obtain ⟨y, hy⟩ : ∃ y : Int, 3 * ((j : Int) + 1) + k = y := ⟨_, rfl⟩
  have ty : y.tdiv 3 = (j : Int) + 1 := by rw [Int.tdiv_eq_ediv_of_nonneg (by omega)]; omega
  have wy : IntKind.i64.wrap ((j : Int) + 1) = (j : Int) + 1 := by rw [IntKind.wrap_i64]; omega
  have my : y.tmod 3 = (k : Int) := by rw [Int.tmod_eq_emod_of_nonneg (by omega)]; omega
  have d0 : decide (y < 3) = false := by simp; omega
  have d1 : decide ((n : Int) < (j : Int) + 1) = false := by simp; omega
  have wj : IntKind.i64.wrap ((j : Int) + 1 - 1) = (j : Int) := by rw [IntKind.wrap_i64]; omega
  have j0 : (0 : Int) ≤ (j : Int) := by omega
  have j1 : (j : Int) < (n : Int) := by omega
  rw [hy]
  clear hx1 hx2 hr hnn hN
  by_cases hneg : x1 < 0
  · have dz : decide (x1 < 0) = true := by simp [hneg]
    rw [if_pos hneg] at HG
    rw [HG.out]
    clear HG hg hy
    go_enter Tryz.func82, Tryz.ntmps82
    go_wp2_with fail
    go_ret
    exact ⟨⟨none, 0, rfl, RowAt.nil _ _, by simp⟩, Kp.refl _ _⟩
  · have dz : decide (x1 < 0) = false := by simp; omega
    rw [if_neg hneg] at HG
    have hg2 := hg.resolve_left hneg
    have w2 : IntKind.i64.wrap (2 * ((j : Int) + 1)) = 2 * (j : Int) + 2 := by rw [IntKind.wrap_i64]; omega
    have w3 : IntKind.i64.wrap (2 * (j : Int) + 2 + 1) = 2 * (j : Int) + 2 + 1 := by rw [IntKind.wrap_i64]; omega
    have HNot1 := Lib.hid (fun u => ref02_Not (x := x1) (KnL.gl (n := n) ⟨by omega, by omega⟩ (by omega)) u)
    have HNot2 := Lib.hid (fun u => ref02_Not (x := x2) (KnL.gl (n := n) ⟨by omega, by omega⟩ (by omega)) u)
    have HO := Lib.hid (fun L (h : L.length ≤ 1000000) => own_new w L h)
    rw [HG.out]
    have fin : ∀ L : List Int, L.length ≤ 1000000 → RowAt (w.alloc (.cells (ints L) 3)) (some ⟨w.heap.size, 0, none⟩) (iv L) := fun L h => by
      obtain ⟨a, c, e, _, _, _, r⟩ := (HO.out L h).form
      simp only [Value.slice.injEq] at e
      rw [e.1]; exact r
    have HFin := Lib.hid fin
    have hsz : ∀ o : Obj, w.heap.size < (w.alloc o).heap.size := fun o => by rw [World.size_alloc]; exact Nat.lt_succ_self _
    have HSz := Lib.hid hsz
    clear HG hg hg2 hy hneg fin hsz
    have hk3 : k = 0 ∨ k = 1 ∨ k = 2 := by omega
    rcases hk3 with rfl | rfl | rfl
    · have m0 : ((0 : Nat) : Int) = 0 := rfl
      rw [m0] at my
      show Calls _ _ _ _ fun e w' => (∃ a c, e = .returned (.slice a (2 : Nat) c) ∧ RowAt w' a (iv [2 * (j : Int) + 2 + 1, x1]) ∧ ([2 * (j : Int) + 2 + 1, x1] = [] ∨ _)) ∧ _
      go_enter Tryz.func82, Tryz.ntmps82
      go_upto_region 4 with fail
      go_quiet (fail)
      go_wp2_with fail
      go_ret
      exact ⟨⟨_, _, rfl, HFin.out _ (by simp), .inr fun p hp => by simp at hp; subst hp; exact ⟨Nat.le_refl _, HSz.out _⟩⟩, ((Kp.refl _ w).drewN _).alloc _⟩
    · have m0 : ((1 : Nat) : Int) = 1 := rfl
      rw [m0] at my
      show Calls _ _ _ _ fun e w' => (∃ a c, e = .returned (.slice a (2 : Nat) c) ∧ RowAt w' a (iv [2 * (j : Int) + 2 + 1, x2]) ∧ ([2 * (j : Int) + 2 + 1, x2] = [] ∨ _)) ∧ _
      go_enter Tryz.func82, Tryz.ntmps82
      go_upto_region 4 with fail
      go_quiet (fail)
      go_wp2_with fail
      go_ret
      exact ⟨⟨_, _, rfl, HFin.out _ (by simp), .inr fun p hp => by simp at hp; subst hp; exact ⟨Nat.le_refl _, HSz.out _⟩⟩, ((Kp.refl _ w).drewN _).alloc _⟩
    · have m0 : ((2 : Nat) : Int) = 2 := rfl
      rw [m0] at my
      show Calls _ _ _ _ fun e w' => (∃ a c, e = .returned (.slice a (3 : Nat) c) ∧ RowAt w' a (iv [2 * (j : Int) + 2, ng x1, ng x2]) ∧ ([2 * (j : Int) + 2, ng x1, ng x2] = [] ∨ _)) ∧ _
      obtain ⟨y1, hy1⟩ : ∃ y, ng x1 = y := ⟨_, rfl⟩
      obtain ⟨y2, hy2⟩ : ∃ y, ng x2 = y := ⟨_, rfl⟩
      rw [hy1] at HNot1
      rw [hy2] at HNot2
      rw [hy1, hy2]
      clear hy1 hy2
      go_enter Tryz.func82, Tryz.ntmps82
      go_upto_region 4 with fail
      go_quiet (fail)
      go_wp2_with (go_at_call 40; first
        | (refine (HNot1.out _).mono ?_; rintro e w' ⟨rfl, rfl⟩; clear HNot1)
        | (refine (HNot2.out _).mono ?_; rintro e w' ⟨rfl, rfl⟩))
      go_ret
      exact ⟨⟨_, _, rfl, HFin.out _ (by simp), .inr fun p hp => by simp at hp; subst hp; exact ⟨Nat.le_refl _, HSz.out _⟩⟩, ((Kp.refl _ w).drewN _).alloc _⟩

end Go.Proofs.YthconjhldjaldaaGreatDoor

/-
  latchetref22.All: the clauses of a net's gates, and more.
-/
namespace Go.Proofs.YthconjhldjaldaaGreatDoor
open Go.RowKit

/-- the clauses of the gates, in the order of their numbers -/
def gatesQ (N : List (Int × Int)) : Nat → List (List Int)
  | 0 => []
  | q + 1 => gatesQ N q ++ (if gclO N (q / 3) (q % 3) = [] then [] else [gclO N (q / 3) (q % 3)])
theorem gcl_ne (o a b : Int) (k : Nat) : gcl o a b k ≠ [] := by
  unfold gcl
  split
  · simp
  · split <;> simp
theorem gclO_nil {N : List (Int × Int)} {j k : Nat} : gclO N j k = [] ↔ (g2 N j).1 < 0 := by
  unfold gclO
  split
  · rename_i h; exact ⟨fun _ => h, fun _ => rfl⟩
  · rename_i h; exact ⟨fun q => absurd q (gcl_ne _ _ _ _), fun q => absurd q h⟩
theorem gatesQ_mem {N : List (Int × Int)} {c : List Int} : ∀ q, c ∈ gatesQ N q ↔ ∃ i, i < q ∧ 0 ≤ (g2 N (i / 3)).1 ∧ c = gcl (2 * ((i / 3 : Nat) : Int) + 2) (g2 N (i / 3)).1 (g2 N (i / 3)).2 (i % 3)
  | 0 => by
    constructor
    · intro h; cases h
    · rintro ⟨i, h, _⟩; omega
  | q + 1 => by
    rw [gatesQ, List.mem_append, gatesQ_mem q]
    constructor
    · rintro (⟨i, hi, h⟩ | h)
      · exact ⟨i, by omega, h⟩
      · split at h
        · cases h
        · rename_i hne
          rw [gclO_nil] at hne
          simp at h
          refine ⟨q, by omega, by omega, ?_⟩
          rw [h]; unfold gclO; rw [if_neg hne]
    · rintro ⟨i, hi, h0, h⟩
      by_cases e : i < q
      · exact .inl ⟨i, e, h0, h⟩
      · have : i = q := by omega
        subst this
        right
        rw [if_neg (by rw [gclO_nil]; omega)]
        simp
        rw [h]; unfold gclO; rw [if_neg (by omega)]
theorem gatesQ_of {N : List (Int × Int)} (c : List Int) : c ∈ gatesQ N (3 * N.length) ↔ c ∈ gatesOf N := by
  rw [gatesQ_mem, gates_mem]
  constructor
  · rintro ⟨i, hi, h0, h⟩
    exact ⟨i / 3, by omega, h0, i % 3, by omega, h⟩
  · rintro ⟨j, hj, h0, i, hi, h⟩
    have e1 : (3 * j + i) / 3 = j := by omega
    have e2 : (3 * j + i) % 3 = i := by omega
    exact ⟨3 * j + i, by omega, by rw [e1]; exact h0, by rw [e1, e2]; exact h⟩
theorem gatesQ_len (N : List (Int × Int)) : ∀ q, (gatesQ N q).length ≤ q
  | 0 => Nat.le_refl _
  | q + 1 => by
    have := gatesQ_len N q
    rw [gatesQ, List.length_append]
    split
    · simp; omega
    · simp; omega

theorem take_kc {K : List (List Int)} {k : Nat} (h : k < K.length) : K.take (k + 1) = K.take k ++ [kc K k] := by
  rw [List.take_succ_eq_append_getElem h]; unfold kc; rw [List.getElem?_eq_getElem h]; rfl

set_option maxRecDepth 100000 in
set_option maxHeartbeats 8000000 in
theorem ref22_All (an : Option Addr) (n cn : Nat) (N : List (Int × Int)) (ak : Option Addr) (mk ck : Nat) (K : List (List Int)) (w0 w : World) (h0 : Kp (fun _ => False) w0 w) (hr : RowAt w an (N.map pr2).flatten) (hnn : N.length = n) (hn : n ≤ 900000) (hN : GoodN N) (hK : Cls w0 ak mk K) (hmk : mk ≤ 1000000) (hKn : ∀ c ∈ K, KnC n c) (hKl : ∀ c ∈ K, c.length ≤ 1000000) :
    Calls Tryz.prog 68 #[.slice an n cn, .slice ak mk ck] w fun e w' => (∃ v vs, e = .returned v ∧ ClsV (fun j => j < w0.heap.size ∨ w.heap.size ≤ j) w' w.heap.size v (gatesQ N (3 * n) ++ K) vs) ∧ Kp (fun _ => False) w w' := by
  have HI := Lib.hid (show (Tryz.prog.info? 23).map (fun i => (i.zero, i.size, i.bytes)) = some (some (.slice none 0 0), 1, 24) by kernel_rfl)
  obtain ⟨P, hP⟩ : ∃ P : Nat → Prop, P = fun j => j < w0.heap.size ∨ w.heap.size ≤ j := ⟨_, rfl⟩
  rw [← hP]
  have HP := Lib.hid hP
  have HO0 := Lib.hid (show ClsV P (w.alloc (.cells #[] 23)) w.heap.size (.slice (some ⟨w.heap.size, 0, none⟩) 0 0) (gatesQ N 0) [] from ClsV.nil _ (Own.lit (cs := []) (Blk.new w #[] 23) (Nat.le_refl _) (Nat.zero_le _)))
  have HR := Lib.hid hr
  have HNn := Lib.hid hnn
  have HN := Lib.hid hN
  have HC0 := Lib.hid hK
  have HCw := Lib.hid (hK.kp h0)
  have HKK := Lib.hid h0
  have HKn := Lib.hid (fun (c : List Int) (hc : c ∈ K) u a cc (hra : RowAt u a (iv c)) => (ref22_Known an n cn a c.length cc c u (by omega) hra rfl (by have := hKl c hc; omega)).mono (R' := fun e w' => e = .returned (.bool true) ∧ u = w') (by rintro e w' ⟨rfl, h⟩; rw [knB_iff.2 (hKn c hc)]; exact ⟨rfl, h⟩))
  have HLk := Lib.hid hK.len
  have HK1 := Lib.hid ((Kp.refl (fun _ => False) w).alloc (.cells #[] 23))
  clear hP hr hnn hN hK h0 hKn hKl
  go_enter Tryz.func68, Tryz.ntmps68
  go_wp2_with fail
  have w3 : IntKind.i64.wrap (3 * (n : Int)) = 3 * (n : Int) := by rw [IntKind.wrap_i64]; omega
  have w4 : IntKind.i64.wrap (3 * (n : Int) + 3) = 3 * (n : Int) + 3 := by rw [IntKind.wrap_i64]; omega
  go_loopw [5, 6] (fun v5 v6 wr => ∃ (q : Nat) (vs : List Value), v6 = .int .i64 (3 + (q : Int)) ∧ q ≤ 3 * n ∧ ClsV P wr w.heap.size v5 (gatesQ N q) vs ∧ Kp (fun _ => False) w wr) (fun _ v6 _ => 3 * n + 3 - (intOf v6).toNat)
  case atStart => exact ⟨0, [], rfl, Nat.zero_le _, HO0.out, HK1.out⟩
  case round =>
    clear HO0 HK1
    obtain ⟨q, vs, rfl, hq, hV, hK⟩ := hrel
    have HV := Lib.hid hV
    have HK := Lib.hid hK
    clear hV hK
    obtain ⟨wp, rfl⟩ : ∃ wp : World, wp = wr := ⟨_, rfl⟩
    by_cases hlt : q < 3 * n
    · have d1 : decide (3 + (q : Int) < 3 * (n : Int) + 3) = true := by simp; omega
      have wq : IntKind.i64.wrap (3 + (q : Int) + 1) = 3 + ((q + 1 : Nat) : Int) := by rw [IntKind.wrap_i64]; omega
      have HC := Lib.hid (ref22_Clause an n cn N wp (HR.out.kp HK.out (fun _ _ h => h)) HNn.out hn HN.out (j := q / 3) (k := q % 3) (by omega) (by omega))
      have HQ := Lib.hid (show gatesQ N (q + 1) = gatesQ N q ++ (if gclO N (q / 3) (q % 3) = [] then [] else [gclO N (q / 3) (q % 3)]) from rfl)
      have ea : 3 * (((q / 3 : Nat) : Int) + 1) + ((q % 3 : Nat) : Int) = 3 + (q : Int) := by omega
      rw [ea] at HC
      have HLen := Lib.hid (show vs.length ≤ 3 * n by rw [HV.out.len]; have := gatesQ_len N q; omega)
      clear ea
      obtain ⟨c, hc⟩ : ∃ c, gclO N (q / 3) (q % 3) = c := ⟨_, rfl⟩
      rw [hc] at HC HQ
      clear hc
      obtain ⟨mc, hmc⟩ : ∃ mc, c.length = mc := ⟨_, rfl⟩
      rw [hmc] at HC
      have HM := Lib.hid hmc
      clear hmc
      by_cases hc0 : c = []
      · have hm0 : mc = 0 := by rw [← HM.out, hc0]; rfl
        subst hm0
        rw [if_pos hc0, List.append_nil] at HQ
        go_wp2_with (go_at_call 82; refine HC.out.mono ?_; rintro e w1 ⟨⟨a, cc, rfl, hra, hb⟩, hK1⟩; have HK1 := Lib.hid hK1; clear hra hb hK1)
        go_roundw
        case rel => exact ⟨q + 1, vs, by go_num, hlt, by rw [HQ.out]; exact HV.out.kp HK1.out, HK.out.trans HK1.out (fun _ _ h => h)⟩
        case measure => simp [intOf]; omega
      · have hm0 : 0 < mc := by rw [← HM.out]; exact List.length_pos_iff.2 hc0
        have hm1 : (0 : Int) < (mc : Int) := by omega
        rw [if_neg hc0] at HQ
        have HC0n := Lib.hid hc0
        clear hc0
        go_wp2_with (first
          | (go_at_call 82; refine HC.out.mono ?_; rintro e w1 ⟨⟨a, cc, rfl, hra, hb⟩, hK1⟩; have HK1 := Lib.hid hK1; have HRa := Lib.hid hra; have HB := Lib.hid (hb.resolve_left HC0n.out); have HVl := Lib.hid ((HV.out.kp hK1).kp ((Kp.refl (fun _ => False) w1).alloc (.cells #[.slice a mc cc] 23))); have HNw := Lib.hid (Blk.new w1 #[.slice a mc cc] 23); have HSz := Lib.hid (HK.out.trans hK1 (fun _ _ h => h)).size; clear hra hb hK1)
          | (at_builtin; refine wpList_append1_at rfl _ _ 24 23 rfl Tryz.underlying24 HI.out rfl HVl.out.own rfl ⟨w1.heap.size, 0, none⟩ (.slice a mc cc) rfl (HNw.out.cell rfl) rfl ?d1 ?d2 ?d3 ?_))
        case d1 => have := HLen.out; omega
        case d2 => have := HLen.out; unfold maxLen; omega
        case d3 => rw [World.size_alloc]; exact Nat.le_succ_of_le HSz.out
        intro v' w2 hO3 hg2 hat2
        have HV3 := Lib.hid (show ClsV P w2 w.heap.size v' (gatesQ N (q + 1)) (vs ++ [.slice a mc cc]) by
          rw [HQ.out]
          have e : (Value.slice a mc cc) = .slice a c.length cc := by rw [HM.out]
          rw [e] at hO3 ⊢
          refine ClsV.push HVl.out (HRa.out.kp ((Kp.refl (fun _ => False) w1).alloc _) (fun _ _ h => h)) (.inr fun p hp => ?_) hO3 hg2 (by rw [World.size_alloc]; exact hat2)
          obtain ⟨b1, b2⟩ := HB.out p hp
          refine ⟨Nat.lt_of_lt_of_le b2 (by rw [World.size_alloc]; exact Nat.le_succ _), fun q => ?_, ?_⟩
          · have := (HV.out.own.lt _ q).2; omega
          · rw [HP.out]; exact .inr (Nat.le_trans HK.out.size b1))
        have HK3 := Lib.hid (show Kp (fun _ => False) w w2 from ((HK.out.trans HK1.out (fun _ _ h => h)).alloc _).grown hg2 (fun j hj hl => by have := (HV.out.own.lt j hj).1; omega))
        clear hO3 hg2 hat2
        go_wp2_with fail
        go_roundw
        case rel => exact ⟨q + 1, _, by go_num, hlt, HV3.out, HK3.out⟩
        case measure => simp [intOf]; omega
    · have hq' : q = 3 * n := by omega
      have HQe := Lib.hid hq'
      have d1 : decide (3 + (q : Int) < 3 * (n : Int) + 3) = false := by simp; omega
      clear hq' hq hlt
      go_wp2_with fail
      go_loopw [5, 8] (fun v5 v8 wr => ∃ (k : Nat) (vs : List Value), v8 = .int .i64 (k : Int) ∧ k ≤ mk ∧ ClsV P wr w.heap.size v5 (gatesQ N (3 * n) ++ K.take k) vs ∧ Kp (fun _ => False) w wr) (fun _ v8 _ => mk - (intOf v8).toNat)
      case atStart => exact ⟨0, vs, rfl, Nat.zero_le _, by rw [List.take_zero, List.append_nil, ← HQe.out]; exact HV.out, HK.out⟩
      case round =>
        clear HV HK
        obtain ⟨k, vs2, rfl, hk, hV, hK⟩ := hrel
        have HV := Lib.hid hV
        have HK := Lib.hid hK
        clear hV hK
        obtain ⟨wp, rfl⟩ : ∃ wp : World, wp = wr := ⟨_, rfl⟩
        by_cases hlt : k < mk
        · have hkl : k < K.length := by rw [HLk.out]; exact hlt
          obtain ⟨b, off, dd, cc, rfl, hcell, hrd⟩ := (HCw.out.kp HK.out).at hlt
          have HRd := Lib.hid hrd
          have HRo := Lib.hid (show RowAt w0 dd (iv (kc K k)) from by
            obtain ⟨b', off', d', c', e', hc', hr'⟩ := HC0.out.at hlt
            simp only [Option.some.injEq, Addr.mk.injEq, and_true] at e'
            obtain ⟨rfl, rfl⟩ := e'
            have hb2 := World.cell?_of_block (w := w0) (w' := wp) (a := ⟨b, off + k, none⟩) ((HKK.out.trans HK.out (fun _ _ h => h)).block b (World.block_lt_of_cell? w0 _ hc') (fun h => h))
            rw [hb2, hc'] at hcell
            simp at hcell
            rw [← hcell.1]; exact hr')
          have HC := Lib.hid (HKn.out _ (kc_mem hkl) wp dd cc hrd)
          have HT := Lib.hid (take_kc hkl)
          have HLen := Lib.hid (show vs2.length ≤ 3 * n + mk by rw [HV.out.len, List.length_append, List.length_take]; have := gatesQ_len N (3 * n); omega)
          obtain ⟨c, hc⟩ : ∃ c, kc K k = c := ⟨_, rfl⟩
          rw [hc] at HRd HRo HC HT hcell
          clear hc hrd hkl
          obtain ⟨mc, hmc⟩ : ∃ mc, c.length = mc := ⟨_, rfl⟩
          have HM := Lib.hid hmc
          rw [hmc] at HC hcell
          clear hmc
          have i0 : (0 : Int) ≤ (k : Int) := by omega
          have i1 : (k : Int) < (mk : Int) := by omega
          have HVl := Lib.hid (HV.out.kp ((Kp.refl (fun _ => False) wp).alloc (.cells #[.slice dd mc cc] 23)))
          have HNw := Lib.hid (Blk.new wp #[.slice dd mc cc] 23)
          have HSz := Lib.hid HK.out.size
          go_wp2_with (first
            | (go_at_call 6; refine HC.out.mono ?_; rintro e w1 ⟨rfl, rfl⟩)
            | (at_builtin; refine wpList_append1_at rfl _ _ 24 23 rfl Tryz.underlying24 HI.out rfl HVl.out.own rfl ⟨wp.heap.size, 0, none⟩ (.slice dd mc cc) rfl (HNw.out.cell rfl) rfl ?d1 ?d2 ?d3 ?_))
          case d1 => have := HLen.out; omega
          case d2 => have := HLen.out; unfold maxLen; omega
          case d3 => rw [World.size_alloc]; exact Nat.le_succ_of_le HSz.out
          intro v' w2 hO3 hg2 hat2
          have HV3 := Lib.hid (show ClsV P w2 w.heap.size v' (gatesQ N (3 * n) ++ K.take (k + 1)) (vs2 ++ [.slice dd mc cc]) by
            rw [HT.out, ← List.append_assoc]
            have e : (Value.slice dd mc cc) = .slice dd c.length cc := by rw [HM.out]
            rw [e] at hO3 ⊢
            refine ClsV.push HVl.out (HRd.out.kp ((Kp.refl (fun _ => False) wp).alloc _) (fun _ _ h => h)) ?_ hO3 hg2 (by rw [World.size_alloc]; exact hat2)
            by_cases hc0 : c = []
            · exact .inl hc0
            · refine .inr fun p hp => ?_
              obtain ⟨b5, off5, e5, hc5⟩ := HRo.out 0 _ (iv_at (List.length_pos_iff.2 hc0))
              have hlt5 : p.block < w0.heap.size := by
                have := World.block_lt_of_cell? w0 _ hc5
                rw [hp] at e5; simp at e5; rw [e5]; exact this
              have s0 := HKK.out.size
              have s1 := HK.out.size
              refine ⟨by rw [World.size_alloc]; omega, fun q => ?_, by rw [HP.out]; exact .inl hlt5⟩
              have := (HV.out.own.lt _ q).1
              omega)
          have HK3 := Lib.hid (show Kp (fun _ => False) w w2 from (HK.out.alloc _).grown hg2 (fun j hj hl => by have := (HV.out.own.lt j hj).1; omega))
          clear hO3 hg2 hat2
          go_wp2_with fail
          go_roundw
          case rel => exact ⟨k + 1, _, by go_num, hlt, HV3.out, HK3.out⟩
          case measure => simp [intOf]; omega
        · have hk' : k = mk := by omega
          have hno : decide ((k : Int) < (mk : Int)) = false := by simp; omega
          go_wp2_with fail
          go_ret
          refine ⟨⟨_, vs2, rfl, ?_⟩, HK.out⟩
          have := HV.out
          rw [hk', ← HLk.out, List.take_length] at this
          exact this

end Go.Proofs.YthconjhldjaldaaGreatDoor

/-
  latchetref22.Units: all that clauses say.
-/
namespace Go.Proofs.YthconjhldjaldaaGreatDoor
open Go.RowKit

/-- how many of the first k variables are open, in memory -/
def opnW (w : World) (g : Nat) : Nat → Nat
  | 0 => 0
  | k + 1 => opnW w g k + (match w.cell? ⟨g, k + 1, none⟩ with | some (.int _ x) => if x = 2 then 1 else 0 | _ => 0)
theorem opnW_eq {w : World} {base g m cap : Nat} {V : List Int} (h : Own w base 3 (.slice (some ⟨g, 0, none⟩) m cap) (iv V)) : ∀ k, k < V.length → opnW w g k = opn V k
  | 0, _ => rfl
  | k + 1, hk => by
    unfold opnW opn
    rw [opnW_eq h k (by omega), h.cell (j := k + 1) (iv_at hk)]

theorem oneL_two {n : Nat} {V c : List Int} {l : Int} (hV : TV n V) (hc : KnC n c) (h : OneL V c l) : 2 ≤ l := free_two hV (hc l h.1) h.2.1

/-- a round: what the walk has done -/
def UnS (n : Nat) (K : List (List Int)) (V0 V : List Int) (k : Nat) (d : Bool) : Prop :=
  TV n V ∧ Told n V K ∧ ((d = false ∧ V = V0 ∧ ∀ j, j < k → Done V (kc K j)) ∨ (d = true ∧ opn V n < opn V0 n))
theorem UnS.skip {n : Nat} {K : List (List Int)} {V0 V : List Int} {k : Nat} {d : Bool} (h : UnS n K V0 V k d) (hd : Done V (kc K k)) : UnS n K V0 V (k + 1) d := by
  obtain ⟨h1, h2, h3⟩ := h
  refine ⟨h1, h2, ?_⟩
  rcases h3 with ⟨e, e2, h⟩ | h
  · refine .inl ⟨e, e2, fun j hj => ?_⟩
    by_cases q : j = k
    · rw [q]; exact hd
    · exact h j (by omega)
  · exact .inr h
theorem UnS.put {n : Nat} {K : List (List Int)} {V0 V : List Int} {k : Nat} {d : Bool} {l : Int} (h : UnS n K V0 V k d) (hk : k < K.length) (hKn : ∀ c ∈ K, KnC n c) (hl : OneL V (kc K k) l) : UnS n K V0 (vset V l) (k + 1) true := by
  obtain ⟨h1, h2, h3⟩ := h
  have hc := hKn _ (kc_mem hk)
  have h22 := oneL_two h1 hc hl
  have ho := opn_vset h1 (hc l hl.1) h22 hl.2.1
  refine ⟨h1.set (hc l hl.1) h22, h2.set h1 (kc_mem hk) hc hl, .inr ⟨rfl, ?_⟩⟩
  rcases h3 with ⟨-, rfl, -⟩ | ⟨-, h⟩ <;> omega

set_option maxRecDepth 100000 in
set_option maxHeartbeats 8000000 in
theorem ref22_Units (av : Option Addr) (mv cv : Nat) (V0 : List Int) (n : Nat) (ak : Option Addr) (mk ck : Nat) (K : List (List Int)) (w : World) (hrv : RowAt w av (iv V0)) (hov : SlOK av mv cv) (hV : TV n V0) (hmv : n + 1 = mv) (hn : n ≤ 900000) (hT : Told n V0 K) (hK : Cls w ak mk K) (hmk : mk ≤ 1000000) (hKn : ∀ c ∈ K, KnC n c) (hKl : ∀ c ∈ K, c.length ≤ 1000000) :
    Calls Tryz.prog 67 #[.slice av mv cv, .slice ak mk ck] w fun e w' => ∃ (v : Value) (b : Bool), e = .returned (.tuple #[v, .bool b]) ∧ (b = false ↔ UConf K) ∧ Kp (fun _ => False) w w' := by
  have HI := Lib.hid (show (Tryz.prog.info? 3).map (fun i => (i.zero, i.size, i.bytes)) = some (some (.int .i64 0), 1, 8) by kernel_rfl)
  have HO0 := Lib.hid (show Own (w.alloc (.cells #[] 3)) w.heap.size 3 (.slice (some ⟨w.heap.size, 0, none⟩) 0 0) [] from Own.lit (cs := []) (Blk.new w #[] 3) (Nat.le_refl _) (Nat.zero_le _))
  have HRv := Lib.hid (hrv.kp ((Kp.refl (fun _ => False) w).alloc (.cells #[] 3)) (fun _ _ h => h))
  have HV := Lib.hid hV
  have HT := Lib.hid hT
  have HK := Lib.hid hK
  have HKn := Lib.hid hKn
  have HKl := Lib.hid hKl
  have HM := Lib.hid hmv
  have HLv := Lib.hid (show (iv V0).length = mv by rw [iv_length, hV.len]; exact hmv)
  have HNil := Lib.hid hov.nil
  have hmb : mv ≤ 900001 := by omega
  have hm0 : 0 < mv := by omega
  clear hrv hV hT hK hKn hKl hmv hov
  go_enter Tryz.func67, Tryz.ntmps67
  go_wp2_with (at_builtin; refine wpList_appendAll rfl _ _ 23 3 rfl Tryz.underlying23 HI.out rfl HO0.out rfl av mv cv (iv V0) rfl HLv.out HRv.out HNil.out (fun u hu => by obtain ⟨x, _, rfl⟩ := List.mem_map.1 hu; rfl) (by simp; omega) (by unfold maxLen; simp; omega) (by simp) ?_)
  intro v' w1 hO hg
  obtain ⟨g, cap, ev, hg1, -⟩ := hO.leads (by rw [HLv.out]; exact hm0)
  rw [HLv.out] at ev
  subst ev
  have HO := Lib.hid hO
  have HG := Lib.hid hg1
  have HK1 := Lib.hid (show Kp (fun _ => False) w w1 from ((Kp.refl (fun _ => False) w).alloc _).grown hg (fun j hj hlt => by simp [Value.ownBlock] at hj; omega))
  clear hO hg hg1 HO0 HRv HLv HNil
  go_wp2_with fail
  go_loopw [] (fun wr => ∃ V, TV n V ∧ Told n V K ∧ Own wr w.heap.size 3 (.slice (some ⟨g, 0, none⟩) mv cap) (iv V) ∧ Kp (fun _ => False) w wr) (fun wr => opnW wr g n)
  case atStart => exact ⟨V0, HV.out, HT.out, HO.out, HK1.out⟩
  case round =>
    clear HO HK1
    obtain ⟨V, hV, hT, hO, hK⟩ := hrel
    obtain ⟨wp, rfl⟩ : ∃ wp : World, wp = wr := ⟨_, rfl⟩
    have HMe := Lib.hid (opnW_eq hO n (by rw [hV.len]; omega))
    have HO := Lib.hid hO
    have HK9 := Lib.hid hK
    have HU : Hid (UnS n K V V 0 false) := Lib.hid ⟨hV, hT, .inl ⟨rfl, rfl, fun j hj => absurd hj (Nat.not_lt_zero j)⟩⟩
    clear hV hT hO hK
    go_wp2_with fail
    go_loopw [7, 8] (fun v7 v8 wr => ∃ (k : Nat) (V1 : List Int) (d : Bool), v8 = .int .i64 (k : Int) ∧ v7 = .bool d ∧ k ≤ mk ∧ UnS n K V V1 k d ∧ Own wr w.heap.size 3 (.slice (some ⟨g, 0, none⟩) mv cap) (iv V1) ∧ Kp (fun _ => False) w wr) (fun _ v8 _ => mk - (intOf v8).toNat)
    case atStart => exact ⟨0, V, false, rfl, rfl, Nat.zero_le _, HU.out, HO.out, HK9.out⟩
    case round =>
      clear HO HK9 HU
      obtain ⟨k, V1, d, rfl, rfl, hk, hU, hO, hK⟩ := hrel
      have HU := Lib.hid hU
      have HO := Lib.hid hO
      have HK9 := Lib.hid hK
      clear hU hO hK
      obtain ⟨wq, rfl⟩ : ∃ wq : World, wq = wr := ⟨_, rfl⟩
      by_cases hlt : k < mk
      · have hkl : k < K.length := by rw [HK.out.len]; exact hlt
        obtain ⟨b, off, dd, cc, rfl, hcell, hrd⟩ := (HK.out.kp HK9.out).at hlt
        have hmem := kc_mem hkl
        have hKc := HKn.out _ hmem
        obtain ⟨ao, co, eo, -, -, -, hro⟩ := HO.out.form
        simp only [Value.slice.injEq] at eo
        obtain ⟨rfl, -, rfl⟩ := eo
        have HVl := Lib.hid (ref20_Value (some ⟨g, 0, none⟩) mv cap V1 n dd _ cc (kc K k) wq hro HU.out.1 HM.out hn hrd rfl (HKl.out _ hmem) hKc)
        have HUn := Lib.hid (ref20_Unit (some ⟨g, 0, none⟩) mv cap V1 n dd _ cc (kc K k) wq hro HU.out.1 HM.out hn hrd rfl (HKl.out _ hmem) hKc)
        have HStt := Lib.hid (fun l (hl : OneL V1 (kc K k) l) => ref22_set HO.out HU.out.1 HM.out hn (hKc l hl.1))
        have HTwo := Lib.hid (fun l (hl : OneL V1 (kc K k) l) => oneL_two HU.out.1 hKc hl)
        have HPut := Lib.hid (fun l (hl : OneL V1 (kc K k) l) => HU.out.put hkl HKn.out hl)
        have HSkip := Lib.hid HU.out.skip
        have HWays := Lib.hid (clause_ways HU.out.1 hKc)
        have HCz := Lib.hid (clv_zero_iff HU.out.1 hKc)
        have HCf := Lib.hid (fun h : AllNo V1 (kc K k) => HU.out.2.1.conf HU.out.1 hmem hKc h)
        obtain ⟨mc, hmc⟩ : ∃ mc, (kc K k).length = mc := ⟨_, rfl⟩
        rw [hmc] at HVl HUn hcell
        obtain ⟨cv1, hcv⟩ : ∃ x, clv V1 (kc K k) = x := ⟨_, rfl⟩
        rw [hcv] at HVl HCz
        have i0 : (0 : Int) ≤ (k : Int) := by omega
        have i1 : (k : Int) < (mk : Int) := by omega
        clear hkl hrd hmem hKc hro hmc hcv
        by_cases hz : cv1 = 0
        · subst hz
          have HC := Lib.hid (HCf.out (HCz.out.1 rfl))
          clear HCf HCz HWays HSkip HPut HTwo HStt HUn
          go_wp2_with (go_at_call 12; refine HVl.out.mono ?_; rintro e w' ⟨rfl, rfl⟩)
          exact bodyPost_ret (v := .tuple #[.slice none 0 0, .bool false]) (by simp [results, Tryz.results67, go_sem]) rfl ⟨_, false, rfl, ⟨fun _ => HC.out, fun _ => rfl⟩, HK9.out⟩
        · have b0 : (cv1 == 0) = false := by simp [hz]
          have HNz := Lib.hid (fun h => hz (HCz.out.2 h))
          clear HCf HCz hz
          by_cases hone : ∃ l, OneL V1 (kc K k) l
          · obtain ⟨l, hl⟩ := hone
            have HUn2 := Lib.hid (HUn.out.mono (R' := fun e w' => e = .returned (.int .i64 l) ∧ wq = w') (by
              rintro e w' ⟨⟨l', h1, rfl⟩ | ⟨h1, rfl⟩, h2⟩
              · exact ⟨by rw [h1.uniq hl], h2⟩
              · exact absurd hl (h1 l)))
            have HS := Lib.hid (HStt.out l hl)
            have h2 := HTwo.out l hl
            have i2 : decide ((1 : Int) < l) = true := by simp; omega
            have HP := Lib.hid (HPut.out l hl)
            clear HUn HStt HTwo HPut HWays HSkip hl
            go_wp2_with (first
              | (go_at_call 12; refine HVl.out.mono ?_; rintro e w' ⟨rfl, rfl⟩)
              | (go_at_call 80; refine HUn2.out.mono ?_; rintro e w' ⟨rfl, rfl⟩)
              | (go_at_call 81; refine HS.out.mono ?_; rintro e w2 ⟨rfl, hO2, hK2⟩; have HO2 := Lib.hid hO2; have HK2 := Lib.hid (HK9.out.trans hK2 (fun j hj e => by have := HG.out; omega)); clear hO2 hK2))
            go_roundw
            case rel => exact ⟨k + 1, _, true, by go_num, rfl, hlt, HP.out, HO2.out, HK2.out⟩
            case measure => simp [intOf]; omega
          · have HUn2 := Lib.hid (HUn.out.mono (R' := fun e w' => e = .returned (.int .i64 (-1)) ∧ wq = w') (by
              rintro e w' ⟨⟨l', h1, rfl⟩ | ⟨h1, rfl⟩, h2⟩
              · exact absurd ⟨l', h1⟩ hone
              · exact ⟨rfl, h2⟩))
            have HD := Lib.hid (HSkip.out (by
              rcases HWays.out with h | h | h
              · exact absurd h HNz.out
              · exact absurd h hone
              · exact h))
            clear HUn HStt HTwo HPut HWays HSkip hone
            go_wp2_with (first
              | (go_at_call 12; refine HVl.out.mono ?_; rintro e w' ⟨rfl, rfl⟩)
              | (go_at_call 80; refine HUn2.out.mono ?_; rintro e w' ⟨rfl, rfl⟩))
            go_roundw
            case rel => exact ⟨k + 1, V1, d, by go_num, rfl, hlt, HD.out, HO.out, HK9.out⟩
            case measure => simp [intOf]; omega
      · have hk' : k = mk := by omega
        have hno : decide ((k : Int) < (mk : Int)) = false := by simp; omega
        have HU2 : Hid (UnS n K V V1 K.length d) := Lib.hid (by rw [HK.out.len, ← hk']; exact HU.out)
        cases d with
        | false =>
          go_wp2_with fail
          refine bodyPost_ret (v := .tuple #[.slice (some ⟨g, 0, none⟩) mv cap, .bool true]) (by simp [results, Tryz.results67, go_sem]) rfl ⟨_, true, rfl, ⟨fun h => (by cases h), fun h => ?_⟩, HK9.out⟩
          obtain ⟨h1, h2, h3⟩ := HU2.out
          rcases h3 with ⟨-, -, h3⟩ | ⟨h3, -⟩
          · refine absurd h (Done.no_conf h1 HKn.out fun c hc => ?_)
            obtain ⟨j, hj, rfl⟩ := mem_kc hc
            exact h3 j hj
          · cases h3
        | true =>
          go_wp2_with fail
          go_roundw
          case rel => exact ⟨V1, HU.out.1, HU.out.2.1, HO.out, HK9.out⟩
          case measure =>
            have e1 := opnW_eq HO.out n (by rw [HU.out.1.len]; omega)
            rw [e1, HMe.out]
            rcases HU.out.2.2 with ⟨h, -⟩ | ⟨-, h⟩
            · cases h
            · exact h

end Go.Proofs.YthconjhldjaldaaGreatDoor
