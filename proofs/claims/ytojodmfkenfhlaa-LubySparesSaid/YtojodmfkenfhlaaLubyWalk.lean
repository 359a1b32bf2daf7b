/-
  luby.Spare: what it computes.
-/
import Derived.Test.YtojodmfkenfhlaaLubySort
import Derived.Test.YtojodmfkenfhlaaLubyRef
import Derived.Test.YtojodmfkenfhlaaSortBridge
namespace Go.Proofs.Ytojodmfkenfhlaa
open Go.RowKit

def natV (i : Nat) : Value := .int .i64 i
def finV {n : Nat} (i : Fin n) : Value := .int .i64 i.val

theorem finV_map {n : Nat} (l : List (Fin n)) : l.map finV = (l.map Fin.val).map natV := by rw [List.map_map]; rfl

/-- a part of an owned row -/
theorem Own.cut {w : World} {base : Nat} {e : TypeId} {g n cap m : Nat} {cs : List Value} (h : Own w base e (.slice (some ⟨g, 0, none⟩) n cap) cs) (hm : m ≤ cs.length) :
    Own w base e (.slice (some ⟨g, 0, none⟩) m cap) (cs.take m) := by
  rcases h.2 with ⟨h3, _⟩ | ⟨g', cap', cur, hv, hb, hg, hnc, hcm, hcs, htake⟩
  · cases h3
  · simp only [Value.slice.injEq, Option.some.injEq, Addr.mk.injEq, and_true] at hv
    obtain ⟨rfl, rfl, rfl⟩ := hv
    have hl : (cs.take m).length = m := by simp; omega
    refine ⟨by simp, .inr ⟨g, cap, cur, by rw [hl], hb, hg, by rw [hl]; omega, hcm, hcs, ?_⟩⟩
    rw [hl, Nat.mul_one]
    rw [Nat.mul_one] at htake
    rw [← htake, List.take_take]
    congr 1
    omega

/-- slices.SortFunc by the closure, over a row of places -/
theorem spare_SortFunc (B b off n cap g k cap' : Nat) (l : List Int) (w : World) {base : Nat} (hc : w.cell? ⟨B, 0, none⟩ = some (.slice (some ⟨b, off, none⟩) n cap)) (ha : IntsAt w (some ⟨b, off, none⟩) l) (hl : l.length = n)
    (hO : Own w base 3 (.slice (some ⟨g, 0, none⟩) k cap') ((idx (gi l) n).map natV)) (hgB : g ≠ B) (hgb : g ≠ b) (hn : n ≤ 1000) (hn0 : 0 < n) :
    Calls Try.prog 14 #[.slice (some ⟨g, 0, none⟩) k cap', .func (.func 15) #[] #[.pointer (some ⟨B, 0, none⟩)]] w fun e w' =>
      e = .returned (.tuple #[]) ∧ Own w' base 3 (.slice (some ⟨g, 0, none⟩) k cap') ((sortedN (gi l) n).map natV) ∧ Kp (· = g) w w' := by
  obtain ⟨n', rfl⟩ : ∃ n', n = n' + 1 := ⟨n - 1, by omega⟩
  have eg : ∀ args w, (callFunc 15 args).run Try.prog w = .ok (.enter 15 args) w := enters_of Try.func15 (by kernel_rfl) rfl
  have hO' : Own w base 3 (.slice (some ⟨g, 0, none⟩) k cap') ((idxF (gi l) (n' + 1)).toArray.toList.map finV) := by
    rw [List.toList_toArray, finV_map, idxF_val]; exact hO
  have hk : k = (idxF (gi l) (n' + 1)).toArray.size := by
    obtain ⟨a, c, e, _⟩ := hO'.form
    simp only [Value.slice.injEq] at e
    simpa using e.2.1
  have hlen := idx_len (gi l) (n' + 1)
  have hsz : (idxF (gi l) (n' + 1)).toArray.size < 4611686018427387904 := by
    have : (idxF (gi l) (n' + 1)).length = (idx (gi l) (n' + 1)).length := by rw [← idxF_val, List.length_map]
    simp only [List.size_toArray]; omega
  have hglt : g < w.heap.size := (hO.lt g rfl).2
  have hcmp : CmpLays1 Try.prog 15 #[.pointer (some ⟨B, 0, none⟩)] (finV (n := n' + 1)) (cfF (gi l) (n' + 1)) g 0 (idxF (gi l) (n' + 1)).toArray.size w := by
    intro m os dk hs x y
    have hK := (own_sorted (m := m) (os := os) hO' hs).2
    have h := spare_cmp B b off (n' + 1) cap l x.val y.val (sortWorld finV w g 0 m dk os) ?_ ?_ hl x.isLt y.isLt
    · exact h
    · have hB : B < w.heap.size := World.block_lt_of_cell? w _ hc
      exact (World.cell?_of_block (w := w) (a := ⟨B, 0, none⟩) (hK.block B hB (fun e => hgB e.symm))).trans hc
    · exact RowAt.kp ha hK (fun p hp e => by simp at hp; subst hp; exact hgb e.symm)
  have hcon := Any.slices_SortFunc_total Try.sortF finV (fun _ => rfl) (cfF (gi l) (n' + 1)) (swo_cfF _ _) 15 #[.pointer (some ⟨B, 0, none⟩)] g 0 cap' (idxF (gi l) (n' + 1)).toArray w eg hcmp (own_holds hO') hglt hsz (fun x y h1 h2 => tot_cfF _ _ x y h1 h2)
  change Calls Try.prog 14 _ _ _ at hcon
  rw [← hk] at hcon
  refine hcon.mono ?_
  rintro e w' ⟨rfl, m, os, rfl⟩
  obtain ⟨r1, r2⟩ := own_sorted (d' := ((idxF (gi l) (n' + 1)).toArray.toList.mergeSort fun x y => !(ltOf (cfF (gi l) (n' + 1))) y x).toArray) (m := m) (os := os) hO' (by simp)
  refine ⟨rfl, ?_, r2⟩
  rw [List.toList_toArray, List.toList_toArray, finV_map] at r1
  exact r1

/-- slices.Sort over a row of places -/
theorem spare_Sort (g k cap' : Nat) (S : List Nat) (n : Nat) (w : World) {base : Nat} (hO : Own w base 3 (.slice (some ⟨g, 0, none⟩) k cap') (S.map natV)) (hd : S.Nodup) (hS : ∀ i ∈ S, i < n) (hn : S.length ≤ 1000) :
    Calls Try.prog 18 #[.slice (some ⟨g, 0, none⟩) k cap'] w fun e w' =>
      e = .returned (.tuple #[]) ∧ Own w' base 3 (.slice (some ⟨g, 0, none⟩) k cap') ((ascend n S).map natV) ∧ Kp (· = g) w w' := by
  have hO' : Own w base 3 (.slice (some ⟨g, 0, none⟩) k cap') ((S.map (fun i : Nat => (i : Int))).toArray.toList.map (Value.int .i64)) := by
    rw [List.toList_toArray, List.map_map]; exact hO
  have hk : k = (S.map (fun i : Nat => (i : Int))).length := by
    obtain ⟨a, c, e, _⟩ := hO'.form
    simp only [Value.slice.injEq] at e
    simpa using e.2.1
  have hcon := Try.slices_Sort_int g 0 cap' (S.map (fun i : Nat => (i : Int))) w (own_holds hO') (hO.lt g rfl).2 (by rw [List.length_map]; omega)
  rw [← hk] at hcon
  refine hcon.mono ?_
  rintro e w' ⟨rfl, m, os, rfl⟩
  obtain ⟨r1, r2⟩ := own_sorted (d' := ((S.map (fun i : Nat => (i : Int))).mergeSort fun x y => decide (x ≤ y)).toArray) (m := m) (os := os) hO' (by simp)
  refine ⟨rfl, ?_, r2⟩
  rw [List.toList_toArray] at r1
  rw [sort_ascend hd hS] at r1 ⊢
  rw [List.map_map] at r1
  exact r1

theorem sort_none (p : Option Addr) (c : Nat) (u : World) : Calls Try.prog 18 #[.slice p 0 c] u fun e w' => e = .returned (.tuple #[]) ∧ u = w' :=
  (Try.slices_Sort_int_none p c u).mono fun _ _ ⟨h1, h2⟩ => ⟨h1, h2.symm⟩

theorem idx_vals_snoc (f : Nat → Int) (k : Nat) (h : 2 < f k) : (idx f k).map natV ++ [.int .i64 k] = (idx f (k + 1)).map natV := by
  rw [idx_snoc, if_pos h, List.map_append]; rfl
theorem idx_vals_same (f : Nat → Int) (k : Nat) (h : ¬ 2 < f k) : (idx f k).map natV = (idx f (k + 1)).map natV := by
  rw [idx_snoc, if_neg h, List.append_nil]

set_option maxHeartbeats 1000000 in
theorem luby_Spare (a : Option Addr) (n cap : Nat) (l : List Int) (room : Int) (w : World) (ha : IntsAt w a l) (hl : l.length = n) (hn : n ≤ 1000) (hr1 : -9223372036854775808 ≤ room) (hr2 : room ≤ 9223372036854775807) :
    Calls Try.prog 7 #[.slice a n cap, .int .i64 room] w fun e w' =>
      ∃ v, e = .returned v ∧ Own w' w.heap.size 3 v ((ascend n ((sortedN (gi l) n).take (many n room))).map natV) ∧ Kp (fun _ => False) w w' := by
  have HL := Lib.hid hl; clear hl
  have HA := Lib.hid ha; clear ha
  have hmf : ∀ (fn : Fn) (first cap : Array Value) (w : World), (Instr.makeFunc fn first cap).run Try.prog w = .ok (.func fn first cap) w := fun _ _ _ _ => rfl
  go_enter Try.func7, Try.ntmps7
  go_wp2
  go_loopw [5, 10] (fun v5 v10 wr => ∃ k : Nat, k ≤ n ∧ v10 = .int .i64 k ∧ Own wr (w.heap.size + 1) 3 v5 ((idx (gi l) k).map natV) ∧ Blk wr w.heap.size #[.slice a n cap] 22 ∧ Kp (fun _ => False) w wr) (fun _ v10 _ => n - (intOf v10).toNat)
  case atStart => exact ⟨0, Nat.zero_le _, rfl, Own.nil _ _ _, Blk.new _ _ _, (Kp.refl _ _).alloc _⟩
  case round =>
    obtain ⟨k, hk, rfl, hO, hB, hK⟩ := hrel
    have hlen := idx_len (gi l) k
    have HLen := Lib.hid hlen; clear hlen
    have hlt2 := hB.lt
    by_cases hlt : k < n
    · have i1 : (0 : Int) ≤ (k : Int) := by omega
      have i2 : (k : Int) < (n : Int) := by omega
      obtain ⟨b, off, rfl, hc⟩ := ((HA.out.get (j := k) (by rw [HL.out]; exact hlt)).kp hK (by simp))
      by_cases hg : 2 < gi l k
      · have e1 : decide (2 < gi l k) = true := by simp [hg]
        have HA2 := Lib.hid (idx_vals_snoc (gi l) k hg)
        clear hg
        go_wp2_with (at_builtin; refine wpList_append1 rfl _ _ 22 3 rfl Try.underlying22 Try.info3 rfl (hO.alloc _) rfl ⟨wr.heap.size, 0, none⟩ (.int .i64 k) rfl ?c1 rfl ?c2 ?c3 ?c4 ?_)
        case c1 => exact World.cell?_alloc_at _ _ _ _ rfl
        case c2 => have := HLen.out; simp; omega
        case c3 => have := HLen.out; simp [maxLen]; omega
        case c4 => simp; omega
        intro v' w1 hO1 hg1
        have hne : ∀ j, u5.ownBlock = some j → w.heap.size + 1 ≤ j := fun j hj => (hO.lt j hj).1
        have hK1 : Kp (fun j => u5.ownBlock = some j) wr w1 := ((Kp.refl _ wr).alloc _).grown hg1 (fun j hj _ => hj)
        have hB1 := hB.kp hK1 (fun h => by have := hne _ h; omega)
        have hKK := hK.trans hK1 (fun j hj h => by have := hne _ h; omega)
        rw [HA2.out] at hO1
        clear hO hB hK hg1 hne hK1 HA2 hc
        go_wp2
        go_roundw
        case rel => exact ⟨k + 1, by omega, by go_num, hO1, hB1, hKK⟩
        case measure => simp [intOf]; omega
      · have e1 : decide (2 < gi l k) = false := by simp; omega
        have HA2 := Lib.hid (idx_vals_same (gi l) k hg)
        clear hg
        go_wp2
        go_roundw
        case rel => exact ⟨k + 1, by omega, by go_num, by rw [← HA2.out]; exact hO, hB, hK⟩
        case measure => simp [intOf]; omega
    · have hkn : k = n := by omega
      subst hkn
      obtain ⟨v5, rfl⟩ : ∃ v5, v5 = u5 := ⟨_, rfl⟩
      obtain ⟨wo, rfl⟩ : ∃ wo : World, wo = wr := ⟨_, rfl⟩
      have hcB : wo.cell? ⟨w.heap.size, 0, none⟩ = some (.slice a k cap) := hB.cell rfl
      obtain ⟨rm, hrm, hrm0⟩ : ∃ rm : Int, max room 0 = rm ∧ 0 ≤ rm := ⟨_, rfl, by omega⟩
      have hrm2 : rm ≤ 9223372036854775807 := by omega
      obtain ⟨q, hq, hq0⟩ : ∃ q : Nat, max ((k : Int) - rm) 0 = (q : Int) ∧ q ≤ k := ⟨(max ((k : Int) - rm) 0).toNat, by omega, by omega⟩
      have HQ := Lib.hid (show many k room = q by unfold many; rw [hrm]; omega)
      by_cases he : (idx (gi l) k).length = 0
      · obtain ⟨a5, c5, hv5, hc5, _, _, _⟩ := hO.form
        rw [show ((idx (gi l) k).map natV).length = 0 from by rw [List.length_map]; exact he] at hv5 hc5
        subst hv5
        have HE := Lib.hid he
        clear he
        have m1 : min (0 : Int) (q : Int) = 0 := by omega
        have hnone : ∀ (fv : Value) (u : World), Calls Try.prog 14 #[.slice a5 0 c5, fv] u fun e w' => e = .returned (.tuple #[]) ∧ u = w' := fun fv u => by
          have h := AnyF.slices_SortFunc_none { Try.sortF with } a5 c5 fv u
          exact h.mono fun e w' ⟨h1, h2⟩ => ⟨h1, h2.symm⟩
        have hnone2 : ∀ (u : World), Calls Try.prog 18 #[.slice a5 0 c5] u fun e w' => e = .returned (.tuple #[]) ∧ u = w' := fun u =>
          (Try.slices_Sort_int_none a5 c5 u).mono fun e w' ⟨h1, h2⟩ => ⟨h1, h2.symm⟩
        have HN1 := Lib.hid hnone; clear hnone
        have HN2 := Lib.hid hnone2; clear hnone2
        go_wp2_with fail
        refine (HN1.out _ _).mono ?_
        rintro e w1 ⟨rfl, rfl⟩
        go_wp2_with fail
        refine (HN2.out _).mono ?_
        rintro e w1 ⟨rfl, rfl⟩
        go_wp2_with fail
        go_ret
        refine ⟨_, rfl, ?_, hK⟩
        have e1 : idx (gi l) k = [] := List.eq_nil_of_length_eq_zero HE.out
        have e2 : sortedN (gi l) k = [] := by have := (sortedN_perm (gi l) k).length_eq; rw [e1] at this; exact List.eq_nil_of_length_eq_zero this
        have e3 : (ascend k ((sortedN (gi l) k).take (many k room))).map natV = [] := by rw [e2]; simp [ascend]
        rw [e3]
        rw [e1] at hO
        exact hO.mono (by omega)
      · obtain ⟨g, c5, hv5, hg1, hg2⟩ := hO.leads (by rw [List.length_map]; omega)
        have hkn := idx_len (gi l) k
        have hO0 := hO
        rw [List.length_map] at hv5
        obtain ⟨K, hK5⟩ : ∃ K, K = (idx (gi l) k).length := ⟨_, rfl⟩
        rw [← hK5] at hv5 he hkn
        subst hv5
        obtain ⟨a5, c6, hf1, hf2, hf3, _⟩ := hO.form
        simp only [Value.slice.injEq] at hf1
        have hKc : K ≤ c5 := by rw [List.length_map, ← hK5] at hf2; omega
        have hc5 : c5 ≤ 9223372036854775807 := by have := hf3; unfold maxLen at this; omega
        clear hf1 hf2 hf3
        have hk0 : 0 < k := by omega
        obtain ⟨b, off, rfl, hcb⟩ := HA.out.get (j := 0) (by rw [HL.out]; exact hk0)
        have hbw : b < w.heap.size := World.block_lt_of_cell? w _ hcb
        have ha1 : IntsAt wo (some ⟨b, off, none⟩) l := HA.out.kp hK (by simp)
        have hSlen : (sortedN (gi l) k).length = K := by rw [(sortedN_perm (gi l) k).length_eq, hK5]
        have HSl := Lib.hid hSlen; clear hSlen
        have HSF := Lib.hid (spare_SortFunc w.heap.size b off k cap g K c5 l wo hcB ha1 HL.out hO (by omega) (by omega) hn hk0)
        clear ha1 hcb hK5
        obtain ⟨m, hm, hmK, hmq⟩ : ∃ m : Nat, min (K : Int) (q : Int) = (m : Int) ∧ m ≤ K ∧ (sortedN (gi l) k).take q = (sortedN (gi l) k).take m := by
          refine ⟨min K q, by omega, by omega, ?_⟩
          by_cases h : K ≤ q
          · rw [List.take_of_length_le (by rw [HSl.out]; exact h), List.take_of_length_le (by rw [HSl.out]; omega)]
          · rw [show min K q = q from by omega]
        have HMQ := Lib.hid hmq; clear hmq
        have hmc : (m : Int) ≤ (c5 : Int) := by omega
        go_wp2_with fail
        refine HSF.out.mono ?_
        rintro e w2 ⟨rfl, hO2, hK2⟩
        have hB2 := hB.kp hK2 (by omega)
        have hcB2 : w2.cell? ⟨w.heap.size, 0, none⟩ = some (.slice (some ⟨b, off, none⟩) k cap) := hB2.cell rfl
        have hO3 := hO2.cut (m := m) (by rw [List.length_map, HSl.out]; exact hmK)
        rw [← List.map_take, ← HMQ.out] at hO3
        have hKK := hK.trans hK2 (fun i hi h => by omega)
        clear hO0 hO hO2 hB hK hcB HSF
        by_cases hm0 : m = 0
        · subst hm0
          go_wp2_with fail
          refine (sort_none _ _ _).mono ?_
          rintro e w3 ⟨rfl, rfl⟩
          go_wp2_with fail
          go_ret
          refine ⟨_, rfl, ?_, hKK⟩
          rw [HQ.out]
          rw [HMQ.out] at hO3 ⊢
          have e3 : (ascend k ((sortedN (gi l) k).take 0)).map natV = [] := by simp [ascend]
          rw [e3]
          exact hO3.mono (by omega)
        · have HSrt := Lib.hid (spare_Sort g m c5 ((sortedN (gi l) k).take q) k w2 hO3 (List.Pairwise.sublist (List.take_sublist _ _) (sorted_goes (gi l) k).nodup) (fun i hi => (((sorted_goes (gi l) k).mem i).1 (List.mem_of_mem_take hi)).1) (by rw [List.length_take, HSl.out]; omega))
          go_wp2_with fail
          refine HSrt.out.mono ?_
          rintro e w3 ⟨rfl, hO4, hK4⟩
          go_wp2_with fail
          go_ret
          refine ⟨_, rfl, ?_, hKK.trans hK4 (fun i hi h => by omega)⟩
          rw [HQ.out]
          exact hO4.mono (by omega)

end Go.Proofs.Ytojodmfkenfhlaa
