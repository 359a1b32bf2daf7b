/-
  latchetref04's Perm.
-/
import Derived.Test.YtmfhbjfphohfkaaRandWalks
namespace Go.Proofs.Ytmfhbjfphohfkaa
open Go.RowKit

theorem ref_Perm_none (s n : Int) (w : World) (h : n < 0 ∨ 100000 < n) :
    Calls Try.prog 15 #[.agg #[.int .u64 s], .int .i64 n] w fun e w' =>
      ∃ a cap, e = .returned (.tuple #[.slice a 0 cap, .agg #[.int .u64 s]]) ∧ Kp (fun _ => False) w w' := by
  rcases h with h | h
  · go_enter Try.func15, Try.ntmps15
    go_wp2
    go_region
    all_goals go_wp2
    all_goals exact bodyPost_ret (v := .tuple #[.slice (some ⟨w.heap.size + 1 + 1, 0, none⟩) 0 0, .agg #[.int .u64 s]]) (by simp [results, Try.results15, go_sem]) rfl ⟨_, _, rfl, ((((Kp.refl _ _).alloc _).alloc _).alloc _).drew⟩
  · have h' : ¬ n < 0 := by omega
    go_enter Try.func15, Try.ntmps15
    go_wp2
    go_region
    all_goals go_wp2
    all_goals exact bodyPost_ret (v := .tuple #[.slice (some ⟨w.heap.size + 1 + 1, 0, none⟩) 0 0, .agg #[.int .u64 s]]) (by simp [results, Try.results15, go_sem]) rfl ⟨_, _, rfl, ((((Kp.refl _ _).alloc _).alloc _).alloc _).drew⟩

set_option maxHeartbeats 1000000 in
theorem ref_Perm (n : Nat) (s : Int) (w : World) (hn : n ≤ 100000) :
    Calls Try.prog 15 #[.agg #[.int .u64 s], .int .i64 n] w fun e w' =>
      ∃ v, e = .returned (.tuple #[v, .agg #[.int .u64 (permS s n)]]) ∧ Own w' w.heap.size 3 v ((permL s n).map (Value.int .i64)) ∧ Kp (fun _ => False) w w' := by
  have g1 : decide ((n : Int) < 0) = false := by simp
  have g2 : decide ((100000 : Int) < (n : Int)) = false := by simp; omega
  go_enter Try.func15, Try.ntmps15
  go_wp2
  have hB0 : Blk (((w.alloc (.cells #[.int .u64 s] 34)).alloc (.cells #[.int .u64 0] 34)).alloc (.cells #[] 3)) w.heap.size #[.int .u64 s] 34 := ((Blk.new _ _ _).alloc _).alloc _
  have hB1 : Blk (((w.alloc (.cells #[.int .u64 s] 34)).alloc (.cells #[.int .u64 0] 34)).alloc (.cells #[] 3)) (w.heap.size + 1) #[.int .u64 0] 34 := by
    have h := (Blk.new (w.alloc (.cells #[.int .u64 s] 34)) #[.int .u64 0] 34).alloc (.cells #[] 3)
    simpa using h
  have hO : Own (((w.alloc (.cells #[.int .u64 s] 34)).alloc (.cells #[.int .u64 0] 34)).alloc (.cells #[] 3)) (w.heap.size + 2) 3 (.slice (some ⟨w.heap.size + 1 + 1, 0, none⟩) 0 0) [] := by
    have h := World.ownsRow_lit (base := w.heap.size + 2) (e := 3) (size := 1) ((w.alloc (.cells #[.int .u64 s] 34)).alloc (.cells #[.int .u64 0] 34)) #[] 0 (by simp) (by simp [maxLen]) (by simp)
    simpa [Own] using h
  have hK0 : Kp (fun _ => False) w (((w.alloc (.cells #[.int .u64 s] 34)).alloc (.cells #[.int .u64 0] 34)).alloc (.cells #[] 3)) := (((Kp.refl _ _).alloc _).alloc _).alloc _
  go_loopw [6, 7] (fun v i wr => ∃ k : Nat, k ≤ n ∧ i = .int .i64 k ∧ Own wr (w.heap.size + 2) 3 v ((countUp k).map (Value.int .i64)) ∧ Blk wr w.heap.size #[.int .u64 s] 34 ∧ Blk wr (w.heap.size + 1) #[.int .u64 0] 34 ∧ Kp (fun _ => False) w wr) (fun _ i _ => n - (intOf i).toNat)
  case atStart => exact ⟨0, Nat.zero_le _, rfl, hO, hB0, hB1, hK0⟩
  case round =>
    clear hB0 hB1 hO hK0
    obtain ⟨k, hk, rfl, hO, hB0, hB1, hK⟩ := hrel
    have hsz : w.heap.size + 2 ≤ wr.heap.size := by have := hB1.lt; omega
    by_cases hlt : k < n
    · go_wp2_with (at_builtin; refine wpList_append1 rfl _ _ 25 3 rfl Try.underlying25 Try.info3 rfl (hO.alloc _) rfl ⟨wr.heap.size, 0, none⟩ (.int .i64 k) rfl ?c1 rfl ?c2 ?c3 ?c4 ?_)
      case c1 => exact World.cell?_alloc_at _ _ _ _ rfl
      case c2 => simp [countUp]; omega
      case c3 => simp [countUp, maxLen]; omega
      case c4 => simp; omega
      intro v' w1 hO1 hg1
      have hne : ∀ j, u6.ownBlock = some j → w.heap.size + 2 ≤ j := fun j hj => (hO.lt j hj).1
      have hK1 : Kp (fun j => u6.ownBlock = some j) wr w1 := ((Kp.refl _ wr).alloc _).grown hg1 (fun j hj _ => hj)
      have hB01 := hB0.kp hK1 (fun h => by have := hne _ h; omega)
      have hB11 := hB1.kp hK1 (fun h => by have := hne _ h; omega)
      have hKK := hK.trans hK1 (fun j hj h => by have := hne _ h; omega)
      have hcu : (countUp k).map (Value.int .i64) ++ [.int .i64 k] = (countUp (k + 1)).map (Value.int .i64) := by simp [countUp, List.range_succ]
      rw [hcu] at hO1
      clear hO hB0 hB1 hK hg1 hne hK1 hcu hsz
      go_wp2
      go_roundw
      case rel => exact ⟨k + 1, by omega, by go_num, hO1, hB01, hB11, hKK⟩
      case measure => simp [intOf]; omega
    · have ek : k = n := by omega
      subst ek
      obtain ⟨v, rfl⟩ : ∃ v, v = u6 := ⟨_, rfl⟩
      obtain ⟨wo, rfl⟩ : ∃ wo : World, wo = wr := ⟨_, rfl⟩
      go_wp2
      go_loopw [8] (fun i wr => ∃ (x s' : Int) (l : List Int), i = .int .i64 x ∧ -1 ≤ x ∧ x < k ∧ l.length = k ∧ shuf x.toNat s' l = permL s k ∧ shufS x.toNat s' = permS s k ∧ Own wr (w.heap.size + 2) 3 v (l.map (Value.int .i64)) ∧ Blk wr w.heap.size #[.int .u64 s'] 34 ∧ Blk wr (w.heap.size + 1) #[.int .u64 0] 34 ∧ Kp (fun _ => False) w wr) (fun i _ => (intOf i).toNat)
      case atStart =>
        have e1 : ((k : Int) - 1).toNat = k - 1 := by omega
        exact ⟨(k : Int) - 1, s, countUp k, rfl, by omega, by omega, by simp [countUp], by rw [e1]; rfl, by rw [e1]; rfl, hO, hB0, hB1, hK⟩
      case round =>
        clear hO hB0 hB1 hK hsz
        obtain ⟨x, s', l, rfl, hx1, hx2, hl, hs1, hs2, hO, hB0, hB1, hK⟩ := hrel
        have HL := Lib.hid hl; clear hl
        have HS1 := Lib.hid hs1; clear hs1
        have HS2 := Lib.hid hs2; clear hs2
        have hsz : w.heap.size + 2 ≤ wr.heap.size := by have := hB1.lt; omega
        by_cases hpos : 0 < x
        · obtain ⟨g, cap, hv, hg1, hg2⟩ := hO.leads (by simp [HL.out]; omega)
          rw [show (l.map (Value.int .i64)).length = k from by simp [HL.out]] at hv
          subst hv
          have hc0 : wr.cell? ⟨w.heap.size, 0, none⟩ = some (.int .u64 s') := hB0.cell rfl
          go_wp2_with fail
          refine (ref_Below s' _ _ (by omega) (by omega)).mono ?_
          rintro e w1 ⟨rfl, hK1⟩
          have q1 : 0 ≤ told (nxt s') % (x + 1) := Int.emod_nonneg _ (by omega)
          have q2 : told (nxt s') % (x + 1) < x + 1 := Int.emod_lt_of_pos _ (by omega)
          obtain ⟨q, hq⟩ : ∃ q, q = told (nxt s') % (x + 1) := ⟨_, rfl⟩
          rw [← hq] at q1 q2
          rw [← hq]
          have HQ := Lib.hid hq; clear hq
          have hO1 := hO.kp hK1 (by simp)
          have hB01 := hB0.kp hK1 (by simp)
          have hB11 := hB1.kp hK1 (by simp)
          have hsz1 := hK1.size
          have d1 : w.heap.size < w1.heap.size := by omega
          have d2 : g < w1.heap.size := by omega
          have c0 : w1.cell? ⟨w.heap.size, 0, none⟩ = some (.int .u64 s') := hB01.cell rfl
          have f0 := hB01.free 0
          clear hc0
          go_wp2
          have hO2 : Own ((w1.setCell ⟨w.heap.size, 0, none⟩ (.int .u64 (nxt s'))).alloc (.cells #[.int .u64 (nxt s')] 34)) (w.heap.size + 2) 3 (.slice (some ⟨g, 0, none⟩) k cap) (l.map (Value.int .i64)) :=
            (hO1.set_other (fun j hj => by simp [Value.ownBlock] at hj; simp; omega) _).alloc _
          have hB02 : Blk ((w1.setCell ⟨w.heap.size, 0, none⟩ (.int .u64 (nxt s'))).alloc (.cells #[.int .u64 (nxt s')] 34)) w.heap.size #[.int .u64 (nxt s')] 34 := (hB01.set_same 0 _).alloc _
          have hB12 : Blk ((w1.setCell ⟨w.heap.size, 0, none⟩ (.int .u64 (nxt s'))).alloc (.cells #[.int .u64 (nxt s')] 34)) (w.heap.size + 1) #[.int .u64 0] 34 := (hB11.set_other (by simp) _).alloc _
          have hK2 : Kp (fun _ => False) w ((w1.setCell ⟨w.heap.size, 0, none⟩ (.int .u64 (nxt s'))).alloc (.cells #[.int .u64 (nxt s')] 34)) := ((hK.trans hK1 (fun _ _ h => h)).setCell (p := ⟨w.heap.size, 0, none⟩) (fun h => absurd h (by simp)) _).alloc _
          generalize (w1.setCell ⟨w.heap.size, 0, none⟩ (.int .u64 (nxt s'))).alloc (.cells #[.int .u64 (nxt s')] 34) = W2 at hO2 hB02 hB12 hK2 ⊢
          clear hO hB0 hB1 hK hO1 hB01 hB11 hK1 d1 d2 c0 f0
          have hcx : W2.cell? ⟨g, x.toNat, none⟩ = some (.int .i64 (gi l x.toNat)) := hO2.cell (by rw [List.getElem?_map]; simp [gi, List.getElem?_eq_getElem (show x.toNat < l.length by rw [HL.out]; omega)])
          have hcq : W2.cell? ⟨g, q.toNat, none⟩ = some (.int .i64 (gi l q.toNat)) := hO2.cell (by rw [List.getElem?_map]; simp [gi, List.getElem?_eq_getElem (show q.toNat < l.length by rw [HL.out]; omega)])
          have hfx := hO2.free x.toNat
          have hfq := hO2.free q.toNat
          obtain ⟨v', hv'⟩ := cell_after_set (p := ⟨g, x.toNat, none⟩) (.int .i64 (gi l q.toNat)) hcq
          have hqk : q < (k : Int) := by omega
          go_region
          all_goals go_wp2
          all_goals go_roundw
          case rel =>
            refine ⟨x - 1, nxt s', swapL l x.toNat q.toNat, rfl, by omega, by omega, by rw [swapL_length]; exact HL.out, ?_, ?_, ?_, ?_, ?_, ?_⟩
            · have h := HS1.out
              rw [show x.toNat = (x - 1).toNat + 1 from by omega] at h
              simp only [shuf] at h
              rw [show (((x - 1).toNat : Nat) : Int) + 2 = x + 1 from by omega, show (x - 1).toNat + 1 = x.toNat from by omega] at h
              rw [HQ.out]
              exact h
            · have h := HS2.out
              rw [show x.toNat = (x - 1).toNat + 1 from by omega] at h
              exact h
            · have h := ((hO2.set x.toNat (.int .i64 (gi l q.toNat))).set q.toNat (.int .i64 (gi l x.toNat))).drew
              unfold swapL
              rw [List.map_set, List.map_set]
              exact h
            · exact ((hB02.set_other (p := ⟨g, x.toNat, none⟩) (by simp; omega) _).set_other (p := ⟨g, q.toNat, none⟩) (by simp; omega) _).drew
            · exact ((hB12.set_other (p := ⟨g, x.toNat, none⟩) (by simp; omega) _).set_other (p := ⟨g, q.toNat, none⟩) (by simp; omega) _).drew
            · exact ((hK2.setCell (p := ⟨g, x.toNat, none⟩) (fun h => absurd h (by simp; omega)) _).setCell (p := ⟨g, q.toNat, none⟩) (fun h => absurd h (by simp; omega)) _).drew
          case measure => simp [intOf]; omega
        · have h0 : x.toNat = 0 := by omega
          rw [h0] at HS1 HS2
          have c0 : wr.cell? ⟨w.heap.size, 0, none⟩ = some (.int .u64 s') := hB0.cell rfl
          have c1 : wr.cell? ⟨w.heap.size + 1, 0, none⟩ = some (.int .u64 0) := hB1.cell rfl
          have f1 := hB1.free 0
          go_wp2
          go_region
          all_goals go_wp2
          all_goals
            refine bodyPost_ret (v := .tuple #[v, .agg #[.int .u64 s']]) (by simp [results, Try.results15, go_sem, World.cell?_setCell_same _ _ _ c1]) rfl ⟨v, ?_, ?_, ?_⟩
            · rw [← HS2.out]; rfl
            · rw [← HS1.out]
              exact ((hO.set_other (p := ⟨w.heap.size + 1, 0, none⟩) (fun j hj => by have := (hO.lt j hj).1; simp; omega) _).drew).mono (by omega)
            · exact (hK.setCell (p := ⟨w.heap.size + 1, 0, none⟩) (fun h => absurd h (by simp)) _).drew

end Go.Proofs.Ytmfhbjfphohfkaa
