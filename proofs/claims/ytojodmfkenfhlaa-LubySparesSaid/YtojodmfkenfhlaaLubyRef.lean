/-
  latchetref26.Spare: what it computes.
-/
import Derived.Test.YtojodmfkenfhlaaRows
import Derived.Test.YtojodmfkenfhlaaLubySpare
import Derived.Deep.QuietTactic
import Derived.BigQuiet
namespace Go.Proofs.Ytojodmfkenfhlaa
open Go.RowKit

theorem Try.info3 : (Try.prog.info? 3).map (fun i => (i.zero, i.size, i.bytes)) = some (some (.int .i64 0), 1, 8) := by kernel_rfl
theorem Try.info4 : (Try.prog.info? 4).map (fun i => (i.zero, i.size, i.bytes)) = some (some (.bool false), 1, 1) := by kernel_rfl

/-- how many may be let go -/
def many (n : Nat) (room : Int) : Nat := ((n : Int) - max room 0).toNat

set_option maxRecDepth 100000 in
set_option maxHeartbeats 1000000 in
theorem ref_Spare_in (a : Option Addr) (n cap : Nat) (l : List Int) (room R : Int) (S : List Nat) (w : World) (ha : IntsAt w a l) (hl : l.length = n) (hn : n ≤ 1000) (hS : Goes (gi l) n S) (hR1 : R ≤ 9223372036854775807)
    (hR : room < 0 ∧ R = 0 ∨ 0 ≤ room ∧ R = room) :
    Calls Try.prog 8 #[.slice a n cap, .int .i64 room] w fun e w' =>
      ∃ v, e = .returned v ∧ Own w' w.heap.size 3 v ((ascend n (S.take ((n : Int) - R).toNat)).map (fun i : Nat => Value.int .i64 i)) ∧ Kp (fun _ => False) w w' := by
  obtain ⟨i0, hi, hz0, hz1, hz2⟩ := info_parts Try.info4
  have hmk : ∀ u : World, (Instr.makeSlice 34 (.int .i64 (n : Int)) (.int .i64 (n : Int))).run Try.prog u =
      .ok (.slice (some ⟨u.heap.size, 0, none⟩) n n) (u.alloc (.cells (madeCells #[.bool false] n) 4)) := fun u => by
    have h := run_make (P := Try.prog) u 34 4 i0 (.bool false) Try.underlying34 hi hz0 .i64 .i64 (n : Int) (n : Int) (by omega) (Int.le_refl _) (by rw [hz2]; omega) (by omega)
    simpa [hz1, Value.cells] using h
  clear hi hz0 hz1 hz2 i0
  have HL := Lib.hid hl; clear hl
  have HA := Lib.hid ha; clear ha
  have HS := Lib.hid hS; clear hS
  have hmade := goneL_made n
  rcases hR with ⟨h0, rfl⟩ | ⟨h0, rfl⟩
  · have g0 : decide (room < 0) = true := by simp; omega
    go_enter Try.func8, Try.ntmps8
    go_wp2
    go_loopw [6] (fun v6 wr => ∃ (x : Int) (t : Nat), v6 = .int .i64 x ∧ x + t = (n : Int) - 0 ∧ (t = 0 ∨ 0 ≤ x) ∧ Blk wr w.heap.size (boolsA (goneL n (S.take t))) 4 ∧ Kp (fun _ => False) w wr) (fun v6 _ => (intOf v6).toNat)
    case atStart => exact ⟨_, 0, rfl, by omega, .inl rfl, Blk.new _ _ _, (Kp.refl _ _).alloc _⟩
    case round =>
      obtain ⟨x, t, rfl, hxt, ht, hG, hK⟩ := hrel
      by_cases hx : 0 < x
      · have x1 : decide (0 < x) = true := by simp; omega
        obtain ⟨wo, rfl⟩ : ∃ wo : World, wo = wr := ⟨_, rfl⟩
        go_wp2
        go_loopw [7, 8] (fun v7 v8 wr => ∃ (k : Nat) (at_ : Int) (q : Nat), k ≤ n ∧ v8 = .int .i64 k ∧ v7 = .int .i64 at_ ∧ -1 ≤ at_ ∧ at_ < n ∧ Best (gi l) (S.take t) k at_ ∧ wr = wo.drewN q) (fun _ v8 _ => n - (intOf v8).toNat)
        case atStart => exact ⟨0, -1, 0, Nat.zero_le _, rfl, rfl, by omega, by omega, Best.zero _ _, rfl⟩
        case round =>
          obtain ⟨k, at_, q, hk, rfl, rfl, a1, a2, hb, rfl⟩ := hrel
          have HB := Lib.hid hb; clear hb
          by_cases hlt : k < n
          · have i1 : (0 : Int) ≤ (k : Int) := by omega
            have i2 : (k : Int) < (n : Int) := by omega
            obtain ⟨b, off, rfl, hc⟩ := ((HA.out.get (j := k) (by rw [HL.out]; exact hlt)).kp hK (by simp))
            have hcg := hG.cell (goneL_get (l := S.take t) hlt)
            by_cases hg : k ∈ S.take t
            · have e1 : decide (k ∈ S.take t) = true := by simp [hg]
              rw [e1] at hcg
              have HG := Lib.hid hg; clear hg e1
              have GG := Lib.hid (HB.out.pass (.inl HG.out))
              go_wp2
              go_quiet (fail)
              go_wp2
              go_roundw
              case rel => exact ⟨k + 1, at_, _, by omega, by go_num, rfl, a1, by omega, GG.out, rfl⟩
              case measure => simp [intOf]; omega
            · have e1 : decide (k ∈ S.take t) = false := by simp [hg]
              rw [e1] at hcg
              have HG := Lib.hid hg; clear hg e1
              by_cases h2 : 2 < gi l k
              · have e2 : decide (2 < gi l k) = true := by simp [h2]
                by_cases hat : at_ < 0
                · have e3 : decide (at_ < 0) = true := by simp; omega
                  have GG := Lib.hid (HB.out.take HG.out h2 (.inl hat))
                  go_wp2
                  go_quiet (fail)
                  go_wp2
                  go_roundw
                  case rel => exact ⟨k + 1, (k : Int), _, by omega, by go_num, rfl, by omega, by omega, GG.out, rfl⟩
                  case measure => simp [intOf]; omega
                · have e3 : decide (at_ < 0) = false := by simp; omega
                  have i3 : at_ < (n : Int) := by omega
                  have i4 : 0 ≤ at_ := by omega
                  obtain ⟨b', off', hsome, hc'⟩ := ((HA.out.get (j := at_.toNat) (by rw [HL.out]; omega)).kp hK (by simp))
                  obtain ⟨rfl, rfl⟩ : b = b' ∧ off = off' := by simpa using hsome
                  clear hsome
                  by_cases h4 : gi l at_.toNat < gi l k
                  · have e4 : decide (gi l at_.toNat < gi l k) = true := by simp [h4]
                    have GG := Lib.hid (HB.out.take HG.out h2 (.inr h4))
                    go_wp2
                    go_quiet (fail)
                    go_wp2
                    go_roundw
                    case rel => exact ⟨k + 1, (k : Int), _, by omega, by go_num, rfl, by omega, by omega, GG.out, rfl⟩
                    case measure => simp [intOf]; omega
                  · have e4 : decide (gi l at_.toNat < gi l k) = false := by simp; omega
                    have GG := Lib.hid (HB.out.pass (.inr (.inr ⟨i4, by omega⟩)))
                    go_wp2
                    go_quiet (fail)
                    go_wp2
                    go_roundw
                    case rel => exact ⟨k + 1, at_, _, by omega, by go_num, rfl, a1, by omega, GG.out, rfl⟩
                    case measure => simp [intOf]; omega
              · have e2 : decide (2 < gi l k) = false := by simp; omega
                have GG := Lib.hid (HB.out.pass (.inr (.inl h2)))
                go_wp2
                go_quiet (fail)
                go_wp2
                go_roundw
                case rel => exact ⟨k + 1, at_, _, by omega, by go_num, rfl, a1, by omega, GG.out, rfl⟩
                case measure => simp [intOf]; omega
          · have hkn : k = n := by omega
            subst hkn
            have HN := Lib.hid (HS.out.next HB.out)
            by_cases hat : at_ < 0
            · have e3 : decide (0 ≤ at_) = false := by simp; omega
              have hlen : S.length ≤ t := by
                rcases HN.out with h | ⟨h, h'⟩
                · exact h.2
                · omega
              have HT := Lib.hid (show S.take (t + 1) = S.take t by rw [take_all hlen, take_all (by omega)])
              clear HN hlen
              go_wp2
              go_roundw
              case rel => exact ⟨x - 1, t + 1, rfl, by omega, by omega, by rw [HT.out]; exact hG.drewN q, hK.drewN q⟩
              case measure => simp [intOf]; omega
            · have e3 : decide (0 ≤ at_) = true := by simp; omega
              obtain ⟨ai, rfl⟩ : ∃ ai : Nat, at_ = ai := ⟨at_.toNat, by omega⟩
              have HT : Hid (∀ i, i ∈ S.take (t + 1) ↔ i ∈ S.take t ∨ i = ai) := by
                rcases HN.out with h | ⟨h, h'⟩
                · omega
                · intro i
                  rw [take_next h, show S[t] = ai from by omega]
              have hca := hG.cell (goneL_get (l := S.take t) (i := ai) (by omega))
              have hfa := hG.free ai
              have i5 : (ai : Int) < (k : Int) := by omega
              clear HN
              go_wp2
              go_roundw
              case rel =>
                refine ⟨x - 1, t + 1, rfl, by omega, by omega, ?_, (hK.drewN q).setCell (p := ⟨w.heap.size, ai, none⟩) (fun h => absurd h (by simp)) _⟩
                rw [← goneL_set HT.out]
                exact (hG.drewN q).set_same ai _
              case measure => simp [intOf]; omega
      · have x1 : decide (0 < x) = false := by simp; omega
        obtain ⟨G, hGe⟩ : ∃ G, G = S.take t := ⟨_, rfl⟩
        have HGE := Lib.hid (show S.take ((n : Int) - 0).toNat = G by rw [hGe]; congr 1; omega)
        rw [← hGe] at hG
        clear hGe
        obtain ⟨wo, rfl⟩ : ∃ wo : World, wo = wr := ⟨_, rfl⟩
        have hBlt := hG.lt
        have hO : Own (wo.alloc (.cells #[] 3)) (w.heap.size + 1) 3 (.slice (some ⟨wo.heap.size, 0, none⟩) 0 0) [] := by
          have h := World.ownsRow_lit (base := w.heap.size + 1) (e := 3) (size := 1) wo #[] 0 (by omega) (by simp [maxLen]) (by simp)
          simpa [Own] using h
        go_wp2
        go_loopw [9, 10] (fun v9 v10 wr => ∃ k : Nat, k ≤ n ∧ v10 = .int .i64 k ∧ Own wr (w.heap.size + 1) 3 v9 ((ascend k G).map (fun i : Nat => Value.int .i64 i)) ∧ Blk wr w.heap.size (boolsA (goneL n G)) 4 ∧ Kp (fun _ => False) w wr) (fun _ v10 _ => n - (intOf v10).toNat)
        case atStart => exact ⟨0, Nat.zero_le _, rfl, hO, hG.alloc _, hK.alloc _⟩
        case round =>
          clear hO hG hK
          obtain ⟨k, hk, rfl, hO, hG, hK⟩ := hrel
          have hlen : (ascend k G).length ≤ k := by have := List.length_filter_le (fun i => decide (i ∈ G)) (List.range k); simpa [ascend] using this
          have HLen := Lib.hid hlen; clear hlen
          by_cases hlt : k < n
          · have i1 : (0 : Int) ≤ (k : Int) := by omega
            have i2 : (k : Int) < (n : Int) := by omega
            have hcg := hG.cell (goneL_get (l := G) hlt)
            have hlt2 := hG.lt
            by_cases hg : k ∈ G
            · have e1 : decide (k ∈ G) = true := by simp [hg]
              rw [e1] at hcg
              have HA2 := Lib.hid (show (ascend k G).map (fun i : Nat => Value.int .i64 i) ++ [Value.int .i64 k] = (ascend (k + 1) G).map (fun i : Nat => Value.int .i64 i) by rw [ascend_snoc, if_pos hg, List.map_append]; rfl)
              clear hg e1
              go_wp2_with (at_builtin; refine wpList_append1 rfl _ _ 22 3 rfl Try.underlying22 Try.info3 rfl (hO.alloc _) rfl ⟨wr.heap.size, 0, none⟩ (.int .i64 k) rfl ?c1 rfl ?c2 ?c3 ?c4 ?_)
              case c1 => exact World.cell?_alloc_at _ _ _ _ rfl
              case c2 => have := HLen.out; simp; omega
              case c3 => have := HLen.out; simp [maxLen]; omega
              case c4 => simp; omega
              intro v' w1 hO1 hg1
              have hne : ∀ j, u9.ownBlock = some j → w.heap.size + 1 ≤ j := fun j hj => (hO.lt j hj).1
              have hK1 : Kp (fun j => u9.ownBlock = some j) wr w1 := ((Kp.refl _ wr).alloc _).grown hg1 (fun j hj _ => hj)
              have hG1 := hG.kp hK1 (fun h => by have := hne _ h; omega)
              have hKK := hK.trans hK1 (fun j hj h => by have := hne _ h; omega)
              rw [HA2.out] at hO1
              clear hO hG hK hg1 hne hK1 HA2 hcg
              go_wp2
              go_roundw
              case rel => exact ⟨k + 1, by omega, by go_num, hO1, hG1, hKK⟩
              case measure => simp [intOf]; omega
            · have e1 : decide (k ∈ G) = false := by simp [hg]
              rw [e1] at hcg
              have HA2 := Lib.hid (show (ascend k G).map (fun i : Nat => Value.int .i64 i) = (ascend (k + 1) G).map (fun i : Nat => Value.int .i64 i) by rw [ascend_snoc, if_neg hg, List.append_nil])
              clear hg e1
              go_wp2
              go_roundw
              case rel => exact ⟨k + 1, by omega, by go_num, by rw [← HA2.out]; exact hO, hG, hK⟩
              case measure => simp [intOf]; omega
          · have hkn : k = n := by omega
            subst hkn
            go_wp2
            go_ret
            exact ⟨_, rfl, by rw [HGE.out]; exact hO.mono (by omega), hK⟩
  · have g0 : decide (R < 0) = false := by simp; omega
    go_enter Try.func8, Try.ntmps8
    go_wp2
    go_loopw [6] (fun v6 wr => ∃ (x : Int) (t : Nat), v6 = .int .i64 x ∧ x + t = (n : Int) - R ∧ (t = 0 ∨ 0 ≤ x) ∧ Blk wr w.heap.size (boolsA (goneL n (S.take t))) 4 ∧ Kp (fun _ => False) w wr) (fun v6 _ => (intOf v6).toNat)
    case atStart => exact ⟨_, 0, rfl, by omega, .inl rfl, Blk.new _ _ _, (Kp.refl _ _).alloc _⟩
    case round =>
      obtain ⟨x, t, rfl, hxt, ht, hG, hK⟩ := hrel
      by_cases hx : 0 < x
      · have x1 : decide (0 < x) = true := by simp; omega
        obtain ⟨wo, rfl⟩ : ∃ wo : World, wo = wr := ⟨_, rfl⟩
        go_wp2
        go_loopw [7, 8] (fun v7 v8 wr => ∃ (k : Nat) (at_ : Int) (q : Nat), k ≤ n ∧ v8 = .int .i64 k ∧ v7 = .int .i64 at_ ∧ -1 ≤ at_ ∧ at_ < n ∧ Best (gi l) (S.take t) k at_ ∧ wr = wo.drewN q) (fun _ v8 _ => n - (intOf v8).toNat)
        case atStart => exact ⟨0, -1, 0, Nat.zero_le _, rfl, rfl, by omega, by omega, Best.zero _ _, rfl⟩
        case round =>
          obtain ⟨k, at_, q, hk, rfl, rfl, a1, a2, hb, rfl⟩ := hrel
          have HB := Lib.hid hb; clear hb
          by_cases hlt : k < n
          · have i1 : (0 : Int) ≤ (k : Int) := by omega
            have i2 : (k : Int) < (n : Int) := by omega
            obtain ⟨b, off, rfl, hc⟩ := ((HA.out.get (j := k) (by rw [HL.out]; exact hlt)).kp hK (by simp))
            have hcg := hG.cell (goneL_get (l := S.take t) hlt)
            by_cases hg : k ∈ S.take t
            · have e1 : decide (k ∈ S.take t) = true := by simp [hg]
              rw [e1] at hcg
              have HG := Lib.hid hg; clear hg e1
              have GG := Lib.hid (HB.out.pass (.inl HG.out))
              go_wp2
              go_quiet (fail)
              go_wp2
              go_roundw
              case rel => exact ⟨k + 1, at_, _, by omega, by go_num, rfl, a1, by omega, GG.out, rfl⟩
              case measure => simp [intOf]; omega
            · have e1 : decide (k ∈ S.take t) = false := by simp [hg]
              rw [e1] at hcg
              have HG := Lib.hid hg; clear hg e1
              by_cases h2 : 2 < gi l k
              · have e2 : decide (2 < gi l k) = true := by simp [h2]
                by_cases hat : at_ < 0
                · have e3 : decide (at_ < 0) = true := by simp; omega
                  have GG := Lib.hid (HB.out.take HG.out h2 (.inl hat))
                  go_wp2
                  go_quiet (fail)
                  go_wp2
                  go_roundw
                  case rel => exact ⟨k + 1, (k : Int), _, by omega, by go_num, rfl, by omega, by omega, GG.out, rfl⟩
                  case measure => simp [intOf]; omega
                · have e3 : decide (at_ < 0) = false := by simp; omega
                  have i3 : at_ < (n : Int) := by omega
                  have i4 : 0 ≤ at_ := by omega
                  obtain ⟨b', off', hsome, hc'⟩ := ((HA.out.get (j := at_.toNat) (by rw [HL.out]; omega)).kp hK (by simp))
                  obtain ⟨rfl, rfl⟩ : b = b' ∧ off = off' := by simpa using hsome
                  clear hsome
                  by_cases h4 : gi l at_.toNat < gi l k
                  · have e4 : decide (gi l at_.toNat < gi l k) = true := by simp [h4]
                    have GG := Lib.hid (HB.out.take HG.out h2 (.inr h4))
                    go_wp2
                    go_quiet (fail)
                    go_wp2
                    go_roundw
                    case rel => exact ⟨k + 1, (k : Int), _, by omega, by go_num, rfl, by omega, by omega, GG.out, rfl⟩
                    case measure => simp [intOf]; omega
                  · have e4 : decide (gi l at_.toNat < gi l k) = false := by simp; omega
                    have GG := Lib.hid (HB.out.pass (.inr (.inr ⟨i4, by omega⟩)))
                    go_wp2
                    go_quiet (fail)
                    go_wp2
                    go_roundw
                    case rel => exact ⟨k + 1, at_, _, by omega, by go_num, rfl, a1, by omega, GG.out, rfl⟩
                    case measure => simp [intOf]; omega
              · have e2 : decide (2 < gi l k) = false := by simp; omega
                have GG := Lib.hid (HB.out.pass (.inr (.inl h2)))
                go_wp2
                go_quiet (fail)
                go_wp2
                go_roundw
                case rel => exact ⟨k + 1, at_, _, by omega, by go_num, rfl, a1, by omega, GG.out, rfl⟩
                case measure => simp [intOf]; omega
          · have hkn : k = n := by omega
            subst hkn
            have HN := Lib.hid (HS.out.next HB.out)
            by_cases hat : at_ < 0
            · have e3 : decide (0 ≤ at_) = false := by simp; omega
              have hlen : S.length ≤ t := by
                rcases HN.out with h | ⟨h, h'⟩
                · exact h.2
                · omega
              have HT := Lib.hid (show S.take (t + 1) = S.take t by rw [take_all hlen, take_all (by omega)])
              clear HN hlen
              go_wp2
              go_roundw
              case rel => exact ⟨x - 1, t + 1, rfl, by omega, by omega, by rw [HT.out]; exact hG.drewN q, hK.drewN q⟩
              case measure => simp [intOf]; omega
            · have e3 : decide (0 ≤ at_) = true := by simp; omega
              obtain ⟨ai, rfl⟩ : ∃ ai : Nat, at_ = ai := ⟨at_.toNat, by omega⟩
              have HT : Hid (∀ i, i ∈ S.take (t + 1) ↔ i ∈ S.take t ∨ i = ai) := by
                rcases HN.out with h | ⟨h, h'⟩
                · omega
                · intro i
                  rw [take_next h, show S[t] = ai from by omega]
              have hca := hG.cell (goneL_get (l := S.take t) (i := ai) (by omega))
              have hfa := hG.free ai
              have i5 : (ai : Int) < (k : Int) := by omega
              clear HN
              go_wp2
              go_roundw
              case rel =>
                refine ⟨x - 1, t + 1, rfl, by omega, by omega, ?_, (hK.drewN q).setCell (p := ⟨w.heap.size, ai, none⟩) (fun h => absurd h (by simp)) _⟩
                rw [← goneL_set HT.out]
                exact (hG.drewN q).set_same ai _
              case measure => simp [intOf]; omega
      · have x1 : decide (0 < x) = false := by simp; omega
        obtain ⟨G, hGe⟩ : ∃ G, G = S.take t := ⟨_, rfl⟩
        have HGE := Lib.hid (show S.take ((n : Int) - R).toNat = G by rw [hGe]; congr 1; omega)
        rw [← hGe] at hG
        clear hGe
        obtain ⟨wo, rfl⟩ : ∃ wo : World, wo = wr := ⟨_, rfl⟩
        have hBlt := hG.lt
        have hO : Own (wo.alloc (.cells #[] 3)) (w.heap.size + 1) 3 (.slice (some ⟨wo.heap.size, 0, none⟩) 0 0) [] := by
          have h := World.ownsRow_lit (base := w.heap.size + 1) (e := 3) (size := 1) wo #[] 0 (by omega) (by simp [maxLen]) (by simp)
          simpa [Own] using h
        go_wp2
        go_loopw [9, 10] (fun v9 v10 wr => ∃ k : Nat, k ≤ n ∧ v10 = .int .i64 k ∧ Own wr (w.heap.size + 1) 3 v9 ((ascend k G).map (fun i : Nat => Value.int .i64 i)) ∧ Blk wr w.heap.size (boolsA (goneL n G)) 4 ∧ Kp (fun _ => False) w wr) (fun _ v10 _ => n - (intOf v10).toNat)
        case atStart => exact ⟨0, Nat.zero_le _, rfl, hO, hG.alloc _, hK.alloc _⟩
        case round =>
          clear hO hG hK
          obtain ⟨k, hk, rfl, hO, hG, hK⟩ := hrel
          have hlen : (ascend k G).length ≤ k := by have := List.length_filter_le (fun i => decide (i ∈ G)) (List.range k); simpa [ascend] using this
          have HLen := Lib.hid hlen; clear hlen
          by_cases hlt : k < n
          · have i1 : (0 : Int) ≤ (k : Int) := by omega
            have i2 : (k : Int) < (n : Int) := by omega
            have hcg := hG.cell (goneL_get (l := G) hlt)
            have hlt2 := hG.lt
            by_cases hg : k ∈ G
            · have e1 : decide (k ∈ G) = true := by simp [hg]
              rw [e1] at hcg
              have HA2 := Lib.hid (show (ascend k G).map (fun i : Nat => Value.int .i64 i) ++ [Value.int .i64 k] = (ascend (k + 1) G).map (fun i : Nat => Value.int .i64 i) by rw [ascend_snoc, if_pos hg, List.map_append]; rfl)
              clear hg e1
              go_wp2_with (at_builtin; refine wpList_append1 rfl _ _ 22 3 rfl Try.underlying22 Try.info3 rfl (hO.alloc _) rfl ⟨wr.heap.size, 0, none⟩ (.int .i64 k) rfl ?c1 rfl ?c2 ?c3 ?c4 ?_)
              case c1 => exact World.cell?_alloc_at _ _ _ _ rfl
              case c2 => have := HLen.out; simp; omega
              case c3 => have := HLen.out; simp [maxLen]; omega
              case c4 => simp; omega
              intro v' w1 hO1 hg1
              have hne : ∀ j, u9.ownBlock = some j → w.heap.size + 1 ≤ j := fun j hj => (hO.lt j hj).1
              have hK1 : Kp (fun j => u9.ownBlock = some j) wr w1 := ((Kp.refl _ wr).alloc _).grown hg1 (fun j hj _ => hj)
              have hG1 := hG.kp hK1 (fun h => by have := hne _ h; omega)
              have hKK := hK.trans hK1 (fun j hj h => by have := hne _ h; omega)
              rw [HA2.out] at hO1
              clear hO hG hK hg1 hne hK1 HA2 hcg
              go_wp2
              go_roundw
              case rel => exact ⟨k + 1, by omega, by go_num, hO1, hG1, hKK⟩
              case measure => simp [intOf]; omega
            · have e1 : decide (k ∈ G) = false := by simp [hg]
              rw [e1] at hcg
              have HA2 := Lib.hid (show (ascend k G).map (fun i : Nat => Value.int .i64 i) = (ascend (k + 1) G).map (fun i : Nat => Value.int .i64 i) by rw [ascend_snoc, if_neg hg, List.append_nil])
              clear hg e1
              go_wp2
              go_roundw
              case rel => exact ⟨k + 1, by omega, by go_num, by rw [← HA2.out]; exact hO, hG, hK⟩
              case measure => simp [intOf]; omega
          · have hkn : k = n := by omega
            subst hkn
            go_wp2
            go_ret
            exact ⟨_, rfl, by rw [HGE.out]; exact hO.mono (by omega), hK⟩

end Go.Proofs.Ytojodmfkenfhlaa
