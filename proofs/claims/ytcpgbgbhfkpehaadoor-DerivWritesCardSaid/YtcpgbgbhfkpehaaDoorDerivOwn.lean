/-
  latchetlaw28.Own, Few.
-/
import Derived.Test.YtcpgbgbhfkpehaaDoorDerivSame
import Derived.Test.YtcpgbgbhfkpehaaDoorDerivRef2
import Derived.Test.YtcpgbgbhfkpehaaDoorSteps
import Derived.Deep.RegionHeld3
namespace Go.Proofs.YtcpgbgbhfkpehaaDoor
open Go.RowKit

theorem own_empty {w : World} {base g : Nat} {e : TypeId} (h : Blk w g #[] e) (hg : base ≤ g) : Own w base e (.slice (some ⟨g, 0, none⟩) 0 0) [] :=
  ⟨by simp, .inr ⟨g, 0, #[], rfl, hg, h, Nat.le_refl _, by simp [maxLen], by simp, by simp⟩⟩

/-- lines of the call's own, each clause in a block of its own: what they read -/
def LnsI (w : World) (base : Nat) (rs : List (Bool × Value)) (L : List (Bool × List Int)) : Prop :=
  rs.length = L.length ∧ ∀ (k : Nat) (r : Bool × Value) (x : Bool × List Int), rs[k]? = some r → L[k]? = some x → r.1 = x.1 ∧ Own w base 3 r.2 (x.2.map (Value.int .i64))

theorem LnsI.kp {S : Nat → Prop} {w w' : World} {base : Nat} {rs : List (Bool × Value)} {L : List (Bool × List Int)} (h : LnsI w base rs L) (k : Kp S w w') (hS : ∀ r ∈ rs, ∀ j, r.2.ownBlock = some j → ¬ S j) : LnsI w' base rs L :=
  ⟨h.1, fun i r x hr hx => ⟨(h.2 i r x hr hx).1, (h.2 i r x hr hx).2.kp k (hS r (List.mem_of_getElem? hr))⟩⟩

theorem LnsI.snoc {w : World} {base : Nat} {rs : List (Bool × Value)} {L : List (Bool × List Int)} {f : Bool} {v : Value} {c : List Int} (h : LnsI w base rs L) (hv : Own w base 3 v (c.map (Value.int .i64))) : LnsI w base (rs ++ [(f, v)]) (L ++ [(f, c)]) := by
  refine ⟨by rw [List.length_append, List.length_append, h.1]; rfl, ?_⟩
  intro k r x hr hx
  by_cases hk : k < rs.length
  · rw [List.getElem?_append_left hk] at hr
    rw [List.getElem?_append_left (by rw [← h.1]; exact hk)] at hx
    exact h.2 k r x hr hx
  · rw [List.getElem?_append_right (by omega)] at hr
    rw [List.getElem?_append_right (by rw [← h.1]; omega), ← h.1] at hx
    cases hi : k - rs.length with
    | zero =>
      rw [hi] at hr hx
      simp at hr hx
      subst hr hx
      exact ⟨rfl, hv⟩
    | succ n => rw [hi] at hr; simp at hr

/-- each clause's block is a block of ints -/
theorem LnsI.block {w : World} {base : Nat} {rs : List (Bool × Value)} {L : List (Bool × List Int)} (h : LnsI w base rs L) {r : Bool × Value} (hr : r ∈ rs) {j : Nat} (hj : r.2.ownBlock = some j) : base ≤ j ∧ ∃ c, Blk w j c 3 := by
  obtain ⟨k, hk⟩ := List.mem_iff_getElem?.1 hr
  have hkl := (List.getElem?_eq_some_iff.1 hk).1
  have hO := (h.2 k r _ hk (List.getElem?_eq_getElem (by rw [← h.1]; exact hkl))).2
  rcases hO.2 with ⟨hv, _⟩ | ⟨g, cap, cur, hv, hb, hg, _⟩
  · rw [hv] at hj; cases hj
  · rw [hv] at hj
    have e : g = j := by simpa [Value.ownBlock] using hj
    subst e
    exact ⟨hb, cur, hg⟩

theorem take_li {L : List (Bool × List Int)} {k : Nat} (h : k < L.length) : L.take (k + 1) = L.take k ++ [li L k] := by
  rw [List.take_succ_eq_append_getElem h]
  congr 2
  unfold li; rw [List.getElem?_eq_getElem h]; rfl

set_option maxRecDepth 100000 in
set_option maxHeartbeats 4000000 in
theorem law28_Own (a : Option Addr) (cap : Nat) (L : List (Bool × List Int)) (n : Nat) (w : World) (hr : LnsAt w a L) (hln : L.length = n) (hn : n ≤ 100000) (hcl : ∀ x ∈ L, x.2.length ≤ 100000) :
    Calls Tryd.prog 48 #[.slice a n cap] w fun e w' => ∃ v rs, e = .returned v ∧ OwnK w' w.heap.size 86 2 v (lrows rs) ∧ LnsI w' w.heap.size rs L ∧ Kp (fun _ => False) w w' := by
  have HLN := Lib.hid hln; clear hln
  have HR := Lib.hid hr; clear hr
  have HCL := Lib.hid hcl; clear hcl
  go_enter Tryd.func48, Tryd.ntmps48
  go_wp2_with fail
  go_loopw [3, 4] (fun v3 v4 wr => ∃ (k : Nat) (rs : List (Bool × Value)), k ≤ n ∧ v4 = .int .i64 k ∧ OwnK wr w.heap.size 86 2 v3 (lrows rs) ∧ LnsI wr w.heap.size rs (L.take k) ∧ Kp (fun _ => False) w wr) (fun _ v4 _ => n - (intOf v4).toNat)
  case atStart => exact ⟨0, [], Nat.zero_le _, rfl, ownK_empty (Blk.new w #[] 86) (Nat.le_refl _), ⟨rfl, fun k r x h => by simp at h⟩, (Kp.refl _ _).alloc _⟩
  case round =>
    obtain ⟨k, rs, hk, rfl, hO, hL, hK⟩ := hrel
    have HO := Lib.hid hO; clear hO
    have HL := Lib.hid hL; clear hL
    by_cases hlt : k < n
    · have hlt' : k < L.length := by rw [HLN.out]; exact hlt
      obtain ⟨b, off, v, rfl, c0w, c1w, hv⟩ := HR.out.line hlt'
      obtain ⟨⟨f, c⟩, hx⟩ : ∃ x, li L k = x := ⟨_, rfl⟩
      have hc100 := HCL.out (li L k) (List.mem_of_getElem? (li_at hlt'))
      rw [hx] at c0w hv hc100
      simp only at c0w hv hc100
      have HX := Lib.hid hx; clear hx
      obtain ⟨av, cv, rfl, _, _, hnil, hv4⟩ := hv
      have HV := Lib.hid hv4; clear hv4
      obtain ⟨m, hm⟩ : ∃ m, c.length = m := ⟨_, rfl⟩
      rw [hm] at c1w hc100
      have HM := Lib.hid hm; clear hm
      have HNil := Lib.hid hnil; clear hnil
      have c0 := hK.cellAt c0w
      have c1 := hK.cellAt c1w
      have HC0 := Lib.hid c0w
      have HC1 := Lib.hid c1w
      clear c0w c1w
      have hsz := hK.size
      have i0 : (0 : Int) ≤ (k : Int) := by omega
      have i1 : (k : Int) < (n : Int) := by omega
      have d : decide ((k : Int) < (n : Int)) = true := by simp; omega
      have HO1 := Lib.hid (show OwnK ((wr.alloc (.cells #[] 3)).drew) wr.heap.size 3 1 (.slice (some ⟨wr.heap.size, 0, none⟩) 0 0) [] from ownK_empty (Blk.new wr #[] 3).drew (Nat.le_refl _))
      have HK1 := Lib.hid ((hK.alloc (.cells #[] 3)).drew)
      have HKr := Lib.hid (((Kp.refl (fun _ => False) wr).alloc (.cells #[] 3)).drew)
      obtain ⟨news, hnews⟩ : ∃ news, (c.map (Value.int .i64)).map (fun x => [x]) = news := ⟨_, rfl⟩
      have HN1 : Hid (∀ r ∈ news, r.length = 1) := by
        intro r hr
        rw [← hnews] at hr
        obtain ⟨x, _, rfl⟩ := List.mem_map.1 hr
        rfl
      have HN2 : Hid (news.length = m) := by
        show _ = _
        rw [← hnews, List.length_map, List.length_map]; exact HM.out
      have HN3 : Hid (RowAt ((wr.alloc (.cells #[] 3)).drew) av news.flatten) := by
        rw [← hnews, flat_ones]
        exact HV.out.kp HK1.out (fun _ _ h => h)
      have HN4 : Hid (∀ u ∈ news.flatten, u.oneCell' = true) := by
        intro u hu
        rw [← hnews, flat_ones] at hu
        obtain ⟨x, _, rfl⟩ := List.mem_map.1 hu
        rfl
      have HNE := Lib.hid hnews; clear hnews
      have hb1 : ((lrows rs).length + 1) * 32 ≤ 140737488355328 := by have := HL.out.1; rw [List.length_take] at this; simp [lrows]; omega
      have hb2 : (lrows rs).length + 1 ≤ maxLen := by have := HL.out.1; rw [List.length_take] at this; simp [lrows]; unfold maxLen; omega
      have hwr : wr.heap.size < (wr.alloc (.cells #[] 3)).drew.heap.size := by simp
      go_wp2_with fail
      go_region_held3 (fun w' => w'.cell? ⟨b, off + k * 2, none⟩ = some (.bool f) ∧ w'.cell? ⟨b, off + k * 2 + 1, none⟩ = some (.slice av m cv)) (go_keep) ((first
        | (refine step_appendAllK (by rfl) _ _ 57 3 (by rfl) Tryd.underlying57 intInfo rfl (by decide) HO1.out (by rfl) av m cv news (by rfl) HN1.out HN2.out HN3.out HNil.out HN4.out (by simp; omega) (by simp; unfold maxLen; omega) (Nat.le_of_lt hwr) ?_
           intro v1 w1 hO1 hg1 _
           obtain ⟨a1, c1', rfl, _⟩ := hO1.form
           have el : ([] ++ news).length = m := HN2.out
           rw [el] at hO1 ⊢
           clear el
           have HKp1 := Lib.hid (HKr.out.grown hg1 (fun j hj hl => by simp [Value.ownBlock] at hj; omega))
           have c0 := (hK.trans HKp1.out (fun _ _ h => h)).cellAt HC0.out
           have c1 := (hK.trans HKp1.out (fun _ _ h => h)).cellAt HC1.out
           have HO2 : Hid (Own w1 wr.heap.size 3 (.slice a1 m c1') (c.map (Value.int .i64))) := by
             refine OwnK.row ?_
             rw [List.nil_append, ← HNE.out] at hO1
             exact hO1
           have hb3 : w.heap.size ≤ (w1.alloc (.cells #[.bool f, .slice a1 m c1'] 86)).heap.size := by have := HKp1.out.size; simp; omega
           clear hO1 hg1)
        | (refine step_appendAllK (by rfl) _ _ 73 86 (by rfl) Tryd.underlying73 lineInfo rfl (by decide) ((HO.out.kp HKp1.out (fun _ _ h => h)).alloc _) (by rfl) (some ⟨w1.heap.size, 0, none⟩) 1 1 [[.bool f, .slice a1 m c1']] (by rfl) (by simp) (by rfl) ((Blk.new w1 #[.bool f, .slice a1 m c1'] 86).rowAt (n := 2) rfl) (by simp) (by simp [Value.oneCell']) hb1 hb2 hb3 ?_
           intro v2 w2 hO3 hg2 _
           obtain ⟨a2, c2', rfl, _⟩ := hO3.form
           obtain ⟨m2, hm2⟩ : ∃ m2, (lrows rs ++ [[Value.bool f, Value.slice a1 m c1']]).length = m2 := ⟨_, rfl⟩
           rw [hm2] at hO3 ⊢
           clear hm2
           have hKx : Kp (fun j => u3.ownBlock = some j) w1 w2 := ((Kp.refl _ w1).alloc _).grown hg2 (fun j hj _ => hj)
           have hoU := HO.out.kp HKp1.out (fun _ _ h => h)
           have HKp2 := Lib.hid ((hK.trans HKp1.out (fun _ _ h => h)).trans hKx (fun j hj h => by have := (HO.out.lt j h).1; omega))
           have c0 := HKp2.out.cellAt HC0.out
           have c1 := HKp2.out.cellAt HC1.out
           have HO4 := Lib.hid hO3
           have HL4 := Lib.hid (((HL.out.kp HKp1.out (fun _ _ _ _ h => h)).kp hKx (fun r hr j hj h => by
             obtain ⟨_, cc, hb⟩ := (HL.out.kp HKp1.out (fun _ _ _ _ h => h)).block hr hj
             obtain ⟨_, cc', hb'⟩ := hoU.blk h
             exact absurd (blk_type hb hb') (by decide))).snoc (f := f) ((HO2.out.mono hsz).kp hKx (fun j hj h => by
               have h1 := (HO2.out.lt j hj).1
               have h2 := (HO.out.lt j h).2
               omega)))
           clear hO3 hg2 hKx hoU)))
      all_goals
        go_wp2_with fail
        go_roundw
        case rel =>
          refine ⟨k + 1, rs ++ [(f, .slice a1 m c1')], by omega, by go_num, ?_, ?_, ?_⟩
          · rw [show lrows (rs ++ [(f, .slice a1 m c1')]) = lrows rs ++ [[Value.bool f, Value.slice a1 m c1']] by simp [lrows]]
            first | exact HO4.out | exact HO4.out.drew
          · rw [take_li hlt', HX.out]
            first | exact HL4.out | exact HL4.out.kp ((Kp.refl (fun _ => False) _).drew) (fun _ _ _ _ h => h)
          · first | exact HKp2.out | exact HKp2.out.drew
        case measure => simp [intOf]; omega
    · have e : L.take k = L := List.take_of_length_le (by rw [HLN.out]; omega)
      rw [e] at HL
      go_wp2_with fail
      go_ret
      exact ⟨_, rs, rfl, HO.out, HL.out, hK⟩

end Go.Proofs.YtcpgbgbhfkpehaaDoor
