/-
  latchetlaw26.LubySpares: its walk.
-/
import Derived.Test.YtojodmfkenfhlaaLubyLaws
import Derived.Test.YtojodmfkenfhlaaOpenInts
namespace Go.Proofs.Ytojodmfkenfhlaa
open Go.RowKit

theorem ints_row (l : List Int) : (l.map (Value.int .i64)).length = l.length := by simp

set_option maxHeartbeats 1000000 in
theorem lubySpares_in (a : Option Addr) (len cap m : Nat) (l : List Int) (room : Int) (w : World) (ha : IntsAt w a l) (hl : l.length = m) (hm : len ≤ 200 ∧ m = len ∨ 200 < len ∧ m = 200) (hlc : len ≤ cap) (hcm : cap ≤ 9223372036854775807) (hnil : a = none → cap = 0)
    (hr1 : -9223372036854775808 ≤ room) (hr2 : room ≤ 9223372036854775807) :
    Calls Try.prog 3 #[.slice a len cap, .int .i64 room] w fun e w' => e = .returned (.bool true) ∧ Below w.heap.size w w' := by
  have HL := Lib.hid hl; clear hl
  have HA := Lib.hid ha; clear ha
  have HN := Lib.hid hnil; clear hnil
  have hO : Own (w.alloc (.cells #[] 3)) w.heap.size 3 (.slice (some ⟨w.heap.size, 0, none⟩) 0 0) [] := by
    have h := World.ownsRow_lit (base := w.heap.size) (e := 3) (size := 1) w #[] 0 (by omega) (by simp [maxLen]) (by simp)
    simpa [Own] using h
  have hra : RowAt (w.alloc (.cells #[] 3)) a (l.map (Value.int .i64)) := HA.out.kp ((Kp.refl (fun _ => False) w).alloc _) (by simp)
  rcases hm with ⟨h2, rfl⟩ | ⟨h2, rfl⟩
  · have c1 : decide ((200 : Int) < (m : Int)) = false := by simp; omega
    go_enter Try.func3, Try.ntmps3
    go_wp2_with (at_builtin; refine wpList_appendAll rfl _ _ 22 3 rfl Try.underlying22 Try.info3 rfl hO rfl a m cap (l.map (Value.int .i64)) rfl ?c1 hra HN.out ?c2 ?c3 ?c4 ?c5 ?_)
    case c1 => rw [List.length_map]; exact HL.out
    case c2 => intro u hu; obtain ⟨x, _, rfl⟩ := List.mem_map.1 hu; rfl
    case c3 => simp only [List.length_nil]; omega
    case c4 => simp only [List.length_nil]; unfold maxLen; omega
    case c5 => simp
    intro v1 w1 hO1 hg1
    have hK1 : Kp (fun _ => False) w w1 := ((Kp.refl _ w).alloc _).grown hg1 (fun j hj hlt => by simp [Value.ownBlock] at hj; omega)
    obtain ⟨a1, cap1, rfl, _, _, hfr1, hrow1⟩ := hO1.form
    rw [List.length_map, HL.out]
    have ha1 : IntsAt w1 a1 l := hrow1
    go_wp2_with fail
    refine (luby_Spare a1 m cap1 l room _ ha1 HL.out (by omega) hr1 hr2).mono ?_
    rintro e w2 ⟨v2, rfl, hO2, hK2⟩
    have ha2 : IntsAt w2 a l := (HA.out.kp hK1 (by simp)).kp hK2 (by simp)
    go_wp2_with fail
    refine (ref_Spare a m cap l room _ ha2 HL.out (by omega) hr2).mono ?_
    rintro e w3 ⟨v3, rfl, hO3, hK3⟩
    have hO2' := hO2.kp hK3 (by simp)
    obtain ⟨S, hS⟩ : ∃ S : List Int, (ascend m ((sortedN (gi l) m).take (many m room))).map natV = S.map (Value.int .i64) := ⟨(ascend m ((sortedN (gi l) m).take (many m room))).map (fun i : Nat => (i : Int)), by rw [List.map_map]; rfl⟩
    rw [hS] at hO2' hO3
    have hSl : S.length ≤ 200 := by
      have h1 := congrArg List.length hS
      rw [List.length_map, List.length_map] at h1
      have h2 := List.length_filter_le (fun i => decide (i ∈ (sortedN (gi l) m).take (many m room))) (List.range m)
      rw [List.length_range] at h2
      unfold ascend at h1
      omega
    clear hS hO2
    obtain ⟨a2, cap2, rfl, _, _, _, hrow2⟩ := hO2'.form
    obtain ⟨a3, cap3, rfl, _, _, _, hrow3⟩ := hO3.form
    rw [List.length_map]
    go_wp2_with fail
    refine (ref_Ints a2 a3 S.length S.length _ _ S S _ hrow2 hrow3 rfl rfl (by omega)).mono ?_
    rintro e w4 ⟨rfl, q, rfl⟩
    have b1 : (S == S) = true := by simp
    rw [b1]
    go_wp2_with fail
    refine (luby_lives _).mono ?_
    rintro e w5 ⟨rfl, hK5⟩
    go_wp2_with fail
    go_ret
    exact ⟨rfl, Kp.below ((((hK1.trans hK2 (fun _ _ h => h)).trans hK3 (fun _ _ h => h)).drewN q).trans hK5 (fun _ _ h => h)) (Nat.le_refl _) (fun _ _ h => h)⟩
  · have c1 : decide ((200 : Int) < (len : Int)) = true := by simp; omega
    go_enter Try.func3, Try.ntmps3
    go_wp2_with (at_builtin; refine wpList_appendAll rfl _ _ 22 3 rfl Try.underlying22 Try.info3 rfl hO rfl a 200 cap (l.map (Value.int .i64)) rfl ?c1 hra HN.out ?c2 ?c3 ?c4 ?c5 ?_)
    case c1 => rw [List.length_map]; exact HL.out
    case c2 => intro u hu; obtain ⟨x, _, rfl⟩ := List.mem_map.1 hu; rfl
    case c3 => simp only [List.length_nil]; omega
    case c4 => simp only [List.length_nil]; unfold maxLen; omega
    case c5 => simp
    intro v1 w1 hO1 hg1
    have hK1 : Kp (fun _ => False) w w1 := ((Kp.refl _ w).alloc _).grown hg1 (fun j hj hlt => by simp [Value.ownBlock] at hj; omega)
    obtain ⟨a1, cap1, rfl, _, _, hfr1, hrow1⟩ := hO1.form
    rw [List.length_map, HL.out]
    have ha1 : IntsAt w1 a1 l := hrow1
    go_wp2_with fail
    refine (luby_Spare a1 200 cap1 l room _ ha1 HL.out (by omega) hr1 hr2).mono ?_
    rintro e w2 ⟨v2, rfl, hO2, hK2⟩
    have ha2 : IntsAt w2 a l := (HA.out.kp hK1 (by simp)).kp hK2 (by simp)
    go_wp2_with fail
    refine (ref_Spare a 200 cap l room _ ha2 HL.out (by omega) hr2).mono ?_
    rintro e w3 ⟨v3, rfl, hO3, hK3⟩
    have hO2' := hO2.kp hK3 (by simp)
    obtain ⟨S, hS⟩ : ∃ S : List Int, (ascend 200 ((sortedN (gi l) 200).take (many 200 room))).map natV = S.map (Value.int .i64) := ⟨(ascend 200 ((sortedN (gi l) 200).take (many 200 room))).map (fun i : Nat => (i : Int)), by rw [List.map_map]; rfl⟩
    rw [hS] at hO2' hO3
    have hSl : S.length ≤ 200 := by
      have h1 := congrArg List.length hS
      rw [List.length_map, List.length_map] at h1
      have h2 := List.length_filter_le (fun i => decide (i ∈ (sortedN (gi l) 200).take (many 200 room))) (List.range 200)
      rw [List.length_range] at h2
      unfold ascend at h1
      omega
    clear hS hO2
    obtain ⟨a2, cap2, rfl, _, _, _, hrow2⟩ := hO2'.form
    obtain ⟨a3, cap3, rfl, _, _, _, hrow3⟩ := hO3.form
    rw [List.length_map]
    go_wp2_with fail
    refine (ref_Ints a2 a3 S.length S.length _ _ S S _ hrow2 hrow3 rfl rfl (by omega)).mono ?_
    rintro e w4 ⟨rfl, q, rfl⟩
    have b1 : (S == S) = true := by simp
    rw [b1]
    go_wp2_with fail
    refine (luby_lives _).mono ?_
    rintro e w5 ⟨rfl, hK5⟩
    go_wp2_with fail
    go_ret
    exact ⟨rfl, Kp.below ((((hK1.trans hK2 (fun _ _ h => h)).trans hK3 (fun _ _ h => h)).drewN q).trans hK5 (fun _ _ h => h)) (Nat.le_refl _) (fun _ _ h => h)⟩

theorem lubySpares_walk (W : World) (v : Value) (hv : IntsArg W v) (room : Int) (wr : (Lit.int .i64 room).wf = true) :
    Calls Try.prog 3 #[v, .int .i64 room] W fun e w' => e = .returned (.bool true) ∧ Below W.heap.size W w' := by
  obtain ⟨a, len, cap, l, rfl, hl, hlc, hcm, hnil, ha, _⟩ := hv
  have hr : -9223372036854775808 ≤ room ∧ room ≤ 9223372036854775807 := by
    simp [Lit.wf, IntKind.min, IntKind.max, IntKind.signed, IntKind.bits] at wr
    omega
  unfold maxLen at hcm
  by_cases h : len ≤ 200
  · exact lubySpares_in a len cap len l room W ha hl (.inl ⟨h, rfl⟩) hlc hcm hnil hr.1 hr.2
  · refine lubySpares_in a len cap 200 (l.take 200) room W ?_ (by simp; omega) (.inr ⟨by omega, rfl⟩) hlc hcm hnil hr.1 hr.2
    unfold IntsAt
    rw [List.map_take]
    exact RowAt.take ha 200

end Go.Proofs.Ytojodmfkenfhlaa
