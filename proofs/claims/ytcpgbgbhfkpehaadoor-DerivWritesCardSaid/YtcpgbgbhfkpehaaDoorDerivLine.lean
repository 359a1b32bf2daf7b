/-
  deriv.line.
-/
import Derived.Test.YtcpgbgbhfkpehaaDoorDerivWalk
namespace Go.Proofs.YtcpgbgbhfkpehaaDoor
open Go.RowKit

theorem two_blocks (w : World) (c0 c1 : Array Value) (t : TypeId) : Blk ((w.alloc (.cells c0 t)).alloc (.cells c1 t)) w.heap.size c0 t ∧ Blk ((w.alloc (.cells c0 t)).alloc (.cells c1 t)) (w.heap.size + 1) c1 t ∧ Kp (fun _ => False) w ((w.alloc (.cells c0 t)).alloc (.cells c1 t)) := by
  refine ⟨(Blk.new w c0 t).alloc _, ?_, ((Kp.refl _ _).alloc _).alloc _⟩
  have := Blk.new (w.alloc (.cells c0 t)) c1 t
  rw [World.size_alloc] at this
  exact this

set_option maxRecDepth 100000 in
set_option maxHeartbeats 2000000 in
theorem deriv_line_nosign (s : ByteArray) (w : World) (h1 : ¬ ∃ r, s.data.toList = 43 :: r) (h2 : ¬ ∃ r, s.data.toList = 45 :: r) :
    Calls Tryd.prog 107 #[.string s] w (LineP (lineR s) w) := by
  rw [line_nosign h1 h2]
  have HH := Lib.hid (fun u => Tryd.strings_HasPrefix s ⟨#[45]⟩ u)
  rw [show (⟨#[45]⟩ : ByteArray).data.toList = [45] from rfl, has_not h2] at HH
  have HC := Lib.hid (fun u => Tryd.strings_CutPrefix s ⟨#[43]⟩ u)
  rw [show (⟨#[43]⟩ : ByteArray).data.toList = [43] from rfl, has_not h1] at HC
  clear h1 h2
  have HB := Lib.hid (two_blocks w #[.bool false, .slice none 0 0] #[.bool false, .slice none 0 0] 86)
  have HE : Hid (∀ w', Kp (fun _ => False) w w' → LineP none w (.returned (.tuple #[.agg #[.bool false, .slice none 0 0], .bool false])) w') := fun w' hk => ⟨hk, _, _, _, _, rfl⟩
  go_enter Tryd.func107, Tryd.ntmps107
  go_wp2_with fail
  refine (HH.out _).mono ?_
  rintro e w' ⟨rfl, hw⟩
  have hw' := hw.symm; clear hw; subst hw'
  go_wp2_with fail
  refine (deriv_sign false _ _).mono ?_
  rintro e w1 ⟨rfl, hK⟩
  go_wp2_with fail
  refine (HC.out _).mono ?_
  rintro e w' ⟨rfl, hw⟩
  have hw' := hw.symm; clear hw; subst hw'
  have hB0 := HB.out.1.kp hK (fun h => h)
  have hB1 := HB.out.2.1.kp hK (fun h => h)
  have hend := ((HB.out.2.2.trans hK (fun _ _ h => h)).setCell (p := ⟨w.heap.size, 0, none⟩) (by simp) (.bool false)).setCell (p := ⟨w.heap.size, 1, none⟩) (by simp) (.slice none 0 0)
  have a0 := hB0.cell (i := 0) rfl
  have a1 := hB0.cell (i := 1) rfl
  have b0 := hB1.cell (i := 0) rfl
  have b1 := hB1.cell (i := 1) rfl
  have f0 := hB0.free 0
  have f1 := hB0.free 1
  clear hB0 hB1 hK
  go_wp2_with fail
  exact bodyPost_ret (v := .tuple #[.agg #[.bool false, .slice none 0 0], .bool false]) (by simp [results, Tryd.results107, go_sem, a0, a1]) rfl (HE.out _ hend)

theorem sgn_data (f : Bool) : (sgn f).data.toList = [sgb f] := by cases f <;> rfl

theorem has_sign {s : ByteArray} {f : Bool} {r : List UInt8} (h : s.data.toList = sgb f :: r) : Lib.hasPrefix s.data.toList [45] = f := by
  cases f with
  | false =>
    refine has_not ?_
    rintro ⟨r', h'⟩
    rw [h] at h'
    simp [sgb] at h'
  | true => exact (has_one s 45).2 ⟨r, h⟩

set_option maxRecDepth 100000 in
set_option maxHeartbeats 2000000 in
theorem deriv_line_bare (s : ByteArray) (w : World) (f : Bool) (h : s.data.toList = [sgb f]) :
    Calls Tryd.prog 107 #[.string s] w (LineP (lineR s) w) := by
  rw [line_bare h]
  have HH := Lib.hid (fun u => Tryd.strings_HasPrefix s ⟨#[45]⟩ u)
  rw [show (⟨#[45]⟩ : ByteArray).data.toList = [45] from rfl, has_sign h] at HH
  have HC := Lib.hid (fun u => Tryd.strings_CutPrefix s (sgn f) u)
  rw [sgn_data, trim_one h, (has_one s (sgb f)).2 ⟨_, h⟩] at HC
  clear h
  have HB := Lib.hid (two_blocks w #[.bool false, .slice none 0 0] #[.bool f, .slice none 0 0] 86)
  have HE : Hid (∀ w', Kp (fun _ => False) w w' → LineP (some (f, [])) w (.returned (.tuple #[.agg #[.bool f, .slice none 0 0], .bool true])) w') := fun w' hk => ⟨hk, _, rfl, Own.nil _ _ _⟩
  have e1 : (⟨[].toArray⟩ : ByteArray).toList = [] := toList_nil rfl
  have e2 : (⟨[].toArray⟩ : ByteArray).toList.isEmpty = true := by rw [e1]; rfl
  go_enter Tryd.func107, Tryd.ntmps107
  go_wp2_with fail
  refine (HH.out _).mono ?_
  rintro e w' ⟨rfl, hw⟩
  have hw' := hw.symm; clear hw; subst hw'
  go_wp2_with fail
  refine (deriv_sign f _ _).mono ?_
  rintro e w1 ⟨rfl, hK⟩
  go_wp2_with fail
  refine (HC.out _).mono ?_
  rintro e w' ⟨rfl, hw⟩
  have hw' := hw.symm; clear hw; subst hw'
  have hB0 := HB.out.1.kp hK (fun h => h)
  have hB1 := HB.out.2.1.kp hK (fun h => h)
  have hend := ((HB.out.2.2.trans hK (fun _ _ h => h)).setCell (p := ⟨w.heap.size, 0, none⟩) (by simp) (.bool f)).setCell (p := ⟨w.heap.size, 1, none⟩) (by simp) (.slice none 0 0)
  have a0 := hB0.cell (i := 0) rfl
  have a1 := hB0.cell (i := 1) rfl
  have b0 := hB1.cell (i := 0) rfl
  have b1 := hB1.cell (i := 1) rfl
  have f0 := hB0.free 0
  have f1 := hB0.free 1
  clear hB0 hB1 hK
  go_wp2_with fail
  exact bodyPost_ret (v := .tuple #[.agg #[.bool f, .slice none 0 0], .bool true]) (by simp [results, Tryd.results107, go_sem, a0, a1]) rfl (HE.out _ hend)

theorem not_empty {s : ByteArray} (h : s.size ≠ 0) : ¬ s.toList = [] ∧ s.toList.isEmpty = false ∧ (!s.toList.isEmpty) = true := by
  have h1 : ¬ s.toList = [] := fun e => h (nil_toList e)
  have h2 : s.toList.isEmpty = false := by cases hl : s.toList with
    | nil => exact absurd hl h1
    | cons a r => rfl
  exact ⟨h1, h2, by rw [h2]; rfl⟩

theorem is_empty {s : ByteArray} (h : s.size = 0) : s.toList = [] ∧ s.toList.isEmpty = true ∧ (!s.toList.isEmpty) = false := by
  have h1 := toList_nil h
  exact ⟨h1, by rw [h1]; rfl, by rw [h1]; rfl⟩

set_option maxRecDepth 100000 in
set_option maxHeartbeats 4000000 in
/-- behind the sign stands something: what clause.Read and the tests say of it -/
theorem deriv_line_more (s : ByteArray) (w : World) (f : Bool) (rest : ByteArray) (wd : ByteArray) (bl : Bool) (h : s.data.toList = sgb f :: rest.data.toList) (hne : rest.size ≠ 0) (hm : ML w)
    (hcut : ∀ u, Calls Tryd.prog 137 #[.string rest, .string ⟨#[32]⟩] u fun e w' => e = .returned (.tuple #[.string wd, .bool bl]) ∧ w' = u) (hwd : wd.size ≤ 100000)
    (R : Option (Bool × List Nat)) (hP : ∀ v w', Own w' w.heap.size 3 v (nums ((clauseR wd).getD [])) → Kp (fun _ => False) w w' → LineP R w (.returned (.tuple #[.agg #[.bool f, v], .bool (bl && decide (wd.size ≠ 0) && (okE (clauseR wd) == 0))])) w') :
    Calls Tryd.prog 107 #[.string s] w (LineP R w) := by
  have HH := Lib.hid (fun u => Tryd.strings_HasPrefix s ⟨#[45]⟩ u)
  rw [show (⟨#[45]⟩ : ByteArray).data.toList = [45] from rfl, has_sign h] at HH
  have HC := Lib.hid (fun u => Tryd.strings_CutPrefix s (sgn f) u)
  rw [sgn_data, trim_one h, (has_one s (sgb f)).2 ⟨_, h⟩, mk_data] at HC
  clear h
  have HB := Lib.hid (two_blocks w #[.bool false, .slice none 0 0] #[.bool f, .slice none 0 0] 86)
  obtain ⟨r1, r2, r3⟩ := not_empty hne
  clear hne
  have HCR := Lib.hid (fun u hu => clause_Read wd u hwd hu)
  have HM := Lib.hid hm; clear hm
  have HCut := Lib.hid hcut; clear hcut
  have HP := Lib.hid hP; clear hP
  obtain ⟨E, hE⟩ : ∃ E, okE (clauseR wd) = E := ⟨_, rfl⟩
  rw [hE] at HP HCR
  clear hE
  have hc : ((bl = false) ∨ (bl = true ∧ wd.size = 0) ∨ (bl = true ∧ wd.size ≠ 0)) := by
    cases bl
    · exact .inl rfl
    · by_cases h : wd.size = 0
      · exact .inr (.inl ⟨rfl, h⟩)
      · exact .inr (.inr ⟨rfl, h⟩)
  have main : ∀ ok : Bool, (bl && decide (wd.size ≠ 0) && (E == 0)) = ok → ((bl = false ∧ ok = false) ∨ (bl = true ∧ wd.size = 0 ∧ ok = false) ∨ (bl = true ∧ wd.size ≠ 0 ∧ (E == 0) = ok)) := by
    intro ok hok
    rcases hc with rfl | ⟨rfl, h⟩ | ⟨rfl, h⟩
    · left; simpa using hok.symm
    · right; left; simp [h] at hok; exact ⟨rfl, h, hok⟩
    · right; right; simp [h] at hok; exact ⟨rfl, h, by rw [← hok]⟩
  obtain ⟨ok, hok⟩ : ∃ ok, (bl && decide (wd.size ≠ 0) && (E == 0)) = ok := ⟨_, rfl⟩
  have hw3 := main ok hok
  rw [hok] at HP
  clear main hc hok hwd
  rcases hw3 with ⟨rfl, rfl⟩ | ⟨rfl, h0, rfl⟩ | ⟨rfl, h0, hE0⟩
  case' inr.inl => obtain ⟨q1, q2, q3⟩ := is_empty h0; clear h0
  case' inr.inr => obtain ⟨q1, q2, q3⟩ := not_empty h0; clear h0
  all_goals
    go_enter Tryd.func107, Tryd.ntmps107
    go_wp2_with fail
    refine (HH.out _).mono ?_
    rintro e w' ⟨rfl, hw⟩
    have hw' := hw.symm; clear hw; subst hw'
    go_wp2_with fail
    refine (deriv_sign f _ _).mono ?_
    rintro e w1 ⟨rfl, hK⟩
    go_wp2_with fail
    refine (HC.out _).mono ?_
    rintro e w' ⟨rfl, hw⟩
    have hw' := hw.symm; clear hw; subst hw'
    go_wp2_with fail
    refine (HCut.out _).mono ?_
    rintro e w' ⟨rfl, hw⟩
    have hw' := hw.symm; clear hw; subst hw'
    go_wp2_with fail
    have hK0 := HB.out.2.2.trans hK (fun _ _ h => h)
    refine (HCR.out _ (HM.out.kp hK0)).mono ?_
    rintro e w2 ⟨v, rfl, hO, hK2⟩
    have hB0 := (HB.out.1.kp hK (fun h => h)).kp hK2 (fun h => h)
    have hB1 := (HB.out.2.1.kp hK (fun h => h)).kp hK2 (fun h => h)
    have hK3 := hK0.trans hK2 (fun _ _ h => h)
    have HK3 := Lib.hid (((hK3.setCell (p := ⟨w.heap.size + 1, 1, none⟩) (by simp) v).setCell (p := ⟨w.heap.size, 0, none⟩) (by simp) (.bool f)).setCell (p := ⟨w.heap.size, 1, none⟩) (by simp) v)
    have hsz0 := hK0.size
    have hO2 := hO.mono hsz0
    have hown : ∀ j, v.ownBlock = some j → j ≠ w.heap.size ∧ j ≠ w.heap.size + 1 := fun j hj => by
      have h1 := (hO.lt j hj).1
      have h2 := (HB.out.2.1.kp hK (fun h => h)).lt
      omega
    have HO3 := Lib.hid (((hO2.set_other (p := ⟨w.heap.size + 1, 1, none⟩) (fun j hj => (hown j hj).2) v).set_other (p := ⟨w.heap.size, 0, none⟩) (fun j hj => (hown j hj).1) (.bool f)).set_other (p := ⟨w.heap.size, 1, none⟩) (fun j hj => (hown j hj).1) v)
    have a0 := hB0.cell (i := 0) rfl
    have a1 := hB0.cell (i := 1) rfl
    have b0 := hB1.cell (i := 0) rfl
    have b1 := hB1.cell (i := 1) rfl
    have f0 := hB0.free 0
    have f1 := hB0.free 1
    have g1 := hB1.free 1
    clear hB0 hB1 hK hK2 hO hK0 hK3 hO2 hown
    obtain ⟨va, vn, vc, rfl⟩ : ∃ va vn vc, v = .slice va vn vc := by
      obtain ⟨a, c, h, _⟩ := HO3.out.form
      exact ⟨a, _, c, h⟩
    go_wp2_with fail
    first
      | exact bodyPost_ret (v := .tuple #[.agg #[.bool f, .slice va vn vc], .bool false]) (by simp [results, Tryd.results107, go_sem, a0, a1]) rfl (HP.out _ _ HO3.out HK3.out)
      | exact bodyPost_ret (v := .tuple #[.agg #[.bool f, .slice va vn vc], .bool ok]) (by simp [results, Tryd.results107, go_sem, a0, a1]) rfl (HP.out _ _ HO3.out HK3.out)

theorem cut_blank {rest : ByteArray} {r : List UInt8} (h : rest.data.toList = 32 :: r) (u : World) : Calls Tryd.prog 137 #[.string rest, .string ⟨#[32]⟩] u fun e w' => e = .returned (.tuple #[.string ⟨r.toArray⟩, .bool true]) ∧ w' = u := by
  have HC := Tryd.strings_CutPrefix rest ⟨#[32]⟩ u
  rw [show (⟨#[32]⟩ : ByteArray).data.toList = [32] from rfl, (has_one rest 32).2 ⟨r, h⟩, trim_one h] at HC
  exact HC

theorem cut_noblank {rest : ByteArray} (h : ¬ ∃ r, rest.data.toList = 32 :: r) (u : World) : Calls Tryd.prog 137 #[.string rest, .string ⟨#[32]⟩] u fun e w' => e = .returned (.tuple #[.string rest, .bool false]) ∧ w' = u := by
  have HC := Tryd.strings_CutPrefix rest ⟨#[32]⟩ u
  rw [show (⟨#[32]⟩ : ByteArray).data.toList = [32] from rfl, has_not h] at HC
  have e : (⟨(Lib.trimPrefix rest.data.toList [32]).toArray⟩ : ByteArray) = rest := by
    apply ba_ext
    unfold Lib.trimPrefix
    rw [has_not h]; rfl
  rw [e] at HC
  exact HC

theorem deriv_line (s : ByteArray) (w : World) (hs : s.size ≤ 100000) (hm : ML w) :
    Calls Tryd.prog 107 #[.string s] w (LineP (lineR s) w) := by
  by_cases hn : (¬ ∃ r, s.data.toList = 43 :: r) ∧ (¬ ∃ r, s.data.toList = 45 :: r)
  · exact deriv_line_nosign s w hn.1 hn.2
  · obtain ⟨f, r, hr⟩ : ∃ f r, s.data.toList = sgb f :: r := by
      by_cases h1 : ∃ r, s.data.toList = 43 :: r
      · obtain ⟨r, h⟩ := h1; exact ⟨false, r, h⟩
      · by_cases h2 : ∃ r, s.data.toList = 45 :: r
        · obtain ⟨r, h⟩ := h2; exact ⟨true, r, h⟩
        · exact absurd ⟨h1, h2⟩ hn
    clear hn
    have hsz : r.length + 1 = s.size := by rw [← list_size, hr]; rfl
    cases r with
    | nil => exact deriv_line_bare s w f hr
    | cons c r =>
      simp only [List.length_cons] at hsz
      by_cases hc : c = 32
      · subst hc
        refine deriv_line_more s w f ⟨(32 :: r).toArray⟩ ⟨r.toArray⟩ true hr (by rw [← list_size]; simp) hm (cut_blank rfl) (by rw [← list_size]; simp; omega) _ ?_
        intro v w' hO hK
        refine ⟨hK, ?_⟩
        rw [line_words hr]
        by_cases h0 : r = []
        · subst h0
          rw [if_pos rfl]
          obtain ⟨a, cp, rfl, _⟩ := hO.form
          exact ⟨f, _, _, _, rfl⟩
        · rw [if_neg h0]
          have hz : decide ((⟨r.toArray⟩ : ByteArray).size ≠ 0) = true := by
            rw [← list_size]
            simpa using h0
          rw [hz]
          cases hq : clauseR ⟨r.toArray⟩ with
          | none =>
            obtain ⟨a, cp, rfl, _⟩ := hO.form
            exact ⟨f, _, _, _, rfl⟩
          | some l =>
            rw [hq] at hO
            exact ⟨v, rfl, hO⟩
      · refine deriv_line_more s w f ⟨(c :: r).toArray⟩ ⟨(c :: r).toArray⟩ false hr (by rw [← list_size]; simp) hm (cut_noblank (by rintro ⟨r', h⟩; simp at h; exact hc h.1)) (by rw [← list_size]; simp; omega) _ ?_
        intro v w' hO hK
        refine ⟨hK, ?_⟩
        rw [line_noblank hr hc]
        obtain ⟨a, cp, rfl, _⟩ := hO.form
        exact ⟨f, _, _, _, rfl⟩

end Go.Proofs.YtcpgbgbhfkpehaaDoor
