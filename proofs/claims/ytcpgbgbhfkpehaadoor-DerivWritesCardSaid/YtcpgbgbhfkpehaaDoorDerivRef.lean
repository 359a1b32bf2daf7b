/-
  latchetref28.line and Read.
-/
import Derived.Test.YtcpgbgbhfkpehaaDoorDerivRead
namespace Go.Proofs.YtcpgbgbhfkpehaaDoor
open Go.RowKit

theorem ref02_Read_empty (w : World) : Calls Tryd.prog 158 #[.string ⟨#[]⟩] w fun e w' => e = .returned (litV (litR ⟨#[]⟩)) ∧ w = w' := by
  have HNat := Lib.hid (fun u => ref_Nat ⟨#[]⟩ 0 u (by decide))
  rw [show natT ⟨#[]⟩ 0 = (0, 0, 3) by decide +kernel] at HNat
  unfold tripI at HNat
  simp only at HNat
  have HL := Lib.hid (show litR ⟨#[]⟩ = none by decide +kernel)
  go_enter Tryd.func158, Tryd.ntmps158
  go_wp2_with fail
  refine (HNat.out _).mono ?_
  rintro e w' ⟨rfl, rfl⟩
  go_wp2_with fail
  go_ret2
  rw [HL.out]
  exact ⟨rfl, rfl⟩

set_option maxRecDepth 100000 in
set_option maxHeartbeats 2000000 in
theorem ref02_Read (s : ByteArray) (w : World) (hs : s.size ≤ 2000000) :
    Calls Tryd.prog 158 #[.string s] w fun e w' => e = .returned (litV (litR s)) ∧ w = w' := by
  by_cases hz : s.size = 0
  · obtain rfl : s = ⟨#[]⟩ := ba_ext (List.eq_nil_of_length_eq_zero (by rw [list_size]; exact hz))
    exact ref02_Read_empty w
  have hd := digW_size s
  have HNat := Lib.hid (fun u => ref_Nat (digW s) 0 u (by omega))
  rw [natT_zero] at HNat
  obtain ⟨v, en, er, hN⟩ : ∃ v en er, natN (digW s) 0 = (v, en, er) := ⟨_, _, _, rfl⟩
  rw [hN] at HNat
  unfold tripI at HNat
  simp only at HNat
  obtain ⟨hv, hen⟩ := natN_small (Nat.zero_le _) hN
  have HR := Lib.hid (litR_is hN)
  clear hN
  have z0 : ∀ p : Prop, (litR s = none → p) → (¬ (er = 0 ∧ en = (digW s).size ∧ v ≤ 16777216) → p) := fun p h hn => h (by rw [HR.out, if_neg hn])
  have fin : (litR s = none ∧ (((er : Int) != 0) = true ∨ ((er : Int) != 0) = false ∧ ((en : Int) != ((digW s).size : Int)) = true ∨ ((er : Int) != 0) = false ∧ ((en : Int) != ((digW s).size : Int)) = false ∧ decide ((16777216 : Int) < (v : Int)) = true)) ∨
      (litR s = some (2 * v + (if negW s then 1 else 0)) ∧ ((er : Int) != 0) = false ∧ ((en : Int) != ((digW s).size : Int)) = false ∧ decide ((16777216 : Int) < (v : Int)) = false) := by
    by_cases c0 : er = 0
    · by_cases c1 : en = (digW s).size
      · by_cases c2 : v ≤ 16777216
        · exact .inr ⟨by rw [HR.out, if_pos ⟨c0, c1, c2⟩], by simp [c0], by simp [c1], by simp; omega⟩
        · exact .inl ⟨z0 _ id (fun h => c2 h.2.2), .inr (.inr ⟨by simp [c0], by simp [c1], by simp; omega⟩)⟩
      · exact .inl ⟨z0 _ id (fun h => c1 h.2.1), .inr (.inl ⟨by simp [c0], by simp; omega⟩)⟩
    · exact .inl ⟨z0 _ id (fun h => c0 h.1), .inl (by simp; omega)⟩
  clear z0 HR
  by_cases hng : negW s = true
  · obtain ⟨r, hr⟩ := (negW_iff s).1 hng
    have h0 : 0 < s.size := by rw [← list_size, hr]; simp
    have hb : (s[0]'h0).toNat = 33 := by
      rw [bt_eq h0]
      have := (bt_is (s := s) (i := 0) (c := 33)).1 (by rw [hr]; rfl)
      exact this.2
    have hcut : s.extract 1 s.size = digW s := by unfold digW; rw [if_pos hng]
    have l0 : decide ((0 : Int) < (s.size : Int)) = true := by simp; omega
    have l1 : (1 : Int) ≤ (s.size : Int) := by omega
    rw [hng] at fin
    obtain ⟨D, hD⟩ : ∃ D, digW s = D := ⟨_, rfl⟩
    rw [hD] at hcut fin HNat hd hen
    have HCut := Lib.hid hcut; clear hcut
    clear hD hng hr
    rcases fin with ⟨hl, fin⟩ | ⟨hl, h1, h2, h3⟩
    · rcases fin with h1 | ⟨h1, h2⟩ | ⟨h1, h2, h3⟩
      all_goals
        have HL := Lib.hid hl; clear hl
        go_enter Tryd.func158, Tryd.ntmps158
        go_wp2_with fail
        rw [HCut.out]
        go_wp2_with fail
        refine (HNat.out _).mono ?_
        rintro e w' ⟨rfl, rfl⟩
        go_wp2_with fail
        go_ret2
        rw [HL.out]
        exact ⟨rfl, rfl⟩
    · have hv2 : v ≤ 16777216 := by simp at h3; omega
      have HOf := Lib.hid (fun u => ref02_Of v true u hv2)
      have HY := Lib.hid (show ofL v true = ((2 * v + 1 : Nat) : Int) by unfold ofL; rw [if_neg (by omega)]; simp)
      rw [HY.out] at HOf
      have HL := Lib.hid hl; clear hl
      go_enter Tryd.func158, Tryd.ntmps158
      go_wp2_with fail
      rw [HCut.out]
      go_wp2_with fail
      refine (HNat.out _).mono ?_
      rintro e w' ⟨rfl, rfl⟩
      go_wp2_with fail
      refine (HOf.out _).mono ?_
      rintro e w' ⟨rfl, rfl⟩
      go_wp2_with fail
      go_ret2
      rw [HL.out]
      exact ⟨rfl, rfl⟩
  · have hD := digW_neg hng
    rw [hD] at fin HNat hd hen
    have hbad : (∃ h0 : 0 < s.size, ((s[0]'h0).toNat : Int) ≠ 33) ∨ s.size = 0 := by
      rcases Nat.eq_zero_or_pos s.size with h | h
      · exact .inr h
      · refine .inl ⟨h, fun e => hng ?_⟩
        rw [bt_eq h] at e
        unfold negW
        rw [decide_eq_true_iff]
        exact ⟨h, by omega⟩
    have hng' : negW s = false := by simpa using hng
    rw [hng'] at fin
    clear hng hng' hD
    rcases hbad with ⟨h0, hb⟩ | h0
    · have l0 : decide ((0 : Int) < (s.size : Int)) = true := by simp; omega
      obtain ⟨B, hB⟩ : ∃ B, (s[0]'h0).toNat = B := ⟨_, rfl⟩
      rw [hB] at hb
      have q : ((B : Int) == 33) = false := by simp; omega
      clear hb
      rcases fin with ⟨hl, fin⟩ | ⟨hl, h1, h2, h3⟩
      · rcases fin with h1 | ⟨h1, h2⟩ | ⟨h1, h2, h3⟩
        all_goals
          have HL := Lib.hid hl; clear hl
          go_enter Tryd.func158, Tryd.ntmps158
          go_wp2_with fail
          refine (HNat.out _).mono ?_
          rintro e w' ⟨rfl, rfl⟩
          go_wp2_with fail
          go_ret2
          rw [HL.out]
          exact ⟨rfl, rfl⟩
      · have hv2 : v ≤ 16777216 := by simp at h3; omega
        have HOf := Lib.hid (fun u => ref02_Of v false u hv2)
        have HY := Lib.hid (show ofL v false = ((2 * v + 0 : Nat) : Int) by unfold ofL; rw [if_neg (by omega)]; simp)
        rw [HY.out] at HOf
        have HL := Lib.hid hl; clear hl
        go_enter Tryd.func158, Tryd.ntmps158
        go_wp2_with fail
        refine (HNat.out _).mono ?_
        rintro e w' ⟨rfl, rfl⟩
        go_wp2_with fail
        refine (HOf.out _).mono ?_
        rintro e w' ⟨rfl, rfl⟩
        go_wp2_with fail
        go_ret2
        rw [HL.out]
        exact ⟨rfl, rfl⟩
    · exact absurd h0 hz

set_option maxRecDepth 100000 in
set_option maxHeartbeats 4000000 in
theorem ref28_line (s : ByteArray) (w : World) (hs : s.size ≤ 100000) :
    Calls Tryd.prog 108 #[.string s] w (LineP (lineR s) w) := by
  have HW := Lib.hid (fun u => ref_Words s u hs)
  have HSZ := Lib.hid (fun b h => word_size (s := s) (b := b) h)
  have hcnt := words_count s
  have hR : ∃ w0 ws, wordsB s = w0 :: ws ∧ lineR s = if w0 = ⟨#[43]⟩ then (litsR ws).map (fun l => (false, l)) else if w0 = ⟨#[45]⟩ then (litsR ws).map (fun l => (true, l)) else none := by
    unfold lineR
    cases hws : wordsB s with
    | nil => exact absurd (by rw [← wordsB_data, hws]; rfl) (words_ne s.data.toList)
    | cons a b => exact ⟨a, b, rfl, rfl⟩
  obtain ⟨w0, ws, hws, hR⟩ := hR
  rw [hws] at HW HSZ hcnt
  clear hws
  have HR := Lib.hid hR; clear hR
  have HB := Lib.hid ((Blk.new w #[.bool false, .slice none 0 0] 86))
  go_enter Tryd.func108, Tryd.ntmps108
  go_wp2_with fail
  refine (HW.out _).mono ?_
  rintro e w1 ⟨vw, rfl, hO, hK⟩
  obtain ⟨a, cap, rfl, _, _, _, hr⟩ := hO.form
  rw [strs_length]
  have HB1 := Lib.hid (HB.out.kp hK (fun h => h))
  have HK1 := Lib.hid (((Kp.refl _ _).alloc _).trans hK (fun _ _ h => h))
  obtain ⟨b, off, rfl, hc⟩ := hr 0 (.string w0) rfl
  rw [Nat.add_zero] at hc
  have HRow := Lib.hid hr
  clear hO hr hK
  have i0 : 0 < ws.length + 1 := by omega
  have hcw : ws.length ≤ 100000 := by simp only [List.length_cons] at hcnt; omega
  have b0 := HB1.out.cell (i := 0) rfl
  have b1 := HB1.out.cell (i := 1) rfl
  have g0 := HB1.out.free 0
  have g1 := HB1.out.free 1
  have e43 : w0 = ⟨#[43]⟩ ↔ w0.toList = [43] := by rw [Lib.toList_data]; exact ⟨fun h => by rw [h], fun h => ba_ext h⟩
  have e45 : w0 = ⟨#[45]⟩ ↔ w0.toList = [45] := by rw [Lib.toList_data]; exact ⟨fun h => by rw [h], fun h => ba_ext h⟩
  by_cases hsg : ∃ f : Bool, w0.toList = [sgb f]
  · obtain ⟨f, hf⟩ := hsg
    have HX0 := Lib.hid (show lineR s = (litsR ws).map (fun l => (f, l)) by
      rw [HR.out]
      cases f
      · rw [if_pos (e43.2 hf)]
      · rw [if_neg (fun h => by have := e43.1 h; rw [hf] at this; simp [sgb] at this), if_pos (e45.2 hf)])
    obtain ⟨F, hF⟩ : ∃ F : Bool, F = f := ⟨_, rfl⟩
    rw [← hF] at HX0
    have HN := Lib.hid (show ∀ g : Bool, g = F → Blk (w1.alloc (.cells #[.bool g, .slice none 0 0] 86)) w1.heap.size #[.bool F, .slice none 0 0] 86 from fun g hg => by subst hg; exact Blk.new _ _ _)
    have hlt1 : w.heap.size < w1.heap.size := HB1.out.lt
    clear HR e43 e45
    have HF := Lib.hid hf
    cases f
    case' false =>
      have q1 : w0.toList = [43] := hf
      have q2 : (w0.toList == [43]) = true := by rw [hf]; rfl
      have q3 : (w0.toList == [45]) = false := by rw [hf]; rfl
    case' true =>
      have q1 : ¬ w0.toList = [43] := by rw [hf]; simp [sgb]
      have q2 : (w0.toList == [43]) = false := by rw [hf]; rfl
      have q3 : (w0.toList == [45]) = true := by rw [hf]; rfl
    all_goals
      clear hf
      have HFF := Lib.hid hF.symm; clear hF
      go_wp2_with fail
      clear q1 q2 q3 hc b0 b1 g0 g1
      go_loopw [6] (fun v6 wr => ∃ (k : Nat) (l : List Nat) (v : Value), v6 = .int .i64 ((k + 1 : Nat) : Int) ∧ k ≤ ws.length ∧ litsR (ws.take k) = some l ∧ l.length = k ∧ Blk wr w1.heap.size #[.bool F, v] 86 ∧ Own wr (w1.heap.size + 1) 3 v (nums l) ∧ Kp (fun _ => False) w1 wr) (fun v6 _ => ws.length + 1 - (intOf v6).toNat)
      case atStart => exact ⟨0, [], _, rfl, Nat.zero_le _, rfl, rfl, HN.out _ HFF.out, Own.nil _ _ _, (Kp.refl _ _).alloc _⟩
      case round =>
        obtain ⟨k, l, v, rfl, hk, hl, hlen, hB, hO, hK⟩ := hrel
        have HL := Lib.hid hl; clear hl
        have HO := Lib.hid hO; clear hO
        have HBx := Lib.hid hB; clear hB
        have HBr := Lib.hid (HB1.out.kp hK (fun h => h))
        obtain ⟨av, cv, rfl, _⟩ := HO.out.form
        have x0 := HBx.out.cell (i := 0) rfl
        have x1 := HBx.out.cell (i := 1) rfl
        have xf1 := HBx.out.free 1
        have r0 := HBr.out.cell (i := 0) rfl
        have r1 := HBr.out.cell (i := 1) rfl
        have rf0 := HBr.out.free 0
        have rf1 := HBr.out.free 1
        rw [nums_length, hlen] at x1
        by_cases hlt : k < ws.length
        · obtain ⟨b', off', hbo, hc⟩ := (HRow.out.kp hK (fun _ _ h => h)) (k + 1) (.string ws[k]) (by simp [strs, List.getElem?_eq_getElem hlt])
          simp only [Option.some.injEq, Addr.mk.injEq, and_true] at hbo
          obtain ⟨rfl, rfl⟩ := hbo
          have t1 : decide ((((k + 1 : Nat) : Int)) < ((ws.length + 1 : Nat) : Int)) = true := by simp; omega
          have t2 : k + 1 < ws.length + 1 := by omega
          have hkw : ws[k]? = some ws[k] := List.getElem?_eq_getElem hlt
          have hsb := HSZ.out ws[k] (List.mem_cons_of_mem _ (List.getElem_mem hlt))
          obtain ⟨x, hx⟩ : ∃ x, ws[k] = x := ⟨_, rfl⟩
          rw [hx] at hc hkw hsb
          clear hx
          have HKW := Lib.hid hkw; clear hkw
          have HLR := Lib.hid (fun u => ref02_Read x u (by omega))
          cases hr : litR x with
          | none =>
            have HX := Lib.hid (show lineR s = none by rw [HX0.out, litsR_bad HKW.out hr]; rfl)
            rw [hr] at HLR
            unfold litV at HLR
            simp only at HLR
            clear hr
            have hend := Lib.hid (((HK1.out.trans hK (fun _ _ h => h)).setCell (p := ⟨w.heap.size, 0, none⟩) (by simp) (.bool false)).setCell (p := ⟨w.heap.size, 1, none⟩) (by simp) (.slice none 0 0))
            go_wp2_with fail
            refine (HLR.out _).mono ?_
            rintro e w' ⟨rfl, rfl⟩
            go_wp2_with fail
            exact bodyPost_ret (v := .tuple #[.agg #[.bool false, .slice none 0 0], .bool false]) (by simp [results, Tryd.results108, go_sem, r0, r1]) rfl (by rw [HX.out]; exact ⟨hend.out, _, _, _, _, rfl⟩)
          | some y =>
            have HX := Lib.hid (litsR_take HKW.out HL.out hr)
            rw [hr] at HLR
            unfold litV at HLR
            simp only at HLR
            clear hr
            have hszk := hK.size
            have hBx := HBx.out.lt
            go_wp2_with fail
            refine (HLR.out _).mono ?_
            rintro e w' ⟨rfl, rfl⟩
            go_wp2_with (at_builtin; refine wpList_append1 rfl _ _ 57 3 rfl Tryd.underlying57 intInfo rfl (HO.out.alloc _) (by rw [nums_length, hlen]; rfl) ⟨wr.heap.size, 0, none⟩ (.int .i64 (y : Int)) rfl ?c1 rfl ?c2 ?c3 ?c4 ?_)
            case c1 => simp
            case c2 => rw [nums_length]; simp only [List.length_cons] at hcnt; omega
            case c3 => rw [nums_length]; unfold maxLen; simp only [List.length_cons] at hcnt; omega
            case c4 => simp; omega
            intro v3 w3 hO3 hg3
            have hK3 : Kp (fun j => (Value.slice av (nums l).length cv).ownBlock = some j) wr w3 := ((Kp.refl _ wr).alloc _).grown hg3 (fun j hj _ => hj)
            have hown := fun j (h : (Value.slice av (nums l).length cv).ownBlock = some j) => (HO.out.lt j h).1
            have hB3 := HBx.out.kp hK3 (fun h => by have := hown _ h; omega)
            have hO4 : Own w3 (w1.heap.size + 1) 3 v3 (nums (l ++ [y])) := by rw [nums_snoc]; exact hO3
            obtain ⟨a3, c3, rfl, _⟩ := hO4.form
            rw [nums_length, List.length_append, hlen] at hO4 ⊢
            simp only [List.length_cons, List.length_nil, Nat.zero_add] at hO4 ⊢
            have z0 := hB3.cell (i := 0) rfl
            have z1 := hB3.cell (i := 1) rfl
            have zf := hB3.free 1
            have hS := Kp.set w3 ⟨w1.heap.size, 1, none⟩ (.slice a3 (k + 1) c3)
            have HRel := Lib.hid (show ∃ (k' : Nat) (l : List Nat) (v : Value), Value.int .i64 ((k : Int) + 1 + 1) = .int .i64 ((k' + 1 : Nat) : Int) ∧ k' ≤ ws.length ∧ litsR (ws.take k') = some l ∧ l.length = k' ∧ Blk (w3.setCell ⟨w1.heap.size, 1, none⟩ (.slice a3 (k + 1) c3)) w1.heap.size #[.bool F, v] 86 ∧ Own (w3.setCell ⟨w1.heap.size, 1, none⟩ (.slice a3 (k + 1) c3)) (w1.heap.size + 1) 3 v (nums l) ∧ Kp (fun _ => False) w1 (w3.setCell ⟨w1.heap.size, 1, none⟩ (.slice a3 (k + 1) c3)) from
              ⟨k + 1, l ++ [y], .slice a3 (k + 1) c3, by go_num, by omega, HX.out, by rw [List.length_append, hlen]; rfl, hB3.set_same 1 _, hO4.kp hS (fun j hj h => by have := (hO4.lt j hj).1; simp at h; omega),
                (hK.trans hK3 (fun j hj h => by have := hown j h; omega)).setCell (p := ⟨w1.heap.size, 1, none⟩) (by simp) _⟩)
            clear hK3 hown hB3 hO4 hS hO3 hg3
            go_wp2_with fail
            go_roundw
            case rel => exact HRel.out
            case measure => simp [intOf]; omega
        · have t1 : decide ((((k + 1 : Nat) : Int)) < ((ws.length + 1 : Nat) : Int)) = false := by simp; omega
          have HX := Lib.hid (show lineR s = some (F, l) by rw [HX0.out, ← List.take_of_length_le (l := ws) (show ws.length ≤ k by omega), HL.out]; rfl)
          rw [nums_length, hlen] at HO
          have hend := Lib.hid (((HK1.out.trans hK (fun _ _ h => h)).setCell (p := ⟨w.heap.size, 0, none⟩) (by simp) (.bool F)).setCell (p := ⟨w.heap.size, 1, none⟩) (by simp) (.slice av k cv))
          have HO2 := Lib.hid ((HO.out.mono (b' := w.heap.size) (by omega)).kp ((Kp.set wr ⟨w.heap.size, 0, none⟩ (.bool F)).trans (Kp.set (wr.setCell ⟨w.heap.size, 0, none⟩ (.bool F)) ⟨w.heap.size, 1, none⟩ (.slice av k cv)) (fun i _ h => h)) (fun j hj h => by have := (HO.out.lt j hj).1; simp at h; omega))
          go_wp2_with fail
          exact bodyPost_ret (v := .tuple #[.agg #[.bool F, .slice av k cv], .bool true]) (by simp [results, Tryd.results108, go_sem, r0, r1]) rfl (by rw [HX.out]; exact ⟨hend.out, _, rfl, HO2.out⟩)
  · have h43 : ¬ w0.toList = [43] := fun h => hsg ⟨false, h⟩
    have h45 : ¬ w0.toList = [45] := fun h => hsg ⟨true, h⟩
    have HX := Lib.hid (show lineR s = none by rw [HR.out, if_neg (fun h => h43 (e43.1 h)), if_neg (fun h => h45 (e45.1 h))])
    have q2 : (w0.toList == [43]) = false := by simpa using h43
    have q3 : (w0.toList == [45]) = false := by simpa using h45
    have hend := Lib.hid ((HK1.out.setCell (p := ⟨w.heap.size, 0, none⟩) (by simp) (.bool false)).setCell (p := ⟨w.heap.size, 1, none⟩) (by simp) (.slice none 0 0))
    clear e43 e45 HR hsg
    go_wp2_with fail
    exact bodyPost_ret (v := .tuple #[.agg #[.bool false, .slice none 0 0], .bool false]) (by simp [results, Tryd.results108, go_sem, b0, b1]) rfl (by rw [HX.out]; exact ⟨hend.out, _, _, _, _, rfl⟩)


end Go.Proofs.YtcpgbgbhfkpehaaDoor
