/-
  wit.Read: a range over a function.
-/
import Derived.Test.YtpejimlmokfppaaDoorWitExit
import Derived.Test.YtpejimlmokfppaaDoorRoundRegion
import Derived.Sort.CutIn
import Derived.Outline
namespace Go.Proofs.YtpejimlmokfppaaDoor
open Go.RowKit Go.Shelf

attribute [local go_sem] Oper.semAt_some

/-- the frame at the start of a round -/
def frameX (w : World) (s : ByteArray) (la inp : Int) (BX : Nat) (x : LX s.size) : Act :=
  { tmps := #[.string s, .int .i64 la, .int .i64 inp, .pointer (some ⟨w.heap.size, 0, none⟩), .pointer (some ⟨w.heap.size + 1, 0, none⟩), .pointer (some ⟨w.heap.size + 2, 0, none⟩), .pointer (some ⟨w.heap.size + 3, 0, none⟩), .pointer (some ⟨w.heap.size + 4, 0, none⟩), .pointer (some ⟨w.heap.size + 5, 0, none⟩), .pointer (some ⟨w.heap.size + 6, 0, none⟩), .pointer (some ⟨w.heap.size + 7, 0, none⟩), .pointer (some ⟨w.heap.size + 8, 0, none⟩), .pointer (some ⟨BX, 0, none⟩), undef, undef, undef, .agg #[.int .i64 0, .int .i64 0, .slice none 0 0, .slice none 0 0], .agg #[.int .i64 0, .int .i64 0, .slice none 0 0, .slice none 0 0], .int .i64 la, .bool false, .bool false, .int .i64 inp, .bool false, .bool false, undef, .string s, .func (.func 25) #[] #[.pointer (some ⟨w.heap.size + 9, 0, none⟩)], .agg #[.string x.text, .int .i64 x.at_, .int .i64 x.next, .int .i64 x.e], undef, undef, undef, undef, undef, undef, undef, undef, undef, undef, undef, undef, undef, undef, undef, undef, undef, undef, undef, undef, undef, undef, undef, undef, undef, undef, undef, undef, undef, undef, undef, undef, undef, undef, undef, undef, undef, undef, undef, undef, undef, undef, undef, undef, undef, undef, undef, undef, undef, undef, undef, undef, undef, undef, undef, undef, undef, undef, undef, undef, undef, undef, undef, undef, undef, undef, undef, undef, undef, undef, undef, undef, undef, undef, undef, undef, undef, undef, undef, undef, undef, undef, undef, undef, undef, undef, undef, undef, undef, undef, undef, undef, undef, undef, undef, undef, undef, undef, undef, undef, undef, undef, undef], defers := [] }

set_option maxRecDepth 100000 in
set_option maxHeartbeats 4000000 in
theorem wit_Read_in (s : ByteArray) (la inp : Int) (w : World) (hs : s.size ≤ 100000) (hm : ML w) (h1 : 0 ≤ la) (h2 : 0 ≤ inp) :
    Calls Tryd.prog 5 #[.string s, .int .i64 la, .int .i64 inp] w (WReadP w s (witT s la inp)) := by
  have g1 : decide (la < 0) = false := by simpa using h1
  have g2 : decide (inp < 0) = false := by simpa using h2
  refine (callsIn_wide (n := 5)).1 ?_
  refine callsIn_of_wp_marks Tryd.func5 rfl trivial ?_ rfl
  simp only [Tryd.ntmps5, List.size_toArray, List.length_cons, List.length_nil, Nat.reduceAdd, Nat.reduceSub, Array.replicate_succ, Array.replicate_zero, List.push_toArray, List.append_toArray, List.nil_append, List.cons_append]
  have HLn := Lib.hid (fun u => (callsIn_wide (n := 4)).2 (wit_lines s u))
  gi_wp2_with (refine ⟨trivial, ?_⟩; gi_at_call 12; refine (HLn.out _).mono ?_; rintro e w' ⟨rfl, hw⟩; subst hw)
  obtain ⟨W0, hW0⟩ : ∃ W0, ((((((((((w.alloc (.cells #[.string s] 9)).alloc (.cells #[.int .i64 la] 3)).alloc (.cells #[.int .i64 inp] 3)).alloc (.cells #[.int .i64 0, .int .i64 0, .slice none 0 0, .slice none 0 0] 27)).alloc (.cells #[.int .i64 0] 3)).alloc (.cells #[.int .i64 0] 28)).alloc (.cells #[.int .i64 0, .int .i64 0, .slice none 0 0, .slice none 0 0] 27)).alloc (.cells #[.int .i64 0, .int .i64 0, .slice none 0 0, .slice none 0 0] 27)).alloc (.cells #[.int .i64 0] 3)).alloc (.cells #[.string s] 9)) = W0 := ⟨_, rfl⟩
  rw [hW0]
  have hsz : W0.heap.size = w.heap.size + 10 := by rw [← hW0]; simp
  have hSt : St w s la inp W0 wit0 0 (.slice none 0 0) (.slice none 0 0) [] := by
    rw [← hW0]
    exact wit_start w s la inp
  clear hW0
  refine wpIn_rangeFunc_ownH rfl (by decide) (gf := 25) (lb := #[.pointer (some ⟨w.heap.size + 9, 0, none⟩)]) rfl trivial (enters_of Tryd.func25 (by kernel_rfl) rfl)
    (lines_stops (5 - 1) (by decide) (w.heap.size + 9) s hs W0 (hSt.st.b9.cell (i := 0) rfl)) (fun h k => h.trans k)
    (fun W l o o' hl ho h3 h4 => ⟨by simp, fun _ => World.putObj_heap_other (by omega)⟩)
    (Below.refl _ _) (fun _ => rfl)
    (fun pre W => ∃ d v2 v3 rows, runX la inp 0 wit0 pre = .inl d ∧ St w s la inp W d pre.length v2 v3 rows)
    (fun c pre W => c = .ret ∧ ∃ o v2 v3 rows, runX la inp 0 wit0 pre = .inr o ∧ Res w s W o v2 v3 rows)
    ?hI ?hIx ⟨wit0, _, _, _, rfl, hSt⟩
    (fun x a' W => ∃ BX, w.heap.size + 10 ≤ BX ∧ Blk W BX #[.string x.text, .int .i64 x.at_, .int .i64 x.next, .int .i64 x.e] 43 ∧ a' = frameX w s la inp BX x)
    ?hAx ?assign ?body ?done ?stop
  case hI =>
    rintro pre W W' row ⟨d, v2, v3, rows, e1, e2⟩ hg hr
    obtain ⟨q, hn⟩ := grown_nocells (n := w.heap.size) hg (fun r e => ⟨by have := (hr r e).1; omega, (hr r e).2⟩)
    exact ⟨d, v2, v3, rows, e1, e2.keep q hn⟩
  case hIx =>
    rintro c pre W W' row ⟨rfl, o, v2, v3, rows, e1, e2⟩ hg hr
    obtain ⟨q, hn⟩ := grown_nocells (n := w.heap.size) hg (fun r e => ⟨by have := (hr r e).1; omega, (hr r e).2⟩)
    exact ⟨rfl, o, v2, v3, rows, e1, e2.keep q hn⟩
  case hAx =>
    rintro x a' _ W W' row ⟨BX, e1, e2, e3⟩ hg hr
    obtain ⟨q, hn⟩ := grown_nocells (n := w.heap.size) hg (fun r e => ⟨by have := (hr r e).1; omega, (hr r e).2⟩)
    exact ⟨BX, e1, e2.kp q (hn.blk e2), e3⟩
  case assign =>
    rintro l pre x W K ⟨d, v2, v3, rows, e1, e2⟩ hK
    have hK' := Lib.hid hK
    clear hK
    have HRd := Lib.hid ((Rd.refl w.heap.size W).alloc (.cells #[.string x.text, .int .i64 x.at_, .int .i64 x.next, .int .i64 x.e] 43))
    have HSt := Lib.hid (e2.keep ((Kp.refl (fun _ => False) W).alloc (.cells #[.string x.text, .int .i64 x.at_, .int .i64 x.next, .int .i64 x.e] 43)) (NoCells.none _ _))
    have hWs : w.heap.size + 10 ≤ W.heap.size := by have := e2.st.b9.lt; omega
    unfold LX.enc
    gi_wp2
    exact hK'.out _ _ (by rw [hsz]; exact HRd.out.kf) HRd.out.kb ⟨d, v2, v3, rows, e1, HSt.out⟩ ⟨W.heap.size, hWs, Blk.new _ _ _, rfl⟩
  case body =>
    rintro l pre x a' W hl ⟨r, hr⟩ ⟨d, v2, v3, rows, e1, e2⟩ ⟨BX, hBX, bX, rfl⟩ hlt
    rw [hsz]
    have ht0 := bX.cell (i := 0) rfl
    have ht1 := bX.cell (i := 1) rfl
    have ht2 := bX.cell (i := 2) rfl
    have ht3 := bX.cell (i := 3) rfl
    have c0 := e2.st.b0.cell (i := 0) rfl
    have c1 := e2.st.b1.cell (i := 0) rfl
    have c2 := e2.st.b2.cell (i := 0) rfl
    have c60 := e2.st.b6.cell (i := 0) rfl
    have c61 := e2.st.b6.cell (i := 1) rfl
    have c62 := e2.st.b6.cell (i := 2) rfl
    have c63 := e2.st.b6.cell (i := 3) rfl
    have c70 := e2.b7.cell (i := 0) rfl
    have c71 := e2.b7.cell (i := 1) rfl
    have c72 := e2.b7.cell (i := 2) rfl
    have c73 := e2.b7.cell (i := 3) rfl
    have c8 := e2.st.b8.cell (i := 0) rfl
    have hSt2 := Lib.hid e2
    have hXX := Lib.hid bX
    clear e2 bX hSt
    obtain ⟨k, hk⟩ : ∃ k, pre.length = k := ⟨_, rfl⟩
    rw [hk] at c8 hSt2 hlt
    have hRun := Lib.hid (runX_snoc x pre 0 wit0 d e1)
    rw [Nat.zero_add, hk] at hRun
    have HLate := Lib.hid (show 3 ≤ k → d.kind = 1 from fun h3 => (runX_late pre 0 wit0 d e1).1 (by intro e; rw [e] at hk; simp at hk; omega) (by rw [hk]; omega))
    have HIns := Lib.hid (show d.ins.length ≤ k by have h := (runX_late pre 0 wit0 d e1).2; rw [hk] at h; simpa [wit0] using h)
    have HLen : Hid ((pre ++ [x]).length = k + 1) := by show _ = _; rw [List.length_append, hk]; rfl
    clear e1 hk
    obtain ⟨text, at_, next, er, q1, q2, q3, q4⟩ := x
    simp only at ht0 ht1 ht2 ht3 hXX
    unfold frameX
    dsimp only
    by_cases he : er = 0
    · subst he
      have hb2 : Mid w s la inp W W k BX text at_ next false d v2 v3 rows := ⟨hSt2.out.st, hXX.out, Rd.refl _ _, fun h => by cases h⟩
      clear hb2
      gi_upto_region 8 with fail
      iterate 11 (first | go_values | gi_guarded | gi_step | gi_upon)
      gi_cut [13, 14] from 28 (fun s13 s14 wx => ∃ (b o : Bool) (d' : WitD) (v2' v3' : Value) (rows' : List Value), s13 = .bool b ∧ s14 = .bool o ∧ Mid w s la inp W wx k BX text at_ next b d' v2' v3' rows' ∧ MidX la inp k d text b o d')
      case first =>
        clear c60 c61 c62 c63
        have f70 := hSt2.out.b7.free 0
        have f71 := hSt2.out.b7.free 1
        have hk1 : k ≤ 200000 := by omega
        by_cases k0 : k = 0
        · -- the kind
          have HSx := Lib.hid (show stepR text k la inp d = if text.size = 1 ∧ 48 ≤ bt text 0 ∧ bt text 0 ≤ 50 then some { d with kind := bt text 0 - 48 } else none by unfold stepR; rw [if_pos k0])
          have HLx := Lib.hid (show lastR text k d = false by unfold lastR; rw [decide_eq_false_iff_not]; omega)
          have b0 : ((k : Int) == 0) = true := by simp [k0]
          have HI := Lib.hid (fun (u : World) (hu : ML u) => (callsIn_wide (n := 5 - 1 - 1 - 1)).2 (wit_index text u hu))
          have HML := Lib.hid (hm.own hSt2.out.st.kp)
          clear k0 hm
          gi_wp2_with fail
          refine ⟨trivial, ?_⟩
          refine (HI.out _ HML.out).mono ?_
          rintro e w' ⟨⟨i, rfl, hi⟩, hw⟩
          have hw' := hw.symm; clear hw; subst hw'
          have z0 : (0 : Int) ≤ (text.size : Int) := by omega
          by_cases z1 : text.size = 1
          · have g3 : ((text.size : Int) == 1) = true := by simp [z1]
            by_cases z2 : 48 ≤ bt text 0 ∧ bt text 0 ≤ 50
            · obtain ⟨m, hm⟩ : ∃ m : Nat, bt text 0 - 48 = m := ⟨_, rfl⟩
              obtain rfl : i = (m : Int) := by have := (hi z1).1 z2; omega
              have HSy := Lib.hid (HSx.out.trans (if_pos ⟨z1, z2⟩))
              rw [hm] at HSy
              have g4 : decide ((0 : Int) ≤ (m : Int)) = true := by simp
              clear z1 z2 hi hm HSx
              gi_wp2
              gi_meet
              case rel => exact ⟨true, false, _, _, _, _, rfl, rfl, mid7 hSt2.out.st (Rd.refl _ _) hXX.out hBX 0 (.int .i64 m) (fun _ => hSt2.out.kind m), ⟨fun h => (by cases h), fun _ _ => ⟨HLx.out, HSy.out⟩, fun _ h => (by cases h)⟩⟩
            · have g4 : decide ((0 : Int) ≤ i) = false := by have := (hi z1).2 z2; simpa using this
              have HSy := Lib.hid (HSx.out.trans (if_neg (fun h => z2 ⟨h.2.1, h.2.2⟩)))
              clear z1 z2 hi HSx
              gi_wp2
              gi_meet
              case rel => exact ⟨false, false, d, v2, v3, rows, rfl, rfl, mid7 hSt2.out.st (Rd.refl _ _) hXX.out hBX 0 (.int .i64 i) (fun h => (by cases h)), ⟨fun _ => ⟨HLx.out, HSy.out⟩, fun h => (by cases h), fun h => (by cases h)⟩⟩
          · have g3 : ((text.size : Int) == 1) = false := by simp; omega
            have HSy := Lib.hid (HSx.out.trans (if_neg (fun h => z1 h.1)))
            clear z1 hi HSx
            gi_wp2
            gi_meet
            case rel => exact ⟨false, false, d, v2, v3, rows, rfl, rfl, mid7 hSt2.out.st (Rd.refl _ _) hXX.out hBX 0 (.int .i64 i) (fun h => (by cases h)), ⟨fun _ => ⟨HLx.out, HSy.out⟩, fun h => (by cases h), fun h => (by cases h)⟩⟩
        have b0 : ((k : Int) == 0) = false := by simp; omega
        have hts : text.size ≤ 100000 := by omega
        by_cases k1 : k = 1
        · -- the number behind a b
          have HSx := Lib.hid (show stepR text k la inp d = (propR text).map (fun n => { d with prop := n }) by unfold stepR; rw [if_neg k0, if_pos k1])
          have HLx := Lib.hid (show lastR text k d = false by unfold lastR; rw [decide_eq_false_iff_not]; omega)
          have b1 : ((k : Int) == 1) = true := by simp [k1]
          have HP := Lib.hid (fun (u : World) => (callsIn_wide (n := 5 - 1 - 1 - 1)).2 (wit_prop text u (by omega)))
          clear k0 k1 hm
          cases hp : propR text with
          | none =>
            rw [hp] at HP HSx
            gi_wp2_with fail
            refine ⟨trivial, ?_⟩
            refine (HP.out _).mono ?_
            rintro e w1 ⟨⟨m, rfl, _⟩, hK⟩
            have hS1 := Lib.hid (hSt2.out.keep hK (NoCells.none _ _))
            have hX1 := Lib.hid (hXX.out.kp hK (fun h => h))
            have hR1 := Lib.hid ((Rd.refl w.heap.size W).kp hK)
            have c71' := hS1.out.b7.cell (i := 1) rfl
            have f71' := hS1.out.b7.free 1
            clear hK
            simp only [Option.isSome_none]
            gi_wp2
            gi_meet
            case rel => exact ⟨false, false, d, v2, v3, rows, rfl, rfl, mid7 hS1.out.st hR1.out hX1.out hBX 1 (.int .i64 m) (fun h => (by cases h)), ⟨fun _ => ⟨HLx.out, HSx.out⟩, fun h => (by cases h), fun h => (by cases h)⟩⟩
          | some m0 =>
            rw [hp] at HP HSx
            gi_wp2_with fail
            refine ⟨trivial, ?_⟩
            refine (HP.out _).mono ?_
            rintro e w1 ⟨⟨m, rfl, hm⟩, hK⟩
            obtain rfl := hm m0 rfl
            have hS1 := Lib.hid (hSt2.out.keep hK (NoCells.none _ _))
            have hX1 := Lib.hid (hXX.out.kp hK (fun h => h))
            have hR1 := Lib.hid ((Rd.refl w.heap.size W).kp hK)
            have c71' := hS1.out.b7.cell (i := 1) rfl
            have f71' := hS1.out.b7.free 1
            clear hK hm
            simp only [Option.isSome_some]
            gi_wp2
            gi_meet
            case rel => exact ⟨true, false, _, _, _, _, rfl, rfl, mid7 hS1.out.st hR1.out hX1.out hBX 1 (.int .i64 m) (fun _ => hS1.out.propn m), ⟨fun h => (by cases h), fun _ _ => ⟨HLx.out, HSx.out⟩, fun _ h => (by cases h)⟩⟩
        have b1 : ((k : Int) == 1) = false := by simp; omega
        by_cases kd : d.kind = 1
        · have b3 : ((d.kind : Int) != 1) = false := by simp [kd]
          by_cases k2 : k = 2
          · -- the start
            have HSx := Lib.hid (show stepR text k la inp d = (rowR text la).map (fun l => { d with start := l }) by unfold stepR; rw [if_neg k0, if_neg k1, if_neg (fun h => h kd), if_pos k2])
            have HLx := Lib.hid (show lastR text k d = false by unfold lastR; rw [decide_eq_false_iff_not]; omega)
            have b4 : decide ((3 : Int) < (k : Int)) = false := by simp; omega
            have b5 : ((k : Int) == 2) = true := by simp [k2]
            have HP := Lib.hid (fun (u : World) => (callsIn_wide (n := 5 - 1 - 1 - 1)).2 (wit_row text la u hts))
            have hWs : w.heap.size + 10 ≤ W.heap.size := by have := hSt2.out.st.b9.lt; omega
            have f72 := hSt2.out.b7.free 2
            clear k0 k1 hm kd k2
            cases hp : rowR text la with
            | none =>
              rw [hp] at HP HSx
              gi_wp2_with fail
              refine ⟨trivial, ?_⟩
              refine (HP.out _).mono ?_
              rintro e w1 ⟨⟨v, rfl, ho⟩, hK⟩
              obtain ⟨a9, c9, rfl, -⟩ := ho.form
              have hS1 := Lib.hid (hSt2.out.keep hK (NoCells.none _ _))
              have hX1 := Lib.hid (hXX.out.kp hK (fun h => h))
              have hR1 := Lib.hid ((Rd.refl w.heap.size W).kp hK)
              have c72' := hS1.out.b7.cell (i := 2) rfl
              have f72' := hS1.out.b7.free 2
              clear hK ho
              simp only [Option.isSome_none]
              gi_wp2
              gi_meet
              case rel => exact ⟨false, false, d, v2, v3, rows, rfl, rfl, mid7 hS1.out.st hR1.out hX1.out hBX 2 _ (fun h => (by cases h)), ⟨fun _ => ⟨HLx.out, HSx.out⟩, fun h => (by cases h), fun h => (by cases h)⟩⟩
            | some l9 =>
              have HL9 := Lib.hid (rowR_bits hp)
              rw [hp] at HP HSx
              gi_wp2_with fail
              refine ⟨trivial, ?_⟩
              refine (HP.out _).mono ?_
              rintro e w1 ⟨⟨v, rfl, ho⟩, hK⟩
              rw [← HL9.out] at ho
              have HO := Lib.hid (ho.mono hWs)
              obtain ⟨a9, c9, E9, -⟩ := ho.form
              obtain ⟨z9, hz9⟩ : ∃ z, (l9.map Value.bool).length = z := ⟨_, rfl⟩
              rw [hz9] at E9
              subst E9
              have hS1 := Lib.hid (hSt2.out.keep hK (NoCells.none _ _))
              have hX1 := Lib.hid (hXX.out.kp hK (fun h => h))
              have hR1 := Lib.hid ((Rd.refl w.heap.size W).kp hK)
              have c72' := hS1.out.b7.cell (i := 2) rfl
              have f72' := hS1.out.b7.free 2
              clear hK ho hz9
              simp only [Option.isSome_some]
              gi_wp2
              gi_meet
              case rel => exact ⟨true, false, _, _, _, _, rfl, rfl, mid7 hS1.out.st hR1.out hX1.out hBX 2 _ (fun _ => hS1.out.startn HO.out), ⟨fun h => (by cases h), fun _ _ => ⟨HLx.out, HSx.out⟩, fun _ h => (by cases h)⟩⟩
          · have hk3 : 3 ≤ k := by omega
            have b5 : ((k : Int) == 2) = false := by simp; omega
            have hWs : w.heap.size + 10 ≤ W.heap.size := by have := hSt2.out.st.b9.lt; omega
            have HSx := Lib.hid (show stepR text k la inp d = (rowR text inp).map (fun l => { d with ins := d.ins ++ [l] }) by unfold stepR; rw [if_neg k0, if_neg k1, if_neg (fun h => h kd), if_neg k2])
            have hd := dot_eq text
            by_cases hpt : 3 < k ∧ text = ⟨#[46]⟩
            · -- the point behind the first input
              have HLx := Lib.hid (show lastR text k d = true by unfold lastR; rw [decide_eq_true_iff]; exact ⟨hpt.2, .inr hpt.1⟩)
              have b4 : decide ((3 : Int) < (k : Int)) = true := by simp; omega
              have g5 : (text.toList == [46]) = true := by rw [hd]; simpa using hpt.2
              clear hd hpt k0 k1 k2 kd hm
              gi_wp2
              gi_meet
              case rel => exact ⟨true, true, d, v2, v3, rows, rfl, rfl, ⟨hSt2.out.st, hXX.out, Rd.refl _ _, fun _ => hSt2.out⟩, ⟨fun h => (by cases h), fun _ h => (by cases h), fun _ _ => ⟨HLx.out, rfl⟩⟩⟩
            · have HLx := Lib.hid (show lastR text k d = false by unfold lastR; rw [decide_eq_false_iff_not]; rintro ⟨h1, h2 | h2⟩ <;> first | exact hpt ⟨h2, h1⟩ | omega)
              have hw : decide ((3 : Int) < (k : Int)) = false ∨ (decide ((3 : Int) < (k : Int)) = true ∧ (text.toList == [46]) = false) := by
                by_cases h3 : 3 < k
                · exact .inr ⟨by simp; omega, by rw [hd]; simpa using fun h => hpt ⟨h3, h⟩⟩
                · exact .inl (by simp; omega)
              have HP := Lib.hid (fun (u : World) => (callsIn_wide (n := 5 - 1 - 1 - 1)).2 (wit_row text inp u hts))
              have f73 := hSt2.out.b7.free 3
              have hil : rows.length ≤ k := by rw [hSt2.out.o3.len]; exact HIns.out
              clear hd hpt k0 k1 k2 kd hm
              obtain ⟨ob, hob⟩ : ∃ ob, (rowR text inp).isSome = ob := ⟨_, rfl⟩
              have HOB := Lib.hid hob
              rw [hob] at HP
              clear hob
              rcases hw with b4 | ⟨b4, g5⟩
              all_goals
                gi_wp2_with fail
                refine ⟨trivial, ?_⟩
                refine (HP.out _).mono ?_
                rintro e w1 ⟨⟨v, rfl, ho⟩, hK⟩
                have HO := Lib.hid (ho.mono hWs)
                obtain ⟨a9, c9, E9, -⟩ := ho.form
                obtain ⟨z9, hz9⟩ : ∃ z, ((bitsR text).map Value.bool).length = z := ⟨_, rfl⟩
                rw [hz9] at E9
                subst E9
                have hS1 := Lib.hid (hSt2.out.keep hK (NoCells.none _ _))
                have hX1 := Lib.hid (hXX.out.kp hK (fun h => h))
                have hR1 := Lib.hid ((Rd.refl w.heap.size W).kp hK)
                have c70' := hS1.out.b7.cell (i := 0) rfl
                have c73' := hS1.out.b7.cell (i := 3) rfl
                have hW1 : w.heap.size + 10 ≤ w1.heap.size := by have := hS1.out.st.b9.lt; omega
                clear hK ho hz9
                gi_wp2_with (gi_at_builtin; refine wpListIn_append1 rfl _ _ 23 22 rfl Tryd.underlying23 boolsInfo rfl (hS1.out.o3.own.alloc _) rfl ⟨w1.heap.size, 0, none⟩ (.slice a9 z9 c9) rfl ?c1 rfl ?c2 ?c3 ?c4 ?_)
                case c1 => exact (Blk.new w1 #[.slice a9 z9 c9] 22).cell (i := 0) rfl
                case c2 => omega
                case c3 => unfold maxLen; omega
                case c4 => simp; omega
                intro v' w2 hO3 hg
                have hS2 := hS1.out.keep ((Kp.refl (fun _ => False) w1).alloc (.cells #[.slice a9 z9 c9] 22)) (NoCells.none _ _)
                obtain ⟨hA, hB, hG⟩ := hS2.append (HO.out.alloc _) hg hO3
                have hX2 : Blk w2 BX _ _ := (hX1.out.alloc _).kp ((Kp.refl (fun j => v3.ownBlock = some j) _).grown hg (fun _ e _ => e)) (blk_ne_own (hX1.out.alloc _) hS2.o3.own (by decide))
                have HMid := Lib.hid (mid7 (b := ob) hA ((hR1.out.alloc _).grown hS2.o3.own hg) hX2 hBX 3 v' (fun _ => St.insn hA hB hG))
                obtain ⟨a8, c8', E8, -⟩ := hO3.form
                obtain ⟨z8, hz8⟩ : ∃ z, (rows ++ [Value.slice a9 z9 c9]).length = z := ⟨_, rfl⟩
                rw [hz8] at E8
                subst E8
                have c73'' := hB.cell (i := 3) rfl
                have f73'' := hB.free 3
                have HX : Hid (MidX la inp k d text ob false { d with ins := d.ins ++ [bitsR text] }) := by
                  refine ⟨fun h => ⟨HLx.out, ?_⟩, fun h _ => ⟨HLx.out, ?_⟩, fun _ h => (by cases h)⟩
                  · have h1 := HOB.out
                    rw [HSx.out, h] at *
                    cases hr : rowR text inp with
                    | none => rfl
                    | some l => rw [hr] at h1; cases h1
                  · have h1 := HOB.out
                    rw [HSx.out, h] at *
                    cases hr : rowR text inp with
                    | none => rw [hr] at h1; cases h1
                    | some l => rw [rowR_bits hr]; rfl
                clear hA hB hG hX2 hS2 hO3 hg hz8 hil
                gi_wp2
                gi_meet
                case rel => exact ⟨ob, false, _, _, _, _, rfl, rfl, HMid.out, HX.out⟩
        · -- no run: the point's line
          have k2 : k = 2 := by
            by_cases h3 : 3 ≤ k
            · exact absurd (HLate.out h3) kd
            · omega
          have HSx := Lib.hid (show stepR text k la inp d = none by unfold stepR; rw [if_neg k0, if_neg k1, if_pos kd])
          have b3 : ((d.kind : Int) != 1) = true := by simp; omega
          have HLx := Lib.hid (show lastR text k d = decide (text = ⟨#[46]⟩) by unfold lastR; simp [k2, kd])
          clear k0 k1 hm kd k2
          have hd := dot_eq text
          by_cases ht : text = ⟨#[46]⟩
          · have g5 : (text.toList == [46]) = true := by rw [hd]; simpa using ht
            have HLy := Lib.hid (HLx.out.trans (by simpa using ht : decide (text = ⟨#[46]⟩) = true))
            clear hd ht
            gi_wp2
            gi_meet
            case rel => exact ⟨true, true, d, v2, v3, rows, rfl, rfl, ⟨hSt2.out.st, hXX.out, Rd.refl _ _, fun _ => hSt2.out⟩, ⟨fun h => (by cases h), fun _ h => (by cases h), fun _ _ => ⟨HLy.out, rfl⟩⟩⟩
          · have g5 : (text.toList == [46]) = false := by rw [hd]; simpa using ht
            have HLy := Lib.hid (HLx.out.trans (by simpa using ht : decide (text = ⟨#[46]⟩) = false))
            clear hd ht
            gi_wp2
            gi_meet
            case rel => exact ⟨false, true, d, v2, v3, rows, rfl, rfl, ⟨hSt2.out.st, hXX.out, Rd.refl _ _, fun _ => hSt2.out⟩, ⟨fun _ => ⟨HLy.out, HSx.out⟩, fun h => (by cases h), fun h => (by cases h)⟩⟩
      case rest =>
        obtain ⟨b, o, d', v2', v3', rows', rfl, rfl, hmid, hmx⟩ := hcut
        have hOne := Lib.hid (midX_one (x := (⟨text, at_, next, 0, q1, q2, q3, q4⟩ : LX s.size)) rfl hmx)
        have HM := Lib.hid hmid
        clear hmid hmx ht0 ht1 ht2 ht3 c0 c1 c2 c60 c61 c62 c63 c70 c71 c72 c73 c8 hSt2 hXX
        have c0 := HM.out.st.b0.cell (i := 0) rfl
        have e1 := HM.out.bx.cell (i := 1) rfl
        have e2 := HM.out.bx.cell (i := 2) rfl
        have c60 := HM.out.st.b6.cell (i := 0) rfl
        have c61 := HM.out.st.b6.cell (i := 1) rfl
        have c62 := HM.out.st.b6.cell (i := 2) rfl
        have c63 := HM.out.st.b6.cell (i := 3) rfl
        have c8 := HM.out.st.b8.cell (i := 0) rfl
        have f8 := HM.out.st.b8.free 0
        have d3 := HM.out.st.b3.cell (i := 0) rfl
        have d31 := HM.out.st.b3.cell (i := 1) rfl
        have d32 := HM.out.st.b3.cell (i := 2) rfl
        have d33 := HM.out.st.b3.cell (i := 3) rfl
        have d4 := HM.out.st.b4.cell (i := 0) rfl
        have d5 := HM.out.st.b5.cell (i := 0) rfl
        have f3 := fun i => HM.out.st.b3.free i
        have f4 := HM.out.st.b4.free 0
        have f5 := HM.out.st.b5.free 0
        have n3 : BX ≠ w.heap.size + 3 := by omega
        have n4 : BX ≠ w.heap.size + 4 := by omega
        have n5 : BX ≠ w.heap.size + 5 := by omega
        have m3 : w.heap.size + 3 ≠ BX := by omega
        have m4 : w.heap.size + 4 ≠ BX := by omega
        have m5 : w.heap.size + 5 ≠ BX := by omega
        cases b with
        | false =>
          gi_wp2
          clear hr hl hm h1 h2 g1 g2 HLn
          refine wpIn_region_held (S := fun W => W.cell? ⟨w.heap.size + 6, 0, none⟩ = some (.int .i64 0) ∧ W.cell? ⟨w.heap.size + 6, 1, none⟩ = some (.int .i64 0) ∧ W.cell? ⟨w.heap.size + 6, 2, none⟩ = some (.slice none 0 0) ∧ W.cell? ⟨w.heap.size + 6, 3, none⟩ = some (.slice none 0 0) ∧ W.cell? ⟨BX, 1, none⟩ = some (.int .i64 at_)) (by kernel_rfl) (by kernel_rfl) ⟨c60, c61, c62, c63, e1⟩ (fun K hK hHeld => ?_)
          refine wpAnyH_take (i := 0) (oi := _) (v := ?_) rfl (by kernel_rfl) (by kernel_rfl) (by kernel_rfl) (fun _ _ _ h => h) (Or.inl ⟨by rfl, ?_⟩) (by assumption) ?_
          rotate_left
          · intro w hSw; (try dsimp only at hSw); go_simp; (try with_reducible rfl)
          try simp only [Act.put, List.setIfInBounds_toArray, List.set_cons_zero, List.set_cons_succ]
          refine wpAnyH_take (i := 1) (oi := _) (v := ?_) rfl (by kernel_rfl) (by kernel_rfl) (by kernel_rfl) (fun _ _ _ h => h) (Or.inl ⟨by rfl, ?_⟩) (by assumption) ?_
          rotate_left
          · intro w hSw; (try dsimp only at hSw); go_simp; (try with_reducible rfl)
          try simp only [Act.put, List.setIfInBounds_toArray, List.set_cons_zero, List.set_cons_succ]
          refine wpAnyH_take (i := 2) (oi := _) (v := ?_) rfl (by kernel_rfl) (by kernel_rfl) (by kernel_rfl) (fun _ _ _ h => h) (Or.inl ⟨by rfl, ?_⟩) (by assumption) ?_
          rotate_left
          · intro w hSw; (try dsimp only at hSw); go_simp; (try with_reducible rfl)
          try simp only [Act.put, List.setIfInBounds_toArray, List.set_cons_zero, List.set_cons_succ]
          refine wpAnyH_ready (rs := [3]) (by kernel_rfl) (by simp) ?_
          refine AllReadyH.cons (o := _) rfl (fun K1 hK1 => ?_) AllReadyH.nil
          go_simp
          refine hK1.out _ _ ?_ (fun hHeld => ?_)
          · simp [*, World.cell?_setCell_far]
          clear hK1 K1
          try simp only [Act.put, List.setIfInBounds_toArray, List.set_cons_zero, List.set_cons_succ]
          refine wpAnyH_ready (rs := [4]) (by kernel_rfl) (by simp) ?_
          refine AllReadyH.cons (o := _) rfl (fun K1 hK1 => ?_) AllReadyH.nil
          go_simp
          refine hK1.out _ _ ?_ (fun hHeld => ?_)
          · simp [*, World.cell?_setCell_far]
          clear hK1 K1
          try simp only [Act.put, List.setIfInBounds_toArray, List.set_cons_zero, List.set_cons_succ]
          refine wpAnyH_ready (rs := [5]) (by kernel_rfl) (by simp) ?_
          refine AllReadyH.cons (o := _) rfl (fun K1 hK1 => ?_) AllReadyH.nil
          go_simp
          refine hK1.out _ _ ?_ (fun hHeld => ?_)
          · simp [*, World.cell?_setCell_far]
          clear hK1 K1
          try simp only [Act.put, List.setIfInBounds_toArray, List.set_cons_zero, List.set_cons_succ]
          refine wpAnyH_done (by kernel_rfl) ?_ _
          refine hK _ _ ?_
          clear hK K hHeld
          gi_wp2
          obtain ⟨r1, r2⟩ := exit_bad HM.out.st at_ 2 rfl
          exact ⟨(HM.out.rd.kf).trans r1.kf, rfl, _, _, _, _, hRun.out.trans (hOne.out.trans rfl), r2⟩
        | true =>
          obtain ⟨x2, y2, E2, -⟩ := (HM.out.good rfl).o2.form
          obtain ⟨x3, y3, E3, -⟩ := (HM.out.good rfl).o3.own.form
          obtain ⟨z2, hz2⟩ : ∃ z, (d'.start.map Value.bool).length = z := ⟨_, rfl⟩
          obtain ⟨z3, hz3⟩ : ∃ z, rows'.length = z := ⟨_, rfl⟩
          rw [hz2] at E2
          rw [hz3] at E3
          clear hz2 hz3
          subst E2
          subst E3
          have c70 := (HM.out.good rfl).b7.cell (i := 0) rfl
          have c71 := (HM.out.good rfl).b7.cell (i := 1) rfl
          have c72 := (HM.out.good rfl).b7.cell (i := 2) rfl
          have c73 := (HM.out.good rfl).b7.cell (i := 3) rfl
          have hsz2 : (s.size : Int) ≤ 100000 := by omega
          cases o with
          | false =>
            have hk1 : k ≤ 200000 := by omega
            gi_wp2
            refine ⟨(HM.out.rd.set 0 (by omega) _).kf, (HM.out.rd.set 0 (by omega) _).kb, d', hRun.out.trans hOne.out, _, _, rows', by rw [HLen.out]; exact (HM.out.good rfl).next⟩
          | true =>
            by_cases hz : next < s.size
            · have g3 : decide ((next : Int) < (s.size : Int)) = true := by simpa using hz
              have HZ := Lib.hid hz; clear hz
              gi_wp2
              clear hr hl hm h1 h2 g1 g2 HLn
              refine wpIn_region_held (S := fun W => W.cell? ⟨w.heap.size + 6, 0, none⟩ = some (.int .i64 0) ∧ W.cell? ⟨w.heap.size + 6, 1, none⟩ = some (.int .i64 0) ∧ W.cell? ⟨w.heap.size + 6, 2, none⟩ = some (.slice none 0 0) ∧ W.cell? ⟨w.heap.size + 6, 3, none⟩ = some (.slice none 0 0) ∧ W.cell? ⟨BX, 2, none⟩ = some (.int .i64 next)) (by kernel_rfl) (by kernel_rfl) ⟨c60, c61, c62, c63, e2⟩ (fun K hK hHeld => ?_)
              refine wpAnyH_take (i := 0) (oi := _) (v := ?_) rfl (by kernel_rfl) (by kernel_rfl) (by kernel_rfl) (fun _ _ _ h => h) (Or.inl ⟨by rfl, ?_⟩) (by assumption) ?_
              rotate_left
              · intro w hSw; (try dsimp only at hSw); go_simp; (try with_reducible rfl)
              try simp only [Act.put, List.setIfInBounds_toArray, List.set_cons_zero, List.set_cons_succ]
              refine wpAnyH_take (i := 1) (oi := _) (v := ?_) rfl (by kernel_rfl) (by kernel_rfl) (by kernel_rfl) (fun _ _ _ h => h) (Or.inl ⟨by rfl, ?_⟩) (by assumption) ?_
              rotate_left
              · intro w hSw; (try dsimp only at hSw); go_simp; (try with_reducible rfl)
              try simp only [Act.put, List.setIfInBounds_toArray, List.set_cons_zero, List.set_cons_succ]
              refine wpAnyH_take (i := 2) (oi := _) (v := ?_) rfl (by kernel_rfl) (by kernel_rfl) (by kernel_rfl) (fun _ _ _ h => h) (Or.inl ⟨by rfl, ?_⟩) (by assumption) ?_
              rotate_left
              · intro w hSw; (try dsimp only at hSw); go_simp; (try with_reducible rfl)
              try simp only [Act.put, List.setIfInBounds_toArray, List.set_cons_zero, List.set_cons_succ]
              refine wpAnyH_ready (rs := [3]) (by kernel_rfl) (by simp) ?_
              refine AllReadyH.cons (o := _) rfl (fun K1 hK1 => ?_) AllReadyH.nil
              go_simp
              refine hK1.out _ _ ?_ (fun hHeld => ?_)
              · simp [*, World.cell?_setCell_far]
              clear hK1 K1
              try simp only [Act.put, List.setIfInBounds_toArray, List.set_cons_zero, List.set_cons_succ]
              refine wpAnyH_ready (rs := [4]) (by kernel_rfl) (by simp) ?_
              refine AllReadyH.cons (o := _) rfl (fun K1 hK1 => ?_) AllReadyH.nil
              go_simp
              refine hK1.out _ _ ?_ (fun hHeld => ?_)
              · simp [*, World.cell?_setCell_far]
              clear hK1 K1
              try simp only [Act.put, List.setIfInBounds_toArray, List.set_cons_zero, List.set_cons_succ]
              refine wpAnyH_ready (rs := [5]) (by kernel_rfl) (by simp) ?_
              refine AllReadyH.cons (o := _) rfl (fun K1 hK1 => ?_) AllReadyH.nil
              go_simp
              refine hK1.out _ _ ?_ (fun hHeld => ?_)
              · simp [*, World.cell?_setCell_far]
              clear hK1 K1
              try simp only [Act.put, List.setIfInBounds_toArray, List.set_cons_zero, List.set_cons_succ]
              refine wpAnyH_done (by kernel_rfl) ?_ _
              refine hK _ _ ?_
              clear hK K hHeld
              gi_wp2
              obtain ⟨r1, r2⟩ := exit_bad HM.out.st next 2 rfl
              exact ⟨(HM.out.rd.kf).trans r1.kf, rfl, _, _, _, _, hRun.out.trans (hOne.out.trans (if_pos HZ.out)), r2⟩
            · have g3 : decide ((next : Int) < (s.size : Int)) = false := by simpa using hz
              have HZ := Lib.hid hz; clear hz
              gi_wp2
              clear hr hl hm h1 h2 g1 g2 HLn
              have a3 : w.heap.size ≠ w.heap.size + 3 := by omega
              have a4 : w.heap.size ≠ w.heap.size + 4 := by omega
              have a5 : w.heap.size ≠ w.heap.size + 5 := by omega
              refine wpIn_region_held (S := fun W => W.cell? ⟨w.heap.size + 7, 0, none⟩ = some (.int .i64 d'.kind) ∧ W.cell? ⟨w.heap.size + 7, 1, none⟩ = some (.int .i64 d'.prop) ∧ W.cell? ⟨w.heap.size + 7, 2, none⟩ = some (.slice x2 z2 y2) ∧ W.cell? ⟨w.heap.size + 7, 3, none⟩ = some (.slice x3 z3 y3) ∧ W.cell? ⟨w.heap.size, 0, none⟩ = some (.string s)) (by kernel_rfl) (by kernel_rfl) ⟨c70, c71, c72, c73, c0⟩ (fun K hK hHeld => ?_)
              refine wpAnyH_take (i := 0) (oi := _) (v := ?_) rfl (by kernel_rfl) (by kernel_rfl) (by kernel_rfl) (fun _ _ _ h => h) (Or.inl ⟨by rfl, ?_⟩) (by assumption) ?_
              rotate_left
              · intro w hSw; (try dsimp only at hSw); go_simp; (try with_reducible rfl)
              try simp only [Act.put, List.setIfInBounds_toArray, List.set_cons_zero, List.set_cons_succ]
              refine wpAnyH_take (i := 1) (oi := _) (v := ?_) rfl (by kernel_rfl) (by kernel_rfl) (by kernel_rfl) (fun _ _ _ h => h) (Or.inl ⟨by rfl, ?_⟩) (by assumption) ?_
              rotate_left
              · intro w hSw; (try dsimp only at hSw); go_simp; (try with_reducible rfl)
              try simp only [Act.put, List.setIfInBounds_toArray, List.set_cons_zero, List.set_cons_succ]
              refine wpAnyH_take (i := 2) (oi := _) (v := ?_) rfl (by kernel_rfl) (by kernel_rfl) (by kernel_rfl) (fun _ _ _ h => h) (Or.inl ⟨by rfl, ?_⟩) (by assumption) ?_
              rotate_left
              · intro w hSw; (try dsimp only at hSw); go_simp; (try with_reducible rfl)
              try simp only [Act.put, List.setIfInBounds_toArray, List.set_cons_zero, List.set_cons_succ]
              refine wpAnyH_ready (rs := [3]) (by kernel_rfl) (by simp) ?_
              refine AllReadyH.cons (o := _) rfl (fun K1 hK1 => ?_) AllReadyH.nil
              go_simp
              refine hK1.out _ _ ?_ (fun hHeld => ?_)
              · simp [*, World.cell?_setCell_far]
              clear hK1 K1
              try simp only [Act.put, List.setIfInBounds_toArray, List.set_cons_zero, List.set_cons_succ]
              refine wpAnyH_ready (rs := [4]) (by kernel_rfl) (by simp) ?_
              refine AllReadyH.cons (o := _) rfl (fun K1 hK1 => ?_) AllReadyH.nil
              go_simp
              refine hK1.out _ _ ?_ (fun hHeld => ?_)
              · simp [*, World.cell?_setCell_far]
              clear hK1 K1
              try simp only [Act.put, List.setIfInBounds_toArray, List.set_cons_zero, List.set_cons_succ]
              refine wpAnyH_ready (rs := [5]) (by kernel_rfl) (by simp) ?_
              refine AllReadyH.cons (o := _) rfl (fun K1 hK1 => ?_) AllReadyH.nil
              go_simp
              refine hK1.out _ _ ?_ (fun hHeld => ?_)
              · simp [*, World.cell?_setCell_far]
              clear hK1 K1
              try simp only [Act.put, List.setIfInBounds_toArray, List.set_cons_zero, List.set_cons_succ]
              refine wpAnyH_done (by kernel_rfl) ?_ _
              refine hK _ _ ?_
              clear hK K hHeld
              gi_wp2
              obtain ⟨r1, r2⟩ := exit_ok (HM.out.good rfl) rfl
              exact ⟨(HM.out.rd.kf).trans r1.kf, rfl, _, _, _, _, hRun.out.trans (hOne.out.trans (if_neg HZ.out)), r2⟩
    · have g : (((er : Nat) : Int) != 0) = true := by simp [he]
      have d3 := hSt2.out.st.b3.cell (i := 0) rfl
      have d31 := hSt2.out.st.b3.cell (i := 1) rfl
      have d32 := hSt2.out.st.b3.cell (i := 2) rfl
      have d33 := hSt2.out.st.b3.cell (i := 3) rfl
      have d4 := hSt2.out.st.b4.cell (i := 0) rfl
      have d5 := hSt2.out.st.b5.cell (i := 0) rfl
      have f3 := fun i => hSt2.out.st.b3.free i
      have f4 := hSt2.out.st.b4.free 0
      have f5 := hSt2.out.st.b5.free 0
      have n3 : BX ≠ w.heap.size + 3 := by omega
      have n4 : BX ≠ w.heap.size + 4 := by omega
      have n5 : BX ≠ w.heap.size + 5 := by omega
      have m3 : w.heap.size + 3 ≠ BX := by omega
      have m4 : w.heap.size + 4 ≠ BX := by omega
      have m5 : w.heap.size + 5 ≠ BX := by omega
      gi_wp2
      clear c0 c1 c2 c70 c71 c72 c73 c8 ht0 ht2 hlt g hr hl hm hs h1 h2 g1 g2 HLn hBX
      have HE := Lib.hid he; clear he
      refine wpIn_region_held (S := fun W => W.cell? ⟨w.heap.size + 6, 0, none⟩ = some (.int .i64 0) ∧ W.cell? ⟨w.heap.size + 6, 1, none⟩ = some (.int .i64 0) ∧ W.cell? ⟨w.heap.size + 6, 2, none⟩ = some (.slice none 0 0) ∧ W.cell? ⟨w.heap.size + 6, 3, none⟩ = some (.slice none 0 0) ∧ W.cell? ⟨BX, 1, none⟩ = some (.int .i64 at_) ∧ W.cell? ⟨BX, 3, none⟩ = some (.int .i64 er)) (by kernel_rfl) (by kernel_rfl) ⟨c60, c61, c62, c63, ht1, ht3⟩ (fun K hK hHeld => ?_)
      refine wpAnyH_take (i := 0) (oi := _) (v := ?_) rfl (by kernel_rfl) (by kernel_rfl) (by kernel_rfl) (fun _ _ _ h => h) (Or.inl ⟨by rfl, ?_⟩) (by assumption) ?_
      rotate_left
      · intro w hSw; (try dsimp only at hSw); go_simp; (try with_reducible rfl)
      try simp only [Act.put, List.setIfInBounds_toArray, List.set_cons_zero, List.set_cons_succ]
      refine wpAnyH_take (i := 1) (oi := _) (v := ?_) rfl (by kernel_rfl) (by kernel_rfl) (by kernel_rfl) (fun _ _ _ h => h) (Or.inl ⟨by rfl, ?_⟩) (by assumption) ?_
      rotate_left
      · intro w hSw; (try dsimp only at hSw); go_simp; (try with_reducible rfl)
      try simp only [Act.put, List.setIfInBounds_toArray, List.set_cons_zero, List.set_cons_succ]
      refine wpAnyH_take (i := 2) (oi := _) (v := ?_) rfl (by kernel_rfl) (by kernel_rfl) (by kernel_rfl) (fun _ _ _ h => h) (Or.inl ⟨by rfl, ?_⟩) (by assumption) ?_
      rotate_left
      · intro w hSw; (try dsimp only at hSw); go_simp; (try with_reducible rfl)
      try simp only [Act.put, List.setIfInBounds_toArray, List.set_cons_zero, List.set_cons_succ]
      refine wpAnyH_take (i := 3) (oi := _) (v := ?_) rfl (by kernel_rfl) (by kernel_rfl) (by kernel_rfl) (fun _ _ _ h => h) (Or.inl ⟨by rfl, ?_⟩) (by assumption) ?_
      rotate_left
      · intro w hSw; (try dsimp only at hSw); go_simp; (try with_reducible rfl)
      try simp only [Act.put, List.setIfInBounds_toArray, List.set_cons_zero, List.set_cons_succ]
      refine wpAnyH_take (i := 4) (oi := _) (v := ?_) rfl (by kernel_rfl) (by kernel_rfl) (by kernel_rfl) (fun _ _ _ h => h) (Or.inl ⟨by rfl, ?_⟩) (by assumption) ?_
      rotate_left
      · intro w hSw; (try dsimp only at hSw); go_simp; (try with_reducible rfl)
      try simp only [Act.put, List.setIfInBounds_toArray, List.set_cons_zero, List.set_cons_succ]
      refine wpAnyH_ready (rs := [5]) (by kernel_rfl) (by simp) ?_
      refine AllReadyH.cons (o := _) rfl (fun K1 hK1 => ?_) AllReadyH.nil
      go_simp
      refine hK1.out _ _ ?_ (fun hHeld => ?_)
      · simp [*, World.cell?_setCell_far]
      clear hK1 K1
      try simp only [Act.put, List.setIfInBounds_toArray, List.set_cons_zero, List.set_cons_succ]
      refine wpAnyH_ready (rs := [6]) (by kernel_rfl) (by simp) ?_
      refine AllReadyH.cons (o := _) rfl (fun K1 hK1 => ?_) AllReadyH.nil
      go_simp
      refine hK1.out _ _ ?_ (fun hHeld => ?_)
      · simp [*, World.cell?_setCell_far]
      clear hK1 K1
      try simp only [Act.put, List.setIfInBounds_toArray, List.set_cons_zero, List.set_cons_succ]
      refine wpAnyH_ready (rs := [7]) (by kernel_rfl) (by simp) ?_
      refine AllReadyH.cons (o := _) rfl (fun K1 hK1 => ?_) AllReadyH.nil
      go_simp
      refine hK1.out _ _ ?_ (fun hHeld => ?_)
      · simp [*, World.cell?_setCell_far]
      clear hK1 K1
      try simp only [Act.put, List.setIfInBounds_toArray, List.set_cons_zero, List.set_cons_succ]
      refine wpAnyH_done (by kernel_rfl) ?_ _
      refine hK _ _ ?_
      clear hK K hHeld
      gi_wp2
      obtain ⟨r1, r2⟩ := exit_bad hSt2.out.st at_ er rfl
      exact ⟨r1.kf, rfl, _, _, _, _, hRun.out.trans (if_pos HE.out), r2⟩
  case done =>
    rintro D ys W _ rfl ⟨d, v2, v3, rows, e1, e2⟩ hK
    exfalso
    rw [runX_lines s la inp (s.size + 2) 0 0 wit0 (Nat.zero_le _) (by omega)] at e1
    cases e1
  case stop =>
    rintro D c pre W hD ⟨r, hpre⟩ ⟨rfl, o, v2, v3, rows, e1, e2⟩ hK
    have ho : o = witT s la inp := by
      have h := runX_prefix pre r 0 wit0 e1
      rw [hpre, runX_lines s la inp (s.size + 2) 0 0 wit0 (Nat.zero_le _) (by omega)] at h
      cases h
      unfold witT
      rw [if_neg (by omega)]
    subst ho
    gi_wp2
    refine ⟨by simp, .inl ⟨_, _, rfl, run_takeDeferred hK, ?_⟩⟩
    have e3 := e2.close hK hD hsz none
    obtain ⟨W', hW'⟩ : ∃ W', W.putObj D (.deferred none) = W' := ⟨_, rfl⟩
    rw [hW'] at e3 ⊢
    have c30 := e3.b3.cell (i := 0) rfl
    have c31 := e3.b3.cell (i := 1) rfl
    have c32 := e3.b3.cell (i := 2) rfl
    have c33 := e3.b3.cell (i := 3) rfl
    have c4 := e3.b4.cell (i := 0) rfl
    have c5 := e3.b5.cell (i := 0) rfl
    exact ⟨.tuple #[.agg #[.int .i64 (witT s la inp).w.kind, .int .i64 (witT s la inp).w.prop, v2, v3], .int .i64 ((witT s la inp).at_ s), .int .i64 (witT s la inp).e], by simp [results, Tryd.results5, go_sem, c30, c31, c32, c33, c4, c5], e3.post⟩

end Go.Proofs.YtpejimlmokfppaaDoor
