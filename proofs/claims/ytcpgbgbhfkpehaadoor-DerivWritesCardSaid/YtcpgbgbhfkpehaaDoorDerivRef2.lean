/-
  latchetref28.Read.
-/
import Derived.Test.YtcpgbgbhfkpehaaDoorDerivRef
namespace Go.Proofs.YtcpgbgbhfkpehaaDoor
open Go.RowKit

theorem ownK_empty {w : World} {base g : Nat} {e : TypeId} {k : Nat} (h : Blk w g #[] e) (hg : base ≤ g) : OwnK w base e k (.slice (some ⟨g, 0, none⟩) 0 0) [] :=
  ⟨⟨by simp, .inr ⟨g, 0, #[], rfl, hg, h, Nat.le_refl _, by simp [maxLen], by simp, by simp⟩⟩, fun r h => by cases h⟩

/-- the reference's loop's relation -/
structure DRef (s : ByteArray) (R : DerR) (w : World) (v5 v6 v7 : Value) (wr : World) (p f n : Nat) (L : List (Bool × List Nat)) (rs : List (Bool × Value)) : Prop where
  at_ : v6 = .int .i64 p
  nth : v7 = .int .i64 ((n : Int) + 1)
  le : p ≤ s.size
  fuel : s.size < p + f
  nle : n ≤ p
  len : L.length ≤ p
  run : derivR s f L p n = R
  own : OwnK wr w.heap.size 86 2 v5 (lrows rs)
  lns : Lns wr w.heap.size rs L
  kp : Kp (fun _ => False) w wr

set_option maxRecDepth 100000 in
set_option maxHeartbeats 8000000 in
theorem ref28_Read_in (s : ByteArray) (w : World) (hs : s.size ≤ 1048576) (hls : ∀ p : Nat, p ≤ s.size → (lineT s (p : Nat)).1.size ≤ 100000) :
    Calls Tryd.prog 43 #[.string s] w (DReadP (derivT s) w) := by
  have HR0 := Lib.hid (show derivT s = derivR s (s.size + 1) [] 0 0 by unfold derivT; rw [if_neg (by omega)])
  obtain ⟨R, hR⟩ : ∃ R, derivT s = R := ⟨_, rfl⟩
  rw [hR] at HR0 ⊢
  clear hR
  have HLS := Lib.hid hls; clear hls
  have d1 : decide ((1048576 : Int) < (s.size : Int)) = false := by simp; omega
  go_enter Tryd.func43, Tryd.ntmps43
  go_wp2_with fail
  go_loopw [5, 6, 7] (fun v5 v6 v7 wr => ∃ p f n L rs, DRef s R w v5 v6 v7 wr p f n L rs) (fun _ v6 _ _ => s.size - (intOf v6).toNat)
  case atStart => exact ⟨0, s.size + 1, 0, [], [], rfl, rfl, Nat.zero_le _, by omega, Nat.le_refl _, by simp, HR0.out.symm, ownK_empty (Blk.new w #[] 86) (Nat.le_refl _), Lns.nil _ _, (Kp.refl _ _).alloc _⟩
  case round =>
    obtain ⟨p, f, n, L, rs, hD⟩ := hrel
    obtain rfl := hD.at_
    obtain rfl := hD.nth
    obtain ⟨va, vc, rfl, _⟩ := hD.own.form
    obtain ⟨vm, hvm⟩ : ∃ vm, (lrows rs).length = vm := ⟨_, rfl⟩
    rw [hvm] at hD ⊢
    clear hvm
    have HD := Lib.hid hD
    have hp := hD.le
    have hf := hD.fuel
    have hn := hD.nle
    have hlen := hD.len
    by_cases hlt : p < s.size
    · obtain ⟨g, rfl⟩ : ∃ g, f = g + 1 := ⟨f - 1, by omega⟩
      have HLn := Lib.hid (fun u => ref_Line_in s p u (by omega) hp)
      obtain ⟨t, nx, er, hL⟩ : ∃ t nx er, lineT s (p : Nat) = (t, nx, er) := ⟨_, _, _, rfl⟩
      have HL := Lib.hid hL
      have hts : t.size ≤ 100000 := by have := HLS.out p hp; rw [hL] at this; exact this
      have hend : er = 0 → p < nx ∧ nx ≤ s.size ∧ t.size ≤ s.size := fun h => by have := lineT_end hp (by rw [hL]; exact h); rw [hL] at this; exact this
      rw [hL] at HLn
      unfold lineV at HLn
      simp only at HLn
      clear hL
      by_cases he : er = 0
      · obtain ⟨hn1, hn2, hn3⟩ := hend he
        have d2 : ((er : Int) != 0) = false := by simp [he]
        have HLine := Lib.hid (fun u => ref28_line t u (by omega))
        cases hr : lineR t with
        | none =>
          have HX := Lib.hid (show R = ⟨[], n + 1, 2⟩ by rw [← hD.run, derivR_form hlt HL.out he hr])
          rw [hr] at HLine
          clear he hend hD hr
          go_wp2_with fail
          refine (HLn.out _).mono ?_
          rintro e w' ⟨rfl, rfl⟩
          go_wp2_with fail
          refine (HLine.out _).mono ?_
          rintro e w2 ⟨hK2, f', a', n', c', rfl⟩
          have hend := Lib.hid (dread_bad (R := R) (n := (n : Int) + 1) (er := 2) (by rw [HX.out]) (by rw [HX.out]; simp) (by rw [HX.out]; rfl) ((HD.out.kp.trans hK2 (fun _ _ h => h)).alloc (.cells #[.bool f', .slice a' n' c'] 86)))
          clear hK2
          go_wp2_with fail
          go_ret3
          exact hend.out
        | some x =>
          obtain ⟨f', c⟩ := x
          have HX := Lib.hid (show derivR s g (L ++ [(f', c)]) nx (n + 1) = R by rw [← hD.run, derivR_more hlt HL.out he hr])
          rw [hr] at HLine
          clear he hend hD hr
          go_wp2_with fail
          refine (HLn.out _).mono ?_
          rintro e w' ⟨rfl, rfl⟩
          go_wp2_with fail
          refine (HLine.out _).mono ?_
          rintro e w2 ⟨hK2, v', rfl, hOv⟩
          obtain ⟨a', c', rfl, _⟩ := hOv.form
          have HOW' := Lib.hid (HD.out.own.kp hK2 (fun _ _ h => h))
          have HLN' := Lib.hid (HD.out.lns.kp hK2 (fun _ _ _ _ h => h))
          have hszw := HD.out.kp.size
          have HOV := Lib.hid (hOv.mono hszw)
          have HKw := Lib.hid (HD.out.kp.trans hK2 (fun _ _ h => h))
          have hsz2 := hK2.size
          clear hOv hK2
          go_wp2_with (at_builtin; refine wpList_appendK rfl _ _ 73 86 rfl Tryd.underlying73 lineInfo rfl (by decide) ((HOW'.out.alloc _).alloc _) rfl (w2.heap.size + 1) [.bool f', .slice a' (nums c).length c'] rfl rfl ?c1 ?c2 ?c3 ?c4 ?c5 ?_)
          case c1 =>
            intro j u hj
            have hnb := Blk.new (w2.alloc (.cells #[.bool f', .slice a' (nums c).length c'] 86)) #[.bool f', .slice a' (nums c).length c'] 86
            rw [World.size_alloc] at hnb
            exact hnb.cell (by simpa using hj)
          case c2 => intro u hu; simp at hu; rcases hu with rfl | rfl <;> rfl
          case c3 => have := HLN'.out.1; simp [lrows]; omega
          case c4 => have := HLN'.out.1; simp [lrows]; unfold maxLen; omega
          case c5 => simp; omega
          intro v3 w3 hO3 hg3 _
          have hK3 : Kp (fun j => (Value.slice va vm vc).ownBlock = some j) w2 w3 := (((Kp.refl _ w2).alloc _).alloc _).grown hg3 (fun j hj _ => hj)
          have hKw3 := HKw.out.trans hK3 (fun j hj h => by have := (HOW'.out.lt j h).1; omega)
          have hL3 := HLN'.out.kp hK3 (fun r hr j hj h => by
            obtain ⟨_, cc, hb⟩ := HLN'.out.block hr hj
            obtain ⟨_, cc', hb'⟩ := HOW'.out.blk h
            exact absurd (blk_type hb hb') (by decide))
          have hV3 := HOV.out.kp hK3 (fun j hj h => by
            obtain ⟨_, cc', hb'⟩ := HOW'.out.blk h
            rcases HOV.out.2 with ⟨hv, _⟩ | ⟨g', cap, cur, hv, hb, hg, _⟩
            · rw [hv] at hj; cases hj
            · rw [hv] at hj
              have e : g' = j := by simpa [Value.ownBlock] using hj
              subst e
              exact absurd (blk_type (show Blk w2 g' cur 3 from hg) hb') (by decide))
          have hLs := hL3.snoc (f := f') hV3
          have HRel := Lib.hid (show ∃ p f n' L rs, DRef s R w v3 (.int .i64 (nx : Int)) (.int .i64 ((n : Int) + 1 + 1)) w3 p f n' L rs from
            ⟨nx, g, n + 1, L ++ [(f', c)], rs ++ [(f', .slice a' (nums c).length c')], rfl, by rw [show ((n + 1 : Nat) : Int) = (n : Int) + 1 by omega], hn2, by omega, by omega, by rw [List.length_append]; simp; omega, HX.out,
              by rw [show lrows (rs ++ [(f', .slice a' (nums c).length c')]) = lrows rs ++ [[Value.bool f', Value.slice a' (nums c).length c']] by simp [lrows]]; exact hO3,
              hLs, hKw3⟩)
          clear hO3 hg3 hK3 hKw3 hL3 hV3 hLs
          go_wp2_with fail
          go_roundw
          case rel => exact HRel.out
          case measure => simp [intOf]; omega
      · have HX := Lib.hid (show R = ⟨[], n + 1, er⟩ by rw [← hD.run, derivR_err hlt HL.out he])
        have d2 : ((er : Int) != 0) = true := by simp; omega
        have hend := Lib.hid (dread_bad (R := R) (n := (n : Int) + 1) (er := (er : Int)) (by rw [HX.out]) (by rw [HX.out]; simp) (by rw [HX.out]) HD.out.kp)
        clear he hD
        go_wp2_with fail
        refine (HLn.out _).mono ?_
        rintro e w' ⟨rfl, rfl⟩
        go_wp2_with fail
        go_ret3
        exact hend.out
    · have HX := Lib.hid (show R = ⟨L, 0, 0⟩ by rw [← hD.run, derivR_done (by omega)])
      have hEnd : Hid (DReadP R w (.returned (.tuple #[.slice va vm vc, .int .i64 0, .int .i64 0])) wr) := by
        show DReadP _ _ _ _
        rw [HX.out]
        exact ⟨_, rs, rfl, HD.out.own, HD.out.lns, HD.out.kp⟩
      clear hD
      go_wp2_with fail
      go_ret3
      exact hEnd.out

theorem ref28_Read_long (s : ByteArray) (w : World) (hs : 1048576 < s.size) :
    Calls Tryd.prog 43 #[.string s] w (DReadP (derivT s) w) := by
  have HE : Hid (DReadP (derivT s) w (.returned (.tuple #[.slice none 0 0, .int .i64 0, .int .i64 4])) w) := by
    show DReadP _ _ _ _
    unfold derivT
    rw [if_pos hs]
    exact ⟨_, [], rfl, OwnK.nil _ _ _ _, Lns.nil _ _, Kp.refl _ _⟩
  have d1 : decide ((1048576 : Int) < (s.size : Int)) = true := by simp; omega
  go_enter Tryd.func43, Tryd.ntmps43
  go_wp2_with fail
  go_ret3
  exact HE.out

end Go.Proofs.YtcpgbgbhfkpehaaDoor
