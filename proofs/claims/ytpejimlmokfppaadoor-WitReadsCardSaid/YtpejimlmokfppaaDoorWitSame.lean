/-
  wit.Read and its reference at lengths below 0; latchetref18.Same of equal witnesses.
-/
import Derived.Test.YtpejimlmokfppaaDoorWitRead
import Derived.Test.YtpejimlmokfppaaDoorWitRef
namespace Go.Proofs.YtpejimlmokfppaaDoor
open Go.RowKit Go.Shelf

theorem zero_post (w W : World) (s : ByteArray) (la inp : Int) (h : la < 0 ∨ inp < 0) (hk : Kp (fun _ => False) w W) :
    WReadP w s (witT s la inp) (.returned (.tuple #[.agg #[.int .i64 0, .int .i64 0, .slice none 0 0, .slice none 0 0], .int .i64 0, .int .i64 1])) W := by
  have hT : witT s la inp = .bad 0 1 := by unfold witT; rw [if_pos h]
  rw [hT]
  exact ⟨⟨_, rfl, _, _, rfl, own_boolsSl (l := []) (Own.nil _ 0 _), none, 0, rfl, Nat.le_refl _, by simp [maxLen], fun _ => rfl, [], RowAt.nil _ _, rfl, fun j r x h => by cases h⟩, hk⟩

set_option maxRecDepth 100000 in
set_option maxHeartbeats 4000000 in
theorem ref18_Read_bad (s : ByteArray) (la inp : Int) (w : World) (h : la < 0 ∨ inp < 0) :
    Calls Tryd.prog 6 #[.string s, .int .i64 la, .int .i64 inp] w (WReadP w s (witT s la inp)) := by
  have HZ := Lib.hid (fun W hk => zero_post w W s la inp h hk)
  have h3 : decide (la < 0) = true ∨ (decide (la < 0) = false ∧ decide (inp < 0) = true) := by
    by_cases h1 : la < 0
    · exact .inl (by simpa using h1)
    · exact .inr ⟨by simpa using h1, by rcases h with h | h; exact absurd h h1; simpa using h⟩
  clear h
  rcases h3 with g1 | ⟨g1, g2⟩
  all_goals
    go_enter Tryd.func6, Tryd.ntmps6
    go_wp2_with fail
    exact bodyPost_ret (v := .tuple #[.agg #[.int .i64 0, .int .i64 0, .slice none 0 0, .slice none 0 0], .int .i64 0, .int .i64 1]) (by simp [results, Tryd.results6, go_sem]) rfl (HZ.out _ ((((Kp.refl _ w).alloc _).alloc _).alloc _))

set_option maxRecDepth 100000 in
set_option maxHeartbeats 4000000 in
theorem wit_Read_bad (s : ByteArray) (la inp : Int) (w : World) (h : la < 0 ∨ inp < 0) :
    Calls Tryd.prog 5 #[.string s, .int .i64 la, .int .i64 inp] w (WReadP w s (witT s la inp)) := by
  have HZ := Lib.hid (fun W hk => zero_post w W s la inp h hk)
  have h3 : decide (la < 0) = true ∨ (decide (la < 0) = false ∧ decide (inp < 0) = true) := by
    by_cases h1 : la < 0
    · exact .inl (by simpa using h1)
    · exact .inr ⟨by simpa using h1, by rcases h with h | h; exact absurd h h1; simpa using h⟩
  clear h
  rcases h3 with g1 | ⟨g1, g2⟩
  all_goals
    go_enter Tryd.func5, Tryd.ntmps5
    go_wp2_with fail
    exact bodyPost_ret (v := .tuple #[.agg #[.int .i64 0, .int .i64 0, .slice none 0 0, .slice none 0 0], .int .i64 0, .int .i64 1]) (by simp [results, Tryd.results5, go_sem]) rfl (HZ.out _ (by repeat (first | exact Kp.refl _ w | apply Kp.alloc)))

/-- both Reads, of any lengths -/
theorem wit_Read_any (s : ByteArray) (la inp : Int) (w : World) (hs : s.size ≤ 100000) (hm : ML w) :
    Calls Tryd.prog 5 #[.string s, .int .i64 la, .int .i64 inp] w (WReadP w s (witT s la inp)) := by
  by_cases h : la < 0 ∨ inp < 0
  · exact wit_Read_bad s la inp w h
  · exact wit_Read_in s la inp w hs hm (by omega) (by omega)

theorem ref18_Read_any (s : ByteArray) (la inp : Int) (w : World) (hs : s.size ≤ 100000) :
    Calls Tryd.prog 6 #[.string s, .int .i64 la, .int .i64 inp] w (WReadP w s (witT s la inp)) := by
  by_cases h : la < 0 ∨ inp < 0
  · exact ref18_Read_bad s la inp w h
  · exact ref18_Read_in s la inp w hs (by omega) (by omega)

set_option maxRecDepth 100000 in
set_option maxHeartbeats 4000000 in
theorem ref18_Same (v v' : Value) (d : WitD) (w : World) (hv : WitSl w v d) (hv' : WitSl w v' d) (hn : d.ins.length ≤ 1000000) :
    Calls Tryd.prog 7 #[v, v'] w fun e w' => e = .returned (.bool true) ∧ Kp (fun _ => False) w w' := by
  obtain ⟨u2, u3, rfl, h2, h3⟩ := hv
  obtain ⟨x2, x3, rfl, h2', h3'⟩ := hv'
  obtain ⟨a2, c2, rfl, p1, p2, p3, p4⟩ := h2
  obtain ⟨a2', c2', rfl, p1', p2', p3', p4'⟩ := h2'
  obtain ⟨a3, c3, rfl, r1, r2, r3, r4⟩ := h3
  obtain ⟨a3', c3', rfl, r1', r2', r3', r4'⟩ := h3'
  have q := ((Kp.refl (fun _ => False) w).alloc (.cells #[.int .i64 d.kind, .int .i64 d.prop, .slice a2 d.start.length c2, .slice a3 d.ins.length c3] 27)).alloc (.cells #[.int .i64 d.kind, .int .i64 d.prop, .slice a2' d.start.length c2', .slice a3' d.ins.length c3'] 27)
  have hB1 := (Blk.new w #[.int .i64 d.kind, .int .i64 d.prop, .slice a2 d.start.length c2, .slice a3 d.ins.length c3] 27).alloc (.cells #[.int .i64 d.kind, .int .i64 d.prop, .slice a2' d.start.length c2', .slice a3' d.ins.length c3'] 27)
  have hB2 := Blk.new (w.alloc (.cells #[.int .i64 d.kind, .int .i64 d.prop, .slice a2 d.start.length c2, .slice a3 d.ins.length c3] 27)) #[.int .i64 d.kind, .int .i64 d.prop, .slice a2' d.start.length c2', .slice a3' d.ins.length c3'] 27
  have hst := ref_Same a2 a2' d.start.length d.start.length c2 c2' d.start d.start _ (p4.kp q (fun _ _ h => h)) (p4'.kp q (fun _ _ h => h)) rfl rfl (by unfold maxLen at p2; omega)
  rw [show (d.start == d.start) = true by simp] at hst
  have hg := r4.kp q
  have hg' := r4'.kp q
  rw [World.size_alloc] at hB2
  obtain ⟨W1, hW1⟩ : ∃ W1, (w.alloc (.cells #[.int .i64 d.kind, .int .i64 d.prop, .slice a2 d.start.length c2, .slice a3 d.ins.length c3] 27)).alloc (.cells #[.int .i64 d.kind, .int .i64 d.prop, .slice a2' d.start.length c2', .slice a3' d.ins.length c3'] 27) = W1 := ⟨_, rfl⟩
  rw [hW1] at hst hB1 hB2 q hg hg'
  have HSt := Lib.hid hst
  have HG := Lib.hid hg
  have HG' := Lib.hid hg'
  have HQ := Lib.hid q
  have k0 := hB1.cell (i := 0) rfl
  have k1 := hB1.cell (i := 1) rfl
  have k2 := hB1.cell (i := 2) rfl
  have k3 := hB1.cell (i := 3) rfl
  have m0 := hB2.cell (i := 0) rfl
  have m1 := hB2.cell (i := 1) rfl
  have m2 := hB2.cell (i := 2) rfl
  have m3 := hB2.cell (i := 3) rfl
  have HB1 := Lib.hid hB1
  have HB2 := Lib.hid hB2
  clear hg hg'
  have e1 : ((d.kind : Int) != (d.kind : Int)) = false := by simp
  have e2 : ((d.prop : Int) != (d.prop : Int)) = false := by simp
  have e3 : ((d.ins.length : Int) != (d.ins.length : Int)) = false := by simp
  clear hst hB1 hB2 q p1 p2 p3 p4 p1' p2' p3' p4' r1 r2 r3 r4 r1' r2' r3' r4'
  go_enter Tryd.func7, Tryd.ntmps7
  go_wp2_with fail
  refine HSt.out.mono ?_
  rintro e w' ⟨rfl, q, hq⟩
  have hb1 := HB1.out.drewN q
  have hb2 := HB2.out.drewN q
  rw [← hq] at hb1 hb2
  have k1' := hb1.cell (i := 1) rfl
  have k3' := hb1.cell (i := 3) rfl
  have m1' := hb2.cell (i := 1) rfl
  have m3' := hb2.cell (i := 3) rfl
  have HQ2 := Lib.hid hq
  clear hq hb1 hb2 k0 k1 k2 k3 m0 m1 m2 m3 hW1
  go_wp2_with fail
  go_loopw [5] (fun v5 wr => ∃ k q : Nat, k ≤ d.ins.length ∧ v5 = .int .i64 k ∧ wr = W1.drewN q) (fun v5 _ => d.ins.length - (intOf v5).toNat)
  case atStart => exact ⟨0, q, Nat.zero_le _, rfl, HQ2.out⟩
  case round =>
    obtain ⟨k, q, hk, rfl, hw⟩ := hrel
    have hb1 := HB1.out.drewN q
    have hb2 := HB2.out.drewN q
    have hg := HG.out.kp ((Kp.refl (fun _ => False) W1).drewN q)
    have hg' := HG'.out.kp ((Kp.refl (fun _ => False) W1).drewN q)
    rw [← hw] at hb1 hb2 hg hg'
    have k3 := hb1.cell (i := 3) rfl
    have m3 := hb2.cell (i := 3) rfl
    clear hb1 hb2 k1' k3' m1' m3' HQ2
    have HW := Lib.hid hw
    clear hw
    by_cases hlt : k < d.ins.length
    · obtain ⟨b, off, v, rfl, c0, hv⟩ := hg.row hlt
      obtain ⟨b', off', v', rfl, c0', hv'⟩ := hg'.row hlt
      obtain ⟨av, cv, rfl, _, _, _, hv4⟩ := hv
      obtain ⟨av', cv', rfl, _, hcm2, _, hv4'⟩ := hv'
      have HI := Lib.hid (fun (j : Nat) => ref_Same av av' (gb d.ins k).length (gb d.ins k).length cv cv' (gb d.ins k) (gb d.ins k) (wr.drewN j) (hv4.drewN j) (hv4'.drewN j) rfl rfl (by unfold maxLen at hcm2; omega))
      rw [show (gb d.ins k == gb d.ins k) = true by simp] at HI
      obtain ⟨m, hm⟩ : ∃ m, (gb d.ins k).length = m := ⟨_, rfl⟩
      rw [hm] at HI c0 c0'
      clear hv4 hv4' hcm2 hm hg hg'
      have i0 : (0 : Int) ≤ (k : Int) := by omega
      have i1 : (k : Int) < (d.ins.length : Int) := by omega
      have dd : decide ((k : Int) < (d.ins.length : Int)) = true := by simp; omega
      go_wp2_with fail
      go_quiet ((go_at_call 19; exact Calls.quiet_of (HI.out _)))
      go_wp2_with fail
      go_roundw
      case rel => exact ⟨k + 1, _, by omega, by go_num, by rw [HW.out, World.drewN_drewN]⟩
      case measure => simp [intOf]; omega
    · have dd : decide ((k : Int) < (d.ins.length : Int)) = false := by simp; omega
      go_wp2_with fail
      go_ret
      exact ⟨rfl, by rw [HW.out]; exact HQ.out.drewN q⟩

end Go.Proofs.YtpejimlmokfppaaDoor
