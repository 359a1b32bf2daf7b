/-
  latchetlaw18.WitReads: its walk.
-/
import Derived.Test.YtpejimlmokfppaaDoorWitLives
namespace Go.Proofs.YtpejimlmokfppaaDoor
open Go.RowKit Go.Shelf

set_option maxRecDepth 100000 in
set_option maxHeartbeats 4000000 in
theorem witReads_in (s t : ByteArray) (la inp : Int) (w : World) (hm : ML w) (h : s.size ≤ 1000 ∧ t = s ∨ 1000 < s.size ∧ t = s.extract 0 1000) :
    Calls Tryd.prog 3 #[.string s, .int .i64 la, .int .i64 inp] w fun e w' => e = .returned (.bool true) ∧ Below w.heap.size w w' := by
  have HM := Lib.hid hm; clear hm
  have hz : t.size ≤ 1000 := by
    rcases h with ⟨h1, rfl⟩ | ⟨h1, rfl⟩
    · exact h1
    · rw [ByteArray.size_extract]; omega
  have HRd := Lib.hid (fun u hu => wit_Read_any t la inp u (by omega) hu)
  have HRf := Lib.hid (fun u => ref18_Read_any t la inp u (by omega))
  have HBd : Hid ((witT t la inp).w.ins.length ≤ 1000000) := by
    show _ ≤ _
    unfold witT
    split
    · simp [WitO.w, wit0]
    · have := witR_ins t la inp (t.size + 2) 0 0 wit0 (by simp [wit0])
      omega
  obtain ⟨o, hO⟩ : ∃ o, witT t la inp = o := ⟨_, rfl⟩
  rw [hO] at HRd HRf HBd
  clear hO
  have HLv := Lib.hid (fun u hu => wit_lives u hu)
  have q1 : ((o.at_ t : Int) == (o.at_ t : Int)) = true := by simp
  have q2 : ((o.e : Int) == (o.e : Int)) = true := by simp
  rcases h with ⟨h1, rfl⟩ | ⟨h1, rfl⟩
  · have g1 : decide ((1000 : Int) < (t.size : Int)) = false := by simp; omega
    clear h1
    go_enter Tryd.func3, Tryd.ntmps3
    go_wp2_with fail
    refine (HRd.out _ HM.out).mono ?_
    rintro e w1 ⟨⟨v, rfl, hv⟩, hK1⟩
    have HV := Lib.hid hv
    obtain ⟨v2, v3, rfl, ⟨a2, c2, rfl, _⟩, ⟨a3, c3, rfl, _⟩⟩ := hv
    have HB1 := Lib.hid (Blk.new w1 #[.int .i64 o.w.kind, .int .i64 o.w.prop, .slice a2 o.w.start.length c2, .slice a3 o.w.ins.length c3] 27)
    have HK1 := Lib.hid (hK1.alloc (.cells #[.int .i64 o.w.kind, .int .i64 o.w.prop, .slice a2 o.w.start.length c2, .slice a3 o.w.ins.length c3] 27))
    have HV1 := Lib.hid (HV.out.kp ((Kp.refl (fun _ => False) w1).alloc (.cells #[.int .i64 o.w.kind, .int .i64 o.w.prop, .slice a2 o.w.start.length c2, .slice a3 o.w.ins.length c3] 27)))
    clear hK1
    go_wp2_with fail
    refine (HRf.out _).mono ?_
    rintro e w2 ⟨⟨v, rfl, hv⟩, hK2⟩
    have HV' := Lib.hid hv
    obtain ⟨v2', v3', rfl, ⟨a2', c2', rfl, _⟩, ⟨a3', c3', rfl, _⟩⟩ := hv
    have HB2 := Lib.hid (Blk.new w2 #[.int .i64 o.w.kind, .int .i64 o.w.prop, .slice a2' o.w.start.length c2', .slice a3' o.w.ins.length c3'] 27)
    have q2 := (Kp.refl (fun _ => False) w2).alloc (.cells #[.int .i64 o.w.kind, .int .i64 o.w.prop, .slice a2' o.w.start.length c2', .slice a3' o.w.ins.length c3'] 27)
    have HB1' := Lib.hid ((HB1.out.kp hK2 (fun h => h)).kp q2 (fun h => h))
    have HK2 := Lib.hid ((HK1.out.trans hK2 (fun _ _ h => h)).trans q2 (fun _ _ h => h))
    have HSm := Lib.hid (ref18_Same _ _ o.w _ ((HV1.out.kp hK2).kp q2) (HV'.out.kp q2) HBd.out)
    have k0 := HB1'.out.cell (i := 0) rfl
    have k1 := HB1'.out.cell (i := 1) rfl
    have k2 := HB1'.out.cell (i := 2) rfl
    have k3 := HB1'.out.cell (i := 3) rfl
    clear hK2 q2 HV HV' HV1 HB1 HB2 HRd HRf
    go_wp2_with fail
    refine HSm.out.mono ?_
    rintro e w3 ⟨rfl, hK3⟩
    have HK3 := Lib.hid (HK2.out.trans hK3 (fun _ _ h => h))
    clear hK3
    go_wp2_with fail
    refine (HLv.out _ (HM.out.kp HK3.out)).mono ?_
    rintro e w4 ⟨rfl, hK4⟩
    have HK4 := Lib.hid (HK3.out.trans hK4 (fun _ _ h => h))
    clear hK4
    go_wp2_with fail
    go_ret
    exact ⟨rfl, HK4.out.below (Nat.le_refl _) (fun _ _ h => h)⟩
  · have g1 : decide ((1000 : Int) < (s.size : Int)) = true := by simp; omega
    have u1 : (1000 : Int) ≤ (s.size : Int) := by omega
    clear h1
    go_enter Tryd.func3, Tryd.ntmps3
    go_wp2_with fail
    refine (HRd.out _ HM.out).mono ?_
    rintro e w1 ⟨⟨v, rfl, hv⟩, hK1⟩
    have HV := Lib.hid hv
    obtain ⟨v2, v3, rfl, ⟨a2, c2, rfl, _⟩, ⟨a3, c3, rfl, _⟩⟩ := hv
    have HB1 := Lib.hid (Blk.new w1 #[.int .i64 o.w.kind, .int .i64 o.w.prop, .slice a2 o.w.start.length c2, .slice a3 o.w.ins.length c3] 27)
    have HK1 := Lib.hid (hK1.alloc (.cells #[.int .i64 o.w.kind, .int .i64 o.w.prop, .slice a2 o.w.start.length c2, .slice a3 o.w.ins.length c3] 27))
    have HV1 := Lib.hid (HV.out.kp ((Kp.refl (fun _ => False) w1).alloc (.cells #[.int .i64 o.w.kind, .int .i64 o.w.prop, .slice a2 o.w.start.length c2, .slice a3 o.w.ins.length c3] 27)))
    clear hK1
    go_wp2_with fail
    refine (HRf.out _).mono ?_
    rintro e w2 ⟨⟨v, rfl, hv⟩, hK2⟩
    have HV' := Lib.hid hv
    obtain ⟨v2', v3', rfl, ⟨a2', c2', rfl, _⟩, ⟨a3', c3', rfl, _⟩⟩ := hv
    have HB2 := Lib.hid (Blk.new w2 #[.int .i64 o.w.kind, .int .i64 o.w.prop, .slice a2' o.w.start.length c2', .slice a3' o.w.ins.length c3'] 27)
    have q2 := (Kp.refl (fun _ => False) w2).alloc (.cells #[.int .i64 o.w.kind, .int .i64 o.w.prop, .slice a2' o.w.start.length c2', .slice a3' o.w.ins.length c3'] 27)
    have HB1' := Lib.hid ((HB1.out.kp hK2 (fun h => h)).kp q2 (fun h => h))
    have HK2 := Lib.hid ((HK1.out.trans hK2 (fun _ _ h => h)).trans q2 (fun _ _ h => h))
    have HSm := Lib.hid (ref18_Same _ _ o.w _ ((HV1.out.kp hK2).kp q2) (HV'.out.kp q2) HBd.out)
    have k0 := HB1'.out.cell (i := 0) rfl
    have k1 := HB1'.out.cell (i := 1) rfl
    have k2 := HB1'.out.cell (i := 2) rfl
    have k3 := HB1'.out.cell (i := 3) rfl
    clear hK2 q2 HV HV' HV1 HB1 HB2 HRd HRf
    go_wp2_with fail
    refine HSm.out.mono ?_
    rintro e w3 ⟨rfl, hK3⟩
    have HK3 := Lib.hid (HK2.out.trans hK3 (fun _ _ h => h))
    clear hK3
    go_wp2_with fail
    refine (HLv.out _ (HM.out.kp HK3.out)).mono ?_
    rintro e w4 ⟨rfl, hK4⟩
    have HK4 := Lib.hid (HK3.out.trans hK4 (fun _ _ h => h))
    clear hK4
    go_wp2_with fail
    go_ret
    exact ⟨rfl, HK4.out.below (Nat.le_refl _) (fun _ _ h => h)⟩

theorem witReads_walk (s : ByteArray) (_hs : s.size ≤ maxLen) (la : Int) (_h1 : (Lit.int .i64 la).wf = true) (inp : Int) (_h2 : (Lit.int .i64 inp).wf = true) (w : World) (_ht : Tab w) (hm : ML w) :
    Calls Tryd.prog 3 #[.string s, .int .i64 la, .int .i64 inp] w fun e w' => e = .returned (.bool true) ∧ Below w.heap.size w w' := by
  by_cases h : s.size ≤ 1000
  · exact witReads_in s s la inp w hm (.inl ⟨h, rfl⟩)
  · exact witReads_in s _ la inp w hm (.inr ⟨by omega, rfl⟩)

end Go.Proofs.YtpejimlmokfppaaDoor
