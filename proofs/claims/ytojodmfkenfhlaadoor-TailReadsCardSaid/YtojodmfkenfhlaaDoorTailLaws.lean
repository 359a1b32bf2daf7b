/-
  latchetlaw12.TailCounts, TailReads: their walks.
-/
import Derived.Test.YtojodmfkenfhlaaDoorTailLives
import Derived.Deep.RegionWith
namespace Go.Proofs.YtojodmfkenfhlaaDoor
open Go.RowKit

/-- a head that came in -/
def HdArg (_w : World) (v : Value) : Prop := ∃ h : Hd, v = hdV h

set_option maxRecDepth 100000 in
set_option maxHeartbeats 4000000 in
theorem tailCounts_walk (w : World) (v : Value) (hv : HdArg w v) (x : Int) (wx : (Lit.int .u8 x).wf = true) (ht : Tab w) :
    Calls Tryd.prog 7 #[v, .int .u8 x] w fun e w' => e = .returned (.bool true) ∧ Below w.heap.size w w' := by
  obtain ⟨h, rfl⟩ := hv
  obtain ⟨k, rfl⟩ : ∃ k : Nat, x = k := ⟨x.toNat, by simp [Lit.wf, IntKind.min, IntKind.max, IntKind.signed, IntKind.bits] at wx; omega⟩
  clear wx
  have HT := Lib.hid ht; clear ht
  have HC1 := Lib.hid (fun u => tail_Count h k u)
  have HC2 := Lib.hid (fun u => ref12_Count h k u)
  have HB0 := Lib.hid ((Blk.new w (hdCells h) 46).drew)
  obtain ⟨C, hC⟩ : ∃ C, cnt h k = C := ⟨_, rfl⟩
  rw [hC] at HC1 HC2
  clear hC
  have d1 : (C == C) = true := by simp
  obtain ⟨bin, m, i, l, o, a, b, c⟩ := h
  unfold hdV at HC1 HC2 ⊢
  unfold hdCells at HB0
  simp only at HC1 HC2 HB0 ⊢
  have HK0 := Lib.hid (((Kp.refl (fun _ => False) w).alloc (.cells #[.bool bin, .int .i64 m, .int .i64 i, .int .i64 l, .int .i64 o, .int .i64 a, .int .i64 b, .int .i64 c] 46)).drew)
  go_enter Tryd.func7, Tryd.ntmps7
  go_wp2_with fail
  go_region_with (first
    | (go_at_call 30; refine (HC1.out _).mono ?_; rintro e wa ⟨rfl, hKa⟩; (first | (have HBa := Lib.hid (HB0.out.kp hKa (fun h => h)); have HKa := Lib.hid (HK0.out.trans hKa (fun _ _ h => h))) | (have HBa := Lib.hid (HBb.out.kp hKa (fun h => h)); have HKa := Lib.hid (HKb.out.trans hKa (fun _ _ h => h)))); have a0 := HBa.out.cell (i := 0) rfl; have a1 := HBa.out.cell (i := 1) rfl; have a2 := HBa.out.cell (i := 2) rfl; have a3 := HBa.out.cell (i := 3) rfl; have a4 := HBa.out.cell (i := 4) rfl; have a5 := HBa.out.cell (i := 5) rfl; have a6 := HBa.out.cell (i := 6) rfl; have a7 := HBa.out.cell (i := 7) rfl)
    | (go_at_call 31; refine (HC2.out _).mono ?_; rintro e wb ⟨rfl, hKb⟩; (first | (have HBb := Lib.hid (HB0.out.kp hKb (fun h => h)); have HKb := Lib.hid (HK0.out.trans hKb (fun _ _ h => h))) | (have HBb := Lib.hid (HBa.out.kp hKb (fun h => h)); have HKb := Lib.hid (HKa.out.trans hKb (fun _ _ h => h)))); have b0 := HBb.out.cell (i := 0) rfl; have b1 := HBb.out.cell (i := 1) rfl; have b2 := HBb.out.cell (i := 2) rfl; have b3 := HBb.out.cell (i := 3) rfl; have b4 := HBb.out.cell (i := 4) rfl; have b5 := HBb.out.cell (i := 5) rfl; have b6 := HBb.out.cell (i := 6) rfl; have b7 := HBb.out.cell (i := 7) rfl)
    | (go_at_call 29; (first | refine (tail_lives _ (HT.out.kp HKa.out)).mono ?_ | refine (tail_lives _ (HT.out.kp HKb.out)).mono ?_); rintro e wc ⟨rfl, hKc⟩; (first | have hend := HKa.out.trans hKc (fun _ _ h => h) | have hend := HKb.out.trans hKc (fun _ _ h => h))))
  all_goals go_wp2_with fail
  all_goals go_ret
  all_goals exact ⟨rfl, hend.below (Nat.le_refl _) (fun _ _ h => h)⟩

set_option maxRecDepth 100000 in
set_option maxHeartbeats 4000000 in
theorem tailReads_short (w : World) (h : Hd) (s : ByteArray) (x : Int) (ht : Tab w) (hs : s.size ≤ 1000) :
    Calls Tryd.prog 6 #[hdV h, .string s, .int .i64 x] w fun e w' => e = .returned (.bool true) ∧ Below w.heap.size w w' := by
  have HT := Lib.hid ht; clear ht
  have g1 : decide ((1000 : Int) < (s.size : Int)) = false := by simp; omega
  have HR1 := Lib.hid (fun u => tail_Read h s x u (by omega))
  have HR2 := Lib.hid (fun u => ref12_Read h s x u (by omega))
  obtain ⟨L, C, tt, er, hR⟩ : ∃ L C tt er, readT h s x = ⟨L, C, tt, er⟩ := ⟨_, _, _, _, rfl⟩
  have hlen := readT_len h s x
  rw [hR] at HR1 HR2 hlen
  simp only at hlen
  have hl2 : L.length ≤ 1000 := by omega
  clear hR hlen
  have HB0 := Lib.hid (Blk.new w (hdCells h) 46)
  obtain ⟨bin, m, i, l, o, a, b, c⟩ := h
  unfold hdV at HR1 HR2 ⊢
  unfold hdCells at HB0
  simp only at HR1 HR2 HB0 ⊢
  have HK0 := Lib.hid ((Kp.refl (fun _ => False) w).alloc (.cells #[.bool bin, .int .i64 m, .int .i64 i, .int .i64 l, .int .i64 o, .int .i64 a, .int .i64 b, .int .i64 c] 46))
  have q1 : ((tt : Int) == (tt : Int)) = true := by simp
  have q2 : ((er : Int) == (er : Int)) = true := by simp
  go_enter Tryd.func6, Tryd.ntmps6
  go_wp2_with fail
  refine (HR1.out _).mono ?_
  rintro e w2 ⟨v, rfl, hO, hK⟩
  have hKw := HK0.out.trans hK (fun _ _ h => h)
  obtain ⟨a1, cap1, rfl, _, _, _, _, hr1⟩ := hO.form
  rw [List.length_map]
  have hB2 := HB0.out.kp hK (fun h => h)
  have h0 := hB2.cell (i := 0) rfl
  have h1 := hB2.cell (i := 1) rfl
  have h2 := hB2.cell (i := 2) rfl
  have h3 := hB2.cell (i := 3) rfl
  have h4 := hB2.cell (i := 4) rfl
  have h5 := hB2.cell (i := 5) rfl
  have h6 := hB2.cell (i := 6) rfl
  have h7 := hB2.cell (i := 7) rfl
  have HRR1 := Lib.hid hr1
  clear hO hK hr1 hB2
  go_wp2_with fail
  refine (HR2.out _).mono ?_
  rintro e w3 ⟨v, rfl, hO, hK⟩
  have hKw3 := hKw.trans hK (fun _ _ h => h)
  obtain ⟨a2, cap2, rfl, _, _, _, _, hr2⟩ := hO.form
  rw [List.length_map]
  have HSm := Lib.hid (ref12_Same a1 a2 L L.length cap1 cap2 w3 (HRR1.out.kp hK (fun _ _ h => h)) hr2 rfl (by omega))
  clear hO hK hr2 h0 h1 h2 h3 h4 h5 h6 h7 HRR1
  go_wp2_with fail
  refine HSm.out.mono ?_
  rintro e w' ⟨rfl, q, rfl⟩
  have hK4 := hKw3.drewN q
  go_wp2_with fail
  refine (tail_lives _ (HT.out.kp hK4)).mono ?_
  rintro e w5 ⟨rfl, hK5⟩
  have hend := (hK4.trans hK5 (fun _ _ h => h)).below (Nat.le_refl _) (fun _ _ h => h)
  go_wp2_with fail
  go_ret
  exact ⟨rfl, hend⟩

set_option maxRecDepth 100000 in
set_option maxHeartbeats 4000000 in
theorem tailReads_long (w : World) (h : Hd) (s : ByteArray) (x : Int) (ht : Tab w) (hs : 1000 < s.size) :
    Calls Tryd.prog 6 #[hdV h, .string s, .int .i64 x] w fun e w' => e = .returned (.bool true) ∧ Below w.heap.size w w' := by
  have HT := Lib.hid ht; clear ht
  have g1 : decide ((1000 : Int) < (s.size : Int)) = true := by simp; omega
  have g2 : (1000 : Int) ≤ (s.size : Int) := by omega
  have hsz : (s.extract 0 1000).size ≤ 1000 := by rw [ByteArray.size_extract]; omega
  have HR1 := Lib.hid (fun u => tail_Read h (s.extract 0 1000) x u (by omega))
  have HR2 := Lib.hid (fun u => ref12_Read h (s.extract 0 1000) x u (by omega))
  obtain ⟨L, C, tt, er, hR⟩ : ∃ L C tt er, readT h (s.extract 0 1000) x = ⟨L, C, tt, er⟩ := ⟨_, _, _, _, rfl⟩
  have hlen := readT_len h (s.extract 0 1000) x
  rw [hR] at HR1 HR2 hlen
  simp only at hlen
  have hl2 : L.length ≤ 1000 := by omega
  clear hR hlen
  have HB0 := Lib.hid (Blk.new w (hdCells h) 46)
  obtain ⟨bin, m, i, l, o, a, b, c⟩ := h
  unfold hdV at HR1 HR2 ⊢
  unfold hdCells at HB0
  simp only at HR1 HR2 HB0 ⊢
  have HK0 := Lib.hid ((Kp.refl (fun _ => False) w).alloc (.cells #[.bool bin, .int .i64 m, .int .i64 i, .int .i64 l, .int .i64 o, .int .i64 a, .int .i64 b, .int .i64 c] 46))
  have q1 : ((tt : Int) == (tt : Int)) = true := by simp
  have q2 : ((er : Int) == (er : Int)) = true := by simp
  go_enter Tryd.func6, Tryd.ntmps6
  go_wp2_with fail
  refine (HR1.out _).mono ?_
  rintro e w2 ⟨v, rfl, hO, hK⟩
  have hKw := HK0.out.trans hK (fun _ _ h => h)
  obtain ⟨a1, cap1, rfl, _, _, _, _, hr1⟩ := hO.form
  rw [List.length_map]
  have hB2 := HB0.out.kp hK (fun h => h)
  have h0 := hB2.cell (i := 0) rfl
  have h1 := hB2.cell (i := 1) rfl
  have h2 := hB2.cell (i := 2) rfl
  have h3 := hB2.cell (i := 3) rfl
  have h4 := hB2.cell (i := 4) rfl
  have h5 := hB2.cell (i := 5) rfl
  have h6 := hB2.cell (i := 6) rfl
  have h7 := hB2.cell (i := 7) rfl
  have HRR1 := Lib.hid hr1
  clear hO hK hr1 hB2
  go_wp2_with fail
  refine (HR2.out _).mono ?_
  rintro e w3 ⟨v, rfl, hO, hK⟩
  have hKw3 := hKw.trans hK (fun _ _ h => h)
  obtain ⟨a2, cap2, rfl, _, _, _, _, hr2⟩ := hO.form
  rw [List.length_map]
  have HSm := Lib.hid (ref12_Same a1 a2 L L.length cap1 cap2 w3 (HRR1.out.kp hK (fun _ _ h => h)) hr2 rfl (by omega))
  clear hO hK hr2 h0 h1 h2 h3 h4 h5 h6 h7 HRR1
  go_wp2_with fail
  refine HSm.out.mono ?_
  rintro e w' ⟨rfl, q, rfl⟩
  have hK4 := hKw3.drewN q
  go_wp2_with fail
  refine (tail_lives _ (HT.out.kp hK4)).mono ?_
  rintro e w5 ⟨rfl, hK5⟩
  have hend := (hK4.trans hK5 (fun _ _ h => h)).below (Nat.le_refl _) (fun _ _ h => h)
  go_wp2_with fail
  go_ret
  exact ⟨rfl, hend⟩

theorem tailReads_walk (w : World) (v : Value) (hv : HdArg w v) (s : ByteArray) (_hs : s.size ≤ maxLen) (x : Int) (_wx : (Lit.int .i64 x).wf = true) (ht : Tab w) :
    Calls Tryd.prog 6 #[v, .string s, .int .i64 x] w fun e w' => e = .returned (.bool true) ∧ Below w.heap.size w w' := by
  obtain ⟨h, rfl⟩ := hv
  by_cases hs : s.size ≤ 1000
  · exact tailReads_short w h s x ht hs
  · exact tailReads_long w h s x ht (by omega)

end Go.Proofs.YtojodmfkenfhlaaDoor
