/-
  A head's line, as the reference writes it. (Printed by mkarefw.py.)
-/
import Derived.Test.YtpfofknjlhaanaaGreatDoorM2
import Derived.Deep.DeepCutAuto
import Derived.Deep.CutBlock
import Derived.RangeFuncCalls
import Derived.Deep.RegionHeld3
import Derived.Test.YtpfofknjlhaanaaGreatDoorM1
import Derived.Maps.AppendAt
import Derived.Laws.EntriesVeiled
namespace Go.Proofs.YtpfofknjlhaanaaGreatDoor
open Go.RowKit

set_option maxRecDepth 100000 in
set_option maxHeartbeats 4000000 in
theorem ref_WriteHead (b : Bool) (x0 x1 x2 x3 x4 x5 x6 : Int) (w : World) (hok : ∀ x ∈ [x0, x1, x2, x3, x4, x5, x6], okI x) :
    Calls Tryz.prog 21 #[.agg #[.bool b, .int .i64 x0, .int .i64 x1, .int .i64 x2, .int .i64 x3, .int .i64 x4, .int .i64 x5, .int .i64 x6]] w fun e w' => e = .returned (.string ⟨(headW b [x0, x1, x2, x3, x4, x5, x6]).toArray⟩) ∧ Kp (fun _ => False) w w' := by
  have HOk := Lib.hid hok
  clear hok
  obtain ⟨wz, hwz⟩ : ∃ wz : World, wz = (w.alloc (.cells #[.bool b, .int .i64 x0, .int .i64 x1, .int .i64 x2, .int .i64 x3, .int .i64 x4, .int .i64 x5, .int .i64 x6] 41)).alloc (.cells #[.int .i64 x0, .int .i64 x1, .int .i64 x2, .int .i64 x3, .int .i64 x4, .int .i64 x5, .int .i64 x6] 3) := ⟨_, rfl⟩
  have HBz : Hid (Blk wz w.heap.size #[.bool b, .int .i64 x0, .int .i64 x1, .int .i64 x2, .int .i64 x3, .int .i64 x4, .int .i64 x5, .int .i64 x6] 41) := Lib.hid (by rw [hwz]; exact (Blk.new w _ _).alloc _)
  have HKz : Hid (Kp (fun _ => False) w wz) := Lib.hid (by rw [hwz]; exact ((Kp.refl _ w).alloc _).alloc _)
  have HLz : Hid (Blk wz (w.heap.size + 1) #[.int .i64 x0, .int .i64 x1, .int .i64 x2, .int .i64 x3, .int .i64 x4, .int .i64 x5, .int .i64 x6] 3) := Lib.hid (by
    rw [hwz]
    have := Blk.new (w.alloc (.cells #[.bool b, .int .i64 x0, .int .i64 x1, .int .i64 x2, .int .i64 x3, .int .i64 x4, .int .i64 x5, .int .i64 x6] 41)) #[.int .i64 x0, .int .i64 x1, .int .i64 x2, .int .i64 x3, .int .i64 x4, .int .i64 x5, .int .i64 x6] 3
    rwa [World.size_alloc] at this)
  have HFirst := Lib.hid hwz
  clear hwz
  have c5 : wz.cell? ⟨w.heap.size + 1, 5, none⟩ = some (.int .i64 x5) := HLz.out.cell rfl
  have c6 : wz.cell? ⟨w.heap.size + 1, 6, none⟩ = some (.int .i64 x6) := HLz.out.cell rfl
  have z0 : wz.cell? ⟨w.heap.size, 0, none⟩ = some (.bool b) := HBz.out.cell rfl
  have hlz := HBz.out.lt
  by_cases e6 : x6 = 0
  · by_cases e5 : x5 = 0
    · have n6 : (x6 == 0) = true := by simpa using e6
      have n5 : (x5 == 0) = true := by simpa using e5
      have HW : Hid (wrow [x0, x1, x2, x3, x4, x5, x6] = [x0, x1, x2, x3, x4]) := Lib.hid (by simp [wrow, gi, e5, e6])
      clear e6 e5
      have HRow := Lib.hid (ref_row (some ⟨w.heap.size + 1, 0, none⟩) 7 [x0, x1, x2, x3, x4] 5 wz (HLz.out.rowAt (n := 5) rfl) rfl (by decide) (fun x hx => HOk.out x (by simp at hx ⊢; omega)))
      have hcl := jrow_small (l := [x0, x1, x2, x3, x4]) (fun x hx => HOk.out x (by simp at hx ⊢; omega)) (by simp)
      obtain ⟨R, hR⟩ : ∃ R, jrow [x0, x1, x2, x3, x4] ++ [10] = R := ⟨_, rfl⟩
      rw [hR] at HRow hcl
      have HR := Lib.hid hR
      clear hR
      have hcat : ¬ 9223372036854775807 < 4 + R.length := by omega
      clear hcl
      go_enter Tryz.func21, Tryz.ntmps21
      go_upto_region 2 with fail
      rw [show (w.alloc (.cells #[.bool b, .int .i64 x0, .int .i64 x1, .int .i64 x2, .int .i64 x3, .int .i64 x4, .int .i64 x5, .int .i64 x6] 41)).alloc (.cells #[.int .i64 x0, .int .i64 x1, .int .i64 x2, .int .i64 x3, .int .i64 x4, .int .i64 x5, .int .i64 x6] 3) = wz from HFirst.out.symm]
      clear HFirst
      go_wp2_with fail
      go_loopw [4] (fun v4 wr => wr = wz ∧ ∃ k : Nat, v4 = .int .i64 k ∧ 5 ≤ k ∧ k ≤ 7) (fun v4 _ => (intOf v4).toNat)
      case atStart => exact ⟨rfl, 7, rfl, by omega, by omega⟩
      case round =>
        obtain ⟨rfl, k, rfl, hk1, hk2⟩ := hrel
        rcases (show k = 7 ∨ k = 6 ∨ k = 5 by omega) with rfl | rfl | rfl
        · clear hk1 hk2
          go_wp2_with fail
          go_roundw
          case rel => first | exact ⟨rfl, 6, by rfl, by omega, by omega⟩ | exact ⟨trivial, 6, by rfl, by omega, by omega⟩
          case measure => simp [intOf]
        · clear hk1 hk2
          go_wp2_with fail
          go_roundw
          case rel => first | exact ⟨rfl, 5, by rfl, by omega, by omega⟩ | exact ⟨trivial, 5, by rfl, by omega, by omega⟩
          case measure => simp [intOf]
        · clear hk1 hk2
          cases b with
          | true =>
            go_wp2_with fail
            refine (HRow.out).mono ?_
            rintro e w4 ⟨rfl, hK4⟩
            have HE := Lib.hid (HR.out ▸ head_cat_true HW.out)
            have HK4 := Lib.hid (HKz.out.trans hK4 (fun _ _ h => h))
            clear hK4
            go_wp2_with fail
            go_ret
            exact ⟨congrArg (fun x => Ending.returned (Value.string x)) HE.out, HK4.out⟩
          | false =>
            go_wp2_with fail
            refine (HRow.out).mono ?_
            rintro e w4 ⟨rfl, hK4⟩
            have HE := Lib.hid (HR.out ▸ head_cat_false HW.out)
            have HK4 := Lib.hid (HKz.out.trans hK4 (fun _ _ h => h))
            clear hK4
            go_wp2_with fail
            go_ret
            exact ⟨congrArg (fun x => Ending.returned (Value.string x)) HE.out, HK4.out⟩
    · have n6 : (x6 == 0) = true := by simpa using e6
      have n5 : (x5 == 0) = false := by simpa using e5
      have HW : Hid (wrow [x0, x1, x2, x3, x4, x5, x6] = [x0, x1, x2, x3, x4, x5]) := Lib.hid (by simp [wrow, gi, e5, e6])
      clear e6 e5
      have HRow := Lib.hid (ref_row (some ⟨w.heap.size + 1, 0, none⟩) 7 [x0, x1, x2, x3, x4, x5] 6 wz (HLz.out.rowAt (n := 6) rfl) rfl (by decide) (fun x hx => HOk.out x (by simp at hx ⊢; omega)))
      have hcl := jrow_small (l := [x0, x1, x2, x3, x4, x5]) (fun x hx => HOk.out x (by simp at hx ⊢; omega)) (by simp)
      obtain ⟨R, hR⟩ : ∃ R, jrow [x0, x1, x2, x3, x4, x5] ++ [10] = R := ⟨_, rfl⟩
      rw [hR] at HRow hcl
      have HR := Lib.hid hR
      clear hR
      have hcat : ¬ 9223372036854775807 < 4 + R.length := by omega
      clear hcl
      go_enter Tryz.func21, Tryz.ntmps21
      go_upto_region 2 with fail
      rw [show (w.alloc (.cells #[.bool b, .int .i64 x0, .int .i64 x1, .int .i64 x2, .int .i64 x3, .int .i64 x4, .int .i64 x5, .int .i64 x6] 41)).alloc (.cells #[.int .i64 x0, .int .i64 x1, .int .i64 x2, .int .i64 x3, .int .i64 x4, .int .i64 x5, .int .i64 x6] 3) = wz from HFirst.out.symm]
      clear HFirst
      go_wp2_with fail
      go_loopw [4] (fun v4 wr => wr = wz ∧ ∃ k : Nat, v4 = .int .i64 k ∧ 6 ≤ k ∧ k ≤ 7) (fun v4 _ => (intOf v4).toNat)
      case atStart => exact ⟨rfl, 7, rfl, by omega, by omega⟩
      case round =>
        obtain ⟨rfl, k, rfl, hk1, hk2⟩ := hrel
        rcases (show k = 7 ∨ k = 6 by omega) with rfl | rfl
        · clear hk1 hk2
          go_wp2_with fail
          go_roundw
          case rel => first | exact ⟨rfl, 6, by rfl, by omega, by omega⟩ | exact ⟨trivial, 6, by rfl, by omega, by omega⟩
          case measure => simp [intOf]
        · clear hk1 hk2
          cases b with
          | true =>
            go_wp2_with fail
            refine (HRow.out).mono ?_
            rintro e w4 ⟨rfl, hK4⟩
            have HE := Lib.hid (HR.out ▸ head_cat_true HW.out)
            have HK4 := Lib.hid (HKz.out.trans hK4 (fun _ _ h => h))
            clear hK4
            go_wp2_with fail
            go_ret
            exact ⟨congrArg (fun x => Ending.returned (Value.string x)) HE.out, HK4.out⟩
          | false =>
            go_wp2_with fail
            refine (HRow.out).mono ?_
            rintro e w4 ⟨rfl, hK4⟩
            have HE := Lib.hid (HR.out ▸ head_cat_false HW.out)
            have HK4 := Lib.hid (HKz.out.trans hK4 (fun _ _ h => h))
            clear hK4
            go_wp2_with fail
            go_ret
            exact ⟨congrArg (fun x => Ending.returned (Value.string x)) HE.out, HK4.out⟩
  · have n6 : (x6 == 0) = false := by simpa using e6
    have HW : Hid (wrow [x0, x1, x2, x3, x4, x5, x6] = [x0, x1, x2, x3, x4, x5, x6]) := Lib.hid (by simp [wrow, gi, e6])
    clear e6
    have HRow := Lib.hid (ref_row (some ⟨w.heap.size + 1, 0, none⟩) 7 [x0, x1, x2, x3, x4, x5, x6] 7 wz (HLz.out.rowAt (n := 7) rfl) rfl (by decide) (fun x hx => HOk.out x (by simp at hx ⊢; omega)))
    have hcl := jrow_small (l := [x0, x1, x2, x3, x4, x5, x6]) (fun x hx => HOk.out x (by simp at hx ⊢; omega)) (by simp)
    obtain ⟨R, hR⟩ : ∃ R, jrow [x0, x1, x2, x3, x4, x5, x6] ++ [10] = R := ⟨_, rfl⟩
    rw [hR] at HRow hcl
    have HR := Lib.hid hR
    clear hR
    have hcat : ¬ 9223372036854775807 < 4 + R.length := by omega
    clear hcl
    go_enter Tryz.func21, Tryz.ntmps21
    go_upto_region 2 with fail
    rw [show (w.alloc (.cells #[.bool b, .int .i64 x0, .int .i64 x1, .int .i64 x2, .int .i64 x3, .int .i64 x4, .int .i64 x5, .int .i64 x6] 41)).alloc (.cells #[.int .i64 x0, .int .i64 x1, .int .i64 x2, .int .i64 x3, .int .i64 x4, .int .i64 x5, .int .i64 x6] 3) = wz from HFirst.out.symm]
    clear HFirst
    go_wp2_with fail
    go_loopw [4] (fun v4 wr => wr = wz ∧ ∃ k : Nat, v4 = .int .i64 k ∧ 7 ≤ k ∧ k ≤ 7) (fun v4 _ => (intOf v4).toNat)
    case atStart => exact ⟨rfl, 7, rfl, by omega, by omega⟩
    case round =>
      obtain ⟨rfl, k, rfl, hk1, hk2⟩ := hrel
      rcases (show k = 7 by omega) with rfl
      · clear hk1 hk2
        cases b with
        | true =>
          go_wp2_with fail
          refine (HRow.out).mono ?_
          rintro e w4 ⟨rfl, hK4⟩
          have HE := Lib.hid (HR.out ▸ head_cat_true HW.out)
          have HK4 := Lib.hid (HKz.out.trans hK4 (fun _ _ h => h))
          clear hK4
          go_wp2_with fail
          go_ret
          exact ⟨congrArg (fun x => Ending.returned (Value.string x)) HE.out, HK4.out⟩
        | false =>
          go_wp2_with fail
          refine (HRow.out).mono ?_
          rintro e w4 ⟨rfl, hK4⟩
          have HE := Lib.hid (HR.out ▸ head_cat_false HW.out)
          have HK4 := Lib.hid (HKz.out.trans hK4 (fun _ _ h => h))
          clear hK4
          go_wp2_with fail
          go_ret
          exact ⟨congrArg (fun x => Ending.returned (Value.string x)) HE.out, HK4.out⟩

end Go.Proofs.YtpfofknjlhaanaaGreatDoor

/-
  aiger.Print, and the document's, of a circuit that has a comment alone. (Printed by mkaigprint.py.)
-/
namespace Go.Proofs.YtpfofknjlhaanaaGreatDoor
open Go.RowKit

def headS : ByteArray := ⟨#[97, 97, 103, 32, 48, 32, 48, 32, 48, 32, 48, 32, 48, 10]⟩
/-- the file -/
def fileT (cm : ByteArray) : ByteArray := headS ++ (⟨#[99, 10]⟩ ++ cm)

theorem headS_is : (⟨(headW false [0, 0, 0, 0, 0, 0, 0]).toArray⟩ : ByteArray) = headS := by decide +kernel

theorem ok0 : ∀ x ∈ [(0 : Int), 0, 0, 0, 0, 0, 0], okI x := by
  intro x hx
  simp at hx
  subst hx
  exact ⟨by decide, by decide⟩

theorem Blk.cells8c {w : World} {b c : Nat} {x0 x1 x2 x3 x4 x5 x6 x7 y0 y1 y2 y3 y4 y5 y6 y7 y8 : Value} {t u : TypeId} (h : Blk w b #[x0, x1, x2, x3, x4, x5, x6, x7] t) (k : Blk w c #[y0, y1, y2, y3, y4, y5, y6, y7, y8] u) :
    w.cell? ⟨b, 0, none⟩ = some x0 ∧ w.cell? ⟨b, 1, none⟩ = some x1 ∧ w.cell? ⟨b, 2, none⟩ = some x2 ∧ w.cell? ⟨b, 3, none⟩ = some x3 ∧ w.cell? ⟨b, 4, none⟩ = some x4 ∧ w.cell? ⟨b, 5, none⟩ = some x5 ∧ w.cell? ⟨b, 6, none⟩ = some x6 ∧ w.cell? ⟨b, 7, none⟩ = some x7 ∧
    w.cell? ⟨c, 7, none⟩ = some y7 ∧ w.cell? ⟨c, 8, none⟩ = some y8 :=
  ⟨h.cell rfl, h.cell rfl, h.cell rfl, h.cell rfl, h.cell rfl, h.cell rfl, h.cell rfl, h.cell rfl, k.cell rfl, k.cell rfl⟩

theorem cat3 (a b : ByteArray) : a ++ (⟨#[]⟩ : ByteArray) ++ b = a ++ b := by
  rw [show (⟨#[]⟩ : ByteArray) = ByteArray.empty from rfl, ByteArray.append_empty]

theorem ref12_Write0k (cm : ByteArray) (w : World) (h0 : cm.size ≠ 0) (h1 : cm.size ≤ 2000000) :
    Calls Tryz.prog 22 #[.slice none 0 0, .string cm] w fun e w' => e = .returned (.string (⟨#[99, 10]⟩ ++ cm)) ∧ Kp (fun _ => False) w w' :=
  (ref12_Write0 cm w h0 h1).mono fun _ _ h => ⟨h.1, h.2 ▸ Kp.refl _ _⟩

theorem circ_Check0 (cm : ByteArray) (w : World) : Calls Tryz.prog 8 #[.agg (circN cm)] w fun e w' => e = .returned (.int .i64 0) ∧ Kp (fun _ => False) w w' :=
  circ_Check none 0 0 [] cm w (RowAt.nil _ _) rfl (by omega) (fun j hj => by omega) (fun x hx => by cases hx)

set_option maxRecDepth 100000 in
set_option maxHeartbeats 4000000 in
theorem aiger_Print0 (cm : ByteArray) (w : World) (h0 : cm.size ≠ 0) (h1 : cm.size ≤ 1900000) (ht : Tab w) (bg : Bool) (hb : decide (1048576 < 16 + cm.size) = bg) :
    Calls Tryz.prog 4 #[.agg (circN cm), .bool false] w fun e w' => e = .returned (bif bg then .tuple #[.string ⟨#[]⟩, .int .i64 4] else .tuple #[.string (fileT cm), .int .i64 0]) ∧ Kp (fun _ => False) w w' := by
  have HCh := Lib.hid (fun u => circ_Check0 cm u)
  have HHo := Lib.hid (fun u => ascii_HeadOf0 cm u)
  have HGo := Lib.hid (fun u => tail_Good0 headN u rfl)
  have HWr := Lib.hid (fun u => ascii_Write0 cm u)
  have HTb := Lib.hid ht
  have HWh := Lib.hid (fun u (ht : Tab u) => ascii_WriteHead false 0 0 0 0 0 0 0 u ok0 ht)
  have HTw := Lib.hid (fun u => tail_Write0 cm u h0 (by omega))
  rw [headS_is] at HWh
  have HSz := Lib.hid (And.intro h1 hb)
  obtain ⟨hs, hhs⟩ : ∃ hs, hs = headS := ⟨_, rfl⟩
  obtain ⟨ts, hts⟩ : ∃ ts, ts = (⟨#[99, 10]⟩ : ByteArray) ++ cm := ⟨_, rfl⟩
  have hsz1 : hs.size = 14 := by rw [hhs]; rfl
  have hsz2 : ts.size = 2 + cm.size := by rw [hts, ByteArray.size_append]; rfl
  have HF := Lib.hid (show hs ++ ts = fileT cm by rw [hhs, hts]; rfl)
  have HZs := Lib.hid (And.intro hsz1 hsz2)
  rw [← hhs] at HWh
  rw [← hts] at HTw
  clear h0 h1 hb hhs hts hsz1 hsz2 ht
  obtain ⟨wz, hwz⟩ : ∃ wz : World, wz = w.alloc (.cells #[.int .i64 0, .slice none 0 0, .slice none 0 0, .slice none 0 0, .slice none 0 0, .slice none 0 0, .slice none 0 0, .slice none 0 0, .string cm] 29) := ⟨_, rfl⟩
  have HKz : Hid (Kp (fun _ => False) w wz) := Lib.hid (by rw [hwz]; exact (Kp.refl _ w).alloc _)
  have HX : Hid (Blk wz w.heap.size #[.int .i64 0, .slice none 0 0, .slice none 0 0, .slice none 0 0, .slice none 0 0, .slice none 0 0, .slice none 0 0, .slice none 0 0, .string cm] 29) := Lib.hid (by rw [hwz]; exact Blk.new w _ _)
  have HFirst := Lib.hid hwz
  clear hwz
  unfold circN headN at *
  go_enter Tryz.func4, Tryz.ntmps4
  go_upto_region 1 with fail
  rw [show w.alloc (.cells #[.int .i64 0, .slice none 0 0, .slice none 0 0, .slice none 0 0, .slice none 0 0, .slice none 0 0, .slice none 0 0, .slice none 0 0, .string cm] 29) = wz from HFirst.out.symm]
  clear HFirst
  obtain ⟨z0, z1, z2, z3, z4, z5, z6, z7, z8⟩ := HX.out.cells9'
  go_wp2_with fail
  refine (HCh.out _).mono ?_
  rintro e w1 ⟨rfl, hK1⟩
  have HX1 := Lib.hid (HX.out.kp hK1 (fun h => h))
  have HK1 := Lib.hid (HKz.out.trans hK1 (fun _ _ h => h))
  clear hK1 HX HKz z0 z1 z2 z3 z4 z5 z6 z7 z8 HCh
  obtain ⟨z0, z1, z2, z3, z4, z5, z6, z7, z8⟩ := HX1.out.cells9'
  go_wp2_with fail
  refine (HHo.out _).mono ?_
  rintro e w2 ⟨rfl, hK2⟩
  have HX2 := Lib.hid ((HX1.out.kp hK2 (fun h => h)).alloc (.cells #[.bool false, .int .i64 0, .int .i64 0, .int .i64 0, .int .i64 0, .int .i64 0, .int .i64 0, .int .i64 0] 41))
  have HK2 := Lib.hid ((HK1.out.trans hK2 (fun _ _ h => h)).alloc (.cells #[.bool false, .int .i64 0, .int .i64 0, .int .i64 0, .int .i64 0, .int .i64 0, .int .i64 0, .int .i64 0] 41))
  have HH2 := Lib.hid (Blk.new w2 #[.bool false, .int .i64 0, .int .i64 0, .int .i64 0, .int .i64 0, .int .i64 0, .int .i64 0, .int .i64 0] 41)
  clear hK2 HX1 HK1 z0 z1 z2 z3 z4 z5 z6 z7 z8 HHo
  go_upto_region 5 with fail
  obtain ⟨b7, hb7⟩ : ∃ b7, b7 = w2.heap.size := ⟨_, rfl⟩
  obtain ⟨wh, hwh⟩ : ∃ wh : World, wh = w2.alloc (.cells #[.bool false, .int .i64 0, .int .i64 0, .int .i64 0, .int .i64 0, .int .i64 0, .int .i64 0, .int .i64 0] 41) := ⟨_, rfl⟩
  rw [← hwh] at HX2 HK2 HH2
  rw [← hb7] at HH2
  rw [show w2.alloc (.cells #[.bool false, .int .i64 0, .int .i64 0, .int .i64 0, .int .i64 0, .int .i64 0, .int .i64 0, .int .i64 0] 41) = wh from hwh.symm, show w2.heap.size = b7 from hb7.symm]
  clear hwh hb7
  obtain ⟨y0, y1, y2, y3, y4, y5, y6, y7, y8, y9⟩ := HH2.out.cells8c HX2.out
  go_wp2_with fail
  refine (HGo.out _).mono ?_
  rintro e w3 ⟨rfl, hK3⟩
  have HX3 := Lib.hid (HX2.out.kp hK3 (fun h => h))
  have HH3 := Lib.hid (HH2.out.kp hK3 (fun h => h))
  have HK3 := Lib.hid (HK2.out.trans hK3 (fun _ _ h => h))
  clear hK3 HX2 HK2 HH2 y0 y1 y2 y3 y4 y5 y6 y7 y8 y9 HGo
  obtain ⟨z0, z1, z2, z3, z4, z5, z6, z7, z8⟩ := HX3.out.cells9'
  go_wp2_with fail
  refine (HWr.out _).mono ?_
  rintro e w4 ⟨rfl, hK4⟩
  have HX4 := Lib.hid (HX3.out.kp hK4 (fun h => h))
  have HH4 := Lib.hid (HH3.out.kp hK4 (fun h => h))
  have HK4 := Lib.hid (HK3.out.trans hK4 (fun _ _ h => h))
  clear hK4 HX3 HK3 HH3 z0 z1 z2 z3 z4 z5 z6 z7 z8 HWr
  go_upto_region 12 with fail
  obtain ⟨wa, rfl⟩ : ∃ wa : World, wa = w4 := ⟨_, rfl⟩
  have hcat1 : ¬ 9223372036854775807 < hs.size := by have := HZs.out.1; omega
  have hcat2 : ¬ 9223372036854775807 < hs.size + ts.size := by have := HZs.out.1; have := HZs.out.2; have := HSz.out.1; omega
  go_cut [8] from 33 to 42 (fun s8 wx => s8 = .string (hs ++ ts) ∧ Kp (fun _ => False) w wx)
  case first =>
    go_region_held3 (fun u => u.cell? ⟨b7, 0, none⟩ = some (.bool false) ∧ u.cell? ⟨b7, 1, none⟩ = some (.int .i64 0) ∧ u.cell? ⟨b7, 2, none⟩ = some (.int .i64 0) ∧ u.cell? ⟨b7, 3, none⟩ = some (.int .i64 0) ∧ u.cell? ⟨b7, 4, none⟩ = some (.int .i64 0) ∧ u.cell? ⟨b7, 5, none⟩ = some (.int .i64 0) ∧ u.cell? ⟨b7, 6, none⟩ = some (.int .i64 0) ∧ u.cell? ⟨b7, 7, none⟩ = some (.int .i64 0) ∧ u.cell? ⟨w.heap.size, 7, none⟩ = some (.slice none 0 0) ∧ u.cell? ⟨w.heap.size, 8, none⟩ = some (.string cm)) (with_reducible first | exact HH4.out.cells8c HX4.out | exact HH4.out.drew.cells8c HX4.out.drew | exact HHa.out.cells8c HXa.out | exact HHa.out.drew.cells8c HXa.out.drew | exact HHb.out.cells8c HXb.out | exact HHb.out.drew.cells8c HXb.out.drew) ((first
      | ((with_reducible refine Calls.mono (HWh.out _ (by with_reducible first | exact HTb.out.kp HK4.out | exact HTb.out.kp HK4.out.drew | exact HTb.out.kp HKb.out | exact HTb.out.kp HKb.out.drew)) ?_)
         rintro o u1 ⟨rfl, hK1⟩
         have HXa := Lib.hid (by with_reducible first | exact HX4.out.kp hK1 (fun h => h) | exact HX4.out.drew.kp hK1 (fun h => h) | exact HXb.out.kp hK1 (fun h => h) | exact HXb.out.drew.kp hK1 (fun h => h))
         have HHa := Lib.hid (by with_reducible first | exact HH4.out.kp hK1 (fun h => h) | exact HH4.out.drew.kp hK1 (fun h => h) | exact HHb.out.kp hK1 (fun h => h) | exact HHb.out.drew.kp hK1 (fun h => h))
         have HKa := Lib.hid (by with_reducible first | exact HK4.out.trans hK1 (fun _ _ h => h) | exact HK4.out.drew.trans hK1 (fun _ _ h => h) | exact HKb.out.trans hK1 (fun _ _ h => h) | exact HKb.out.drew.trans hK1 (fun _ _ h => h))
         clear hK1)
      | ((with_reducible refine Calls.mono (HTw.out _) ?_)
         rintro o u2 ⟨rfl, hK2⟩
         have HXb := Lib.hid (by with_reducible first | exact HX4.out.kp hK2 (fun h => h) | exact HX4.out.drew.kp hK2 (fun h => h) | exact HXa.out.kp hK2 (fun h => h) | exact HXa.out.drew.kp hK2 (fun h => h))
         have HHb := Lib.hid (by with_reducible first | exact HH4.out.kp hK2 (fun h => h) | exact HH4.out.drew.kp hK2 (fun h => h) | exact HHa.out.kp hK2 (fun h => h) | exact HHa.out.drew.kp hK2 (fun h => h))
         have HKb := Lib.hid (by with_reducible first | exact HK4.out.trans hK2 (fun _ _ h => h) | exact HK4.out.drew.trans hK2 (fun _ _ h => h) | exact HKa.out.trans hK2 (fun _ _ h => h) | exact HKa.out.drew.trans hK2 (fun _ _ h => h))
         clear hK2)))
    all_goals go_wp2_with fail
    all_goals go_meet
    all_goals first
      | exact ⟨by rw [cat3], HKa.out⟩
      | exact ⟨by rw [cat3], HKb.out⟩
      | exact ⟨by rw [cat3], HKa.out.drew⟩
      | exact ⟨by rw [cat3], HKb.out.drew⟩
      | exact ⟨rfl, HKa.out⟩
      | exact ⟨rfl, HKb.out⟩
      | exact ⟨rfl, HKa.out.drew⟩
      | exact ⟨rfl, HKb.out.drew⟩
  case rest =>
  obtain ⟨rfl, hK⟩ := hcut
  obtain ⟨hv, hb⟩ := HSz.out
  have hsz : (hs ++ ts).size = 16 + cm.size := by rw [ByteArray.size_append, HZs.out.1, HZs.out.2]; omega
  rw [← hsz] at hb
  rw [HF.out] at hb ⊢
  obtain ⟨fs, hfs⟩ : ∃ fs, fs = fileT cm := ⟨_, rfl⟩
  rw [← hfs] at hb ⊢
  have HE := Lib.hid hfs
  have hbi : decide ((1048576 : Int) < (fs.size : Int)) = bg := by rw [← hb]; exact decide_eq_decide.2 (by omega)
  clear hfs hv hsz hcat1 hcat2 hb
  cases bg with
  | true =>
    go_wp2_with fail
    go_ret2
    exact ⟨rfl, hK⟩
  | false =>
    go_wp2_with fail
    go_ret2
    exact ⟨by rw [HE.out]; rfl, hK⟩

set_option maxRecDepth 100000 in
set_option maxHeartbeats 4000000 in
theorem ref15_Print0 (cm : ByteArray) (w : World) (h0 : cm.size ≠ 0) (h1 : cm.size ≤ 1900000) (bg : Bool) (hb : decide (1048576 < 16 + cm.size) = bg) :
    Calls Tryz.prog 5 #[.agg (circN cm), .bool false] w fun e w' => e = .returned (bif bg then .tuple #[.string ⟨#[]⟩, .int .i64 4] else .tuple #[.string (fileT cm), .int .i64 0]) ∧ Kp (fun _ => False) w w' := by
  have HCh := Lib.hid (fun u => ref11_Check0 cm u)
  have HHo := Lib.hid (fun u => ref13_HeadOf0 cm u)
  have HGo := Lib.hid (fun u => ref12_Good0 u)
  have HWr := Lib.hid (fun u => ref13_Write0 cm u)
  have HWh := Lib.hid (fun u => ref_WriteHead false 0 0 0 0 0 0 0 u ok0)
  have HTw := Lib.hid (fun u => ref12_Write0k cm u h0 (by omega))
  rw [headS_is] at HWh
  have HSz := Lib.hid (And.intro h1 hb)
  obtain ⟨hs, hhs⟩ : ∃ hs, hs = headS := ⟨_, rfl⟩
  obtain ⟨ts, hts⟩ : ∃ ts, ts = (⟨#[99, 10]⟩ : ByteArray) ++ cm := ⟨_, rfl⟩
  have hsz1 : hs.size = 14 := by rw [hhs]; rfl
  have hsz2 : ts.size = 2 + cm.size := by rw [hts, ByteArray.size_append]; rfl
  have HF := Lib.hid (show hs ++ ts = fileT cm by rw [hhs, hts]; rfl)
  have HZs := Lib.hid (And.intro hsz1 hsz2)
  rw [← hhs] at HWh
  rw [← hts] at HTw
  clear h0 h1 hb hhs hts hsz1 hsz2
  obtain ⟨wz, hwz⟩ : ∃ wz : World, wz = w.alloc (.cells #[.int .i64 0, .slice none 0 0, .slice none 0 0, .slice none 0 0, .slice none 0 0, .slice none 0 0, .slice none 0 0, .slice none 0 0, .string cm] 29) := ⟨_, rfl⟩
  have HKz : Hid (Kp (fun _ => False) w wz) := Lib.hid (by rw [hwz]; exact (Kp.refl _ w).alloc _)
  have HX : Hid (Blk wz w.heap.size #[.int .i64 0, .slice none 0 0, .slice none 0 0, .slice none 0 0, .slice none 0 0, .slice none 0 0, .slice none 0 0, .slice none 0 0, .string cm] 29) := Lib.hid (by rw [hwz]; exact Blk.new w _ _)
  have HFirst := Lib.hid hwz
  clear hwz
  unfold circN headN at *
  go_enter Tryz.func5, Tryz.ntmps5
  go_upto_region 1 with fail
  rw [show w.alloc (.cells #[.int .i64 0, .slice none 0 0, .slice none 0 0, .slice none 0 0, .slice none 0 0, .slice none 0 0, .slice none 0 0, .slice none 0 0, .string cm] 29) = wz from HFirst.out.symm]
  clear HFirst
  obtain ⟨z0, z1, z2, z3, z4, z5, z6, z7, z8⟩ := HX.out.cells9'
  go_wp2_with fail
  refine (HCh.out _).mono ?_
  rintro e w1 ⟨rfl, hK1⟩
  have HX1 := Lib.hid (HX.out.kp hK1 (fun h => h))
  have HK1 := Lib.hid (HKz.out.trans hK1 (fun _ _ h => h))
  clear hK1 HX HKz z0 z1 z2 z3 z4 z5 z6 z7 z8 HCh
  obtain ⟨z0, z1, z2, z3, z4, z5, z6, z7, z8⟩ := HX1.out.cells9'
  go_wp2_with fail
  refine (HHo.out _).mono ?_
  rintro e w2 ⟨rfl, hK2⟩
  have HX2 := Lib.hid ((HX1.out.kp hK2 (fun h => h)).alloc (.cells #[.bool false, .int .i64 0, .int .i64 0, .int .i64 0, .int .i64 0, .int .i64 0, .int .i64 0, .int .i64 0] 41))
  have HK2 := Lib.hid ((HK1.out.trans hK2 (fun _ _ h => h)).alloc (.cells #[.bool false, .int .i64 0, .int .i64 0, .int .i64 0, .int .i64 0, .int .i64 0, .int .i64 0, .int .i64 0] 41))
  have HH2 := Lib.hid (Blk.new w2 #[.bool false, .int .i64 0, .int .i64 0, .int .i64 0, .int .i64 0, .int .i64 0, .int .i64 0, .int .i64 0] 41)
  clear hK2 HX1 HK1 z0 z1 z2 z3 z4 z5 z6 z7 z8 HHo
  go_upto_region 5 with fail
  obtain ⟨b7, hb7⟩ : ∃ b7, b7 = w2.heap.size := ⟨_, rfl⟩
  obtain ⟨wh, hwh⟩ : ∃ wh : World, wh = w2.alloc (.cells #[.bool false, .int .i64 0, .int .i64 0, .int .i64 0, .int .i64 0, .int .i64 0, .int .i64 0, .int .i64 0] 41) := ⟨_, rfl⟩
  rw [← hwh] at HX2 HK2 HH2
  rw [← hb7] at HH2
  rw [show w2.alloc (.cells #[.bool false, .int .i64 0, .int .i64 0, .int .i64 0, .int .i64 0, .int .i64 0, .int .i64 0, .int .i64 0] 41) = wh from hwh.symm, show w2.heap.size = b7 from hb7.symm]
  clear hwh hb7
  obtain ⟨y0, y1, y2, y3, y4, y5, y6, y7, y8, y9⟩ := HH2.out.cells8c HX2.out
  go_wp2_with fail
  refine (HGo.out _).mono ?_
  rintro e w3 ⟨rfl, hK3⟩
  have HX3 := Lib.hid (HX2.out.kp hK3 (fun h => h))
  have HH3 := Lib.hid (HH2.out.kp hK3 (fun h => h))
  have HK3 := Lib.hid (HK2.out.trans hK3 (fun _ _ h => h))
  clear hK3 HX2 HK2 HH2 y0 y1 y2 y3 y4 y5 y6 y7 y8 y9 HGo
  obtain ⟨z0, z1, z2, z3, z4, z5, z6, z7, z8⟩ := HX3.out.cells9'
  go_wp2_with fail
  refine (HWr.out _).mono ?_
  rintro e w4 ⟨rfl, hK4⟩
  have HX4 := Lib.hid (HX3.out.kp hK4 (fun h => h))
  have HH4 := Lib.hid (HH3.out.kp hK4 (fun h => h))
  have HK4 := Lib.hid (HK3.out.trans hK4 (fun _ _ h => h))
  clear hK4 HX3 HK3 HH3 z0 z1 z2 z3 z4 z5 z6 z7 z8 HWr
  go_upto_region 12 with fail
  obtain ⟨wa, rfl⟩ : ∃ wa : World, wa = w4 := ⟨_, rfl⟩
  have hcat1 : ¬ 9223372036854775807 < hs.size := by have := HZs.out.1; omega
  have hcat2 : ¬ 9223372036854775807 < hs.size + ts.size := by have := HZs.out.1; have := HZs.out.2; have := HSz.out.1; omega
  go_cut [8] from 33 to 42 (fun s8 wx => s8 = .string (hs ++ ts) ∧ Kp (fun _ => False) w wx)
  case first =>
    go_region_held3 (fun u => u.cell? ⟨b7, 0, none⟩ = some (.bool false) ∧ u.cell? ⟨b7, 1, none⟩ = some (.int .i64 0) ∧ u.cell? ⟨b7, 2, none⟩ = some (.int .i64 0) ∧ u.cell? ⟨b7, 3, none⟩ = some (.int .i64 0) ∧ u.cell? ⟨b7, 4, none⟩ = some (.int .i64 0) ∧ u.cell? ⟨b7, 5, none⟩ = some (.int .i64 0) ∧ u.cell? ⟨b7, 6, none⟩ = some (.int .i64 0) ∧ u.cell? ⟨b7, 7, none⟩ = some (.int .i64 0) ∧ u.cell? ⟨w.heap.size, 7, none⟩ = some (.slice none 0 0) ∧ u.cell? ⟨w.heap.size, 8, none⟩ = some (.string cm)) (with_reducible first | exact HH4.out.cells8c HX4.out | exact HH4.out.drew.cells8c HX4.out.drew | exact HHa.out.cells8c HXa.out | exact HHa.out.drew.cells8c HXa.out.drew | exact HHb.out.cells8c HXb.out | exact HHb.out.drew.cells8c HXb.out.drew) ((first
      | ((with_reducible refine Calls.mono (HWh.out _) ?_)
         rintro o u1 ⟨rfl, hK1⟩
         have HXa := Lib.hid (by with_reducible first | exact HX4.out.kp hK1 (fun h => h) | exact HX4.out.drew.kp hK1 (fun h => h) | exact HXb.out.kp hK1 (fun h => h) | exact HXb.out.drew.kp hK1 (fun h => h))
         have HHa := Lib.hid (by with_reducible first | exact HH4.out.kp hK1 (fun h => h) | exact HH4.out.drew.kp hK1 (fun h => h) | exact HHb.out.kp hK1 (fun h => h) | exact HHb.out.drew.kp hK1 (fun h => h))
         have HKa := Lib.hid (by with_reducible first | exact HK4.out.trans hK1 (fun _ _ h => h) | exact HK4.out.drew.trans hK1 (fun _ _ h => h) | exact HKb.out.trans hK1 (fun _ _ h => h) | exact HKb.out.drew.trans hK1 (fun _ _ h => h))
         clear hK1)
      | ((with_reducible refine Calls.mono (HTw.out _) ?_)
         rintro o u2 ⟨rfl, hK2⟩
         have HXb := Lib.hid (by with_reducible first | exact HX4.out.kp hK2 (fun h => h) | exact HX4.out.drew.kp hK2 (fun h => h) | exact HXa.out.kp hK2 (fun h => h) | exact HXa.out.drew.kp hK2 (fun h => h))
         have HHb := Lib.hid (by with_reducible first | exact HH4.out.kp hK2 (fun h => h) | exact HH4.out.drew.kp hK2 (fun h => h) | exact HHa.out.kp hK2 (fun h => h) | exact HHa.out.drew.kp hK2 (fun h => h))
         have HKb := Lib.hid (by with_reducible first | exact HK4.out.trans hK2 (fun _ _ h => h) | exact HK4.out.drew.trans hK2 (fun _ _ h => h) | exact HKa.out.trans hK2 (fun _ _ h => h) | exact HKa.out.drew.trans hK2 (fun _ _ h => h))
         clear hK2)))
    all_goals go_wp2_with fail
    all_goals go_meet
    all_goals first
      | exact ⟨by rw [cat3], HKa.out⟩
      | exact ⟨by rw [cat3], HKb.out⟩
      | exact ⟨by rw [cat3], HKa.out.drew⟩
      | exact ⟨by rw [cat3], HKb.out.drew⟩
      | exact ⟨rfl, HKa.out⟩
      | exact ⟨rfl, HKb.out⟩
      | exact ⟨rfl, HKa.out.drew⟩
      | exact ⟨rfl, HKb.out.drew⟩
  case rest =>
  obtain ⟨rfl, hK⟩ := hcut
  obtain ⟨hv, hb⟩ := HSz.out
  have hsz : (hs ++ ts).size = 16 + cm.size := by rw [ByteArray.size_append, HZs.out.1, HZs.out.2]; omega
  rw [← hsz] at hb
  rw [HF.out] at hb ⊢
  obtain ⟨fs, hfs⟩ : ∃ fs, fs = fileT cm := ⟨_, rfl⟩
  rw [← hfs] at hb ⊢
  have HE := Lib.hid hfs
  have hbi : decide ((1048576 : Int) < (fs.size : Int)) = bg := by rw [← hb]; exact decide_eq_decide.2 (by omega)
  clear hfs hv hsz hcat1 hcat2 hb
  cases bg with
  | true =>
    go_wp2_with fail
    go_ret2
    exact ⟨rfl, hK⟩
  | false =>
    go_wp2_with fail
    go_ret2
    exact ⟨by rw [HE.out]; rfl, hK⟩

end Go.Proofs.YtpfofknjlhaanaaGreatDoor

/-
  ascii.ReadHead: what it computes: the head with which a text begins. (Printed by mkahead.py.)
-/
namespace Go.Proofs.YtpfofknjlhaanaaGreatDoor
open Go.RowKit

theorem headT_bad {s : ByteArray} {p e : Nat} (h1 : isHead s) (h : headL s 9 4 [] = ([], p, e)) (he : e ≠ 0) : headT s = (false, [], p, e) := by
  unfold headT
  rw [if_neg (by simpa using h1), h, if_pos (by simpa using he)]

theorem headL_stop {s : ByteArray} {l : List Nat} {p q e : Nat} (hl : l.length ≤ 8) (h : stepH s l.length p = (0, q, e, false)) (he : e ≠ 0) : headL s (9 - l.length) p l = ([], q, e) := by
  obtain ⟨f, hf⟩ : ∃ f, 9 - l.length = f + 1 := ⟨8 - l.length, by omega⟩
  rw [hf, headL, h, if_pos (by simpa using he)]

theorem headL_fin {s : ByteArray} {l : List Nat} {p q n : Nat} (hl : l.length ≤ 8) (h : stepH s l.length p = (n, q, 0, true)) : headL s (9 - l.length) p l = (l ++ [n], q, 0) := by
  obtain ⟨f, hf⟩ : ∃ f, 9 - l.length = f + 1 := ⟨8 - l.length, by omega⟩
  rw [hf, headL, h]; rfl

theorem headL_more {s : ByteArray} {l : List Nat} {p q n : Nat} (hl : l.length ≤ 8) (h : stepH s l.length p = (n, q, 0, false)) : headL s (9 - l.length) p l = headL s (9 - (l ++ [n]).length) q (l ++ [n]) := by
  obtain ⟨f, hf⟩ : ∃ f, 9 - l.length = f + 1 := ⟨8 - l.length, by omega⟩
  rw [hf, headL, h, show 9 - (l ++ [n]).length = f by simp; omega]
  simp

theorem stepH_num {s : ByteArray} {k p top E : Nat} (ht : (if 7 ≤ k then 0 else 16777216) = top) (hE : numE s p top = E) (he : E ≠ 0) : stepH s k p = (0, p, E, false) := by
  unfold numE at hE
  unfold stepH
  by_cases c1 : (natN s p).2.2 ≠ 0
  · rw [if_pos c1] at hE ⊢; rw [hE]
  · rw [if_neg c1] at hE ⊢
    rw [ht]
    by_cases c2 : top < (natN s p).1
    · rw [if_pos c2] at hE ⊢; rw [hE]
    · rw [if_neg c2] at hE; exact absurd hE.symm he

theorem numE_ok {s : ByteArray} {p top n q : Nat} (hp : p ≤ s.size) (hn : (natN s p).1 = n) (hq : (natN s p).2.1 = q) (hE : numE s p top = 0) : p < q ∧ q ≤ s.size ∧ n ≤ top := by
  unfold numE at hE
  by_cases c1 : (natN s p).2.2 ≠ 0
  · rw [if_pos c1] at hE; exact absurd hE c1
  · have := natN_end hp (by omega)
    rw [if_neg c1] at hE
    by_cases c2 : top < (natN s p).1
    · rw [if_pos c2] at hE; cases hE
    · omega

theorem stepH_sign {s : ByteArray} {k p top n q : Nat} (ht : (if 7 ≤ k then 0 else 16777216) = top) (hn : (natN s p).1 = n) (hq : (natN s p).2.1 = q) (hE : numE s p top = 0) :
    stepH s k p = if q = s.size then (0, q, 3, false) else if bt s q = 10 ∧ 4 ≤ k then (n, q + 1, 0, true) else if bt s q = 32 ∧ k < 8 then (n, q + 1, 0, false) else (0, q, 2, false) := by
  unfold numE at hE
  unfold stepH
  by_cases c1 : (natN s p).2.2 ≠ 0
  · rw [if_pos c1] at hE; exact absurd hE c1
  · rw [if_neg c1] at hE ⊢
    rw [ht]
    by_cases c2 : top < (natN s p).1
    · rw [if_pos c2] at hE; cases hE
    · rw [if_neg c2, hn, hq]

theorem HBlk.alloc {s : ByteArray} {w wr : World} {p : Nat} {l : List Nat} (h : HBlk s w wr p l) (o : Obj) : HBlk s w (wr.alloc o) p l :=
  ⟨h.b0.alloc _, h.b1.alloc _, h.b2.alloc _, h.b3.alloc _, h.b4.alloc _, h.kp.alloc _⟩

/-- the cells of a call -/
theorem HBlk.outs {s : ByteArray} {w wr : World} {p : Nat} {l : List Nat} (h : HBlk s w wr p l) : w.heap.size < wr.heap.size ∧ w.heap.size + 1 < wr.heap.size ∧ w.heap.size + 1 + 1 < wr.heap.size ∧ w.heap.size + 1 + 1 + 1 < wr.heap.size ∧ w.heap.size + 1 + 1 + 1 + 1 < wr.heap.size ∧
    (∀ i, wr.frozen? ⟨w.heap.size, i, none⟩ = false) ∧ wr.frozen? ⟨w.heap.size + 1, 0, none⟩ = false ∧ wr.frozen? ⟨w.heap.size + 1 + 1, 0, none⟩ = false ∧ wr.cell? ⟨w.heap.size + 1, 0, none⟩ = some (.int .i64 0) ∧ wr.cell? ⟨w.heap.size + 1 + 1, 0, none⟩ = some (.int .i64 0) ∧
    wr.cell? ⟨w.heap.size + 1 + 1 + 1, 1, none⟩ = some (.int .i64 p) :=
  ⟨h.b0.lt, h.b1.lt, h.b2.lt, h.b3.lt, h.b4.lt, h.b0.free, h.b1.free 0, h.b2.free 0, h.b1.cells1.1, h.b2.cells1.1, h.b3.cells2.2.1⟩

theorem HBlk.cells {s : ByteArray} {w wr : World} {p : Nat} {l : List Nat} (h : HBlk s w wr p l) : wr.cell? ⟨w.heap.size + 1 + 1 + 1 + 1, 0, none⟩ = some (.int .i64 (nth l 0)) ∧ wr.cell? ⟨w.heap.size + 1 + 1 + 1 + 1, 1, none⟩ = some (.int .i64 (nth l 1)) ∧ wr.cell? ⟨w.heap.size + 1 + 1 + 1 + 1, 2, none⟩ = some (.int .i64 (nth l 2)) ∧
    wr.cell? ⟨w.heap.size + 1 + 1 + 1 + 1, 3, none⟩ = some (.int .i64 (nth l 3)) ∧ wr.cell? ⟨w.heap.size + 1 + 1 + 1 + 1, 4, none⟩ = some (.int .i64 (nth l 4)) ∧ wr.cell? ⟨w.heap.size + 1 + 1 + 1 + 1, 5, none⟩ = some (.int .i64 (nth l 5)) ∧ wr.cell? ⟨w.heap.size + 1 + 1 + 1 + 1, 6, none⟩ = some (.int .i64 (nth l 6)) :=
  ⟨h.b4.cell (arr_get l 0 (by omega)), h.b4.cell (arr_get l 1 (by omega)), h.b4.cell (arr_get l 2 (by omega)), h.b4.cell (arr_get l 3 (by omega)), h.b4.cell (arr_get l 4 (by omega)), h.b4.cell (arr_get l 5 (by omega)), h.b4.cell (arr_get l 6 (by omega))⟩

theorem HBlk.at_ {s : ByteArray} {w wr : World} {p k : Nat} {l : List Nat} (h : HBlk s w wr p l) (hk : k < 9) :
    wr.cell? ⟨w.heap.size + 1 + 1 + 1 + 1, k, none⟩ = some (.int .i64 (nth l k)) ∧ wr.frozen? ⟨w.heap.size + 1 + 1 + 1 + 1, k, none⟩ = false := ⟨h.b4.cell (arr_get l k hk), h.b4.free k⟩

theorem HBlk.store' {s : ByteArray} {w wr : World} {p k : Nat} {l : List Nat} (h : HBlk s w wr p l) (n : Nat) (hk : l.length = k) (hl : k ≤ 8) :
    HBlk s w (wr.setCell ⟨w.heap.size + 1 + 1 + 1 + 1, k, none⟩ (.int .i64 (n : Nat))) p (l ++ [n]) := by
  subst hk; exact h.store n hl

theorem okS_no {s : ByteArray} {k n q : Nat} (hlt : q < s.size) (h : okS k (bt s q) = false) :
    (if q = s.size then ((0 : Nat), q, (3 : Nat), false) else if bt s q = 10 ∧ 4 ≤ k then (n, q + 1, 0, true) else if bt s q = 32 ∧ k < 8 then (n, q + 1, 0, false) else (0, q, 2, false)) = (0, q, 2, false) := by
  unfold okS at h
  simp only [decide_eq_false_iff_not] at h
  rw [if_neg (by omega), if_neg (fun e => h (.inr e)), if_neg (fun e => h (.inl e))]

theorem okS_more {s : ByteArray} {k n q : Nat} (h10 : ¬ bt s q = 10) (h : okS k (bt s q) = true) :
    (if bt s q = 10 ∧ 4 ≤ k then (n, q + 1, (0 : Nat), true) else if bt s q = 32 ∧ k < 8 then (n, q + 1, 0, false) else (0, q, 2, false)) = (n, q + 1, 0, false) := by
  unfold okS at h
  simp only [decide_eq_true_eq] at h
  rw [if_neg (fun e => h10 e.1), if_pos (h.resolve_right (fun e => h10 e.1))]

theorem okS_fin {s : ByteArray} {k n q : Nat} (h10 : bt s q = 10) (h : okS k (bt s q) = true) :
    (if bt s q = 10 ∧ 4 ≤ k then (n, q + 1, (0 : Nat), true) else if bt s q = 32 ∧ k < 8 then (n, q + 1, 0, false) else (0, q, 2, false)) = (n, q + 1, 0, true) := by
  unfold okS at h
  simp only [decide_eq_true_eq] at h
  rw [if_pos (by omega)]

theorem headL_stop_ {s : ByteArray} {l : List Nat} {k p q e : Nat} (hk : l.length = k) (hl : k ≤ 8) (h : stepH s k p = (0, q, e, false)) (he : e ≠ 0) : headL s (9 - l.length) p l = ([], q, e) := by
  subst hk; exact headL_stop hl h he

theorem headL_fin_ {s : ByteArray} {l : List Nat} {k p q n : Nat} (hk : l.length = k) (hl : k ≤ 8) (h : stepH s k p = (n, q, 0, true)) : headL s (9 - l.length) p l = (l ++ [n], q, 0) := by
  subst hk; exact headL_fin hl h

theorem headL_more_ {s : ByteArray} {l : List Nat} {k p q n : Nat} (hk : l.length = k) (hl : k ≤ 8) (h : stepH s k p = (n, q, 0, false)) : headL s (9 - (l ++ [n]).length) q (l ++ [n]) = headL s (9 - l.length) p l := by
  subst hk; exact (headL_more hl h).symm

theorem nth_bound {l : List Nat} (h : ∀ j, nth l j ≤ 16777216) (n : Nat) {top : Nat} (hn : n ≤ top) (ht : top ≤ 16777216) : ∀ j, nth (l ++ [n]) j ≤ 16777216 := by
  intro j
  rcases Nat.lt_trichotomy j l.length with h1 | h1 | h1
  · rw [nth_snoc_lt h1]; exact h j
  · subst h1; rw [nth_snoc]; omega
  · rw [nth_ge (by simp; omega)]; omega

theorem int_beq (a b : Nat) : ((a : Int) == (b : Int)) = decide (a = b) := by
  by_cases h : a = b
  · subst h; simp
  · rw [decide_eq_false h, beq_eq_false_iff_ne]; omega

/-- the end: the results are read -/
theorem head_end {s : ByteArray} {w wz : World} {b : Bool} {L : List Nat} {P E : Nat} {tmps : Array Value} (hT : headT s = (b, L, P, E))
    (ht2 : tmps[2]? = some (.pointer (some ⟨w.heap.size, 0, none⟩))) (ht3 : tmps[3]? = some (.pointer (some ⟨w.heap.size + 1, 0, none⟩))) (ht4 : tmps[4]? = some (.pointer (some ⟨w.heap.size + 1 + 1, 0, none⟩)))
    (h0 : Blk wz w.heap.size (headC b L) 41) (hA : Blk wz (w.heap.size + 1) #[.int .i64 (P : Nat)] 3) (hE : Blk wz (w.heap.size + 1 + 1) #[.int .i64 (E : Nat)] 30) (hk : Kp (fun _ => False) w wz) :
    Leaves Tryz.prog Tryz.f23 tmps (fun o w' => HeadP s w o w') [] .returning wz := by
  obtain ⟨z0, z1, z2, z3, z4, z5, z6, z7⟩ := h0.cells8
  have a0 := hA.cells1.1
  have e0 := hE.cells1.1
  refine ⟨.tuple #[headV b L, .int .i64 P, .int .i64 E], ?_, ?_⟩
  · simp [results, Tryz.results23, go_sem, ht2, ht3, ht4, z0, z1, z2, z3, z4, z5, z6, z7, a0, e0, headV]
  · unfold HeadP
    rw [hT]
    exact ⟨rfl, hk⟩

/-- the end behind a stop -/
theorem head_stop {s : ByteArray} {w wz w'' : World} {P E : Nat} {tmps : Array Value} (hT : headT s = (false, [], P, E))
    (ht2 : tmps[2]? = some (.pointer (some ⟨w.heap.size, 0, none⟩))) (ht3 : tmps[3]? = some (.pointer (some ⟨w.heap.size + 1, 0, none⟩))) (ht4 : tmps[4]? = some (.pointer (some ⟨w.heap.size + 1 + 1, 0, none⟩)))
    (h0 : Blk wz w.heap.size (headC false []) 41) (hk : Kp (fun _ => False) w wz)
    (hA : Blk w'' (w.heap.size + 1) #[.int .i64 (P : Nat)] 3) (hE : Blk w'' (w.heap.size + 1 + 1) #[.int .i64 (E : Nat)] 30) (hK : Kp (fun j => j = w.heap.size + 1 ∨ j = w.heap.size + 1 + 1) wz w'') (v : Value) :
    Leaves Tryz.prog Tryz.f23 tmps (fun o w' => HeadP s w o w') [] (settle (.panicking ({ v := v, recovered := true } :: []))) w'' :=
  head_end hT ht2 ht3 ht4 (h0.kp hK (by omega)) hA hE (hk.trans hK (fun i hi h => by omega))

theorem headT_sum {s : ByteArray} {L : List Nat} {q : Nat} {bb : Bool} (h1 : isHead s) (h : headL s 9 4 [] = (L, q, 0)) (hb : decide (bt s 1 = 105) = bb) (h2 : badSum bb L) : headT s = (false, [], 4, 5) := by
  unfold headT
  rw [if_neg (by simpa using h1), h, if_neg (by simp), hb, if_pos h2]

theorem headT_ok {s : ByteArray} {L : List Nat} {q : Nat} {bb : Bool} (h1 : isHead s) (h : headL s 9 4 [] = (L, q, 0)) (hb : decide (bt s 1 = 105) = bb) (h2 : ¬ badSum bb L) : headT s = (bb, L, q, 0) := by
  unfold headT
  rw [if_neg (by simpa using h1), h, if_neg (by simp), hb, if_neg h2]

theorem HBlk.fin {s : ByteArray} {w wz : World} {q : Nat} {L : List Nat} (h : HBlk s w wz q L) (y0 y1 y2 y3 y4 y5 y6 y7 : Value) (p e : Value) :
    Blk ((((((((((wz.setCell ⟨w.heap.size, 0, none⟩ y0).setCell ⟨w.heap.size, 1, none⟩ y1).setCell ⟨w.heap.size, 2, none⟩ y2).setCell ⟨w.heap.size, 3, none⟩ y3).setCell ⟨w.heap.size, 4, none⟩ y4).setCell ⟨w.heap.size, 5, none⟩ y5).setCell ⟨w.heap.size, 6, none⟩ y6).setCell ⟨w.heap.size, 7, none⟩ y7).setCell ⟨w.heap.size + 1, 0, none⟩ p).setCell ⟨w.heap.size + 1 + 1, 0, none⟩ e) w.heap.size #[y0, y1, y2, y3, y4, y5, y6, y7] 41 ∧
    Blk ((((((((((wz.setCell ⟨w.heap.size, 0, none⟩ y0).setCell ⟨w.heap.size, 1, none⟩ y1).setCell ⟨w.heap.size, 2, none⟩ y2).setCell ⟨w.heap.size, 3, none⟩ y3).setCell ⟨w.heap.size, 4, none⟩ y4).setCell ⟨w.heap.size, 5, none⟩ y5).setCell ⟨w.heap.size, 6, none⟩ y6).setCell ⟨w.heap.size, 7, none⟩ y7).setCell ⟨w.heap.size + 1, 0, none⟩ p).setCell ⟨w.heap.size + 1 + 1, 0, none⟩ e) (w.heap.size + 1) #[p] 3 ∧
    Blk ((((((((((wz.setCell ⟨w.heap.size, 0, none⟩ y0).setCell ⟨w.heap.size, 1, none⟩ y1).setCell ⟨w.heap.size, 2, none⟩ y2).setCell ⟨w.heap.size, 3, none⟩ y3).setCell ⟨w.heap.size, 4, none⟩ y4).setCell ⟨w.heap.size, 5, none⟩ y5).setCell ⟨w.heap.size, 6, none⟩ y6).setCell ⟨w.heap.size, 7, none⟩ y7).setCell ⟨w.heap.size + 1, 0, none⟩ p).setCell ⟨w.heap.size + 1 + 1, 0, none⟩ e) (w.heap.size + 1 + 1) #[e] 30 ∧
    Kp (fun _ => False) w ((((((((((wz.setCell ⟨w.heap.size, 0, none⟩ y0).setCell ⟨w.heap.size, 1, none⟩ y1).setCell ⟨w.heap.size, 2, none⟩ y2).setCell ⟨w.heap.size, 3, none⟩ y3).setCell ⟨w.heap.size, 4, none⟩ y4).setCell ⟨w.heap.size, 5, none⟩ y5).setCell ⟨w.heap.size, 6, none⟩ y6).setCell ⟨w.heap.size, 7, none⟩ y7).setCell ⟨w.heap.size + 1, 0, none⟩ p).setCell ⟨w.heap.size + 1 + 1, 0, none⟩ e) := by
  have hk := Kp.set8 (b := w.heap.size) (Kp.refl (fun j => j = w.heap.size) wz) (fun _ => rfl) y0 y1 y2 y3 y4 y5 y6 y7
  refine ⟨((h.b0.set8 y0 y1 y2 y3 y4 y5 y6 y7).set_other (by simp) _).set_other (by simp <;> omega) _, ((h.b1.kp hk (by omega)).set_same 0 p).set_other (by simp) _, ((h.b2.kp hk (by omega)).set_other (by simp) _).set_same 0 e,
    ((h.kp.trans hk (fun i hi h => by omega)).setCell (p := ⟨w.heap.size + 1, 0, none⟩) (by simp <;> omega) _).setCell (p := ⟨w.heap.size + 1 + 1, 0, none⟩) (by simp <;> omega) _⟩

set_option maxRecDepth 100000 in
set_option maxHeartbeats 8000000 in
theorem ascii_ReadHead (K : RdK) (s : ByteArray) (w : World) (hs : s.size ≤ 2000000) :
    Calls Tryz.prog 23 #[.string s] w fun o w' => HeadP s w o w' := by
  have HK := Lib.hid K
  clear K
  have hmf : ∀ (fn : Fn) (first cap : Array Value) (w : World), (Instr.makeFunc fn first cap).run Tryz.prog w = .ok (.func fn first cap) w := fun _ _ _ _ => rfl
  have HIS := Lib.hid (isHead_pre s)
  have HN0 := Lib.hid (HBlk.new s w)
  by_cases hI : isHead s
  · have HI : Hid (isHead s) := Lib.hid hI
    have HIS2 := Lib.hid (HIS.out.2 hI)
    clear HIS hI
    go_enter_defers Tryz.func23, Tryz.ntmps23
    go_upto_region 1 with fail
    go_cut [19] from 12 to 19 (fun s19 wx => s19 = .bool false ∧ wx = ((w.alloc (.cells #[.bool false, .int .i64 0, .int .i64 0, .int .i64 0, .int .i64 0, .int .i64 0, .int .i64 0, .int .i64 0] 41)).alloc (.cells #[.int .i64 0] 3)).alloc (.cells #[.int .i64 0] 30))
    case first =>
      cases h1 : Lib.hasPrefix s.data.toList [97, 97, 103, 32] with
      | true =>
        go_wp2_with fail
        refine (HK.out.pre _ _ _).mono ?_
        rintro e w' ⟨rfl, rfl⟩
        rw [show (⟨#[97, 97, 103, 32]⟩ : ByteArray).data.toList = [97, 97, 103, 32] from rfl, h1]
        go_wp2_with fail
        go_meet
        case rel => exact ⟨rfl, rfl⟩
      | false =>
        have h2 : Lib.hasPrefix s.data.toList [97, 105, 103, 32] = true := HIS2.out.resolve_left (by rw [h1]; simp)
        go_wp2_with fail
        refine (HK.out.pre _ _ _).mono ?_
        rintro e w' ⟨rfl, rfl⟩
        rw [show (⟨#[97, 97, 103, 32]⟩ : ByteArray).data.toList = [97, 97, 103, 32] from rfl, h1]
        go_wp2_with fail
        refine (HK.out.pre _ _ _).mono ?_
        rintro e w' ⟨rfl, rfl⟩
        rw [show (⟨#[97, 105, 103, 32]⟩ : ByteArray).data.toList = [97, 105, 103, 32] from rfl, h2]
        go_wp2_with fail
        go_meet
        case rel => exact ⟨rfl, rfl⟩
    case rest =>
    obtain ⟨rfl, rfl⟩ := hcut
    go_upto_block 0 with fail
    go_cut [] from 7 to 45 (fun wx => ∃ L p, HBlk s w wx p L ∧ headL s 9 4 [] = (L, p, 0) ∧ ∀ j, nth L j ≤ 16777216)
    case first =>
      go_wp2_with fail
      go_loopw [25] (fun v25 wr => ∃ p l, v25 = .int .i64 l.length ∧ l.length ≤ 8 ∧ p ≤ s.size ∧ (∀ j, nth l j ≤ 16777216) ∧ headL s (9 - l.length) p l = headL s 9 4 [] ∧ HBlk s w wr p l) (fun v25 _ => 9 - (intOf v25).toNat)
      case atStart => exact ⟨4, [], rfl, by simp, HI.out.1, fun j => by rw [nth_ge (by simp)]; omega, rfl, HN0.out⟩
      case round =>
        obtain ⟨p, l, rfl, hl, hp, hb, hrun, hR⟩ := hrel
        have HR := Lib.hid hR
        have HRUN := Lib.hid hrun
        have HBD := Lib.hid hb
        clear hR hrun hb
        obtain ⟨k, hk⟩ : ∃ k, l.length = k := ⟨_, rfl⟩
        have HL := Lib.hid hk
        rw [hk]
        have hk8 : k ≤ 8 := by omega
        clear hk hl
        have d9 : decide ((k : Int) < 9) = true := by simp; omega
        by_cases hk : k < 4
        · have d7 : decide ((7 : Int) ≤ (k : Int)) = false := by simp; omega
          have e8 : ((k : Int) == 8) = false := by rw [beq_eq_false_iff_ne]; omega
          have d4 : decide ((4 : Int) ≤ (k : Int)) = false := by simp; omega
          have HS := Lib.hid (fun (q b : Nat) (u : World) (hq : q ≤ s.size) (hB : Blk u b #[.string s, .int .i64 q] 97) => sign_k HK.out s q b k u ⟨#[32]⟩ hs hq (.inl ⟨hk, rfl⟩) hB)
          have HTop := Lib.hid (show (if 7 ≤ k then 0 else 16777216) = 16777216 by rw [if_neg (by omega)])
          have HNm := Lib.hid (fun (b : Nat) (u : World) (hB : Blk u b #[.string s, .int .i64 p] 97) => ascii_number (fun s' p' u' hs' hp' => HK.out.nat s' p' u' hs' hp') s p 16777216 b u (by omega) hp hB)
          obtain ⟨n, hn⟩ : ∃ n, (natN s p).1 = n := ⟨_, rfl⟩
          obtain ⟨q, hq⟩ : ∃ q, (natN s p).2.1 = q := ⟨_, rfl⟩
          obtain ⟨E, hE⟩ : ∃ E, numE s p 16777216 = E := ⟨_, rfl⟩
          simp only [hn, hq, hE] at HNm
          have HN := Lib.hid (And.intro hn (And.intro hq hE))
          have HKK := Lib.hid hk
          clear hk hn hq hE
          go_wp2_with fail
          refine (HNm.out _ _ HR.out.b3).mono ?_
          rintro o w1 hNum
          unfold NumP at hNum
          rcases hNum with ⟨rfl, rfl, hK1, hB1⟩ | ⟨he, rfl, hK1, hB1⟩
          · have HZ1 := Lib.hid (HR.out.reader hK1 hB1)
            clear hK1 hB1 HNm
            obtain ⟨hpq, hqs, hnt⟩ := numE_ok hp HN.out.1 HN.out.2.1 HN.out.2.2
            have HSt := Lib.hid (stepH_sign (k := k) HTop.out HN.out.1 HN.out.2.1 HN.out.2.2)
            obtain ⟨c4, f4⟩ := HZ1.out.at_ (k := k) (by omega)
            have HZ2 := Lib.hid (HZ1.out.store' n HL.out hk8)
            go_wp2_with fail
            clear c4 f4
            refine (HS.out q _ _ hqs HZ2.out.b3).mono ?_
            rintro o w2 hSg
            unfold SignP at hSg
            rcases hSg with ⟨hlt, hok, rfl, hK2, hB2⟩ | ⟨hqe, rfl, hK2, hB2⟩ | ⟨hlt, hok, rfl, hK2, hB2⟩
            · have HZ3 := Lib.hid (HZ2.out.reader hK2 hB2)
              have HOK := Lib.hid hok
              clear hK2 hB2 hok HS
              rw [if_neg (by omega)] at HSt
              by_cases h10 : bt s q = 10
              · have e10 : ((bt s q : Int) == 10) = true := by rw [beq_iff_eq]; omega
                exact absurd HOK.out (by have := HKK.out; unfold okS; simp; omega)
              · have e10 : ((bt s q : Int) == 10) = false := by rw [beq_eq_false_iff_ne]; omega
                have HSt3 := Lib.hid (HSt.out.trans (okS_more h10 HOK.out))
                clear h10
                go_wp2_with fail
                go_round
                case rel =>
                  refine ⟨q + 1, l ++ [n], by rw [List.length_append, HL.out]; rfl, by rw [List.length_append, HL.out]; have := HKK.out; simp; omega, by omega, nth_bound HBD.out n hnt (by decide), (headL_more_ HL.out hk8 HSt3.out).trans HRUN.out, HZ3.out⟩
                case measure => simp [intOf]; omega
            · have HZ := Lib.hid (HZ2.out.reader hK2 hB2)
              rw [if_pos hqe] at HSt
              clear hK2 hB2 hqe
              go_wp2_with fail
              refine leaves_cons (f := 54) (args := #[.pointer (some ⟨w.heap.size + 1, 0, none⟩), .pointer (some ⟨w.heap.size + 1 + 1, 0, none⟩)]) (by simp) (by simp [go_sem]) ?_
              refine (stopped_panicking (w.heap.size + 1) (w.heap.size + 1 + 1) _ _ _ _ [] _ (by omega) HZ.out.b1 HZ.out.b2).mono ?_
              rintro e u' w'' ⟨rfl, rfl, hA, hE, hK⟩
              exact head_stop (headT_bad HI.out (HRUN.out.symm.trans (headL_stop_ HL.out hk8 HSt.out (by decide))) (by decide)) (by rfl) (by rfl) (by rfl) HZ.out.b0 HZ.out.kp hA hE hK _
            · have HZ := Lib.hid (HZ2.out.reader hK2 hB2)
              have HSt2 := Lib.hid (HSt.out.trans (okS_no hlt hok))
              clear hK2 hB2 hok
              go_wp2_with fail
              refine leaves_cons (f := 54) (args := #[.pointer (some ⟨w.heap.size + 1, 0, none⟩), .pointer (some ⟨w.heap.size + 1 + 1, 0, none⟩)]) (by simp) (by simp [go_sem]) ?_
              refine (stopped_panicking (w.heap.size + 1) (w.heap.size + 1 + 1) _ _ _ _ [] _ (by omega) HZ.out.b1 HZ.out.b2).mono ?_
              rintro e u' w'' ⟨rfl, rfl, hA, hE, hK⟩
              exact head_stop (headT_bad HI.out (HRUN.out.symm.trans (headL_stop_ HL.out hk8 HSt2.out (by decide))) (by decide)) (by rfl) (by rfl) (by rfl) HZ.out.b0 HZ.out.kp hA hE hK _
          · have HZ := Lib.hid (HR.out.reader hK1 hB1)
            have HE := Lib.hid he
            clear hK1 hB1 he HNm HS
            go_wp2_with fail
            refine leaves_cons (f := 54) (args := #[.pointer (some ⟨w.heap.size + 1, 0, none⟩), .pointer (some ⟨w.heap.size + 1 + 1, 0, none⟩)]) (by simp) (by simp [go_sem]) ?_
            refine (stopped_panicking (w.heap.size + 1) (w.heap.size + 1 + 1) _ _ _ _ [] _ (by omega) HZ.out.b1 HZ.out.b2).mono ?_
            rintro e u' w'' ⟨rfl, rfl, hA, hE, hK⟩
            exact head_stop (headT_bad HI.out (HRUN.out.symm.trans (headL_stop_ HL.out hk8 (stepH_num HTop.out HN.out.2.2 HE.out) HE.out)) HE.out) (by rfl) (by rfl) (by rfl) HZ.out.b0 HZ.out.kp hA hE hK _
        by_cases hk : 4 ≤ k ∧ k < 7
        · have d7 : decide ((7 : Int) ≤ (k : Int)) = false := by simp; omega
          have e8 : ((k : Int) == 8) = false := by rw [beq_eq_false_iff_ne]; omega
          have d4 : decide ((4 : Int) ≤ (k : Int)) = true := by simp; omega
          have HS := Lib.hid (fun (q b : Nat) (u : World) (hq : q ≤ s.size) (hB : Blk u b #[.string s, .int .i64 q] 97) => sign_k HK.out s q b k u ⟨#[32, 10]⟩ hs hq (.inr (.inl ⟨hk.1, by omega, rfl⟩)) hB)
          have HTop := Lib.hid (show (if 7 ≤ k then 0 else 16777216) = 16777216 by rw [if_neg (by omega)])
          have HNm := Lib.hid (fun (b : Nat) (u : World) (hB : Blk u b #[.string s, .int .i64 p] 97) => ascii_number (fun s' p' u' hs' hp' => HK.out.nat s' p' u' hs' hp') s p 16777216 b u (by omega) hp hB)
          obtain ⟨n, hn⟩ : ∃ n, (natN s p).1 = n := ⟨_, rfl⟩
          obtain ⟨q, hq⟩ : ∃ q, (natN s p).2.1 = q := ⟨_, rfl⟩
          obtain ⟨E, hE⟩ : ∃ E, numE s p 16777216 = E := ⟨_, rfl⟩
          simp only [hn, hq, hE] at HNm
          have HN := Lib.hid (And.intro hn (And.intro hq hE))
          have HKK := Lib.hid hk
          clear hk hn hq hE
          go_wp2_with fail
          refine (HNm.out _ _ HR.out.b3).mono ?_
          rintro o w1 hNum
          unfold NumP at hNum
          rcases hNum with ⟨rfl, rfl, hK1, hB1⟩ | ⟨he, rfl, hK1, hB1⟩
          · have HZ1 := Lib.hid (HR.out.reader hK1 hB1)
            clear hK1 hB1 HNm
            obtain ⟨hpq, hqs, hnt⟩ := numE_ok hp HN.out.1 HN.out.2.1 HN.out.2.2
            have HSt := Lib.hid (stepH_sign (k := k) HTop.out HN.out.1 HN.out.2.1 HN.out.2.2)
            obtain ⟨c4, f4⟩ := HZ1.out.at_ (k := k) (by omega)
            have HZ2 := Lib.hid (HZ1.out.store' n HL.out hk8)
            go_wp2_with fail
            clear c4 f4
            refine (HS.out q _ _ hqs HZ2.out.b3).mono ?_
            rintro o w2 hSg
            unfold SignP at hSg
            rcases hSg with ⟨hlt, hok, rfl, hK2, hB2⟩ | ⟨hqe, rfl, hK2, hB2⟩ | ⟨hlt, hok, rfl, hK2, hB2⟩
            · have HZ3 := Lib.hid (HZ2.out.reader hK2 hB2)
              have HOK := Lib.hid hok
              clear hK2 hB2 hok HS
              rw [if_neg (by omega)] at HSt
              by_cases h10 : bt s q = 10
              · have e10 : ((bt s q : Int) == 10) = true := by rw [beq_iff_eq]; omega
                have HF := Lib.hid (HSt.out.trans (okS_fin h10 HOK.out))
                have HHL := Lib.hid (HRUN.out.symm.trans (headL_fin_ HL.out hk8 HF.out))
                clear h10
                go_wp2_with fail
                go_meet
                case rel => exact ⟨l ++ [n], q + 1, HZ3.out, HHL.out, nth_bound HBD.out n hnt (by decide)⟩
              · have e10 : ((bt s q : Int) == 10) = false := by rw [beq_eq_false_iff_ne]; omega
                have HSt3 := Lib.hid (HSt.out.trans (okS_more h10 HOK.out))
                clear h10
                go_wp2_with fail
                go_round
                case rel =>
                  refine ⟨q + 1, l ++ [n], by rw [List.length_append, HL.out]; rfl, by rw [List.length_append, HL.out]; have := HKK.out; simp; omega, by omega, nth_bound HBD.out n hnt (by decide), (headL_more_ HL.out hk8 HSt3.out).trans HRUN.out, HZ3.out⟩
                case measure => simp [intOf]; omega
            · have HZ := Lib.hid (HZ2.out.reader hK2 hB2)
              rw [if_pos hqe] at HSt
              clear hK2 hB2 hqe
              go_wp2_with fail
              refine leaves_cons (f := 54) (args := #[.pointer (some ⟨w.heap.size + 1, 0, none⟩), .pointer (some ⟨w.heap.size + 1 + 1, 0, none⟩)]) (by simp) (by simp [go_sem]) ?_
              refine (stopped_panicking (w.heap.size + 1) (w.heap.size + 1 + 1) _ _ _ _ [] _ (by omega) HZ.out.b1 HZ.out.b2).mono ?_
              rintro e u' w'' ⟨rfl, rfl, hA, hE, hK⟩
              exact head_stop (headT_bad HI.out (HRUN.out.symm.trans (headL_stop_ HL.out hk8 HSt.out (by decide))) (by decide)) (by rfl) (by rfl) (by rfl) HZ.out.b0 HZ.out.kp hA hE hK _
            · have HZ := Lib.hid (HZ2.out.reader hK2 hB2)
              have HSt2 := Lib.hid (HSt.out.trans (okS_no hlt hok))
              clear hK2 hB2 hok
              go_wp2_with fail
              refine leaves_cons (f := 54) (args := #[.pointer (some ⟨w.heap.size + 1, 0, none⟩), .pointer (some ⟨w.heap.size + 1 + 1, 0, none⟩)]) (by simp) (by simp [go_sem]) ?_
              refine (stopped_panicking (w.heap.size + 1) (w.heap.size + 1 + 1) _ _ _ _ [] _ (by omega) HZ.out.b1 HZ.out.b2).mono ?_
              rintro e u' w'' ⟨rfl, rfl, hA, hE, hK⟩
              exact head_stop (headT_bad HI.out (HRUN.out.symm.trans (headL_stop_ HL.out hk8 HSt2.out (by decide))) (by decide)) (by rfl) (by rfl) (by rfl) HZ.out.b0 HZ.out.kp hA hE hK _
          · have HZ := Lib.hid (HR.out.reader hK1 hB1)
            have HE := Lib.hid he
            clear hK1 hB1 he HNm HS
            go_wp2_with fail
            refine leaves_cons (f := 54) (args := #[.pointer (some ⟨w.heap.size + 1, 0, none⟩), .pointer (some ⟨w.heap.size + 1 + 1, 0, none⟩)]) (by simp) (by simp [go_sem]) ?_
            refine (stopped_panicking (w.heap.size + 1) (w.heap.size + 1 + 1) _ _ _ _ [] _ (by omega) HZ.out.b1 HZ.out.b2).mono ?_
            rintro e u' w'' ⟨rfl, rfl, hA, hE, hK⟩
            exact head_stop (headT_bad HI.out (HRUN.out.symm.trans (headL_stop_ HL.out hk8 (stepH_num HTop.out HN.out.2.2 HE.out) HE.out)) HE.out) (by rfl) (by rfl) (by rfl) HZ.out.b0 HZ.out.kp hA hE hK _
        by_cases hk : k = 7
        · have d7 : decide ((7 : Int) ≤ (k : Int)) = true := by simp; omega
          have e8 : ((k : Int) == 8) = false := by rw [beq_eq_false_iff_ne]; omega
          have d4 : decide ((4 : Int) ≤ (k : Int)) = true := by simp; omega
          have HS := Lib.hid (fun (q b : Nat) (u : World) (hq : q ≤ s.size) (hB : Blk u b #[.string s, .int .i64 q] 97) => sign_k HK.out s q b k u ⟨#[32, 10]⟩ hs hq (.inr (.inl ⟨by omega, by omega, rfl⟩)) hB)
          have HTop := Lib.hid (show (if 7 ≤ k then 0 else 16777216) = 0 by rw [if_pos (by omega)])
          have HNm := Lib.hid (fun (b : Nat) (u : World) (hB : Blk u b #[.string s, .int .i64 p] 97) => ascii_number (fun s' p' u' hs' hp' => HK.out.nat s' p' u' hs' hp') s p 0 b u (by omega) hp hB)
          obtain ⟨n, hn⟩ : ∃ n, (natN s p).1 = n := ⟨_, rfl⟩
          obtain ⟨q, hq⟩ : ∃ q, (natN s p).2.1 = q := ⟨_, rfl⟩
          obtain ⟨E, hE⟩ : ∃ E, numE s p 0 = E := ⟨_, rfl⟩
          simp only [hn, hq, hE] at HNm
          have HN := Lib.hid (And.intro hn (And.intro hq hE))
          have HKK := Lib.hid hk
          clear hk hn hq hE
          go_wp2_with fail
          refine (HNm.out _ _ HR.out.b3).mono ?_
          rintro o w1 hNum
          unfold NumP at hNum
          rcases hNum with ⟨rfl, rfl, hK1, hB1⟩ | ⟨he, rfl, hK1, hB1⟩
          · have HZ1 := Lib.hid (HR.out.reader hK1 hB1)
            clear hK1 hB1 HNm
            obtain ⟨hpq, hqs, hnt⟩ := numE_ok hp HN.out.1 HN.out.2.1 HN.out.2.2
            have HSt := Lib.hid (stepH_sign (k := k) HTop.out HN.out.1 HN.out.2.1 HN.out.2.2)
            obtain ⟨c4, f4⟩ := HZ1.out.at_ (k := k) (by omega)
            have HZ2 := Lib.hid (HZ1.out.store' n HL.out hk8)
            go_wp2_with fail
            clear c4 f4
            refine (HS.out q _ _ hqs HZ2.out.b3).mono ?_
            rintro o w2 hSg
            unfold SignP at hSg
            rcases hSg with ⟨hlt, hok, rfl, hK2, hB2⟩ | ⟨hqe, rfl, hK2, hB2⟩ | ⟨hlt, hok, rfl, hK2, hB2⟩
            · have HZ3 := Lib.hid (HZ2.out.reader hK2 hB2)
              have HOK := Lib.hid hok
              clear hK2 hB2 hok HS
              rw [if_neg (by omega)] at HSt
              by_cases h10 : bt s q = 10
              · have e10 : ((bt s q : Int) == 10) = true := by rw [beq_iff_eq]; omega
                have HF := Lib.hid (HSt.out.trans (okS_fin h10 HOK.out))
                have HHL := Lib.hid (HRUN.out.symm.trans (headL_fin_ HL.out hk8 HF.out))
                clear h10
                go_wp2_with fail
                go_meet
                case rel => exact ⟨l ++ [n], q + 1, HZ3.out, HHL.out, nth_bound HBD.out n hnt (by decide)⟩
              · have e10 : ((bt s q : Int) == 10) = false := by rw [beq_eq_false_iff_ne]; omega
                have HSt3 := Lib.hid (HSt.out.trans (okS_more h10 HOK.out))
                clear h10
                go_wp2_with fail
                go_round
                case rel =>
                  refine ⟨q + 1, l ++ [n], by rw [List.length_append, HL.out]; rfl, by rw [List.length_append, HL.out]; have := HKK.out; simp; omega, by omega, nth_bound HBD.out n hnt (by decide), (headL_more_ HL.out hk8 HSt3.out).trans HRUN.out, HZ3.out⟩
                case measure => simp [intOf]; omega
            · have HZ := Lib.hid (HZ2.out.reader hK2 hB2)
              rw [if_pos hqe] at HSt
              clear hK2 hB2 hqe
              go_wp2_with fail
              refine leaves_cons (f := 54) (args := #[.pointer (some ⟨w.heap.size + 1, 0, none⟩), .pointer (some ⟨w.heap.size + 1 + 1, 0, none⟩)]) (by simp) (by simp [go_sem]) ?_
              refine (stopped_panicking (w.heap.size + 1) (w.heap.size + 1 + 1) _ _ _ _ [] _ (by omega) HZ.out.b1 HZ.out.b2).mono ?_
              rintro e u' w'' ⟨rfl, rfl, hA, hE, hK⟩
              exact head_stop (headT_bad HI.out (HRUN.out.symm.trans (headL_stop_ HL.out hk8 HSt.out (by decide))) (by decide)) (by rfl) (by rfl) (by rfl) HZ.out.b0 HZ.out.kp hA hE hK _
            · have HZ := Lib.hid (HZ2.out.reader hK2 hB2)
              have HSt2 := Lib.hid (HSt.out.trans (okS_no hlt hok))
              clear hK2 hB2 hok
              go_wp2_with fail
              refine leaves_cons (f := 54) (args := #[.pointer (some ⟨w.heap.size + 1, 0, none⟩), .pointer (some ⟨w.heap.size + 1 + 1, 0, none⟩)]) (by simp) (by simp [go_sem]) ?_
              refine (stopped_panicking (w.heap.size + 1) (w.heap.size + 1 + 1) _ _ _ _ [] _ (by omega) HZ.out.b1 HZ.out.b2).mono ?_
              rintro e u' w'' ⟨rfl, rfl, hA, hE, hK⟩
              exact head_stop (headT_bad HI.out (HRUN.out.symm.trans (headL_stop_ HL.out hk8 HSt2.out (by decide))) (by decide)) (by rfl) (by rfl) (by rfl) HZ.out.b0 HZ.out.kp hA hE hK _
          · have HZ := Lib.hid (HR.out.reader hK1 hB1)
            have HE := Lib.hid he
            clear hK1 hB1 he HNm HS
            go_wp2_with fail
            refine leaves_cons (f := 54) (args := #[.pointer (some ⟨w.heap.size + 1, 0, none⟩), .pointer (some ⟨w.heap.size + 1 + 1, 0, none⟩)]) (by simp) (by simp [go_sem]) ?_
            refine (stopped_panicking (w.heap.size + 1) (w.heap.size + 1 + 1) _ _ _ _ [] _ (by omega) HZ.out.b1 HZ.out.b2).mono ?_
            rintro e u' w'' ⟨rfl, rfl, hA, hE, hK⟩
            exact head_stop (headT_bad HI.out (HRUN.out.symm.trans (headL_stop_ HL.out hk8 (stepH_num HTop.out HN.out.2.2 HE.out) HE.out)) HE.out) (by rfl) (by rfl) (by rfl) HZ.out.b0 HZ.out.kp hA hE hK _
        by_cases hk : k = 8
        · have d7 : decide ((7 : Int) ≤ (k : Int)) = true := by simp; omega
          have e8 : ((k : Int) == 8) = true := by rw [beq_iff_eq]; omega
          have HS := Lib.hid (fun (q b : Nat) (u : World) (hq : q ≤ s.size) (hB : Blk u b #[.string s, .int .i64 q] 97) => sign_k HK.out s q b k u ⟨#[10]⟩ hs hq (.inr (.inr ⟨hk, rfl⟩)) hB)
          have HTop := Lib.hid (show (if 7 ≤ k then 0 else 16777216) = 0 by rw [if_pos (by omega)])
          have HNm := Lib.hid (fun (b : Nat) (u : World) (hB : Blk u b #[.string s, .int .i64 p] 97) => ascii_number (fun s' p' u' hs' hp' => HK.out.nat s' p' u' hs' hp') s p 0 b u (by omega) hp hB)
          obtain ⟨n, hn⟩ : ∃ n, (natN s p).1 = n := ⟨_, rfl⟩
          obtain ⟨q, hq⟩ : ∃ q, (natN s p).2.1 = q := ⟨_, rfl⟩
          obtain ⟨E, hE⟩ : ∃ E, numE s p 0 = E := ⟨_, rfl⟩
          simp only [hn, hq, hE] at HNm
          have HN := Lib.hid (And.intro hn (And.intro hq hE))
          have HKK := Lib.hid hk
          clear hk hn hq hE
          go_wp2_with fail
          refine (HNm.out _ _ HR.out.b3).mono ?_
          rintro o w1 hNum
          unfold NumP at hNum
          rcases hNum with ⟨rfl, rfl, hK1, hB1⟩ | ⟨he, rfl, hK1, hB1⟩
          · have HZ1 := Lib.hid (HR.out.reader hK1 hB1)
            clear hK1 hB1 HNm
            obtain ⟨hpq, hqs, hnt⟩ := numE_ok hp HN.out.1 HN.out.2.1 HN.out.2.2
            have HSt := Lib.hid (stepH_sign (k := k) HTop.out HN.out.1 HN.out.2.1 HN.out.2.2)
            obtain ⟨c4, f4⟩ := HZ1.out.at_ (k := k) (by omega)
            have HZ2 := Lib.hid (HZ1.out.store' n HL.out hk8)
            go_wp2_with fail
            clear c4 f4
            refine (HS.out q _ _ hqs HZ2.out.b3).mono ?_
            rintro o w2 hSg
            unfold SignP at hSg
            rcases hSg with ⟨hlt, hok, rfl, hK2, hB2⟩ | ⟨hqe, rfl, hK2, hB2⟩ | ⟨hlt, hok, rfl, hK2, hB2⟩
            · have HZ3 := Lib.hid (HZ2.out.reader hK2 hB2)
              have HOK := Lib.hid hok
              clear hK2 hB2 hok HS
              rw [if_neg (by omega)] at HSt
              by_cases h10 : bt s q = 10
              · have e10 : ((bt s q : Int) == 10) = true := by rw [beq_iff_eq]; omega
                have HF := Lib.hid (HSt.out.trans (okS_fin h10 HOK.out))
                have HHL := Lib.hid (HRUN.out.symm.trans (headL_fin_ HL.out hk8 HF.out))
                clear h10
                go_wp2_with fail
                go_meet
                case rel => exact ⟨l ++ [n], q + 1, HZ3.out, HHL.out, nth_bound HBD.out n hnt (by decide)⟩
              · have e10 : ((bt s q : Int) == 10) = false := by rw [beq_eq_false_iff_ne]; omega
                exact absurd HOK.out (by have := HKK.out; unfold okS; simp; omega)
            · have HZ := Lib.hid (HZ2.out.reader hK2 hB2)
              rw [if_pos hqe] at HSt
              clear hK2 hB2 hqe
              go_wp2_with fail
              refine leaves_cons (f := 54) (args := #[.pointer (some ⟨w.heap.size + 1, 0, none⟩), .pointer (some ⟨w.heap.size + 1 + 1, 0, none⟩)]) (by simp) (by simp [go_sem]) ?_
              refine (stopped_panicking (w.heap.size + 1) (w.heap.size + 1 + 1) _ _ _ _ [] _ (by omega) HZ.out.b1 HZ.out.b2).mono ?_
              rintro e u' w'' ⟨rfl, rfl, hA, hE, hK⟩
              exact head_stop (headT_bad HI.out (HRUN.out.symm.trans (headL_stop_ HL.out hk8 HSt.out (by decide))) (by decide)) (by rfl) (by rfl) (by rfl) HZ.out.b0 HZ.out.kp hA hE hK _
            · have HZ := Lib.hid (HZ2.out.reader hK2 hB2)
              have HSt2 := Lib.hid (HSt.out.trans (okS_no hlt hok))
              clear hK2 hB2 hok
              go_wp2_with fail
              refine leaves_cons (f := 54) (args := #[.pointer (some ⟨w.heap.size + 1, 0, none⟩), .pointer (some ⟨w.heap.size + 1 + 1, 0, none⟩)]) (by simp) (by simp [go_sem]) ?_
              refine (stopped_panicking (w.heap.size + 1) (w.heap.size + 1 + 1) _ _ _ _ [] _ (by omega) HZ.out.b1 HZ.out.b2).mono ?_
              rintro e u' w'' ⟨rfl, rfl, hA, hE, hK⟩
              exact head_stop (headT_bad HI.out (HRUN.out.symm.trans (headL_stop_ HL.out hk8 HSt2.out (by decide))) (by decide)) (by rfl) (by rfl) (by rfl) HZ.out.b0 HZ.out.kp hA hE hK _
          · have HZ := Lib.hid (HR.out.reader hK1 hB1)
            have HE := Lib.hid he
            clear hK1 hB1 he HNm HS
            go_wp2_with fail
            refine leaves_cons (f := 54) (args := #[.pointer (some ⟨w.heap.size + 1, 0, none⟩), .pointer (some ⟨w.heap.size + 1 + 1, 0, none⟩)]) (by simp) (by simp [go_sem]) ?_
            refine (stopped_panicking (w.heap.size + 1) (w.heap.size + 1 + 1) _ _ _ _ [] _ (by omega) HZ.out.b1 HZ.out.b2).mono ?_
            rintro e u' w'' ⟨rfl, rfl, hA, hE, hK⟩
            exact head_stop (headT_bad HI.out (HRUN.out.symm.trans (headL_stop_ HL.out hk8 (stepH_num HTop.out HN.out.2.2 HE.out) HE.out)) HE.out) (by rfl) (by rfl) (by rfl) HZ.out.b0 HZ.out.kp hA hE hK _
        omega
    case rest =>
      obtain ⟨L, q, hZ, hHL, hBL⟩ := hcut
      have HZ3 := Lib.hid hZ
      have HHL := Lib.hid hHL
      have HBL := Lib.hid hBL
      clear hZ hHL hBL
      obtain ⟨q0, q1, q2, q3, q4, fz, fa, fe, ca, ce, cr⟩ := HZ3.out.outs
      have fz0 := fz 0
      have fz1 := fz 1
      have fz2 := fz 2
      have fz3 := fz 3
      have fz4 := fz 4
      have fz5 := fz 5
      have fz6 := fz 6
      have fz7 := fz 7
      clear fz
      obtain ⟨z0, z1, z2, z3, z4, z5, z6, z7⟩ := HZ3.out.b0.cells8
      have k0 := HBL.out 0
      have k1 := HBL.out 1
      have k2 := HBL.out 2
      have k4 := HBL.out 4
      have h4 := HI.out.1
      have l1 : (1 : Int) < (s.size : Int) := by omega
      have hb1 := bt_eq (s := s) (i := 1) (by omega)
      obtain ⟨bb, hbb⟩ : ∃ bb, ((bt s 1 : Int) == 105) = bb := ⟨_, rfl⟩
      have HBB := Lib.hid (show decide (bt s 1 = 105) = bb by rw [← hbb]; exact (int_beq (bt s 1) 105).symm)
      have haig : ∀ h, ((⟨#[97, 105, 103, 32]⟩ : ByteArray)[1]'h).toNat = 105 := fun _ => rfl
      have HQ : Hid (w.heap.size + 1 + 1 + 1 + 1 < wc.heap.size) := Lib.hid q4
      obtain ⟨wa, rfl⟩ : ∃ wa : World, wa = wc := ⟨_, rfl⟩
      go_upto_region 18 with fail
      go_cut [10] from 46 to 64 (fun s10 wx => ∃ nb, s10 = .pointer (some ⟨nb, 0, none⟩) ∧ HBlk s w wx q L ∧ w.heap.size + 1 + 1 + 1 + 1 < nb ∧ Blk wx nb (headC bb L) 41)
      case first =>
        clear q0 q1 q2 q3 q4 fa fe ca ce cr fz0 fz1 fz2 fz3 fz4 fz5 fz6 fz7 z0 z1 z2 z3 z4 z5 z6 z7 k0 k1 k2 k4 hmf
        go_region_held3 (fun u => u.cell? ⟨w.heap.size + 1 + 1 + 1 + 1, 0, none⟩ = some (.int .i64 (nth L 0)) ∧ u.cell? ⟨w.heap.size + 1 + 1 + 1 + 1, 1, none⟩ = some (.int .i64 (nth L 1)) ∧ u.cell? ⟨w.heap.size + 1 + 1 + 1 + 1, 2, none⟩ = some (.int .i64 (nth L 2)) ∧ u.cell? ⟨w.heap.size + 1 + 1 + 1 + 1, 3, none⟩ = some (.int .i64 (nth L 3)) ∧ u.cell? ⟨w.heap.size + 1 + 1 + 1 + 1, 4, none⟩ = some (.int .i64 (nth L 4)) ∧ u.cell? ⟨w.heap.size + 1 + 1 + 1 + 1, 5, none⟩ = some (.int .i64 (nth L 5)) ∧ u.cell? ⟨w.heap.size + 1 + 1 + 1 + 1, 6, none⟩ = some (.int .i64 (nth L 6))) (first | exact HZ3.out.cells | exact HZ3.out.drew.cells | exact (HZ3.out.alloc _).cells | exact (HZ3.out.drew.alloc _).cells | exact (HZ3.out.alloc _).drew.cells) (fail)
        all_goals go_wp2_with fail
        all_goals go_meet
        all_goals exact ⟨_, rfl, (HZ3.out.alloc _).drew, HQ.out, (Blk.new wa _ _).drew⟩
      case rest =>
        obtain ⟨nb, rfl, hZ4, hnb, hB⟩ := hcut
        clear q0 q1 q2 q3 q4 fa fe ca ce cr fz0 fz1 fz2 fz3 fz4 fz5 fz6 fz7 z0 z1 z2 z3 z4 z5 z6 z7 haig l1 hb1
        have HZ4 := Lib.hid hZ4
        have HB4 := Lib.hid hB
        have HNB := Lib.hid hnb
        obtain ⟨q0, q1, q2, q3, q4, fz, fa, fe, ca, ce, cr⟩ := hZ4.outs
        have fz0 := fz 0
        have fz1 := fz 1
        have fz2 := fz 2
        have fz3 := fz 3
        have fz4 := fz 4
        have fz5 := fz 5
        have fz6 := fz 6
        have fz7 := fz 7
        clear fz
        obtain ⟨z0, z1, z2, z3, z4, z5, z6, z7⟩ := hZ4.b0.cells8
        obtain ⟨y0, y1, y2, y3, y4, y5, y6, y7⟩ := hB.cells8
        clear hZ4 hB hnb
        have j0 := HNB.out
        have j1 : nb < wc.heap.size := HB4.out.lt
        by_cases C1 : nth L 0 < nth L 1 + nth L 2 + nth L 4
        · have t1 : decide ((nth L 0 : Int) < (nth L 1 : Int) + (nth L 2 : Int) + (nth L 4 : Int)) = true := by simp; omega
          have HT := Lib.hid (headT_sum HI.out HHL.out HBB.out (.inl C1))
          clear C1
          go_wp2_with fail
          refine leaves_cons (f := 54) (args := #[.pointer (some ⟨w.heap.size + 1, 0, none⟩), .pointer (some ⟨w.heap.size + 1 + 1, 0, none⟩)]) (by simp) (by simp [go_sem]) ?_
          refine (stopped_idle _ _ _).mono ?_
          rintro e u' w'' ⟨rfl, rfl, rfl⟩
          have hF := HZ4.out.fin (.bool false) (.int .i64 0) (.int .i64 0) (.int .i64 0) (.int .i64 0) (.int .i64 0) (.int .i64 0) (.int .i64 0) (.int .i64 4) (.int .i64 5)
          exact head_end HT.out rfl rfl rfl hF.1 hF.2.1 hF.2.2.1 hF.2.2.2
        · have t1 : decide ((nth L 0 : Int) < (nth L 1 : Int) + (nth L 2 : Int) + (nth L 4 : Int)) = false := by simp; omega
          cases bb with
          | false =>
            have HT := Lib.hid (headT_ok HI.out HHL.out HBB.out (fun h => by rcases h with h | ⟨h, _⟩; exact C1 h; cases h))
            clear C1
            go_wp2_with fail
            go_region
            all_goals go_wp2_with fail
            all_goals refine leaves_cons (f := 54) (args := #[.pointer (some ⟨w.heap.size + 1, 0, none⟩), .pointer (some ⟨w.heap.size + 1 + 1, 0, none⟩)]) (by simp) (by simp [go_sem]) ?_
            all_goals refine (stopped_idle _ _ _).mono ?_
            all_goals rintro e u' w'' ⟨rfl, rfl, rfl⟩
            have hF := HZ4.out.fin (.bool false) (.int .i64 (nth L 0)) (.int .i64 (nth L 1)) (.int .i64 (nth L 2)) (.int .i64 (nth L 3)) (.int .i64 (nth L 4)) (.int .i64 (nth L 5)) (.int .i64 (nth L 6)) (.int .i64 q) (.int .i64 0)
            all_goals exact head_end HT.out rfl rfl rfl hF.1.drew hF.2.1.drew hF.2.2.1.drew hF.2.2.2.drew
          | true =>
            by_cases C2 : nth L 1 + nth L 2 + nth L 4 < nth L 0
            · have t2 : decide ((nth L 1 : Int) + (nth L 2 : Int) + (nth L 4 : Int) < (nth L 0 : Int)) = true := by simp; omega
              have HT := Lib.hid (headT_sum HI.out HHL.out HBB.out (.inr ⟨rfl, C2⟩))
              clear C1 C2
              go_wp2_with fail
              refine leaves_cons (f := 54) (args := #[.pointer (some ⟨w.heap.size + 1, 0, none⟩), .pointer (some ⟨w.heap.size + 1 + 1, 0, none⟩)]) (by simp) (by simp [go_sem]) ?_
              refine (stopped_idle _ _ _).mono ?_
              rintro e u' w'' ⟨rfl, rfl, rfl⟩
              have hF := HZ4.out.fin (.bool false) (.int .i64 0) (.int .i64 0) (.int .i64 0) (.int .i64 0) (.int .i64 0) (.int .i64 0) (.int .i64 0) (.int .i64 4) (.int .i64 5)
              exact head_end HT.out rfl rfl rfl hF.1 hF.2.1 hF.2.2.1 hF.2.2.2
            · have t2 : decide ((nth L 1 : Int) + (nth L 2 : Int) + (nth L 4 : Int) < (nth L 0 : Int)) = false := by simp; omega
              have HT := Lib.hid (headT_ok HI.out HHL.out HBB.out (fun h => by rcases h with h | ⟨_, h⟩; exact C1 h; exact C2 h))
              clear C1 C2
              go_wp2_with fail
              go_region
              all_goals go_wp2_with fail
              all_goals refine leaves_cons (f := 54) (args := #[.pointer (some ⟨w.heap.size + 1, 0, none⟩), .pointer (some ⟨w.heap.size + 1 + 1, 0, none⟩)]) (by simp) (by simp [go_sem]) ?_
              all_goals refine (stopped_idle _ _ _).mono ?_
              all_goals rintro e u' w'' ⟨rfl, rfl, rfl⟩
              have hF := HZ4.out.fin (.bool true) (.int .i64 (nth L 0)) (.int .i64 (nth L 1)) (.int .i64 (nth L 2)) (.int .i64 (nth L 3)) (.int .i64 (nth L 4)) (.int .i64 (nth L 5)) (.int .i64 (nth L 6)) (.int .i64 q) (.int .i64 0)
              all_goals exact head_end HT.out rfl rfl rfl hF.1.drew hF.2.1.drew hF.2.2.1.drew hF.2.2.2.drew
  · have HT := Lib.hid (show headT s = (false, [], 0, 2) by unfold headT; rw [if_pos hI])
    have h1 : Lib.hasPrefix s.data.toList [97, 97, 103, 32] = false := by cases h : Lib.hasPrefix s.data.toList [97, 97, 103, 32]; rfl; exact absurd (HIS.out.1 (.inl h)) hI
    have h2 : Lib.hasPrefix s.data.toList [97, 105, 103, 32] = false := by cases h : Lib.hasPrefix s.data.toList [97, 105, 103, 32]; rfl; exact absurd (HIS.out.1 (.inr h)) hI
    clear hI HIS
    go_enter_defers Tryz.func23, Tryz.ntmps23
    go_wp2_with fail
    refine (HK.out.pre _ _ _).mono ?_
    rintro e w' ⟨rfl, rfl⟩
    rw [show (⟨#[97, 97, 103, 32]⟩ : ByteArray).data.toList = [97, 97, 103, 32] from rfl, h1]
    go_wp2_with fail
    refine (HK.out.pre _ _ _).mono ?_
    rintro e w' ⟨rfl, rfl⟩
    rw [show (⟨#[97, 105, 103, 32]⟩ : ByteArray).data.toList = [97, 105, 103, 32] from rfl, h2]
    go_wp2_with fail
    have key : ∀ (u : World) (c : Array Value) (t : TypeId) (n : Nat), u.heap.size = n → Blk (u.alloc (.cells c t)) n c t := fun u c t n h => by subst h; exact Blk.new u c t
    exact head_end HT.out rfl rfl rfl (((Blk.new w _ _).alloc _).alloc _) ((key _ _ _ _ (by simp)).alloc _) (key _ _ _ _ (by simp)) ((((Kp.refl _ w).alloc _).alloc _).alloc _)

end Go.Proofs.YtpfofknjlhaanaaGreatDoor

/-
  ascii.Read's two closures, under a head that has properties alone: a literal with its sign; so many lines of one literal.
-/
namespace Go.Proofs.YtpfofknjlhaanaaGreatDoor
open Go.RowKit

/-- what the closures of a call of ascii.Read stand on: the reader's variable, the head, the reader, the closure's variable -/
structure LBlk (bn : Int) (s : ByteArray) (bv bh br bl : Nat) (w : World) (p : Nat) : Prop where
  v : Blk w bv #[.pointer (some ⟨br, 0, none⟩)] 95
  h : Blk w bh #[.bool false, .int .i64 0, .int .i64 0, .int .i64 0, .int .i64 0, .int .i64 0, .int .i64 bn, .int .i64 0] 41
  r : Blk w br #[.string s, .int .i64 p] 97
  l : Blk w bl #[.func (Fn.func 75) #[] #[.pointer (some ⟨bv, 0, none⟩), .pointer (some ⟨bh, 0, none⟩)]] 124
  n1 : bv ≠ br
  n2 : bh ≠ br
  n3 : bl ≠ br

theorem LBlk.kp {bn : Int} {s : ByteArray} {bv bh br bl p : Nat} {w w' : World} (h : LBlk bn s bv bh br bl w p) {S : Nat → Prop} (hK : Kp S w w') (h1 : ¬ S bv) (h2 : ¬ S bh) (h3 : ¬ S br) (h4 : ¬ S bl) : LBlk bn s bv bh br bl w' p :=
  ⟨h.v.kp hK h1, h.h.kp hK h2, h.r.kp hK h3, h.l.kp hK h4, h.n1, h.n2, h.n3⟩

theorem LBlk.read {bn : Int} {s : ByteArray} {bv bh br bl p q : Nat} {w w' : World} (h : LBlk bn s bv bh br bl w p) (hK : Kp (fun j => j = br) w w') (hB : Blk w' br #[.string s, .int .i64 q] 97) : LBlk bn s bv bh br bl w' q :=
  ⟨h.v.kp hK h.n1, h.h.kp hK h.n2, hB, h.l.kp hK h.n3, h.n1, h.n2, h.n3⟩

set_option maxRecDepth 100000 in
set_option maxHeartbeats 2000000 in
theorem ascii_lit (K : RdK) (bn : Int) (s some_ : ByteArray) (p n q k bv bh br bl : Nat) (w : World) (hs : s.size ≤ 2000000) (hp : p ≤ s.size) (hN : natN s p = (n, q, 0)) (hn : n ≤ 1) (hq : q < s.size) (hok : okS k (bt s q) = true)
    (hk : k < 4 ∧ some_ = ⟨#[32]⟩ ∨ 4 ≤ k ∧ k < 8 ∧ some_ = ⟨#[32, 10]⟩ ∨ k = 8 ∧ some_ = ⟨#[10]⟩) (hL : LBlk bn s bv bh br bl w p) :
    Calls Tryz.prog 75 #[.string some_, .pointer (some ⟨bv, 0, none⟩), .pointer (some ⟨bh, 0, none⟩)] w fun o w' =>
      o = .returned (.tuple #[.int .i64 n, .int .u8 (bt s q)]) ∧ Kp (fun j => j = br) w w' ∧ LBlk bn s bv bh br bl w' (q + 1) := by
  have HNm := Lib.hid (ascii_number (fun s' p' u' hs' hp' => K.nat s' p' u' hs' hp') s p 1 br w (by omega) hp hL.r)
  have HSg := Lib.hid (fun (u : World) (hB : Blk u br #[.string s, .int .i64 q] 97) => sign_k K s q br k u some_ hs (by omega) hk hB)
  have hE : numE s p 1 = 0 := by unfold numE; rw [hN, if_neg (by simp), if_neg (by omega)]
  rw [hE, hN] at HNm
  rw [hok] at HSg
  have HL := Lib.hid hL
  have v0 := hL.v.cells1.1
  have h1 : w.cell? ⟨bh, 1, none⟩ = some (.int .i64 0) := hL.h.cell rfl
  have HQ := Lib.hid hq
  clear hL hE hN hk hok hp hs hn hq K
  go_enter Tryz.func75, Tryz.ntmps75
  go_wp2_with fail
  refine HNm.out.mono ?_
  rintro o w1 hNum
  unfold NumP at hNum
  rcases hNum with ⟨-, rfl, hK1, hB1⟩ | ⟨he, -⟩
  · have HL1 := Lib.hid (HL.out.read hK1 hB1)
    have HK1 := Lib.hid hK1
    clear hK1 hB1 v0 h1
    have v0 := HL1.out.v.cells1.1
    go_wp2_with fail
    refine (HSg.out _ HL1.out.r).mono ?_
    rintro o w2 hSg
    unfold SignP at hSg
    rcases hSg with ⟨-, -, rfl, hK2, hB2⟩ | ⟨hqe, -⟩ | ⟨-, hf, -⟩
    · have HL2 := Lib.hid (HL1.out.read hK2 hB2)
      have HK2 := Lib.hid (HK1.out.trans hK2 (fun _ _ h => h))
      clear hK2 hB2
      go_wp2_with fail
      go_ret2
      exact ⟨rfl, HK2.out, HL2.out⟩
    · exact absurd hqe (by have := HQ.out; omega)
    · cases hf
  · exact absurd rfl he

set_option maxRecDepth 100000 in
set_option maxHeartbeats 2000000 in
theorem ascii_lits0 (bl : Nat) (w : World) :
    Calls Tryz.prog 76 #[.int .i64 0, .pointer (some ⟨bl, 0, none⟩)] w fun o w' => o = .returned (.slice none 0 0) ∧ w = w' := by
  go_enter Tryz.func76, Tryz.ntmps76
  go_wp2_with fail
  go_loopw [4, 8] (fun v4 v8 wr => v8 = .int .i64 0 ∧ v4 = .slice none 0 0 ∧ wr = w) (fun _ _ _ => 0)
  case atStart => exact ⟨rfl, rfl, rfl⟩
  case round =>
    obtain ⟨rfl, rfl, rfl⟩ := hrel
    go_wp2_with fail
    go_ret
    exact ⟨rfl, rfl⟩

set_option maxRecDepth 100000 in
set_option maxHeartbeats 2000000 in
theorem ascii_lits1 (K : RdK) (bn : Int) (s : ByteArray) (p n q bv bh br bl : Nat) (w : World) (hs : s.size ≤ 2000000) (hp : p ≤ s.size) (hN : natN s p = (n, q, 0)) (hn : n ≤ 1) (hq : q < s.size) (hb : bt s q = 10) (hL : LBlk bn s bv bh br bl w p) :
    Calls Tryz.prog 76 #[.int .i64 1, .pointer (some ⟨bl, 0, none⟩)] w fun o w' =>
      ∃ g c, o = .returned (.slice (some ⟨g, 0, none⟩) 1 c) ∧ w.heap.size ≤ g ∧ Own w' w.heap.size 3 (.slice (some ⟨g, 0, none⟩) 1 c) [.int .i64 n] ∧ Kp (fun j => j = br) w w' ∧ LBlk bn s bv bh br bl w' (q + 1) := by
  have HLit := Lib.hid (ascii_lit K bn s ⟨#[10]⟩ p n q 8 bv bh br bl w hs hp hN hn hq (by unfold okS; rw [hb]; decide) (.inr (.inr ⟨rfl, rfl⟩)) hL)
  rw [hb] at HLit
  have HL := Lib.hid hL
  have l0 := hL.l.cells1.1
  clear hL hs hp hN hn hq hb K
  go_enter Tryz.func76, Tryz.ntmps76
  go_wp2_with fail
  go_loopw [4, 8] (fun v4 v8 wr => (v8 = .int .i64 0 ∧ v4 = .slice none 0 0 ∧ wr = w) ∨ (v8 = .int .i64 1 ∧ ∃ g c, v4 = .slice (some ⟨g, 0, none⟩) 1 c ∧ w.heap.size ≤ g ∧ Own wr w.heap.size 3 v4 [.int .i64 n] ∧ Kp (fun j => j = br) w wr ∧ LBlk bn s bv bh br bl wr (q + 1))) (fun _ v8 _ => 1 - (intOf v8).toNat)
  case atStart => exact .inl ⟨rfl, rfl, rfl⟩
  case round =>
    rcases hrel with ⟨rfl, rfl, rfl⟩ | ⟨rfl, g, c, rfl, hg, hO, hK, hL⟩
    · go_wp2_with fail
      refine HLit.out.mono ?_
      rintro o w1 ⟨rfl, hK1, hL1⟩
      have HK1 := Lib.hid hK1
      have HL1 := Lib.hid hL1
      have hsz := hK1.size
      clear hK1 hL1 l0
      go_wp2_with (at_builtin; refine wpList_append1 rfl _ _ 24 3 rfl Tryz.underlying24 (by kernel_rfl : (Tryz.prog.info? 3).map (fun i => (i.zero, i.size, i.bytes)) = some (some (.int .i64 0), 1, 8)) rfl (base := wr.heap.size) (Own.nil _ _ _) rfl ⟨w1.heap.size, 0, none⟩ (.int .i64 n) rfl ?c1 rfl ?c2 ?c3 ?c4 ?_)
      case c1 => simp
      case c2 => simp
      case c3 => simp [maxLen]
      case c4 => simp; omega
      intro v3 w3 hO3 hg3
      have hK3 : Kp (fun _ => False) w1 w3 := ((Kp.refl _ w1).alloc _).grown hg3 (fun j hj _ => by simp [Value.ownBlock] at hj)
      obtain ⟨g, c, hv, hg, _⟩ := hO3.leads (by simp)
      change v3 = .slice _ 1 c at hv
      subst hv
      have HRel := Lib.hid (show ∃ g' c', Value.slice (some ⟨g, 0, none⟩) 1 c = .slice (some ⟨g', 0, none⟩) 1 c' ∧ wr.heap.size ≤ g' ∧ Own w3 wr.heap.size 3 (.slice (some ⟨g, 0, none⟩) 1 c) [.int .i64 n] ∧ Kp (fun j => j = br) wr w3 ∧ LBlk bn s bv bh br bl w3 (q + 1) from
        ⟨g, c, rfl, hg, hO3, HK1.out.trans hK3 (fun _ _ h => h.elim), HL1.out.kp hK3 (fun h => h) (fun h => h) (fun h => h) (fun h => h)⟩)
      clear hO3 hg3 hK3
      go_wp2_with fail
      go_roundw
      case rel => exact .inr ⟨rfl, HRel.out⟩
      case measure => simp [intOf]
    · clear l0
      go_wp2_with fail
      go_ret
      exact ⟨g, c, rfl, hg, hO, hK, hL⟩

end Go.Proofs.YtpfofknjlhaanaaGreatDoor

/-
  Slices of structs of k cells each, of the call's own. No program in sight.
-/
namespace Go.Proofs.YtpfofknjlhaanaaGreatDoor
open Go.RowKit

theorem flat_length {k : Nat} : ∀ {rows : List (List Value)}, (∀ r ∈ rows, r.length = k) → rows.flatten.length = rows.length * k
  | [], _ => by simp
  | r :: rows, h => by
    rw [List.flatten_cons, List.length_append, h r (by simp), flat_length (fun x hx => h x (by simp [hx])), List.length_cons, Nat.succ_mul]
    omega

theorem flat_at {k : Nat} : ∀ {rows : List (List Value)}, (∀ r ∈ rows, r.length = k) → ∀ {j i : Nat} {r : List Value} {u : Value}, rows[j]? = some r → r[i]? = some u → rows.flatten[j * k + i]? = some u
  | [], _, j, i, r, u, hj, _ => by simp at hj
  | x :: rows, h, 0, i, r, u, hj, hi => by
    simp at hj
    subst hj
    have hl : i < x.length := (List.getElem?_eq_some_iff.1 hi).1
    rw [List.flatten_cons, List.getElem?_append_left (by omega), Nat.zero_mul, Nat.zero_add]
    exact hi
  | x :: rows, h, j + 1, i, r, u, hj, hi => by
    have hx := h x (by simp)
    rw [List.flatten_cons, List.getElem?_append_right (by rw [hx, Nat.succ_mul]; omega), hx, show (j + 1) * k + i - k = j * k + i by rw [Nat.succ_mul]; omega]
    exact flat_at (fun y hy => h y (by simp [hy])) (by simpa using hj) hi

/-- v owns rows of k cells each -/
structure OwnK (w : World) (base : Nat) (e : TypeId) (k : Nat) (v : Value) (rows : List (List Value)) : Prop where
  own : w.ownsRow base e k v rows.length rows.flatten
  len : ∀ r ∈ rows, r.length = k

section
variable {w w' : World} {base : Nat} {e : TypeId} {k : Nat} {v : Value} {rows : List (List Value)}

theorem OwnK.nil (w : World) (base : Nat) (e : TypeId) (k : Nat) : OwnK w base e k (.slice none 0 0) [] := ⟨World.ownsRow_nil _ _ _ _, fun r h => by cases h⟩

theorem OwnK.form (h : OwnK w base e k v rows) : ∃ a cap, v = .slice a rows.length cap ∧ rows.length ≤ cap ∧ cap ≤ maxLen ∧ (a = none → cap = 0) ∧ (∀ p, a = some p → ∃ g, p = ⟨g, 0, none⟩ ∧ base ≤ g ∧ g < w.heap.size) ∧ RowAt w a rows.flatten := by
  rcases h.own.2 with ⟨rfl, hn⟩ | ⟨g, cap, cur, rfl, hb, hg, hnc, hcm, hcs, htake⟩
  · refine ⟨none, 0, by rw [hn], by omega, by simp [maxLen], fun _ => rfl, fun p hp => by simp at hp, ?_⟩
    have : rows = [] := List.eq_nil_of_length_eq_zero hn
    subst this
    exact RowAt.nil _ _
  · refine ⟨_, cap, rfl, hnc, hcm, (fun h => by cases h), fun p hp => ⟨g, by simpa using hp.symm, hb, (Array.getElem?_eq_some_iff.1 hg).1⟩, ?_⟩
    have hB : Blk w g cur e := hg
    exact hB.rowAt (off := 0) (n := rows.length * k) (by simpa using htake)

theorem OwnK.kp {S : Nat → Prop} (h : OwnK w base e k v rows) (kk : Kp S w w') (hS : ∀ j, v.ownBlock = some j → ¬ S j) : OwnK w' base e k v rows := by
  refine ⟨⟨h.own.1, ?_⟩, h.len⟩
  rcases h.own.2 with hn | ⟨g, cap, cur, rfl, hb, hgg, rest⟩
  · exact .inl hn
  · refine .inr ⟨g, cap, cur, rfl, hb, ?_, rest⟩
    rw [kk.block g (Array.getElem?_eq_some_iff.1 hgg).1 (hS g rfl)]
    exact hgg

theorem OwnK.mono {b' : Nat} (h : OwnK w base e k v rows) (hb : b' ≤ base) : OwnK w b' e k v rows := by
  refine ⟨⟨h.own.1, ?_⟩, h.len⟩
  rcases h.own.2 with hn | ⟨g, cap, cur, rfl, hg, hgg, rest⟩
  · exact .inl hn
  · exact .inr ⟨g, cap, cur, rfl, by omega, hgg, rest⟩

theorem OwnK.lt (h : OwnK w base e k v rows) : ∀ j, v.ownBlock = some j → base ≤ j ∧ j < w.heap.size := World.ownsRow.lt h.own

theorem OwnK.leads (h : OwnK w base e k v rows) (hc : 0 < rows.length) : ∃ g cap, v = .slice (some ⟨g, 0, none⟩) rows.length cap ∧ base ≤ g ∧ g < w.heap.size := by
  rcases h.own.2 with ⟨rfl, hn⟩ | ⟨g, cap, cur, rfl, hb, hg, _⟩
  · omega
  · exact ⟨g, cap, rfl, hb, (Array.getElem?_eq_some_iff.1 hg).1⟩

theorem OwnK.alloc (h : OwnK w base e k v rows) (o : Obj) : OwnK (w.alloc o) base e k v rows := ⟨World.ownsRow.alloc h.own o, h.len⟩
theorem OwnK.drew (h : OwnK w base e k v rows) : OwnK w.drew base e k v rows := ⟨h.own, h.len⟩
theorem OwnK.drewN (h : OwnK w base e k v rows) (n : Nat) : OwnK (w.drewN n) base e k v rows := ⟨h.own, h.len⟩
end

/-- the row of cells at a, as rows of k cells: cell i of row j -/
theorem RowAt.cellAt {w : World} {a : Option Addr} {k : Nat} {rows : List (List Value)} (h : RowAt w a rows.flatten) (hl : ∀ r ∈ rows, r.length = k) {j i : Nat} {r : List Value} {u : Value} (hj : rows[j]? = some r) (hi : r[i]? = some u) : Elem w a (j * k + i) u :=
  h _ _ (flat_at hl hj hi)

/-- 'append(v, x)' of one struct x of k cells, which lies at the head of block ad -/
theorem wpList_appendK {P : Program} {w : World} {ops : Array Oper} {rest : List Oper} {o : Oper} {a : Act} {Q : Exit → Act → World → Prop} (hgd : o.guard = none) (s x : Operand) (t e : TypeId)
    (ho : o.op = .call { callee := .builtin .append, args := #[s, x], argTypes := #[t, t] }) {z : Value} {k bytes : Nat}
    (ht : P.underlying t = some (.slice e)) (hI : (P.info? e).map (fun i => (i.zero, i.size, i.bytes)) = some (some z, k, bytes)) (hzs : z.cells.size = k) (hk : 0 < k)
    {base : Nat} {v : Value} {rows : List (List Value)} (hown : OwnK w base e k v rows) (hs : a.eval s = v) (b : Nat) (r : List Value) (hx : a.eval x = .slice (some ⟨b, 0, none⟩) 1 1) (hr : r.length = k) (hnew : ∀ j u, r[j]? = some u → w.cell? ⟨b, j, none⟩ = some u) (h1 : ∀ u ∈ r, u.oneCell' = true)
    (hbytes : (rows.length + 1) * bytes ≤ 140737488355328) (hm : rows.length + 1 ≤ maxLen) (hbase : base ≤ w.heap.size)
    (h : ∀ v' w', OwnK w' base e k v' (rows ++ [r]) → w.grownBy w' v.ownBlock → (v'.ownBlock = v.ownBlock ∨ v'.ownBlock = some w.heap.size) → wpList P ops Q rest (a.put o.dst v') w') : wpList P ops Q (o :: rest) a w := by
  obtain ⟨i0, hi, hz0, hz1, hz2⟩ := info_parts hI
  refine wpList_append_own_at _ hgd s x t ho base e i0 z k bytes ht hi hz0 hz1 hz2 hzs hk v rows.length rows.flatten hs hown.own ⟨b, 0, none⟩ 1 1 r hx (by omega) ?_ h1 hm hbytes hbase ?_
  · intro j u hj
    rw [add_plain', Nat.zero_add]
    exact hnew j u hj
  · intro v' w' h2 h3 _ h5
    refine h v' w' ⟨?_, ?_⟩ h3 h5
    · rw [List.length_append, List.flatten_append]
      simpa using h2
    · intro x hx
      rcases List.mem_append.1 hx with h | h
      · exact hown.len x h
      · simp at h; subst h; exact hr

end Go.Proofs.YtpfofknjlhaanaaGreatDoor

/-
  ascii.Read of the lines of a circuit that has properties alone. (Printed by mkaigread.py.)
-/
namespace Go.Proofs.YtpfofknjlhaanaaGreatDoor
open Go.RowKit

def circz : Array Value := #[.int .i64 0, .slice none 0 0, .slice none 0 0, .slice none 0 0, .slice none 0 0, .slice none 0 0, .slice none 0 0, .slice none 0 0, .string ⟨#[]⟩]
def headB (bn : Int) : Array Value := #[.bool false, .int .i64 0, .int .i64 0, .int .i64 0, .int .i64 0, .int .i64 0, .int .i64 bn, .int .i64 0]

theorem four_new (w : World) (c : Array Value) (t : TypeId) : Blk ((((w.alloc (.cells c t)).alloc (.cells circz 29)).alloc (.cells #[.int .i64 0] 3)).alloc (.cells #[.int .i64 0] 30)) w.heap.size c t ∧
    Blk ((((w.alloc (.cells c t)).alloc (.cells circz 29)).alloc (.cells #[.int .i64 0] 3)).alloc (.cells #[.int .i64 0] 30)) (w.heap.size + 1) circz 29 ∧
    Blk ((((w.alloc (.cells c t)).alloc (.cells circz 29)).alloc (.cells #[.int .i64 0] 3)).alloc (.cells #[.int .i64 0] 30)) (w.heap.size + 1 + 1) #[.int .i64 0] 3 ∧
    Blk ((((w.alloc (.cells c t)).alloc (.cells circz 29)).alloc (.cells #[.int .i64 0] 3)).alloc (.cells #[.int .i64 0] 30)) (w.heap.size + 1 + 1 + 1) #[.int .i64 0] 30 ∧
    Kp (fun _ => False) w ((((w.alloc (.cells c t)).alloc (.cells circz 29)).alloc (.cells #[.int .i64 0] 3)).alloc (.cells #[.int .i64 0] 30)) := by
  have key : ∀ (u : World) (c : Array Value) (t : TypeId) (n : Nat), u.heap.size = n → Blk (u.alloc (.cells c t)) n c t := fun u c t n h => by subst h; exact Blk.new u c t
  exact ⟨(((Blk.new w _ _).alloc _).alloc _).alloc _, ((key _ _ _ _ (by simp)).alloc _).alloc _, (key _ _ _ _ (by simp)).alloc _, key _ _ _ _ (by simp), ((((Kp.refl _ w).alloc _).alloc _).alloc _).alloc _⟩

theorem three_new (w : World) (c0 c1 c2 : Array Value) (t0 t1 t2 : TypeId) :
    Blk (((w.alloc (.cells c0 t0)).alloc (.cells c1 t1)).alloc (.cells c2 t2)).drew w.heap.size c0 t0 ∧ Blk (((w.alloc (.cells c0 t0)).alloc (.cells c1 t1)).alloc (.cells c2 t2)).drew (w.heap.size + 1) c1 t1 ∧
    Blk (((w.alloc (.cells c0 t0)).alloc (.cells c1 t1)).alloc (.cells c2 t2)).drew (w.heap.size + 1 + 1) c2 t2 := by
  have key : ∀ (u : World) (c : Array Value) (t : TypeId) (n : Nat), u.heap.size = n → Blk (u.alloc (.cells c t)) n c t := fun u c t n h => by subst h; exact Blk.new u c t
  exact ⟨((Blk.new w _ _).alloc _).alloc _, (key _ _ _ _ (by simp)).alloc _, key _ _ _ _ (by simp)⟩

theorem Blk.cells9 {w : World} {b : Nat} {x0 x1 x2 x3 x4 x5 x6 x7 x8 : Value} {t : TypeId} (h : Blk w b #[x0, x1, x2, x3, x4, x5, x6, x7, x8] t) :
    w.cell? ⟨b, 0, none⟩ = some x0 ∧ w.cell? ⟨b, 1, none⟩ = some x1 ∧ w.cell? ⟨b, 2, none⟩ = some x2 ∧ w.cell? ⟨b, 3, none⟩ = some x3 ∧ w.cell? ⟨b, 4, none⟩ = some x4 ∧ w.cell? ⟨b, 5, none⟩ = some x5 ∧ w.cell? ⟨b, 6, none⟩ = some x6 ∧ w.cell? ⟨b, 7, none⟩ = some x7 ∧ w.cell? ⟨b, 8, none⟩ = some x8 :=
  ⟨h.cell rfl, h.cell rfl, h.cell rfl, h.cell rfl, h.cell rfl, h.cell rfl, h.cell rfl, h.cell rfl, h.cell rfl⟩

/-- nine cells, set one by one -/
def set9 (w : World) (b : Nat) (y0 y1 y2 y3 y4 y5 y6 y7 y8 : Value) : World :=
  ((((((((w.setCell ⟨b, 0, none⟩ y0).setCell ⟨b, 1, none⟩ y1).setCell ⟨b, 2, none⟩ y2).setCell ⟨b, 3, none⟩ y3).setCell ⟨b, 4, none⟩ y4).setCell ⟨b, 5, none⟩ y5).setCell ⟨b, 6, none⟩ y6).setCell ⟨b, 7, none⟩ y7).setCell ⟨b, 8, none⟩ y8

theorem Blk.set9 {w : World} {b : Nat} {x0 x1 x2 x3 x4 x5 x6 x7 x8 : Value} {t : TypeId} (h : Blk w b #[x0, x1, x2, x3, x4, x5, x6, x7, x8] t) (y0 y1 y2 y3 y4 y5 y6 y7 y8 : Value) :
    Blk (set9 w b y0 y1 y2 y3 y4 y5 y6 y7 y8) b #[y0, y1, y2, y3, y4, y5, y6, y7, y8] t := by
  have h7 := ((((((((h.set_same 0 y0).set_same 1 y1).set_same 2 y2).set_same 3 y3).set_same 4 y4).set_same 5 y5).set_same 6 y6).set_same 7 y7).set_same 8 y8
  unfold Go.Proofs.YtpfofknjlhaanaaGreatDoor.set9
  simpa only [List.setIfInBounds_toArray, List.set_cons_zero, List.set_cons_succ] using h7

theorem Kp.set9 (w : World) (b : Nat) (y0 y1 y2 y3 y4 y5 y6 y7 y8 : Value) : Kp (fun j => j = b) w (set9 w b y0 y1 y2 y3 y4 y5 y6 y7 y8) :=
  (((((((((Kp.refl (fun j => j = b) w).setCell (p := ⟨b, 0, none⟩) (fun _ => rfl) y0).setCell (p := ⟨b, 1, none⟩) (fun _ => rfl) y1).setCell (p := ⟨b, 2, none⟩) (fun _ => rfl) y2).setCell (p := ⟨b, 3, none⟩) (fun _ => rfl) y3).setCell (p := ⟨b, 4, none⟩) (fun _ => rfl) y4).setCell (p := ⟨b, 5, none⟩) (fun _ => rfl) y5).setCell (p := ⟨b, 6, none⟩) (fun _ => rfl) y6).setCell (p := ⟨b, 7, none⟩) (fun _ => rfl) y7).setCell (p := ⟨b, 8, none⟩) (fun _ => rfl) y8

/-- the circuit that is read -/
def circA (i la o b c : Value) : Array Value := #[.int .i64 0, i, la, o, b, c, .slice none 0 0, .slice none 0 0, .string ⟨#[]⟩]

/-- what a call of ascii.Read holds ahead of its closures -/
structure RSt (bn : Int) (p0 : Nat) (s : ByteArray) (w wx : World) (bv br bo : Nat) : Prop where
  h : Blk wx w.heap.size (headB bn) 41
  c : Blk wx (w.heap.size + 1) circz 29
  a : Blk wx (w.heap.size + 1 + 1) #[.int .i64 0] 3
  e : Blk wx (w.heap.size + 1 + 1 + 1) #[.int .i64 0] 30
  v : Blk wx bv #[.pointer (some ⟨br, 0, none⟩)] 95
  r : Blk wx br #[.string s, .int .i64 p0] 97
  o : Blk wx bo (circA (.slice none 0 0) (.slice none 0 0) (.slice none 0 0) (.slice none 0 0) (.slice none 0 0)) 29
  ne : bv ≠ br ∧ bo ≠ br ∧ bo ≠ bv ∧ w.heap.size + 3 < bv ∧ w.heap.size + 3 < br ∧ w.heap.size + 3 < bo
  kp : Kp (fun _ => False) w wx

/-- with the closures -/
structure XSt (bn : Int) (s : ByteArray) (w wx : World) (bv br bo bl p : Nat) (C : Array Value) : Prop where
  L : LBlk bn s bv w.heap.size br bl wx p
  c : Blk wx (w.heap.size + 1) circz 29
  a : Blk wx (w.heap.size + 1 + 1) #[.int .i64 0] 3
  e : Blk wx (w.heap.size + 1 + 1 + 1) #[.int .i64 0] 30
  o : Blk wx bo C 29
  ne : bv ≠ br ∧ bo ≠ br ∧ bo ≠ bv ∧ bl ≠ bo ∧ bl ≠ bv ∧ bl ≠ br ∧ w.heap.size + 3 < bv ∧ w.heap.size + 3 < br ∧ w.heap.size + 3 < bo ∧ w.heap.size + 3 < bl
  kp : Kp (fun _ => False) w wx

theorem RSt.one {bn : Int} {p0 : Nat} {s : ByteArray} {w wx : World} {bv br bo : Nat} (h : RSt bn p0 s w wx bv br bo) : RSt bn p0 s w (wx.setCell ⟨bo, 1, none⟩ (.slice none 0 0)) bv br bo := by
  have := h.ne
  have hK := Kp.set wx ⟨bo, 1, none⟩ (.slice none 0 0)
  exact ⟨h.h.kp hK (by simp; omega), h.c.kp hK (by simp; omega), h.a.kp hK (by simp; omega), h.e.kp hK (by simp; omega), h.v.kp hK (by simp; omega), h.r.kp hK (by simp; omega), h.o.set_same 1 (.slice none 0 0), h.ne, h.kp.setCell (p := ⟨bo, 1, none⟩) (by simp; omega) _⟩

theorem RSt.lit {bn : Int} {p0 : Nat} {s : ByteArray} {w wx : World} {bv br bo : Nat} (h : RSt bn p0 s w wx bv br bo) :
    XSt bn s w (wx.alloc (.cells #[.func (Fn.func 75) #[] #[.pointer (some ⟨bv, 0, none⟩), .pointer (some ⟨w.heap.size, 0, none⟩)]] 124)) bv br bo wx.heap.size p0 (circA (.slice none 0 0) (.slice none 0 0) (.slice none 0 0) (.slice none 0 0) (.slice none 0 0)) := by
  have := h.ne
  have := h.v.lt
  have := h.r.lt
  have := h.o.lt
  have := h.h.lt
  exact ⟨⟨h.v.alloc _, h.h.alloc _, h.r.alloc _, Blk.new _ _ _, by omega, by omega, by omega⟩, h.c.alloc _, h.a.alloc _, h.e.alloc _, h.o.alloc _, by omega, h.kp.alloc _⟩

section
variable {bn : Int} {s : ByteArray} {w wx : World} {bv br bo bl p : Nat} {C : Array Value}

theorem XSt.kpF {w2 : World} (h : XSt bn s w wx bv br bo bl p C) (hK : Kp (fun _ => False) wx w2) : XSt bn s w w2 bv br bo bl p C :=
  ⟨h.L.kp hK (fun h => h) (fun h => h) (fun h => h) (fun h => h), h.c.kp hK (fun h => h), h.a.kp hK (fun h => h), h.e.kp hK (fun h => h), h.o.kp hK (fun h => h), h.ne, h.kp.trans hK (fun _ _ h => h)⟩

theorem XSt.kpN {w2 : World} {S : Nat → Prop} (h : XSt bn s w wx bv br bo bl p C) (hK : Kp S wx w2) (hS : ∀ j, j < wx.heap.size → ¬ S j) : XSt bn s w w2 bv br bo bl p C :=
  h.kpF (hK.mono (fun i hi h => hS i hi h))

theorem XSt.kpS {w2 : World} {S : Nat → Prop} (h : XSt bn s w wx bv br bo bl p C) (hK : Kp S wx w2) (hS : ∀ j, S j → j ≠ bv ∧ j ≠ br ∧ j ≠ bo ∧ j ≠ bl ∧ w.heap.size + 3 < j) : XSt bn s w w2 bv br bo bl p C := by
  have hn := h.ne
  refine ⟨h.L.kp hK (fun h => absurd rfl (hS _ h).1) (fun h => by have := (hS _ h).2.2.2.2; omega) (fun h => absurd rfl (hS _ h).2.1) (fun h => absurd rfl (hS _ h).2.2.2.1), h.c.kp hK (fun h => by have := (hS _ h).2.2.2.2; omega), h.a.kp hK (fun h => by have := (hS _ h).2.2.2.2; omega), h.e.kp hK (fun h => by have := (hS _ h).2.2.2.2; omega), h.o.kp hK (fun h => absurd rfl (hS _ h).2.2.1), h.ne, h.kp.trans hK (fun i hi h => by have := (hS _ h).2.2.2.2; omega)⟩

theorem XSt.read {q : Nat} {w2 : World} (h : XSt bn s w wx bv br bo bl p C) (hK : Kp (fun j => j = br) wx w2) (hL : LBlk bn s bv w.heap.size br bl w2 q) : XSt bn s w w2 bv br bo bl q C := by
  have := h.ne
  exact ⟨hL, h.c.kp hK (by omega), h.a.kp hK (by omega), h.e.kp hK (by omega), h.o.kp hK (by omega), h.ne, h.kp.trans hK (fun i hi h => by omega)⟩

theorem XSt.set (h : XSt bn s w wx bv br bo bl p C) (i : Nat) (v : Value) : XSt bn s w (wx.setCell ⟨bo, i, none⟩ v) bv br bo bl p (C.setIfInBounds i v) := by
  have := h.ne
  have hK := Kp.set wx ⟨bo, i, none⟩ v
  exact ⟨h.L.kp hK (by simp; omega) (by simp; omega) (by simp; omega) (by simp; omega), h.c.kp hK (by simp; omega), h.a.kp hK (by simp; omega), h.e.kp hK (by simp; omega), h.o.set_same i v, h.ne, h.kp.setCell (p := ⟨bo, i, none⟩) (by simp; omega) v⟩
end

theorem XSt.fin {bn : Int} {s : ByteArray} {w wx : World} {bv br bo bl q : Nat} {C : Array Value} (h : XSt bn s w wx bv br bo bl q C) (y0 y1 y2 y3 y4 y5 y6 y7 y8 p e : Value) :
    Blk (((set9 wx (w.heap.size + 1) y0 y1 y2 y3 y4 y5 y6 y7 y8).setCell ⟨w.heap.size + 1 + 1, 0, none⟩ p).setCell ⟨w.heap.size + 1 + 1 + 1, 0, none⟩ e).drew (w.heap.size + 1) #[y0, y1, y2, y3, y4, y5, y6, y7, y8] 29 ∧ Blk (((set9 wx (w.heap.size + 1) y0 y1 y2 y3 y4 y5 y6 y7 y8).setCell ⟨w.heap.size + 1 + 1, 0, none⟩ p).setCell ⟨w.heap.size + 1 + 1 + 1, 0, none⟩ e).drew (w.heap.size + 1 + 1) #[p] 3 ∧ Blk (((set9 wx (w.heap.size + 1) y0 y1 y2 y3 y4 y5 y6 y7 y8).setCell ⟨w.heap.size + 1 + 1, 0, none⟩ p).setCell ⟨w.heap.size + 1 + 1 + 1, 0, none⟩ e).drew (w.heap.size + 1 + 1 + 1) #[e] 30 ∧ Kp (fun _ => False) w (((set9 wx (w.heap.size + 1) y0 y1 y2 y3 y4 y5 y6 y7 y8).setCell ⟨w.heap.size + 1 + 1, 0, none⟩ p).setCell ⟨w.heap.size + 1 + 1 + 1, 0, none⟩ e).drew ∧
    ∀ g k v, w.heap.size + 3 < g → wx.cell? ⟨g, k, none⟩ = some v → ((((set9 wx (w.heap.size + 1) y0 y1 y2 y3 y4 y5 y6 y7 y8).setCell ⟨w.heap.size + 1 + 1, 0, none⟩ p).setCell ⟨w.heap.size + 1 + 1 + 1, 0, none⟩ e).drew).cell? ⟨g, k, none⟩ = some v := by
  have hk := Kp.set9 wx (w.heap.size + 1) y0 y1 y2 y3 y4 y5 y6 y7 y8
  have hK : Kp (fun j => w.heap.size ≤ j ∧ j ≤ w.heap.size + 3) wx (((set9 wx (w.heap.size + 1) y0 y1 y2 y3 y4 y5 y6 y7 y8).setCell ⟨w.heap.size + 1 + 1, 0, none⟩ p).setCell ⟨w.heap.size + 1 + 1 + 1, 0, none⟩ e).drew := (((hk.mono (fun i hi h => by omega)).setCell (p := ⟨w.heap.size + 1 + 1, 0, none⟩) (fun _ => by simp <;> omega) p).setCell (p := ⟨w.heap.size + 1 + 1 + 1, 0, none⟩) (fun _ => by simp <;> omega) e).drew
  refine ⟨(((h.c.set9 y0 y1 y2 y3 y4 y5 y6 y7 y8).set_other (by simp) _).set_other (by simp <;> omega) _).drew, (((h.a.kp hk (by omega)).set_same 0 p).set_other (by simp) _).drew, (((h.e.kp hk (by omega)).set_other (by simp) _).set_same 0 e).drew,
    h.kp.trans hK (fun i hi h => by omega), fun g k v hg hc => ?_⟩
  exact (World.cell?_of_block (a := ⟨g, k, none⟩) (hK.block g (World.block_lt_of_cell? wx _ hc) (by omega))).trans hc

theorem XSt.drew {bn : Int} {s : ByteArray} {w wx : World} {bv br bo bl p : Nat} {C : Array Value} (h : XSt bn s w wx bv br bo bl p C) : XSt bn s w wx.drew bv br bo bl p C :=
  h.kpF (Kp.refl _ wx).drew

theorem XSt.heads {bn : Int} {s : ByteArray} {w wx : World} {bv br bo bl p : Nat} {C : Array Value} (h : XSt bn s w wx bv br bo bl p C) :
    wx.cell? ⟨w.heap.size, 4, none⟩ = some (.int .i64 0) ∧ wx.cell? ⟨w.heap.size, 6, none⟩ = some (.int .i64 bn) ∧ wx.cell? ⟨w.heap.size, 7, none⟩ = some (.int .i64 0) := ⟨h.L.h.cell rfl, h.L.h.cell rfl, h.L.h.cell rfl⟩


/-- what the closure of so many literals, each of them 1, leaves -/
def LitsP (nb : Nat) (s : ByteArray) (bv bh br bl q : Nat) (u : World) (o : Ending) (u' : World) : Prop :=
  ∃ ab cb, o = .returned (.slice ab nb cb) ∧ IntsAt u' ab (List.replicate nb 1) ∧ (∀ x, ab = some x → u.heap.size ≤ x.block ∧ x.block < u'.heap.size) ∧ Kp (fun j => j = br) u u' ∧ LBlk nb s bv bh br bl u' q

set_option maxRecDepth 100000 in
set_option maxHeartbeats 8000000 in
theorem ascii_Read_b (nb : Nat) (s : ByteArray) (p0 q0 : Nat) (w : World) (hs : p0 ≤ s.size)
    (HL : ∀ (bv bh br bl : Nat) (u : World), LBlk nb s bv bh br bl u p0 → Calls Tryz.prog 76 #[.int .i64 (nb : Nat), .pointer (some ⟨bl, 0, none⟩)] u (LitsP nb s bv bh br bl q0 u)) :
    Calls Tryz.prog 57 #[.string s, .int .i64 p0, .agg (headB nb)] w fun o w' => ∃ ab cb,
      o = .returned (.tuple #[.agg #[.int .i64 0, .slice none 0 0, .slice none 0 0, .slice none 0 0, .slice ab nb cb, .slice none 0 0, .slice none 0 0, .slice none 0 0, .string ⟨#[]⟩], .int .i64 q0, .int .i64 0]) ∧
      IntsAt w' ab (List.replicate nb 1) ∧ (∀ x, ab = some x → w.heap.size ≤ x.block ∧ x.block < w'.heap.size) ∧ Kp (fun _ => False) w w' := by
  have hmf : ∀ (fn : Fn) (first cap : Array Value) (w : World), (Instr.makeFunc fn first cap).run Tryz.prog w = .ok (.func fn first cap) w := fun _ _ _ _ => rfl
  have d1 : (decide ((p0 : Int) < 0) || decide ((s.size : Int) < (p0 : Int))) = false := by simp; omega
  have d2 : decide ((p0 : Int) < 0) = false := by simp
  have d3 : decide (s.size < p0) = false := by simp; omega
  have HL := Lib.hid HL
  clear hs
  obtain ⟨wz, hwz⟩ : ∃ wz : World, wz = (((w.alloc (.cells #[.bool false, .int .i64 0, .int .i64 0, .int .i64 0, .int .i64 0, .int .i64 0, .int .i64 (nb : Nat), .int .i64 0] 41)).alloc (.cells #[.int .i64 0, .slice none 0 0, .slice none 0 0, .slice none 0 0, .slice none 0 0, .slice none 0 0, .slice none 0 0, .slice none 0 0, .string ⟨#[]⟩] 29)).alloc (.cells #[.int .i64 0] 3)).alloc (.cells #[.int .i64 0] 30) := ⟨_, rfl⟩
  have HB := Lib.hid (four_new w (headB nb) 41)
  rw [show (((w.alloc (.cells (headB nb) 41)).alloc (.cells circz 29)).alloc (.cells #[.int .i64 0] 3)).alloc (.cells #[.int .i64 0] 30) = wz from hwz.symm] at HB
  have HZ := Lib.hid hwz
  clear hwz
  unfold headB at *
  go_enter_defers Tryz.func57, Tryz.ntmps57
  go_upto_region 4 with fail
  rw [show (((w.alloc (.cells #[.bool false, .int .i64 0, .int .i64 0, .int .i64 0, .int .i64 0, .int .i64 0, .int .i64 (nb : Nat), .int .i64 0] 41)).alloc (.cells #[.int .i64 0, .slice none 0 0, .slice none 0 0, .slice none 0 0, .slice none 0 0, .slice none 0 0, .slice none 0 0, .slice none 0 0, .string ⟨#[]⟩] 29)).alloc (.cells #[.int .i64 0] 3)).alloc (.cells #[.int .i64 0] 30) = wz from HZ.out.symm]
  go_cut [9, 10] from 25 to 31 (fun s9 s10 wx => ∃ bv br bo, s9 = .pointer (some ⟨bv, 0, none⟩) ∧ s10 = .pointer (some ⟨bo, 0, none⟩) ∧ RSt nb p0 s w wx bv br bo)
  case first =>
    have HH := Lib.hid (fun u (hK : Kp (fun j => w.heap.size + 4 ≤ j) wz u) => (HB.out.1.kp hK (by omega)).cell (i := 1) (v := .int .i64 0) rfl)
    have h1 := HH.out _ (Kp.refl _ _)
    have HW := Lib.hid (HB.out.2.2.2.1.lt)
    clear d1 d2 d3 hmf HZ
    go_region_held3 (fun u => u.cell? ⟨w.heap.size, 1, none⟩ = some (.int .i64 0)) (exact HH.out _ (by repeat (with_reducible first | exact Kp.refl _ _ | apply Kp.alloc | apply Kp.drew))) (fail)
    all_goals go_wp2_with fail
    all_goals go_meet
    all_goals first
      | (refine ⟨_, wz.heap.size, _, rfl, rfl, ((HB.out.1.alloc _).alloc _).alloc _, ((HB.out.2.1.alloc _).alloc _).alloc _, ((HB.out.2.2.1.alloc _).alloc _).alloc _, ((HB.out.2.2.2.1.alloc _).alloc _).alloc _, ?_, ?_, ?_, ?_, (((HB.out.2.2.2.2.alloc _).alloc _).alloc _).drew⟩ <;> first | exact (three_new _ _ _ _ _ _ _).1 | exact (three_new _ _ _ _ _ _ _).2.1 | exact (three_new _ _ _ _ _ _ _).2.2 | (have := HW.out; omega))
      | (refine ⟨_, wz.heap.size + 1, _, rfl, rfl, ((HB.out.1.alloc _).alloc _).alloc _, ((HB.out.2.1.alloc _).alloc _).alloc _, ((HB.out.2.2.1.alloc _).alloc _).alloc _, ((HB.out.2.2.2.1.alloc _).alloc _).alloc _, ?_, ?_, ?_, ?_, (((HB.out.2.2.2.2.alloc _).alloc _).alloc _).drew⟩ <;> first | exact (three_new _ _ _ _ _ _ _).1 | exact (three_new _ _ _ _ _ _ _).2.1 | exact (three_new _ _ _ _ _ _ _).2.2 | (have := HW.out; omega))
      | (refine ⟨_, wz.heap.size + 1 + 1, _, rfl, rfl, ((HB.out.1.alloc _).alloc _).alloc _, ((HB.out.2.1.alloc _).alloc _).alloc _, ((HB.out.2.2.1.alloc _).alloc _).alloc _, ((HB.out.2.2.2.1.alloc _).alloc _).alloc _, ?_, ?_, ?_, ?_, (((HB.out.2.2.2.2.alloc _).alloc _).alloc _).drew⟩ <;> first | exact (three_new _ _ _ _ _ _ _).1 | exact (three_new _ _ _ _ _ _ _).2.1 | exact (three_new _ _ _ _ _ _ _).2.2 | (have := HW.out; omega))
  case rest =>
  obtain ⟨bv, br, bo, rfl, rfl, hR⟩ := hcut
  have HX : Hid (XSt nb s w ((wc.setCell ⟨bo, 1, none⟩ (.slice none 0 0)).alloc (.cells #[.func (Fn.func 75) #[] #[.pointer (some ⟨bv, 0, none⟩), .pointer (some ⟨w.heap.size, 0, none⟩)]] 124)) bv br bo wc.heap.size p0 (circA (.slice none 0 0) (.slice none 0 0) (.slice none 0 0) (.slice none 0 0) (.slice none 0 0))) := Lib.hid (by
    have h := hR.one.lit
    rw [show (wc.setCell ⟨bo, 1, none⟩ (.slice none 0 0)).heap.size = wc.heap.size from by simp [World.setCell]] at h
    exact h)
  have h2 : wc.cell? ⟨w.heap.size, 2, none⟩ = some (.int .i64 0) := hR.h.cell rfl
  have l0 := hR.h.lt
  have l1 := hR.o.lt
  have o1 : wc.cell? ⟨bo, 1, none⟩ = some (.slice none 0 0) := hR.o.cell rfl
  have fo := hR.o.free 1
  clear hR d1 d2 d3
  go_wp2_with fail
  refine (ascii_lits0 _ _).mono ?_
  rintro o w' ⟨rfl, rfl⟩
  go_upto_region 8 with fail
  clear h2 l0 l1 o1 fo
  have h3 := HX.out.L.h.cell (i := 3) (v := .int .i64 0) rfl
  go_cut [11, 12, 40, 41] from 32 to 41 (fun s11 s12 s40 s41 wx => ∃ bl, s11 = .pointer (some ⟨bl, 0, none⟩) ∧ s12 = .func (Fn.func 76) #[] #[.pointer (some ⟨bl, 0, none⟩)] ∧ s40 = .int .i64 0 ∧ s41 = .int .i64 0 ∧
    XSt nb s w wx bv br bo bl p0 (circA (.slice none 0 0) (.slice none 0 0) (.slice none 0 0) (.slice none 0 0) (.slice none 0 0)))
  case first =>
    go_wp2_with fail
    go_meet
    case rel => exact ⟨_, rfl, rfl, rfl, rfl, HX.out⟩
  case rest =>
  clear h3 HX hmf
  obtain ⟨bl, rfl, rfl, rfl, rfl, hX⟩ := hcut
  have HX := Lib.hid hX
  clear hX
  obtain ⟨wa, rfl⟩ : ∃ wa : World, wa = wc := ⟨_, rfl⟩
  go_wp2_with fail
  go_loopw [41] (fun v41 wx => v41 = .int .i64 0 ∧ wx = wa) (fun _ _ => 0)
  case atStart => exact ⟨rfl, rfl⟩
  case round =>
  obtain ⟨rfl, rfl⟩ := hrel
  obtain ⟨wb, rfl⟩ : ∃ wb : World, wb = wr := ⟨_, rfl⟩
  have HLits := Lib.hid (fun (u : World) (hL : LBlk nb s bv w.heap.size br bl u p0) => HL.out bv w.heap.size br bl u hL)
  go_upto_region 17 with fail
  go_cut [] from 71 to 85 (fun wx => ∃ ab cb, (∀ x, ab = some x → w.heap.size + 3 < x.block ∧ x.block < wx.heap.size) ∧ IntsAt wx ab (List.replicate nb 1) ∧ XSt nb s w wx bv br bo bl q0 (circA (.slice none 0 0) (.slice none 0 0) (.slice none 0 0) (.slice ab nb cb) (.slice none 0 0)))
  case first =>
    obtain ⟨n4, n6, n7⟩ := HX.out.heads
    have o3 := HX.out.o.cell (i := 3) (v := .slice none 0 0) rfl
    have o4 := HX.out.o.cell (i := 4) (v := .slice none 0 0) rfl
    have o5 := HX.out.o.cell (i := 5) (v := .slice none 0 0) rfl
    have f3 := HX.out.o.free 3
    have f4 := HX.out.o.free 4
    have f5 := HX.out.o.free 5
    go_region_held3 (fun u => u.cell? ⟨w.heap.size, 4, none⟩ = some (.int .i64 0) ∧ u.cell? ⟨w.heap.size, 6, none⟩ = some (.int .i64 (nb : Nat)) ∧ u.cell? ⟨w.heap.size, 7, none⟩ = some (.int .i64 0)) (with_reducible first | exact HX.out.heads | exact HX.out.drew.heads | exact HXb.out.heads | exact HXb.out.drew.heads | exact (HXb.out.set 3 _).heads | exact ((HXb.out.set 3 _).set 4 _).heads | exact (((HXb.out.set 3 _).set 4 _).set 5 _).heads) ((first
      | ((with_reducible refine Calls.mono (ascii_lits0 _ _) ?_)
         rintro o u ⟨rfl, rfl⟩)
      | ((with_reducible refine Calls.mono (HLits.out _ (by with_reducible first | exact HX.out.L | exact HX.out.drew.L)) ?_)
         rintro o u2 ⟨ab, cb, rfl, hOb, hgb, hKb, hLb⟩
         have HXb := Lib.hid (by first | exact HX.out.drew.read hKb hLb | exact HX.out.read hKb hLb)
         have HOb := Lib.hid hOb
         have HKb := Lib.hid hKb
         have HGb := Lib.hid hgb
         clear hKb hLb hOb hgb o3 o4 o5 f3 f4 f5
         have o3 := HXb.out.o.cell (i := 3) (v := .slice none 0 0) rfl
         have o4 := HXb.out.o.cell (i := 4) (v := .slice none 0 0) rfl
         have o5 := HXb.out.o.cell (i := 5) (v := .slice none 0 0) rfl
         have f3 := HXb.out.o.free 3
         have f4 := HXb.out.o.free 4
         have f5 := HXb.out.o.free 5)))
    all_goals go_wp2_with fail
    all_goals go_meet
    all_goals
      have HS := Lib.hid (((HXb.out.set 3 (.slice none 0 0)).set 4 (.slice ab nb cb)).set 5 (.slice none 0 0))
      have q1 := HX.out.o.lt
      have q2 := HX.out.e.lt
      have HN := HX.out.ne
      have sz : (((u2.setCell ⟨bo, 3, none⟩ (.slice none 0 0)).setCell ⟨bo, 4, none⟩ (.slice ab nb cb)).setCell ⟨bo, 5, none⟩ (.slice none 0 0)).heap.size = u2.heap.size := by simp [World.setCell]
      have kb : Kp (fun j => j = bo) u2 (((u2.setCell ⟨bo, 3, none⟩ (.slice none 0 0)).setCell ⟨bo, 4, none⟩ (.slice ab nb cb)).setCell ⟨bo, 5, none⟩ (.slice none 0 0)) :=
        ((Kp.refl (fun j => j = bo) u2).setCell (p := ⟨bo, 3, none⟩) (fun _ => rfl) _).setCell (p := ⟨bo, 4, none⟩) (fun _ => rfl) _ |>.setCell (p := ⟨bo, 5, none⟩) (fun _ => rfl) _
      exact ⟨ab, cb, fun x hx => by obtain ⟨g1, g2⟩ := HGb.out x hx; first | (refine ⟨by (have g3 : wb.heap.size ≤ x.block := g1); omega, ?_⟩; rw [sz]; exact g2), HOb.out.kp kb (fun x hx => by obtain ⟨g1, _⟩ := HGb.out x hx; (have g3 : wb.heap.size ≤ x.block := g1); omega), HS.out⟩
  case rest =>
  obtain ⟨ab, cb, hab, hin, hX⟩ := hcut
  have HXr := Lib.hid hX
  have HAb := Lib.hid hab
  have HIn := Lib.hid hin
  clear hab hin hX HX HLits HL
  have h5 : wc.cell? ⟨w.heap.size, 5, none⟩ = some (.int .i64 0) := HXr.out.L.h.cell rfl
  obtain ⟨c0, c1, c2, c3, c4, c5, c6, c7, c8⟩ := HXr.out.c.cells9
  obtain ⟨o0, o1, o2, o3, o4, o5, o6, o7, o8⟩ := HXr.out.o.cells9
  have v0 := HXr.out.L.v.cells1.1
  have r1 := HXr.out.L.r.cells2.2.1
  obtain ⟨a0, fa⟩ := HXr.out.a.cells1
  obtain ⟨e0, fe⟩ := HXr.out.e.cells1
  have fc := HXr.out.c.free
  have fc0 := fc 0
  have fc1 := fc 1
  have fc2 := fc 2
  have fc3 := fc 3
  have fc4 := fc 4
  have fc5 := fc 5
  have fc6 := fc 6
  have fc7 := fc 7
  have fc8 := fc 8
  clear fc
  have nbr0 : br ≠ w.heap.size + 1 := by have := HXr.out.ne; omega
  have mbr0 : w.heap.size + 1 ≠ br := by have := HXr.out.ne; omega
  have nbv0 : bv ≠ w.heap.size + 1 := by have := HXr.out.ne; omega
  have mbv0 : w.heap.size + 1 ≠ bv := by have := HXr.out.ne; omega
  have nbo0 : bo ≠ w.heap.size + 1 := by have := HXr.out.ne; omega
  have mbo0 : w.heap.size + 1 ≠ bo := by have := HXr.out.ne; omega
  have nbr1 : br ≠ w.heap.size + 1 + 1 := by have := HXr.out.ne; omega
  have mbr1 : w.heap.size + 1 + 1 ≠ br := by have := HXr.out.ne; omega
  have nbv1 : bv ≠ w.heap.size + 1 + 1 := by have := HXr.out.ne; omega
  have mbv1 : w.heap.size + 1 + 1 ≠ bv := by have := HXr.out.ne; omega
  have nbo1 : bo ≠ w.heap.size + 1 + 1 := by have := HXr.out.ne; omega
  have mbo1 : w.heap.size + 1 + 1 ≠ bo := by have := HXr.out.ne; omega
  have nbr2 : br ≠ w.heap.size + 1 + 1 + 1 := by have := HXr.out.ne; omega
  have mbr2 : w.heap.size + 1 + 1 + 1 ≠ br := by have := HXr.out.ne; omega
  have nbv2 : bv ≠ w.heap.size + 1 + 1 + 1 := by have := HXr.out.ne; omega
  have mbv2 : w.heap.size + 1 + 1 + 1 ≠ bv := by have := HXr.out.ne; omega
  have nbo2 : bo ≠ w.heap.size + 1 + 1 + 1 := by have := HXr.out.ne; omega
  have mbo2 : w.heap.size + 1 + 1 + 1 ≠ bo := by have := HXr.out.ne; omega
  go_wp2_with fail
  go_loopw [88] (fun v88 wx => v88 = .int .i64 0 ∧ wx = wc) (fun _ _ => 0)
  case atStart => exact ⟨rfl, rfl⟩
  case round =>
    obtain ⟨rfl, rfl⟩ := hrel
    go_wp2_with fail
    go_region
    all_goals go_wp2_with fail
    all_goals
      have hF := HXr.out.fin (.int .i64 0) (.slice none 0 0) (.slice none 0 0) (.slice none 0 0) (.slice ab nb cb) (.slice none 0 0) (.slice none 0 0) (.slice none 0 0) (.string ⟨#[]⟩) (.int .i64 q0) (.int .i64 0)
      unfold Go.Proofs.YtpfofknjlhaanaaGreatDoor.set9 at hF
      obtain ⟨hB, hA, hE, hK, hO⟩ := hF
      obtain ⟨s0, s1, s2, s3, s4, s5, s6, s7, s8⟩ := hB.cells9
      have sa := hA.cells1.1
      have se := hE.cells1.1
      refine leaves_cons (f := 54) (args := #[.pointer (some ⟨w.heap.size + 1 + 1, 0, none⟩), .pointer (some ⟨w.heap.size + 1 + 1 + 1, 0, none⟩)]) (by simp) (by simp [go_sem]) ?_
      refine (stopped_idle _ _ _).mono ?_
      rintro e u' w'' ⟨rfl, rfl, rfl⟩
      refine ⟨.tuple #[.agg #[.int .i64 0, .slice none 0 0, .slice none 0 0, .slice none 0 0, .slice ab nb cb, .slice none 0 0, .slice none 0 0, .slice none 0 0, .string ⟨#[]⟩], .int .i64 q0, .int .i64 0], ?_, ab, cb, rfl, ?_, ?_, hK⟩
      · simp [results, Tryz.results57, go_sem, s0, s1, s2, s3, s4, s5, s6, s7, s8, sa, se]
      · intro j u hj
        obtain ⟨b, off, e, hc⟩ := HIn.out j u hj
        exact ⟨b, off, e, hO b _ _ (HAb.out _ e).1 hc⟩
      · intro x hx
        obtain ⟨h0, h1⟩ := HAb.out x hx
        exact ⟨by omega, by simpa [World.setCell] using h1⟩

end Go.Proofs.YtpfofknjlhaanaaGreatDoor

/-
  tail.Read where a comment stands at once, and where nothing stands; the closures' contracts at no literal and at one; aiger.readers.
-/
namespace Go.Proofs.YtpfofknjlhaanaaGreatDoor
open Go.RowKit

theorem litsP0 (s : ByteArray) (p bv bh br bl : Nat) (u : World) (hL : LBlk (0 : Nat) s bv bh br bl u p) :
    Calls Tryz.prog 76 #[.int .i64 ((0 : Nat) : Int), .pointer (some ⟨bl, 0, none⟩)] u (LitsP 0 s bv bh br bl p u) :=
  (ascii_lits0 bl u).mono (by rintro o u' ⟨rfl, rfl⟩; exact ⟨none, 0, rfl, RowAt.nil _ _, (fun x hx => by cases hx), Kp.refl _ _, hL⟩)

theorem litsP1 (K : RdK) (s : ByteArray) (p q bv bh br bl : Nat) (u : World) (hs : s.size ≤ 2000000) (hp : p ≤ s.size) (hN : natN s p = (1, q, 0)) (hq : q < s.size) (hb : bt s q = 10) (hL : LBlk (1 : Nat) s bv bh br bl u p) :
    Calls Tryz.prog 76 #[.int .i64 ((1 : Nat) : Int), .pointer (some ⟨bl, 0, none⟩)] u (LitsP 1 s bv bh br bl (q + 1) u) :=
  (ascii_lits1 K (1 : Nat) s p 1 q bv bh br bl u hs hp hN (by omega) hq hb hL).mono (by
    rintro o u' ⟨g, c, rfl, hg, hO, hK, hL'⟩
    refine ⟨some ⟨g, 0, none⟩, c, rfl, ?_, ?_, hK, hL'⟩
    · obtain ⟨_, _, hv, _, _, _, hr⟩ := hO.form
      cases hv
      exact hr
    · intro x hx
      cases hx
      exact ⟨hg, World.block_lt_of_cell? u' _ (hO.cell (j := 0) (u := .int .i64 (1 : Nat)) rfl)⟩)

set_option maxRecDepth 100000 in
theorem tail_ReadM (bn : Int) (s : ByteArray) (q : Nat) (w : World) (hs : s.size ≤ 2000000) (hq : q < s.size) (hm : Lib.hasPrefix (s.extract q s.size).data.toList [99, 10] = true) :
    Calls Tryz.prog 25 #[.string s, .int .i64 q, .agg (headB bn)] w fun e w' => (∃ cm, e = .returned (.tuple #[.slice none 0 0, .string cm, .int .i64 (s.size : Int), .int .i64 0])) ∧ Kp (fun _ => False) w w' := by
  have hmm := @run_makeMap Tryz.prog
  have g0 : decide ((q : Int) < 0) = false := by simp
  have g1 : decide (s.size < q) = false := by simp; omega
  have HK : Hid (∀ (c : Array Value) (o : Obj) (t : TypeId), Kp (fun _ => False) w ((w.alloc (.cells c t)).alloc o)) := Lib.hid (fun c o t => ((Kp.refl _ w).alloc _).alloc _)
  have HM := Lib.hid hm
  have HS := Lib.hid hs
  unfold headB
  clear hm hs
  go_enter Tryz.func25, Tryz.ntmps25
  go_wp2_with fail
  go_loopw [1, 10] (fun v1 v10 wr => v1 = .int .i64 q ∧ v10 = .slice none 0 0 ∧ Kp (fun _ => False) w wr) (fun _ _ _ => 0)
  case atStart => exact ⟨rfl, rfl, HK.out _ _ _⟩
  case round =>
    obtain ⟨rfl, rfl, hK⟩ := hrel
    have p0 : (0 : Int) ≤ (q : Int) := by omega
    have p1 : (q : Int) ≤ (s.size : Int) := by omega
    clear hmm
    go_wp2_with fail
    refine (Tryz.strings_CutPrefix _ _ _).mono ?_
    rintro e w' ⟨rfl, hw⟩
    have hw' := hw.symm; clear hw; subst hw'
    rw [show (({ data := #[99, 10] } : ByteArray).data.toList) = [99, 10] from rfl, HM.out]
    obtain ⟨cm, hcm⟩ : ∃ cm : ByteArray, cm = ⟨(Lib.trimPrefix (s.extract q s.size).data.toList [99, 10]).toArray⟩ := ⟨_, rfl⟩
    rw [← hcm]
    clear hcm
    go_wp2_with fail
    exact bodyPost_ret (v := .tuple #[.slice none 0 0, .string cm, .int .i64 (s.size : Int), .int .i64 0]) (by simp [results, Tryz.results25, go_sem]) rfl ⟨⟨_, rfl⟩, hK⟩

set_option maxRecDepth 100000 in
theorem tail_ReadE (bn : Int) (s : ByteArray) (w : World) (hs : s.size ≤ 2000000) :
    Calls Tryz.prog 25 #[.string s, .int .i64 s.size, .agg (headB bn)] w fun e w' => e = .returned (.tuple #[.slice none 0 0, .string ⟨#[]⟩, .int .i64 (s.size : Int), .int .i64 0]) ∧ Kp (fun _ => False) w w' := by
  have hmm := @run_makeMap Tryz.prog
  have g0 : decide ((s.size : Int) < 0) = false := by simp
  have HK : Hid (∀ (c : Array Value) (o : Obj) (t : TypeId), Kp (fun _ => False) w ((w.alloc (.cells c t)).alloc o)) := Lib.hid (fun c o t => ((Kp.refl _ w).alloc _).alloc _)
  have HS := Lib.hid hs
  unfold headB
  clear hs
  go_enter Tryz.func25, Tryz.ntmps25
  go_wp2_with fail
  go_loopw [1, 10] (fun v1 v10 wr => v1 = .int .i64 s.size ∧ v10 = .slice none 0 0 ∧ Kp (fun _ => False) w wr) (fun _ _ _ => 0)
  case atStart => exact ⟨rfl, rfl, HK.out _ _ _⟩
  case round =>
    obtain ⟨rfl, rfl, hK⟩ := hrel
    clear hmm
    go_wp2_with fail
    exact bodyPost_ret (v := .tuple #[.slice none 0 0, .string ⟨#[]⟩, .int .i64 (s.size : Int), .int .i64 0]) (by simp [results, Tryz.results25, go_sem]) rfl ⟨rfl, hK⟩

def readersMap : Array MapEntry := #[{ key := .bool false, val := .func (Fn.func 57) #[] #[], born := 0 }, { key := .bool true, val := .func (Fn.func 58) #[] #[], born := 1 }]

theorem aiger_readers (w : World) :
    Calls Tryz.prog 24 #[] w fun e w' => ∃ b, e = .returned (.map (some b)) ∧ MapB w' b readersMap 2 ∧ Kp (fun _ => False) w w' := by
  have hmm := @run_makeMap Tryz.prog
  obtain ⟨w1, hp1, hM1, hK1, hs1⟩ := (MapB.new w).put (P := Tryz.prog) (key := .bool false) (.func (Fn.func 57) #[] #[]) Tryz.underlying54 Tryz.underlying4 trivial rfl
  obtain ⟨w2, hp2, hM2, hK2, hs2⟩ := hM1.put (P := Tryz.prog) (key := .bool true) (.func (Fn.func 58) #[] #[]) Tryz.underlying54 Tryz.underlying4 trivial rfl
  have HM := Lib.hid hM2
  have HK := Lib.hid (show Kp (fun _ => False) w w2 from (((Kp.refl (fun _ => False) w).alloc (.map #[] 0)).trans hK1 (fun i hi h => by omega)).trans hK2 (fun i hi h => by omega))
  clear hM1 hM2 hK1 hK2 hs1 hs2
  go_enter Tryz.func24, Tryz.ntmps24
  go_wp2_with fail
  go_ret
  exact ⟨_, rfl, HM.out, HK.out⟩

theorem readers_look {u : World} {b : Nat} (h : MapB u b readersMap 2) : (Instr.lookup 54 (.map (some b)) (.bool false) false).run Tryz.prog u = .ok (.func (Fn.func 57) #[] #[]) u :=
  h.look (i := 0) (d := .bool) Tryz.underlying54 Tryz.underlying4 trivial rfl

end Go.Proofs.YtpfofknjlhaanaaGreatDoor

/-
  The heads of the files of a circuit that has a comment alone, and of the example.
-/
namespace Go.Proofs.YtpfofknjlhaanaaGreatDoor
open Go.RowKit

def preS : ByteArray := ⟨#[97, 97, 103, 32, 48, 32, 48, 32, 48, 32, 48, 32, 48, 10, 99, 10]⟩

theorem preS_cat (cm : ByteArray) : (preS ++ cm).data.toList = [97, 97, 103, 32, 48, 32, 48, 32, 48, 32, 48, 32, 48, 10, 99, 10] ++ cm.data.toList := by
  rw [ByteArray.data_append, Array.toList_append]; rfl

theorem preS_size (cm : ByteArray) : (preS ++ cm).size = 16 + cm.size := by rw [ByteArray.size_append]; rfl

theorem preS_at (cm : ByteArray) {j : Nat} {b : UInt8} (h : ([97, 97, 103, 32, 48, 32, 48, 32, 48, 32, 48, 32, 48, 10, 99, 10] : List UInt8)[j]? = some b) : bt (preS ++ cm) j = b.toNat := by
  have hj : j < 16 := (List.getElem?_eq_some_iff.1 h).1
  have := (bt_drop (s := preS ++ cm) (p := 0) (l := [97, 97, 103, 32, 48, 32, 48, 32, 48, 32, 48, 32, 48, 10, 99, 10] ++ cm.data.toList) (by rw [List.drop_zero]; exact preS_cat cm) (j := j) (b := b) (by rw [List.getElem?_append_left (by simpa using hj)]; exact h)).1
  rwa [Nat.zero_add] at this

theorem natN_zero {s : ByteArray} {p : Nat} (hp : p + 1 < s.size) (h : bt s p = 48) (hd : ¬ isDig s (p + 1)) : natN s p = (0, p + 1, 0) := by
  have hE : endOf s p = p + 1 := endOf_is (by omega) (by omega) (fun k h1 h2 => by
    have : k = p := by omega
    subst this
    unfold isDig; rw [h]; decide) (.inr hd)
  unfold natN
  rw [if_neg (by omega), hE, if_neg (by omega), if_neg (by omega)]
  rw [show p + 1 - p = 1 by omega]
  simp [numb, h]

theorem stepH_zero {s : ByteArray} {k p : Nat} (hk : k < 8) (hp : p + 1 < s.size) (h : bt s p = 48) (hb : bt s (p + 1) = 32) : stepH s k p = (0, p + 2, 0, false) := by
  have hN := natN_zero hp h (by unfold isDig; rw [hb]; decide)
  unfold stepH
  rw [hN]
  simp only
  rw [if_neg (by simp), if_neg (by simp), if_neg (by omega), if_neg (by rw [hb]; omega), if_pos ⟨hb, by omega⟩]

theorem stepH_last {s : ByteArray} {k p : Nat} (hk4 : 4 ≤ k) (hp : p + 1 < s.size) (h : bt s p = 48) (hb : bt s (p + 1) = 10) : stepH s k p = (0, p + 2, 0, true) := by
  have hN := natN_zero hp h (by unfold isDig; rw [hb]; decide)
  unfold stepH
  rw [hN]
  simp only
  rw [if_neg (by simp), if_neg (by simp), if_neg (by omega), if_pos ⟨hb, hk4⟩]

theorem preS_head (cm : ByteArray) : headT (preS ++ cm) = (false, [0, 0, 0, 0, 0], 14, 0) := by
  have hs := preS_size cm
  have h0 := preS_at cm (j := 0) rfl
  have h1 := preS_at cm (j := 1) rfl
  have h2 := preS_at cm (j := 2) rfl
  have h3 := preS_at cm (j := 3) rfl
  have e0 := headL_more (s := preS ++ cm) (l := []) (p := 4) (n := 0) (q := 6) (by simp) (stepH_zero (by simp) (by omega) (preS_at cm (b := 48) rfl) (preS_at cm (b := 32) rfl))
  have e1 := headL_more (s := preS ++ cm) (l := [0]) (p := 6) (n := 0) (q := 8) (by simp) (stepH_zero (by simp) (by omega) (preS_at cm (b := 48) rfl) (preS_at cm (b := 32) rfl))
  have e2 := headL_more (s := preS ++ cm) (l := [0, 0]) (p := 8) (n := 0) (q := 10) (by simp) (stepH_zero (by simp) (by omega) (preS_at cm (b := 48) rfl) (preS_at cm (b := 32) rfl))
  have e3 := headL_more (s := preS ++ cm) (l := [0, 0, 0]) (p := 10) (n := 0) (q := 12) (by simp) (stepH_zero (by simp) (by omega) (preS_at cm (b := 48) rfl) (preS_at cm (b := 32) rfl))
  have e4 := headL_fin (s := preS ++ cm) (l := [0, 0, 0, 0]) (p := 12) (n := 0) (q := 14) (by simp) (stepH_last (by simp) (by omega) (preS_at cm (b := 48) rfl) (preS_at cm (b := 10) rfl))
  have e : headL (preS ++ cm) 9 4 [] = ([0, 0, 0, 0, 0], 14, 0) := ((e0.trans e1).trans (e2.trans e3)).trans e4
  exact headT_ok ⟨by omega, h0, .inl h1, h2, h3⟩ e (by rw [h1]; decide) (by unfold badSum nth; simp)

theorem rdK : RdK := ⟨fun s p u hs hp => octet_Nat_in s p u hs hp, fun s c u => Tryz.strings_IndexByte s c u, fun s p u => Tryz.strings_HasPrefix s p u⟩

theorem pre_ReadHead (cm : ByteArray) (u : World) (h : cm.size ≤ 1900000) : Calls Tryz.prog 23 #[.string (preS ++ cm)] u fun e w' =>
    e = .returned (.tuple #[.agg (headB (0 : Nat)), .int .i64 (14 : Nat), .int .i64 0]) ∧ Kp (fun _ => False) u w' := by
  refine (ascii_ReadHead rdK (preS ++ cm) u (by rw [preS_size]; omega)).mono ?_
  rintro e w' ⟨rfl, hK⟩
  rw [preS_head]
  exact ⟨rfl, hK⟩

theorem pre_tail (cm : ByteArray) : Lib.hasPrefix ((preS ++ cm).extract 14 (preS ++ cm).size).data.toList [99, 10] = true := by
  rw [Lib.extract_to_end, preS_cat]
  simp [Lib.hasPrefix, List.isPrefixOf]

def exL : ByteArray := ⟨#[97, 97, 103, 32, 48, 32, 48, 32, 48, 32, 48, 32, 48, 32, 49, 10, 49, 10]⟩

theorem exL_head : headT exL = (false, [0, 0, 0, 0, 0, 1], 16, 0) := by kernel_rfl
theorem exL_n : natN exL 16 = (1, 17, 0) := by kernel_rfl
theorem exL_b : bt exL 17 = 10 := by kernel_rfl

theorem exL_ReadHead (u : World) : Calls Tryz.prog 23 #[.string exL] u fun e w' =>
    e = .returned (.tuple #[.agg (headB (1 : Nat)), .int .i64 (16 : Nat), .int .i64 0]) ∧ Kp (fun _ => False) u w' := by
  refine (ascii_ReadHead rdK exL u (by decide)).mono ?_
  rintro e w' ⟨rfl, hK⟩
  rw [exL_head]
  exact ⟨rfl, hK⟩

end Go.Proofs.YtpfofknjlhaanaaGreatDoor

/-
  aiger.Parse over its callees' contracts, of a circuit that has properties alone. (Printed by mkaigparse.py.)
-/
namespace Go.Proofs.YtpfofknjlhaanaaGreatDoor
open Go.RowKit

theorem rep1 {nb j : Nat} (h : j < nb) : gi (List.replicate nb 1) j = 1 := by simp [gi, h]

theorem Blk.cells8h {w : World} {b : Nat} {x0 x1 x2 x3 x4 x5 x6 x7 : Value} {t : TypeId} (h : Blk w b #[x0, x1, x2, x3, x4, x5, x6, x7] t) :
    w.cell? ⟨b, 0, none⟩ = some x0 ∧ w.cell? ⟨b, 1, none⟩ = some x1 ∧ w.cell? ⟨b, 2, none⟩ = some x2 ∧ w.cell? ⟨b, 3, none⟩ = some x3 ∧ w.cell? ⟨b, 4, none⟩ = some x4 ∧ w.cell? ⟨b, 5, none⟩ = some x5 ∧ w.cell? ⟨b, 6, none⟩ = some x6 ∧ w.cell? ⟨b, 7, none⟩ = some x7 :=
  ⟨h.cell rfl, h.cell rfl, h.cell rfl, h.cell rfl, h.cell rfl, h.cell rfl, h.cell rfl, h.cell rfl⟩

/-- what stands behind the lines are read: the circuit's block, the head's, the result's -/
structure ParseRest (nb : Nat) (w : World) (bh : Nat) (ab : Option Addr) (cb bc : Nat) (wx : World) : Prop where
  g1 : w.heap.size < bc
  g2 : bh < bc
  c : Blk wx bc #[.int .i64 0, .slice none 0 0, .slice none 0 0, .slice none 0 0, .slice ab nb cb, .slice none 0 0, .slice none 0 0, .slice none 0 0, .string ⟨#[]⟩] 29
  h : Blk wx bh #[.bool false, .int .i64 0, .int .i64 0, .int .i64 0, .int .i64 0, .int .i64 0, .int .i64 (nb : Nat), .int .i64 0] 41
  r : Blk wx w.heap.size #[.int .i64 0, .slice none 0 0, .slice none 0 0, .slice none 0 0, .slice none 0 0, .slice none 0 0, .slice none 0 0, .slice none 0 0, .string ⟨#[]⟩] 29
  i : IntsAt wx ab (List.replicate nb 1)
  b : ∀ x, ab = some x → x.block ≠ bc ∧ w.heap.size < x.block ∧ x.block < wx.heap.size
  k : Kp (fun _ => False) w wx

theorem ParseRest.drew {nb : Nat} {w wx : World} {bh cb bc : Nat} {ab : Option Addr} (h : ParseRest nb w bh ab cb bc wx) : ParseRest nb w bh ab cb bc wx.drew :=
  ⟨h.g1, h.g2, h.c, h.h, h.r, h.i, h.b, h.k.drew⟩

theorem parse_new {nb : Nat} {w u : World} {bh cb : Nat} {ab : Option Addr} (hH : Blk u bh #[.bool false, .int .i64 0, .int .i64 0, .int .i64 0, .int .i64 0, .int .i64 0, .int .i64 (nb : Nat), .int .i64 0] 41) (hR : Blk u w.heap.size #[.int .i64 0, .slice none 0 0, .slice none 0 0, .slice none 0 0, .slice none 0 0, .slice none 0 0, .slice none 0 0, .slice none 0 0, .string ⟨#[]⟩] 29) (hI : IntsAt u ab (List.replicate nb 1)) (hb : ∀ x, ab = some x → w.heap.size < x.block ∧ x.block < u.heap.size) (hK : Kp (fun _ => False) w u) :
    ParseRest nb w bh ab cb u.heap.size (u.alloc (.cells #[.int .i64 0, .slice none 0 0, .slice none 0 0, .slice none 0 0, .slice ab nb cb, .slice none 0 0, .slice none 0 0, .slice none 0 0, .string ⟨#[]⟩] 29)) :=
  ⟨hR.lt, hH.lt, Blk.new u _ _, hH.alloc _, hR.alloc _, hI.kp ((Kp.refl (fun _ => False) u).alloc _) (fun _ _ h => h), fun x hx => by obtain ⟨h1, h2⟩ := hb x hx; exact ⟨by omega, h1, by simp; omega⟩, hK.alloc _⟩

theorem parse_set {nb : Nat} {w u : World} {bh cb bc : Nat} {ab : Option Addr} (hH : Blk u bh #[.bool false, .int .i64 0, .int .i64 0, .int .i64 0, .int .i64 0, .int .i64 0, .int .i64 (nb : Nat), .int .i64 0] 41) (hR : Blk u w.heap.size #[.int .i64 0, .slice none 0 0, .slice none 0 0, .slice none 0 0, .slice none 0 0, .slice none 0 0, .slice none 0 0, .slice none 0 0, .string ⟨#[]⟩] 29) (hI : IntsAt u ab (List.replicate nb 1)) (hb : ∀ x, ab = some x → x.block ≠ bc ∧ w.heap.size < x.block ∧ x.block < u.heap.size) (hK : Kp (fun _ => False) w u)
    (hC : Blk u bc #[.int .i64 0, .slice none 0 0, .slice none 0 0, .slice none 0 0, .slice none 0 0, .slice none 0 0, .slice none 0 0, .slice none 0 0, .string ⟨#[]⟩] 29) (g1 : w.heap.size < bc) (g2 : bh < bc) :
    ParseRest nb w bh ab cb bc (set9 u bc (.int .i64 0) (.slice none 0 0) (.slice none 0 0) (.slice none 0 0) (.slice ab nb cb) (.slice none 0 0) (.slice none 0 0) (.slice none 0 0) (.string ⟨#[]⟩)) := by
  have hk := Kp.set9 u bc (.int .i64 0) (.slice none 0 0) (.slice none 0 0) (.slice none 0 0) (.slice ab nb cb) (.slice none 0 0) (.slice none 0 0) (.slice none 0 0) (.string ⟨#[]⟩)
  refine ⟨g1, g2, hC.set9 _ _ _ _ _ _ _ _ _, hH.kp hk (by omega), hR.kp hk (by omega), hI.kp hk (fun x hx => (hb x hx).1), fun x hx => ?_, hK.trans hk (fun j hj h => by omega)⟩
  obtain ⟨h1, h2, h3⟩ := hb x hx
  exact ⟨h1, h2, Nat.lt_of_lt_of_le h3 hk.size⟩

set_option maxRecDepth 100000 in
set_option maxHeartbeats 8000000 in
theorem aiger_Parse_b (nb : Nat) (s : ByteArray) (q0 q1 q2 : Nat) (P : ByteArray → Prop) (w : World) (hnb : nb ≤ 1) (hs : s.size ≤ 1048576)
    (HR : ∀ u, Calls Tryz.prog 23 #[.string s] u fun e u' => e = .returned (.tuple #[.agg (headB nb), .int .i64 q0, .int .i64 0]) ∧ Kp (fun _ => False) u u')
    (HA : ∀ u, Calls Tryz.prog 57 #[.string s, .int .i64 q0, .agg (headB nb)] u fun o u' => ∃ ab cb,
      o = .returned (.tuple #[.agg #[.int .i64 0, .slice none 0 0, .slice none 0 0, .slice none 0 0, .slice ab nb cb, .slice none 0 0, .slice none 0 0, .slice none 0 0, .string ⟨#[]⟩], .int .i64 q1, .int .i64 0]) ∧
      IntsAt u' ab (List.replicate nb 1) ∧ (∀ x, ab = some x → u.heap.size ≤ x.block ∧ x.block < u'.heap.size) ∧ Kp (fun _ => False) u u')
    (HT : ∀ u, Calls Tryz.prog 25 #[.string s, .int .i64 q1, .agg (headB nb)] u fun e u' => ∃ cm, P cm ∧ e = .returned (.tuple #[.slice none 0 0, .string cm, .int .i64 q2, .int .i64 0]) ∧ Kp (fun _ => False) u u') :
    Calls Tryz.prog 6 #[.string s] w fun o w' => ∃ ab cb cm, P cm ∧
      o = .returned (.tuple #[.agg #[.int .i64 0, .slice none 0 0, .slice none 0 0, .slice none 0 0, .slice ab nb cb, .slice none 0 0, .slice none 0 0, .slice none 0 0, .string cm], .int .i64 q2, .int .i64 0]) ∧ IntsAt w' ab (List.replicate nb 1) ∧ Kp (fun _ => False) w w' := by
  have d1 : decide ((1048576 : Int) < (s.size : Int)) = false := by simp; omega
  have HR := Lib.hid HR
  have HA := Lib.hid HA
  have HT := Lib.hid HT
  have HNb := Lib.hid hnb
  clear hs hnb
  obtain ⟨wz, hwz⟩ : ∃ wz : World, wz = (w.alloc (.cells #[.int .i64 0, .slice none 0 0, .slice none 0 0, .slice none 0 0, .slice none 0 0, .slice none 0 0, .slice none 0 0, .slice none 0 0, .string ⟨#[]⟩] 29)).alloc (.cells #[.int .i64 0, .slice none 0 0, .slice none 0 0, .slice none 0 0, .slice none 0 0, .slice none 0 0, .slice none 0 0, .slice none 0 0, .string ⟨#[]⟩] 29) := ⟨_, rfl⟩
  have HKz : Hid (Kp (fun _ => False) w wz) := Lib.hid (by rw [hwz]; exact ((Kp.refl _ w).alloc _).alloc _)
  have HRz : Hid (Blk wz w.heap.size #[.int .i64 0, .slice none 0 0, .slice none 0 0, .slice none 0 0, .slice none 0 0, .slice none 0 0, .slice none 0 0, .slice none 0 0, .string ⟨#[]⟩] 29) := Lib.hid (by rw [hwz]; exact (Blk.new w _ _).alloc _)
  have HFirst := Lib.hid hwz
  clear hwz
  unfold headB at *
  go_enter Tryz.func6, Tryz.ntmps6
  go_upto_region 2 with fail
  rw [show (w.alloc (.cells #[.int .i64 0, .slice none 0 0, .slice none 0 0, .slice none 0 0, .slice none 0 0, .slice none 0 0, .slice none 0 0, .slice none 0 0, .string ⟨#[]⟩] 29)).alloc (.cells #[.int .i64 0, .slice none 0 0, .slice none 0 0, .slice none 0 0, .slice none 0 0, .slice none 0 0, .slice none 0 0, .slice none 0 0, .string ⟨#[]⟩] 29) = wz from HFirst.out.symm]
  clear HFirst
  go_wp2_with fail
  refine (HR.out _).mono ?_
  rintro e w1 ⟨rfl, hK1⟩
  have HK1 := Lib.hid ((HKz.out.trans hK1 (fun _ _ h => h)).alloc (.cells #[.bool false, .int .i64 0, .int .i64 0, .int .i64 0, .int .i64 0, .int .i64 0, .int .i64 (nb : Nat), .int .i64 0] 41))
  have HR1 := Lib.hid ((HRz.out.kp hK1 (fun h => h)).alloc (.cells #[.bool false, .int .i64 0, .int .i64 0, .int .i64 0, .int .i64 0, .int .i64 0, .int .i64 (nb : Nat), .int .i64 0] 41))
  have HH1 := Lib.hid (Blk.new w1 #[.bool false, .int .i64 0, .int .i64 0, .int .i64 0, .int .i64 0, .int .i64 0, .int .i64 (nb : Nat), .int .i64 0] 41)
  have HN1 : Hid (w.heap.size < w1.heap.size) := Lib.hid (HRz.out.kp hK1 (fun h => h)).lt
  clear hK1 HKz HRz HR d1
  go_upto_region 7 with fail
  obtain ⟨bh, hbh⟩ : ∃ bh, bh = w1.heap.size := ⟨_, rfl⟩
  obtain ⟨wh, hwh⟩ : ∃ wh : World, wh = w1.alloc (.cells #[.bool false, .int .i64 0, .int .i64 0, .int .i64 0, .int .i64 0, .int .i64 0, .int .i64 (nb : Nat), .int .i64 0] 41) := ⟨_, rfl⟩
  rw [← hwh] at HK1 HR1 HH1
  rw [← hbh] at HH1 HN1
  rw [show w1.alloc (.cells #[.bool false, .int .i64 0, .int .i64 0, .int .i64 0, .int .i64 0, .int .i64 0, .int .i64 (nb : Nat), .int .i64 0] 41) = wh from hwh.symm, show w1.heap.size = bh from hbh.symm]
  clear hwh hbh
  go_cut [7, 8, 9] from 26 to 37 (fun s7 s8 s9 wx => ∃ ab cb bc, s7 = .int .i64 q1 ∧ s8 = .int .i64 0 ∧ s9 = .pointer (some ⟨bc, 0, none⟩) ∧ ParseRest nb w bh ab cb bc wx)
  case first =>
    have HHf := Lib.hid (fun u (hK : Kp (fun _ => False) wh u) => HH1.out.kp hK (fun h => h))
    have HRf := Lib.hid (fun u (hK : Kp (fun _ => False) wh u) => HR1.out.kp hK (fun h => h))
    go_region_held3 (fun u => u.cell? ⟨bh, 0, none⟩ = some (.bool false) ∧ u.cell? ⟨bh, 1, none⟩ = some (.int .i64 0) ∧ u.cell? ⟨bh, 2, none⟩ = some (.int .i64 0) ∧ u.cell? ⟨bh, 3, none⟩ = some (.int .i64 0) ∧ u.cell? ⟨bh, 4, none⟩ = some (.int .i64 0) ∧ u.cell? ⟨bh, 5, none⟩ = some (.int .i64 0) ∧ u.cell? ⟨bh, 6, none⟩ = some (.int .i64 (nb : Nat)) ∧ u.cell? ⟨bh, 7, none⟩ = some (.int .i64 0)) (exact (HHf.out _ (by repeat (first | (with_reducible exact Kp.refl _ _) | (with_reducible exact HKa.out) | (with_reducible exact HKb.out) | (with_reducible apply Kp.alloc) | (with_reducible apply Kp.drew) | (with_reducible refine Kp.setCell ?_ (fun h => by (have q1 := HKa.out.size); (try dsimp only at h); omega) _)))).cells8h) ((first
      | ((with_reducible refine Calls.mono (aiger_readers _) ?_)
         rintro o u1 ⟨bm, rfl, hM, hK⟩
         have HKa := Lib.hid (Kp.trans (a := wh) (by repeat (with_reducible first | exact Kp.refl _ _ | exact HKa.out | exact HKb.out | apply Kp.alloc | apply Kp.drew)) hK (fun _ _ h => h))
         (try have HZa := Lib.hid ((Blk.new wh.drew #[.int .i64 0, .slice none 0 0, .slice none 0 0, .slice none 0 0, .slice none 0 0, .slice none 0 0, .slice none 0 0, .slice none 0 0, .string ⟨#[]⟩] 29).kp hK (fun h => h)))
         (try have HZa := Lib.hid ((Blk.new wh #[.int .i64 0, .slice none 0 0, .slice none 0 0, .slice none 0 0, .slice none 0 0, .slice none 0 0, .slice none 0 0, .slice none 0 0, .string ⟨#[]⟩] 29).kp hK (fun h => h)))
         (try have HZa := Lib.hid ((Blk.new wh #[.int .i64 0, .slice none 0 0, .slice none 0 0, .slice none 0 0, .slice none 0 0, .slice none 0 0, .slice none 0 0, .slice none 0 0, .string ⟨#[]⟩] 29).drew.kp hK (fun h => h)))
         have lk1 := readers_look hM
         have lk2 := readers_look (u := u1.drew) hM
         have lk3 := readers_look (hM.kp ((Kp.refl (fun _ => False) u1).alloc (.cells #[.int .i64 0, .slice none 0 0, .slice none 0 0, .slice none 0 0, .slice none 0 0, .slice none 0 0, .slice none 0 0, .slice none 0 0, .string ⟨#[]⟩] 29)) (fun h => h))
         have lk4 := readers_look (hM.kp (((Kp.refl (fun _ => False) u1).drew).alloc (.cells #[.int .i64 0, .slice none 0 0, .slice none 0 0, .slice none 0 0, .slice none 0 0, .slice none 0 0, .slice none 0 0, .slice none 0 0, .string ⟨#[]⟩] 29)) (fun h => h))
         have lk5 := readers_look (hM.kp (((Kp.refl (fun _ => False) u1).alloc (.cells #[.int .i64 0, .slice none 0 0, .slice none 0 0, .slice none 0 0, .slice none 0 0, .slice none 0 0, .slice none 0 0, .slice none 0 0, .string ⟨#[]⟩] 29)).drew) (fun h => h))
         clear hK hM)
      | ((with_reducible refine Calls.mono (HA.out _) ?_)
         rintro o u2 ⟨ab, cb, rfl, hI, hb, hK⟩
         clear lk1 lk2 lk3 lk4 lk5
         have HKb := Lib.hid (Kp.trans (a := wh) (by repeat (with_reducible first | exact Kp.refl _ _ | exact HKa.out | exact HKb.out | apply Kp.alloc | apply Kp.drew)) hK (fun _ _ h => h))
         (try have HZb := Lib.hid (HZa.out.kp hK (fun h => h)))
         (try have HZb := Lib.hid (HZa.out.drew.kp hK (fun h => h)))
         (try have HZb := Lib.hid ((Blk.new u1.drew #[.int .i64 0, .slice none 0 0, .slice none 0 0, .slice none 0 0, .slice none 0 0, .slice none 0 0, .slice none 0 0, .slice none 0 0, .string ⟨#[]⟩] 29).kp hK (fun h => h)))
         (try have HZb := Lib.hid ((Blk.new u1 #[.int .i64 0, .slice none 0 0, .slice none 0 0, .slice none 0 0, .slice none 0 0, .slice none 0 0, .slice none 0 0, .slice none 0 0, .string ⟨#[]⟩] 29).kp hK (fun h => h)))
         (try have HZb := Lib.hid ((Blk.new u1 #[.int .i64 0, .slice none 0 0, .slice none 0 0, .slice none 0 0, .slice none 0 0, .slice none 0 0, .slice none 0 0, .slice none 0 0, .string ⟨#[]⟩] 29).drew.kp hK (fun h => h)))
         have HIb := Lib.hid hI
         have HBb := Lib.hid hb
         clear hK hI hb
         (try obtain ⟨x0, x1, x2, x3, x4, x5, x6, x7, x8⟩ := HZb.out.cells9')
         (try have f0 := HZb.out.free 0)
         (try have f1 := HZb.out.free 1)
         (try have f2 := HZb.out.free 2)
         (try have f3 := HZb.out.free 3)
         (try have f4 := HZb.out.free 4)
         (try have f5 := HZb.out.free 5)
         (try have f6 := HZb.out.free 6)
         (try have f7 := HZb.out.free 7)
         (try have f8 := HZb.out.free 8))))
    all_goals go_wp2_with fail
    all_goals go_meet
    all_goals
      have hR2 := HRf.out _ HKb.out
      have hH2 := HHf.out _ HKb.out
      have hW2 : Kp (fun _ => False) w u2 := HK1.out.trans HKb.out (fun _ _ h => h)
      have hs1 := HKa.out.size
      have hN := HN1.out
      have hL := HH1.out.lt
      first
        | (refine ⟨ab, cb, u2.heap.size, rfl, rfl, rfl, ?_⟩
           have hp := parse_new (cb := cb) hH2 hR2 HIb.out (fun x hx => by obtain ⟨h1, h2⟩ := HBb.out x hx; (try simp at h1); omega) hW2
           first | exact hp | exact hp.drew)
        | (refine ⟨ab, cb, u1.heap.size, rfl, rfl, rfl, ?_⟩
           have hp := parse_set (bc := u1.heap.size) (cb := cb) hH2 hR2 HIb.out (fun x hx => by obtain ⟨h1, h2⟩ := HBb.out x hx; (try simp at h1); omega) hW2 HZb.out (by omega) (by omega)
           unfold Go.Proofs.YtpfofknjlhaanaaGreatDoor.set9 at hp
           first | exact hp | exact hp.drew)
        | (refine ⟨ab, cb, wh.heap.size, rfl, rfl, rfl, ?_⟩
           have hz : wh.heap.size < u1.heap.size := HZa.out.lt
           have hp := parse_set (bc := wh.heap.size) (cb := cb) hH2 hR2 HIb.out (fun x hx => by obtain ⟨h1, h2⟩ := HBb.out x hx; (try simp at h1); omega) hW2 HZb.out (by omega) (by omega)
           unfold Go.Proofs.YtpfofknjlhaanaaGreatDoor.set9 at hp
           first | exact hp | exact hp.drew)
  case rest =>
  obtain ⟨ab, cb, bc, rfl, rfl, rfl, ⟨g1, g2, hC, hH, hRz, hI, hb, hK⟩⟩ := hcut
  have HC := Lib.hid hC
  have HH := Lib.hid hH
  have HRz := Lib.hid hRz
  have HI := Lib.hid hI
  have HBx := Lib.hid hb
  have HK := Lib.hid hK
  have HG := Lib.hid (And.intro g1 g2)
  clear hC hH hRz hI hb hK g1 g2 HK1 HR1 HH1 HA
  obtain ⟨wa, rfl⟩ : ∃ wa : World, wa = wc := ⟨_, rfl⟩
  obtain ⟨y0, y1, y2, y3, y4, y5, y6, y7⟩ := HH.out.cells8h
  go_wp2_with fail
  refine (HT.out _).mono ?_
  rintro e w3 ⟨cm, hP, rfl, hK3⟩
  have HC3 := Lib.hid (HC.out.kp hK3 (fun h => h))
  have HR3 := Lib.hid (HRz.out.kp hK3 (fun h => h))
  have HI3 := Lib.hid (HI.out.kp hK3 (fun _ _ h => h))
  have HK3 := Lib.hid (HK.out.trans hK3 (fun _ _ h => h))
  have HP := Lib.hid hP
  have HS3 := Lib.hid hK3.size
  have c7 := HC3.out.cell (i := 7) (v := .slice none 0 0) rfl
  have c8 := HC3.out.cell (i := 8) (v := .string ⟨#[]⟩) rfl
  have f7 := HC3.out.free 7
  have f8 := HC3.out.free 8
  have lc := HC3.out.lt
  clear hK3 hP HC HRz HI HK HH HT y0 y1 y2 y3 y4 y5 y6 y7
  go_upto_region 13 with fail
  obtain ⟨ws, hws⟩ : ∃ ws : World, ws = (w3.setCell ⟨bc, 7, none⟩ (.slice none 0 0)).setCell ⟨bc, 8, none⟩ (.string cm) := ⟨_, rfl⟩
  have HKs : Hid (Kp (fun j => j = bc) w3 ws) := Lib.hid (by rw [hws]; exact ((Kp.refl (fun j => j = bc) w3).setCell (p := ⟨bc, 7, none⟩) (fun _ => rfl) _).setCell (p := ⟨bc, 8, none⟩) (fun _ => rfl) _)
  have HCs : Hid (Blk ws bc #[.int .i64 0, .slice none 0 0, .slice none 0 0, .slice none 0 0, .slice ab nb cb, .slice none 0 0, .slice none 0 0, .slice none 0 0, .string cm] 29) := Lib.hid (by rw [hws]; simpa using (HC3.out.set_same 7 (.slice none 0 0)).set_same 8 (.string cm))
  have HRs := Lib.hid (HR3.out.kp HKs.out (by have := HG.out.1; omega))
  have HIs := Lib.hid (HI3.out.kp HKs.out (fun x hx => (HBx.out x hx).1))
  have HBs : Hid (∀ x, ab = some x → x.block < ws.heap.size) := Lib.hid (fun x hx => Nat.lt_of_lt_of_le (HBx.out x hx).2.2 (Nat.le_trans HS3.out HKs.out.size))
  have HKx := Lib.hid (HK3.out.trans HKs.out (fun j hj h => by have := HG.out.1; omega))
  rw [← hws]
  clear hws c7 c8 f7 f8 lc HC3 HR3 HI3 HK3 HKs
  obtain ⟨z0, z1, z2, z3, z4, z5, z6, z7, z8⟩ := HCs.out.cells9'
  have HCh := Lib.hid (circ_Check ab nb cb (List.replicate nb 1) cm ws HIs.out (by simp) HNb.out (fun j hj => rep1 hj) (fun x hx => HBs.out x hx))
  unfold circE at HCh
  go_wp2_with fail
  refine HCh.out.mono ?_
  rintro e w4 ⟨rfl, hK4⟩
  have HC4 := Lib.hid (HCs.out.kp hK4 (fun h => h))
  have HR4 := Lib.hid (HRs.out.kp hK4 (fun h => h))
  have HI4 := Lib.hid (HIs.out.kp hK4 (fun _ _ h => h))
  have HK4 := Lib.hid (HKx.out.trans hK4 (fun _ _ h => h))
  clear hK4 HCs HRs HIs HKx HCh z0 z1 z2 z3 z4 z5 z6 z7 z8
  obtain ⟨z0, z1, z2, z3, z4, z5, z6, z7, z8⟩ := HC4.out.cells9'
  obtain ⟨r0, r1, r2, r3, r4, r5, r6, r7, r8⟩ := HR4.out.cells9'
  have fr := HR4.out.free
  have fr0 := fr 0
  have fr1 := fr 1
  have fr2 := fr 2
  have fr3 := fr 3
  have fr4 := fr 4
  have fr5 := fr 5
  have fr6 := fr 6
  have fr7 := fr 7
  have fr8 := fr 8
  clear fr
  have nb1 : bc ≠ w.heap.size := by have := HG.out.1; omega
  have nb2 : w.heap.size ≠ bc := by have := HG.out.1; omega
  have HBe := Lib.hid (HR4.out.set9 (.int .i64 0) (.slice none 0 0) (.slice none 0 0) (.slice none 0 0) (.slice ab nb cb) (.slice none 0 0) (.slice none 0 0) (.slice none 0 0) (.string cm))
  have HKe := Lib.hid (Kp.set9 w4 w.heap.size (.int .i64 0) (.slice none 0 0) (.slice none 0 0) (.slice none 0 0) (.slice ab nb cb) (.slice none 0 0) (.slice none 0 0) (.slice none 0 0) (.string cm))
  unfold Go.Proofs.YtpfofknjlhaanaaGreatDoor.set9 at HBe HKe
  go_wp2_with fail
  obtain ⟨s0, s1, s2, s3, s4, s5, s6, s7, s8⟩ := HBe.out.cells9'
  exact bodyPost_ret (v := .tuple #[.agg #[.int .i64 0, .slice none 0 0, .slice none 0 0, .slice none 0 0, .slice ab nb cb, .slice none 0 0, .slice none 0 0, .slice none 0 0, .string cm], .int .i64 q2, .int .i64 0]) (by simp [results, Tryz.results6, go_sem, s0, s1, s2, s3, s4, s5, s6, s7, s8]) rfl
    ⟨ab, cb, cm, HP.out, rfl, HI4.out.kp HKe.out (fun x hx => by have := (HBx.out x hx).2.1; omega), HK4.out.trans HKe.out (fun j hj h => by omega)⟩

end Go.Proofs.YtpfofknjlhaanaaGreatDoor

/-
  The example's circuits are the same; the example lives.
-/
namespace Go.Proofs.YtpfofknjlhaanaaGreatDoor
open Go.RowKit

theorem ints_1 (u : World) (ab : Option Addr) (cb hb db : Nat) (k : IntsAt u ab [1]) (k' : u.cell? ⟨hb, 0, none⟩ = some (.int .i64 1)) :
    Calls Tryz.prog 61 #[.slice ab 1 cb, .slice (some ⟨hb, 0, none⟩) 1 db] u fun e w' => e = .returned (.bool true) ∧ ∃ n, w' = u.drewN n := by
  have one : ∀ g, u.cell? ⟨g, 0, none⟩ = some (.int .i64 1) → IntsAt u (some ⟨g, 0, none⟩) [1] := fun g h j v hj => by
    match j, hj with
    | 0, hj => simp at hj; subst hj; exact ⟨g, 0, rfl, h⟩
    | n + 1, hj => simp at hj
  exact ref_Ints ab (some ⟨hb, 0, none⟩) 1 1 cb db [1] [1] u k (one hb k') rfl rfl (by decide)

set_option maxRecDepth 100000 in
set_option maxHeartbeats 4000000 in
theorem ref11_Same_1 (ab : Option Addr) (cb hb db : Nat) (w : World) (k3 : IntsAt w ab [1]) (j3 : w.cell? ⟨hb, 0, none⟩ = some (.int .i64 1)) :
    Calls Tryz.prog 26 #[.agg #[.int .i64 0, .slice none 0 0, .slice none 0 0, .slice none 0 0, .slice ab 1 cb, .slice none 0 0, .slice none 0 0, .slice none 0 0, .string ⟨#[]⟩], .agg #[.int .i64 0, .slice none 0 0, .slice none 0 0, .slice none 0 0, .slice (some ⟨hb, 0, none⟩) 1 db, .slice none 0 0, .slice none 0 0, .slice none 0 0, .string ⟨#[]⟩]] w fun e w' => e = .returned (.bool true) ∧ Kp (fun _ => False) w w' := by
  obtain ⟨wz, hwz⟩ : ∃ wz : World, wz = (w.alloc (.cells #[.int .i64 0, .slice none 0 0, .slice none 0 0, .slice none 0 0, .slice ab 1 cb, .slice none 0 0, .slice none 0 0, .slice none 0 0, .string ⟨#[]⟩] 29)).alloc (.cells #[.int .i64 0, .slice none 0 0, .slice none 0 0, .slice none 0 0, .slice (some ⟨hb, 0, none⟩) 1 db, .slice none 0 0, .slice none 0 0, .slice none 0 0, .string ⟨#[]⟩] 29) := ⟨_, rfl⟩
  have hK : Kp (fun _ => False) w wz := by rw [hwz]; exact ((Kp.refl _ w).alloc _).alloc _
  have hA : Blk wz w.heap.size #[.int .i64 0, .slice none 0 0, .slice none 0 0, .slice none 0 0, .slice ab 1 cb, .slice none 0 0, .slice none 0 0, .slice none 0 0, .string ⟨#[]⟩] 29 := by rw [hwz]; exact (Blk.new w _ _).alloc _
  have hB : Blk wz (w.heap.size + 1) #[.int .i64 0, .slice none 0 0, .slice none 0 0, .slice none 0 0, .slice (some ⟨hb, 0, none⟩) 1 db, .slice none 0 0, .slice none 0 0, .slice none 0 0, .string ⟨#[]⟩] 29 := by
    rw [hwz]
    have := Blk.new (w.alloc (.cells #[.int .i64 0, .slice none 0 0, .slice none 0 0, .slice none 0 0, .slice ab 1 cb, .slice none 0 0, .slice none 0 0, .slice none 0 0, .string ⟨#[]⟩] 29)) #[.int .i64 0, .slice none 0 0, .slice none 0 0, .slice none 0 0, .slice (some ⟨hb, 0, none⟩) 1 db, .slice none 0 0, .slice none 0 0, .slice none 0 0, .string ⟨#[]⟩] 29
    rwa [World.size_alloc] at this
  have k3 := k3.kp hK (fun _ _ h => h)
  have j3 : wz.cell? ⟨hb, 0, none⟩ = some (.int .i64 1) := (World.cell?_of_block (a := ⟨hb, 0, none⟩) (hK.block hb (World.block_lt_of_cell? w _ j3) (fun h => h))).trans j3
  obtain ⟨a0, a1, a2, a3, a4, a5, a6, a7, a8⟩ := hA.cells9'
  obtain ⟨b0, b1, b2, b3, b4, b5, b6, b7, b8⟩ := hB.cells9'
  have HK := Lib.hid hK
  have HZ := Lib.hid hwz
  have HN := Lib.hid ints_nil
  have HO := Lib.hid (fun u k k' => ints_1 u ab cb hb db k k')
  have HK3 := Lib.hid k3
  have HJ3 := Lib.hid j3
  clear hA hB hK hwz k3 j3
  go_enter Tryz.func26, Tryz.ntmps26
  go_upto_region 1 with fail
  rw [show (w.alloc (.cells #[.int .i64 0, .slice none 0 0, .slice none 0 0, .slice none 0 0, .slice ab 1 cb, .slice none 0 0, .slice none 0 0, .slice none 0 0, .string ⟨#[]⟩] 29)).alloc (.cells #[.int .i64 0, .slice none 0 0, .slice none 0 0, .slice none 0 0, .slice (some ⟨hb, 0, none⟩) 1 db, .slice none 0 0, .slice none 0 0, .slice none 0 0, .string ⟨#[]⟩] 29) = wz from HZ.out.symm]
  clear HZ
  go_wp2_with fail
  refine (HN.out _).mono ?_
  rintro e w' ⟨rfl, n1, rfl⟩
  go_wp2_with fail
  refine (HN.out _).mono ?_
  rintro e w' ⟨rfl, n2, rfl⟩
  go_wp2_with fail
  refine (HO.out _ (by first | exact HK3.out | exact HK3.out.drewN _ | exact (HK3.out.drewN _).drewN _) (by have j3 := HJ3.out; first | exact j3 | simpa using j3)).mono ?_
  rintro e w' ⟨rfl, n3, rfl⟩
  go_wp2_with fail
  refine (HN.out _).mono ?_
  rintro e w' ⟨rfl, n4, rfl⟩
  go_wp2_with fail
  clear HN HO HK3 HJ3 a1 a3 a4 a5 b1 b3 b4 b5
  go_loopw [5] (fun v5 wr => v5 = .int .i64 0 ∧ ∃ n, wr = wz.drewN n) (fun _ _ => 0)
  case atStart =>
    refine ⟨rfl, ?_⟩
    try simp only [drewN_twice]
    exact ⟨_, rfl⟩
  case round =>
    obtain ⟨rfl, n5, rfl⟩ := hrel
    go_wp2_with fail
    go_loopw [6] (fun v6 wr => v6 = .int .i64 0 ∧ ∃ n, wr = wz.drewN n) (fun _ _ => 0)
    case atStart => exact ⟨rfl, _, rfl⟩
    case round =>
      obtain ⟨rfl, n6, rfl⟩ := hrel
      go_wp2_with fail
      go_loopw [7] (fun v7 wr => v7 = .int .i64 0 ∧ ∃ n, wr = wz.drewN n) (fun _ _ => 0)
      case atStart => exact ⟨rfl, _, rfl⟩
      case round =>
        obtain ⟨rfl, n7, rfl⟩ := hrel
        go_wp2_with fail
        go_ret
        exact ⟨rfl, HK.out.drewN _⟩

theorem exL_Parse (w : World) : Calls Tryz.prog 6 #[.string exL] w fun o w' => ∃ ab cb,
    o = .returned (.tuple #[.agg #[.int .i64 0, .slice none 0 0, .slice none 0 0, .slice none 0 0, .slice ab 1 cb, .slice none 0 0, .slice none 0 0, .slice none 0 0, .string ⟨#[]⟩], .int .i64 18, .int .i64 0]) ∧ IntsAt w' ab [1] ∧ Kp (fun _ => False) w w' :=
  (aiger_Parse_b 1 exL 16 18 18 (fun cm => cm = ⟨#[]⟩) w (by omega) (by decide) exL_ReadHead
    (fun u => ascii_Read_b 1 exL 16 18 u (by decide) (fun bv bh br bl v hL => litsP1 rdK exL 16 17 bv bh br bl v (by decide) (by decide) exL_n (by decide) exL_b hL))
    (fun u => (tail_ReadE (1 : Nat) exL u (by decide)).mono (fun e u' h => ⟨⟨#[]⟩, rfl, h.1, h.2⟩))).mono (by
    rintro o w' ⟨ab, cb, cm, rfl, ho, hI, hK⟩
    exact ⟨ab, cb, ho, hI, hK⟩)

set_option maxRecDepth 100000 in
set_option maxHeartbeats 4000000 in
theorem lives_ok (w : World) : Calls Tryz.prog 7 #[] w fun e w' => e = .returned (.bool true) ∧ Kp (fun _ => False) w w' := by
  have HP := Lib.hid exL_Parse
  unfold exL at HP
  go_enter Tryz.func7, Tryz.ntmps7
  go_wp2_with fail
  refine (HP.out _).mono ?_
  rintro e w1 ⟨ab, cb, rfl, hI, hK1⟩
  have HI := Lib.hid hI
  have HK1 := Lib.hid hK1
  clear hI hK1
  go_wp2_with fail
  have HKt := Lib.hid ((HK1.out.alloc (.cells #[.int .i64 0, .slice none 0 0, .slice none 0 0, .slice none 0 0, .slice ab 1 cb, .slice none 0 0, .slice none 0 0, .slice none 0 0, .string ⟨#[]⟩] 29)).alloc (.cells #[.int .i64 1] 3))
  refine (ref11_Same_1 ab cb (w1.heap.size + 1) 1 _ (HI.out.kp (((Kp.refl (fun _ => False) w1).alloc _).alloc _) (fun _ _ h => h)) ((two_new w1 _ _ _ _).cell rfl)).mono ?_
  rintro e w3 ⟨rfl, hK3⟩
  have HK3 := Lib.hid (HKt.out.trans hK3 (fun _ _ h => h))
  clear hK3
  go_wp2_with fail
  go_ret
  exact ⟨rfl, HK3.out⟩

end Go.Proofs.YtpfofknjlhaanaaGreatDoor
