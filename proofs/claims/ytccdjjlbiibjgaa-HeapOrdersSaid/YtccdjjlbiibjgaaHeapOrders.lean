/-
  latchetlaw06.HeapOrders: its walk.
-/
import Derived.Test.YtccdjjlbiibjgaaHeapLives
namespace Go.Proofs.Ytccdjjlbiibjgaa
open Go.RowKit

/-- a slice of uint64 that came in -/
def U64sArg (w : World) (v : Value) : Prop :=
  ∃ (a : Option Addr) (len cap : Nat) (l : List Int), v = .slice a len cap ∧ l.length = len ∧ len ≤ cap ∧ cap ≤ maxLen ∧ RowAt w a (l.map (Value.int .u64))

/-- what the second loop knows of the last one -/
def LastOK (S T : Nat → Nat) (n m : Nat) (last : Int) : Prop := last = -1 ∨ ∃ x : Nat, last = x ∧ x < n ∧ ∀ j, j < m → ¬ ah S (T j) x

set_option maxRecDepth 100000 in
set_option maxHeartbeats 2000000 in
theorem heapOrders_short (w : World) (a : Option Addr) (len cap : Nat) (l : List Int) (hl : l.length = len) (_hlc : len ≤ cap) (hcm : cap ≤ maxLen) (hra : RowAt w a (l.map (Value.int .u64))) (hn : len ≤ 100) :
    Calls Try.prog 3 #[.slice a len cap] w fun e w' => e = .returned (.bool true) ∧ Below w.heap.size w w' := by
  have hcm2 : cap ≤ 9223372036854775807 := by unfold maxLen at hcm; exact hcm
  clear hcm
  have HR := Lib.hid (And.intro hl hra); clear hl hra
  have g1 : decide ((100 : Int) < (len : Int)) = false := by simp; omega
  go_enter Try.func3, Try.ntmps3
  go_wp2_with fail
  refine (heap_New len (by omega) _).mono ?_
  intro e w1 hnew
  obtain ⟨h, rfl, HO0, hK0⟩ := HOk.new hnew
  clear hnew
  go_wp2_with fail
  go_loopw [4] (fun v4 wr => ∃ (k : Nat) (S T : Nat → Nat) (Q : Nat → Int), k ≤ len ∧ v4 = .int .i64 k ∧ HOk wr w.heap.size h len k S T Q ∧ (∀ j, j < k → T j < k) ∧ Kp (fun _ => False) w wr) (fun v4 _ => len - (intOf v4).toNat)
  case atStart => exact ⟨0, _, _, _, Nat.zero_le _, rfl, HO0, fun j hj => by omega, hK0⟩
  case round =>
    clear HO0 hK0
    obtain ⟨k, S, T, Q, hk, rfl, HO, hT, hK⟩ := hrel
    have hh : w.heap.size ≤ h := by obtain ⟨_, _, _, H⟩ := HO.hp; exact H.low
    by_cases hlt : k < len
    · obtain ⟨b, off, rfl, hc⟩ := HR.out.2 k (.int .u64 (gi l k)) (by rw [List.getElem?_map, List.getElem?_eq_getElem (by rw [HR.out.1]; omega)]; simp [gi, List.getElem?_eq_getElem (show k < l.length by rw [HR.out.1]; omega)])
      have hbw : b < w.heap.size := World.block_lt_of_cell? w _ hc
      have i0 : (0 : Int) ≤ (k : Int) := by omega
      have i1 : (k : Int) < (len : Int) := by omega
      have hq := not_in HO.inv hlt (fun j hj => by have := hT j hj; omega)
      have HT := Lib.hid hT; clear hT
      have HH := Lib.hid HO; clear HO
      have HC := Lib.hid hc; clear hc
      go_wp2_with fail
      refine (heap_Push HH.out (by omega) (by omega) hlt hq).mono ?_
      rintro e w2 ⟨rfl, T2, Q2, HO2, hT2, hK2⟩
      have hKw := hK.trans hK2 (fun i hi h => by omega)
      have hc : w2.cell? ⟨b, off + k, none⟩ = some (.int .u64 (gi l k)) := (World.cell?_of_block (w := w) (a := ⟨b, off + k, none⟩) (hKw.block b hbw (fun h => h))).trans HC.out
      have HT2 := Lib.hid hT2; clear hT2
      have HH2 := Lib.hid HO2; clear HO2
      clear hq
      go_wp2_with fail
      refine (scores_Of _ _).mono ?_
      rintro e w' ⟨rfl, rfl⟩
      go_wp2_with fail
      refine (heap_Set HH2.out (by omega) (by omega) hlt _).mono ?_
      rintro e w3 ⟨rfl, T3, Q3, HO3, hS3, hK3⟩
      have hKw3 := hKw.trans hK3 (fun i hi h => by omega)
      have HH3 := Lib.hid HO3; clear HO3
      have HS3 := Lib.hid hS3; clear hS3
      clear hc
      go_wp2_with fail
      go_roundw
      case rel =>
        refine ⟨k + 1, _, T3, Q3, by omega, by go_num, HH3.out, fun j hj => ?_, hKw3⟩
        obtain ⟨i, hi, e⟩ := HS3.out j hj
        rcases HT2.out i hi with h1 | ⟨i2, hi2, h1⟩
        · omega
        · have := HT.out i2 hi2; omega
      case measure => simp [intOf]; omega
    · have ek : k = len := by omega
      rw [ek] at HO
      have g3 : decide ((k : Int) < (len : Int)) = false := by simp; omega
      clear ek
      obtain ⟨wo, rfl⟩ : ∃ wo : World, wo = wr := ⟨_, rfl⟩
      clear hT
      have HH := Lib.hid HO; clear HO
      go_wp2_with fail
      go_loopw [5, 43] (fun v5 v43 wr => ∃ (k m : Nat) (T : Nat → Nat) (Q : Nat → Int) (last : Int), k + m = len ∧ v43 = .int .i64 k ∧ v5 = .int .i64 last ∧ HOk wr w.heap.size h len m S T Q ∧ LastOK S T len m last ∧ Kp (fun _ => False) w wr) (fun _ v43 _ => len - (intOf v43).toNat)
      case atStart => exact ⟨0, len, T, Q, -1, by omega, rfl, rfl, HH.out, .inl rfl, hK⟩
      case round =>
        clear HH hK
        obtain ⟨k, m, T, Q, last, hkm, rfl, rfl, HO, hL, hK⟩ := hrel
        by_cases hlt : k < len
        · obtain ⟨m, rfl⟩ : ∃ m', m = m' + 1 := ⟨m - 1, by omega⟩
          have HKM := Lib.hid hkm
          have hm1 : m + 1 ≤ len := by omega
          clear hkm
          have HH := Lib.hid HO; clear HO
          have HL := Lib.hid hL; clear hL
          go_wp2_with fail
          refine (heap_Pop HH.out (by omega) (by omega)).mono ?_
          rintro e w2 ⟨id, hid, rfl, hin, T2, Q2, HO2, hS2, hA2, hK2⟩
          have hKw := hK.trans hK2 (fun i hi h => by omega)
          obtain ⟨vs, vt, va, HP⟩ := HO2.hp
          have HP2 := Lib.hid HP; clear HP
          have HH2 := Lib.hid HO2; clear HO2
          have HR2 := Lib.hid (show LastOK S T2 len m id from .inr ⟨id, rfl, hid, hA2⟩); clear hA2 hS2
          rcases HL.out with rfl | ⟨x, rfl, hx, hAx⟩
          · go_wp2_with fail
            go_roundw
            case rel => exact ⟨k + 1, m, T2, Q2, id, by have := HKM.out; omega, by go_num, rfl, HH2.out, HR2.out, hKw⟩
            case measure => simp [intOf]; omega
          · have hnot : aheadB S id x = false := by
              obtain ⟨j, hj, e⟩ := hin
              have := hAx j hj
              rw [e] at this
              simpa [ah] using this
            have hd : lessB (S x) (S id) = false ∧ (lessB (S id) (S x) = false → ¬ id < x) := by
              unfold aheadB at hnot
              simp only [Bool.or_eq_false_iff, Bool.and_eq_false_iff, Bool.not_eq_false', decide_eq_false_iff_not] at hnot
              refine ⟨hnot.1, fun h => ?_⟩
              rcases hnot.2 with h2 | h2
              · rw [h] at h2; cases h2
              · exact h2
            clear hnot hin hAx
            obtain ⟨hd1, hd2⟩ := hd
            have x0 : decide ((0 : Int) ≤ (x : Int)) = true := by simp
            by_cases h2 : lessB (S id) (S x) = true
            · clear hd2
              have HD1 := Lib.hid hd1; clear hd1
              have HD2 := Lib.hid h2; clear h2
              go_wp2_with fail
              refine (heap_Score HP2.out hx (by omega)).mono ?_
              rintro e w' ⟨rfl, rfl⟩
              go_wp2_with fail
              refine (heap_Score HP2.out hid (by omega)).mono ?_
              rintro e w' ⟨rfl, rfl⟩
              go_wp2_with fail
              refine (score_Less _ _ _).mono ?_
              rintro e w' ⟨rfl, rfl⟩
              rw [HD1.out]
              go_wp2_with fail
              refine (heap_Score HP2.out hid (by omega)).mono ?_
              rintro e w' ⟨rfl, rfl⟩
              go_wp2_with fail
              refine (heap_Score HP2.out hx (by omega)).mono ?_
              rintro e w' ⟨rfl, rfl⟩
              go_wp2_with fail
              refine (score_Less _ _ _).mono ?_
              rintro e w' ⟨rfl, rfl⟩
              rw [HD2.out]
              go_wp2_with fail
              go_roundw
              case rel => exact ⟨k + 1, m, T2, Q2, id, by have := HKM.out; omega, by go_num, rfl, HH2.out, HR2.out, hKw⟩
              case measure => simp [intOf]; omega
            · have h2' : lessB (S id) (S x) = false := by simpa using h2
              have hd3 : decide (id < x) = false := by simpa using hd2 h2'
              clear hd2 h2
              have HD1 := Lib.hid hd1; clear hd1
              have HD2 := Lib.hid h2'; clear h2'
              go_wp2_with fail
              refine (heap_Score HP2.out hx (by omega)).mono ?_
              rintro e w' ⟨rfl, rfl⟩
              go_wp2_with fail
              refine (heap_Score HP2.out hid (by omega)).mono ?_
              rintro e w' ⟨rfl, rfl⟩
              go_wp2_with fail
              refine (score_Less _ _ _).mono ?_
              rintro e w' ⟨rfl, rfl⟩
              rw [HD1.out]
              go_wp2_with fail
              refine (heap_Score HP2.out hid (by omega)).mono ?_
              rintro e w' ⟨rfl, rfl⟩
              go_wp2_with fail
              refine (heap_Score HP2.out hx (by omega)).mono ?_
              rintro e w' ⟨rfl, rfl⟩
              go_wp2_with fail
              refine (score_Less _ _ _).mono ?_
              rintro e w' ⟨rfl, rfl⟩
              rw [HD2.out]
              go_wp2_with fail
              go_roundw
              case rel => exact ⟨k + 1, m, T2, Q2, id, by have := HKM.out; omega, by go_num, rfl, HH2.out, HR2.out, hKw⟩
              case measure => simp [intOf]; omega
        · obtain rfl : m = 0 := by omega
          have HH := Lib.hid HO; clear HO
          obtain ⟨vs, vt, va, HP⟩ := HH.out.hp
          have HP2 := Lib.hid HP; clear HP
          clear hL
          go_wp2_with fail
          refine (heap_Pop0 HH.out).mono ?_
          rintro e w' ⟨rfl, rfl⟩
          go_wp2_with fail
          refine (heap_Len HP2.out).mono ?_
          rintro e w' ⟨rfl, rfl⟩
          go_wp2_with fail
          refine (heap_lives _).mono ?_
          rintro e w3 ⟨rfl, hK3⟩
          have hend := (hK.trans hK3 (fun _ _ h => h)).below (Nat.le_refl _) (fun _ _ h => h)
          go_wp2_with fail
          go_ret
          exact ⟨rfl, hend⟩

set_option maxRecDepth 100000 in
set_option maxHeartbeats 2000000 in
theorem heapOrders_long (w : World) (a : Option Addr) (len cap : Nat) (l : List Int) (hl : l.length = len) (_hlc : len ≤ cap) (hcm : cap ≤ maxLen) (hra : RowAt w a (l.map (Value.int .u64))) (hn : 100 < len) :
    Calls Try.prog 3 #[.slice a len cap] w fun e w' => e = .returned (.bool true) ∧ Below w.heap.size w w' := by
  have hcm2 : cap ≤ 9223372036854775807 := by unfold maxLen at hcm; exact hcm
  clear hcm
  have HR := Lib.hid (And.intro hl hra); clear hl hra
  have g1 : decide ((100 : Int) < (len : Int)) = true := by simp; omega
  have g2 : (100 : Int) ≤ (cap : Int) := by omega
  go_enter Try.func3, Try.ntmps3
  go_wp2_with fail
  refine (heap_New 100 (by omega) _).mono ?_
  intro e w1 hnew
  obtain ⟨h, rfl, HO0, hK0⟩ := HOk.new hnew
  clear hnew
  go_wp2_with fail
  go_loopw [4] (fun v4 wr => ∃ (k : Nat) (S T : Nat → Nat) (Q : Nat → Int), k ≤ 100 ∧ v4 = .int .i64 k ∧ HOk wr w.heap.size h 100 k S T Q ∧ (∀ j, j < k → T j < k) ∧ Kp (fun _ => False) w wr) (fun v4 _ => 100 - (intOf v4).toNat)
  case atStart => exact ⟨0, _, _, _, Nat.zero_le _, rfl, HO0, fun j hj => by omega, hK0⟩
  case round =>
    clear HO0 hK0
    obtain ⟨k, S, T, Q, hk, rfl, HO, hT, hK⟩ := hrel
    have hh : w.heap.size ≤ h := by obtain ⟨_, _, _, H⟩ := HO.hp; exact H.low
    by_cases hlt : k < 100
    · obtain ⟨b, off, rfl, hc⟩ := HR.out.2 k (.int .u64 (gi l k)) (by rw [List.getElem?_map, List.getElem?_eq_getElem (by rw [HR.out.1]; omega)]; simp [gi, List.getElem?_eq_getElem (show k < l.length by rw [HR.out.1]; omega)])
      have hbw : b < w.heap.size := World.block_lt_of_cell? w _ hc
      have i0 : (0 : Int) ≤ (k : Int) := by omega
      have i1 : (k : Int) < (100 : Int) := by omega
      have hq := not_in HO.inv hlt (fun j hj => by have := hT j hj; omega)
      have HT := Lib.hid hT; clear hT
      have HH := Lib.hid HO; clear HO
      have HC := Lib.hid hc; clear hc
      go_wp2_with fail
      refine (heap_Push HH.out (by omega) (by omega) hlt hq).mono ?_
      rintro e w2 ⟨rfl, T2, Q2, HO2, hT2, hK2⟩
      have hKw := hK.trans hK2 (fun i hi h => by omega)
      have hc : w2.cell? ⟨b, off + k, none⟩ = some (.int .u64 (gi l k)) := (World.cell?_of_block (w := w) (a := ⟨b, off + k, none⟩) (hKw.block b hbw (fun h => h))).trans HC.out
      have HT2 := Lib.hid hT2; clear hT2
      have HH2 := Lib.hid HO2; clear HO2
      clear hq
      go_wp2_with fail
      refine (scores_Of _ _).mono ?_
      rintro e w' ⟨rfl, rfl⟩
      go_wp2_with fail
      refine (heap_Set HH2.out (by omega) (by omega) hlt _).mono ?_
      rintro e w3 ⟨rfl, T3, Q3, HO3, hS3, hK3⟩
      have hKw3 := hKw.trans hK3 (fun i hi h => by omega)
      have HH3 := Lib.hid HO3; clear HO3
      have HS3 := Lib.hid hS3; clear hS3
      clear hc
      go_wp2_with fail
      go_roundw
      case rel =>
        refine ⟨k + 1, _, T3, Q3, by omega, by go_num, HH3.out, fun j hj => ?_, hKw3⟩
        obtain ⟨i, hi, e⟩ := HS3.out j hj
        rcases HT2.out i hi with h1 | ⟨i2, hi2, h1⟩
        · omega
        · have := HT.out i2 hi2; omega
      case measure => simp [intOf]; omega
    · have ek : k = 100 := by omega
      rw [ek] at HO
      have g3 : decide ((k : Int) < (100 : Int)) = false := by simp; omega
      clear ek
      obtain ⟨wo, rfl⟩ : ∃ wo : World, wo = wr := ⟨_, rfl⟩
      clear hT
      have HH := Lib.hid HO; clear HO
      go_wp2_with fail
      go_loopw [5, 43] (fun v5 v43 wr => ∃ (k m : Nat) (T : Nat → Nat) (Q : Nat → Int) (last : Int), k + m = 100 ∧ v43 = .int .i64 k ∧ v5 = .int .i64 last ∧ HOk wr w.heap.size h 100 m S T Q ∧ LastOK S T 100 m last ∧ Kp (fun _ => False) w wr) (fun _ v43 _ => 100 - (intOf v43).toNat)
      case atStart => exact ⟨0, 100, T, Q, -1, by omega, rfl, rfl, HH.out, .inl rfl, hK⟩
      case round =>
        clear HH hK
        obtain ⟨k, m, T, Q, last, hkm, rfl, rfl, HO, hL, hK⟩ := hrel
        by_cases hlt : k < 100
        · obtain ⟨m, rfl⟩ : ∃ m', m = m' + 1 := ⟨m - 1, by omega⟩
          have HKM := Lib.hid hkm
          have hm1 : m + 1 ≤ 100 := by omega
          clear hkm
          have HH := Lib.hid HO; clear HO
          have HL := Lib.hid hL; clear hL
          go_wp2_with fail
          refine (heap_Pop HH.out (by omega) (by omega)).mono ?_
          rintro e w2 ⟨id, hid, rfl, hin, T2, Q2, HO2, hS2, hA2, hK2⟩
          have hKw := hK.trans hK2 (fun i hi h => by omega)
          obtain ⟨vs, vt, va, HP⟩ := HO2.hp
          have HP2 := Lib.hid HP; clear HP
          have HH2 := Lib.hid HO2; clear HO2
          have HR2 := Lib.hid (show LastOK S T2 100 m id from .inr ⟨id, rfl, hid, hA2⟩); clear hA2 hS2
          rcases HL.out with rfl | ⟨x, rfl, hx, hAx⟩
          · go_wp2_with fail
            go_roundw
            case rel => exact ⟨k + 1, m, T2, Q2, id, by have := HKM.out; omega, by go_num, rfl, HH2.out, HR2.out, hKw⟩
            case measure => simp [intOf]; omega
          · have hnot : aheadB S id x = false := by
              obtain ⟨j, hj, e⟩ := hin
              have := hAx j hj
              rw [e] at this
              simpa [ah] using this
            have hd : lessB (S x) (S id) = false ∧ (lessB (S id) (S x) = false → ¬ id < x) := by
              unfold aheadB at hnot
              simp only [Bool.or_eq_false_iff, Bool.and_eq_false_iff, Bool.not_eq_false', decide_eq_false_iff_not] at hnot
              refine ⟨hnot.1, fun h => ?_⟩
              rcases hnot.2 with h2 | h2
              · rw [h] at h2; cases h2
              · exact h2
            clear hnot hin hAx
            obtain ⟨hd1, hd2⟩ := hd
            have x0 : decide ((0 : Int) ≤ (x : Int)) = true := by simp
            by_cases h2 : lessB (S id) (S x) = true
            · clear hd2
              have HD1 := Lib.hid hd1; clear hd1
              have HD2 := Lib.hid h2; clear h2
              go_wp2_with fail
              refine (heap_Score HP2.out hx (by omega)).mono ?_
              rintro e w' ⟨rfl, rfl⟩
              go_wp2_with fail
              refine (heap_Score HP2.out hid (by omega)).mono ?_
              rintro e w' ⟨rfl, rfl⟩
              go_wp2_with fail
              refine (score_Less _ _ _).mono ?_
              rintro e w' ⟨rfl, rfl⟩
              rw [HD1.out]
              go_wp2_with fail
              refine (heap_Score HP2.out hid (by omega)).mono ?_
              rintro e w' ⟨rfl, rfl⟩
              go_wp2_with fail
              refine (heap_Score HP2.out hx (by omega)).mono ?_
              rintro e w' ⟨rfl, rfl⟩
              go_wp2_with fail
              refine (score_Less _ _ _).mono ?_
              rintro e w' ⟨rfl, rfl⟩
              rw [HD2.out]
              go_wp2_with fail
              go_roundw
              case rel => exact ⟨k + 1, m, T2, Q2, id, by have := HKM.out; omega, by go_num, rfl, HH2.out, HR2.out, hKw⟩
              case measure => simp [intOf]; omega
            · have h2' : lessB (S id) (S x) = false := by simpa using h2
              have hd3 : decide (id < x) = false := by simpa using hd2 h2'
              clear hd2 h2
              have HD1 := Lib.hid hd1; clear hd1
              have HD2 := Lib.hid h2'; clear h2'
              go_wp2_with fail
              refine (heap_Score HP2.out hx (by omega)).mono ?_
              rintro e w' ⟨rfl, rfl⟩
              go_wp2_with fail
              refine (heap_Score HP2.out hid (by omega)).mono ?_
              rintro e w' ⟨rfl, rfl⟩
              go_wp2_with fail
              refine (score_Less _ _ _).mono ?_
              rintro e w' ⟨rfl, rfl⟩
              rw [HD1.out]
              go_wp2_with fail
              refine (heap_Score HP2.out hid (by omega)).mono ?_
              rintro e w' ⟨rfl, rfl⟩
              go_wp2_with fail
              refine (heap_Score HP2.out hx (by omega)).mono ?_
              rintro e w' ⟨rfl, rfl⟩
              go_wp2_with fail
              refine (score_Less _ _ _).mono ?_
              rintro e w' ⟨rfl, rfl⟩
              rw [HD2.out]
              go_wp2_with fail
              go_roundw
              case rel => exact ⟨k + 1, m, T2, Q2, id, by have := HKM.out; omega, by go_num, rfl, HH2.out, HR2.out, hKw⟩
              case measure => simp [intOf]; omega
        · obtain rfl : m = 0 := by omega
          have HH := Lib.hid HO; clear HO
          obtain ⟨vs, vt, va, HP⟩ := HH.out.hp
          have HP2 := Lib.hid HP; clear HP
          clear hL
          go_wp2_with fail
          refine (heap_Pop0 HH.out).mono ?_
          rintro e w' ⟨rfl, rfl⟩
          go_wp2_with fail
          refine (heap_Len HP2.out).mono ?_
          rintro e w' ⟨rfl, rfl⟩
          go_wp2_with fail
          refine (heap_lives _).mono ?_
          rintro e w3 ⟨rfl, hK3⟩
          have hend := (hK.trans hK3 (fun _ _ h => h)).below (Nat.le_refl _) (fun _ _ h => h)
          go_wp2_with fail
          go_ret
          exact ⟨rfl, hend⟩

theorem heapOrders_walk (w : World) (v : Value) (hv : U64sArg w v) :
    Calls Try.prog 3 #[v] w fun e w' => e = .returned (.bool true) ∧ Below w.heap.size w w' := by
  obtain ⟨a, len, cap, l, rfl, hl, hlc, hcm, hra⟩ := hv
  by_cases h : len ≤ 100
  · exact heapOrders_short w a len cap l hl hlc hcm hra h
  · exact heapOrders_long w a len cap l hl hlc hcm hra (by omega)

end Go.Proofs.Ytccdjjlbiibjgaa

