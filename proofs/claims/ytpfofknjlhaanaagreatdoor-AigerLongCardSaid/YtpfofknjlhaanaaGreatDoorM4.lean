/-
  latchetlaw15.AigerLong: its walk.
-/
import Derived.Test.YtpfofknjlhaanaaGreatDoorM3
import Derived.Test.YtpfofknjlhaanaaGreatDoorM2
import Derived.Lib.LaidTab
import Derived.Stop.LaidErr
namespace Go.Proofs.YtpfofknjlhaanaaGreatDoor
open Go.RowKit

set_option maxRecDepth 100000 in
set_option maxHeartbeats 4000000 in
/-- a text that is too long is no file -/
theorem aiger_Parse_long (s : ByteArray) (w : World) (hs : 1048576 < s.size) :
    Calls Tryz.prog 6 #[.string s] w fun o w' => o = .returned (.tuple #[.agg #[.int .i64 0, .slice none 0 0, .slice none 0 0, .slice none 0 0, .slice none 0 0, .slice none 0 0, .slice none 0 0, .slice none 0 0, .string ⟨#[]⟩], .int .i64 0, .int .i64 4]) ∧ Kp (fun _ => False) w w' := by
  have d1 : decide ((1048576 : Int) < (s.size : Int)) = true := by simp; omega
  clear hs
  obtain ⟨wz, hwz⟩ : ∃ wz : World, wz = (w.alloc (.cells #[.int .i64 0, .slice none 0 0, .slice none 0 0, .slice none 0 0, .slice none 0 0, .slice none 0 0, .slice none 0 0, .slice none 0 0, .string ⟨#[]⟩] 29)).alloc (.cells #[.int .i64 0, .slice none 0 0, .slice none 0 0, .slice none 0 0, .slice none 0 0, .slice none 0 0, .slice none 0 0, .slice none 0 0, .string ⟨#[]⟩] 29) := ⟨_, rfl⟩
  have HKz : Hid (Kp (fun _ => False) w wz) := Lib.hid (by rw [hwz]; exact ((Kp.refl _ w).alloc _).alloc _)
  have HRz : Hid (Blk wz w.heap.size #[.int .i64 0, .slice none 0 0, .slice none 0 0, .slice none 0 0, .slice none 0 0, .slice none 0 0, .slice none 0 0, .slice none 0 0, .string ⟨#[]⟩] 29) := Lib.hid (by rw [hwz]; exact (Blk.new w _ _).alloc _)
  have HNz : Hid (Blk wz (w.heap.size + 1) #[.int .i64 0, .slice none 0 0, .slice none 0 0, .slice none 0 0, .slice none 0 0, .slice none 0 0, .slice none 0 0, .slice none 0 0, .string ⟨#[]⟩] 29) := Lib.hid (by rw [hwz]; exact two_new w _ _ _ _)
  have HFirst := Lib.hid hwz
  clear hwz
  go_enter Tryz.func6, Tryz.ntmps6
  go_upto_region 2 with fail
  rw [show (w.alloc (.cells #[.int .i64 0, .slice none 0 0, .slice none 0 0, .slice none 0 0, .slice none 0 0, .slice none 0 0, .slice none 0 0, .slice none 0 0, .string ⟨#[]⟩] 29)).alloc (.cells #[.int .i64 0, .slice none 0 0, .slice none 0 0, .slice none 0 0, .slice none 0 0, .slice none 0 0, .slice none 0 0, .slice none 0 0, .string ⟨#[]⟩] 29) = wz from HFirst.out.symm]
  clear HFirst
  obtain ⟨z0, z1, z2, z3, z4, z5, z6, z7, z8⟩ := HNz.out.cells9'
  obtain ⟨r0, r1, r2, r3, r4, r5, r6, r7, r8⟩ := HRz.out.cells9'
  have fr := HRz.out.free
  have fr0 := fr 0
  have fr1 := fr 1
  have fr2 := fr 2
  have fr3 := fr 3
  have fr4 := fr 4
  have fr5 := fr 5
  have fr6 := fr 6
  have fr7 := fr 7
  have fr8 := fr 8
  clear fr
  have HBe := Lib.hid (HRz.out.set9 (.int .i64 0) (.slice none 0 0) (.slice none 0 0) (.slice none 0 0) (.slice none 0 0) (.slice none 0 0) (.slice none 0 0) (.slice none 0 0) (.string ⟨#[]⟩))
  have HKe := Lib.hid (Kp.set9 wz w.heap.size (.int .i64 0) (.slice none 0 0) (.slice none 0 0) (.slice none 0 0) (.slice none 0 0) (.slice none 0 0) (.slice none 0 0) (.slice none 0 0) (.string ⟨#[]⟩))
  unfold Go.Proofs.YtpfofknjlhaanaaGreatDoor.set9 at HBe HKe
  go_wp2_with fail
  obtain ⟨s0, s1, s2, s3, s4, s5, s6, s7, s8⟩ := HBe.out.cells9'
  exact bodyPost_ret (v := .tuple #[.agg #[.int .i64 0, .slice none 0 0, .slice none 0 0, .slice none 0 0, .slice none 0 0, .slice none 0 0, .slice none 0 0, .slice none 0 0, .string ⟨#[]⟩], .int .i64 0, .int .i64 4]) (by simp [results, Tryz.results6, go_sem, s0, s1, s2, s3, s4, s5, s6, s7, s8]) rfl
    ⟨rfl, HKz.out.trans HKe.out (fun j hj h => by omega)⟩

theorem pre_Parse (cm : ByteArray) (w : World) (h : 16 + cm.size ≤ 1048576) : Calls Tryz.prog 6 #[.string (preS ++ cm)] w fun o w' => ∃ ab cb cm',
    o = .returned (.tuple #[.agg #[.int .i64 0, .slice none 0 0, .slice none 0 0, .slice none 0 0, .slice ab 0 cb, .slice none 0 0, .slice none 0 0, .slice none 0 0, .string cm'], .int .i64 ((16 + cm.size : Nat) : Int), .int .i64 0]) ∧ Kp (fun _ => False) w w' :=
  (aiger_Parse_b 0 (preS ++ cm) 14 14 (16 + cm.size) (fun _ => True) w (by omega) (by rw [preS_size]; omega) (fun u => pre_ReadHead cm u (by omega))
    (fun u => ascii_Read_b 0 (preS ++ cm) 14 14 u (by rw [preS_size]; omega) (fun bv bh br bl v hL => litsP0 _ 14 bv bh br bl v hL))
    (fun u => (tail_ReadM (0 : Nat) (preS ++ cm) 14 u (by rw [preS_size]; omega) (by rw [preS_size]; omega) (pre_tail cm)).mono (by
      rintro e u' ⟨⟨cm', rfl⟩, hK⟩
      exact ⟨cm', trivial, by rw [preS_size], hK⟩))).mono (by
    rintro o w' ⟨ab, cb, cm', -, ho, -, hK⟩
    exact ⟨ab, cb, cm', ho, hK⟩)

theorem made_bytes (n : Nat) : madeCells #[.int .u8 0] n = (Lib.byteCells (List.replicate n 0)).toArray := by
  apply Array.ext
  · simp [madeCells, Lib.byteCells]
  · intro i h1 h2
    simp [madeCells, Lib.byteCells, Nat.mod_one]

theorem bcells_set (cs : List UInt8) (k : Nat) (x : UInt8) : (Lib.byteCells cs).toArray.setIfInBounds k (.int .u8 (x.toNat : Int)) = (Lib.byteCells (cs.set k x)).toArray := by simp [Lib.byteCells, List.map_set]

theorem bytes_conv {cs : List UInt8} {n k : Nat} {u : World} (h : Blk u k (Lib.byteCells cs).toArray 5) (hn : cs.length = n) :
    (convert 23 9 (.slice (some ⟨k, 0, none⟩) n n)).run Tryz.prog u = .ok (.string ⟨cs.toArray⟩) u := by
  subst hn
  exact run_convert_bytes_back (P := Tryz.prog) u 23 9 5 ⟨k, 0, none⟩ cs.length cs Tryz.underlying23 Tryz.underlying5 Tryz.underlying9 (fun j hj => by
    rw [show (⟨k, 0, none⟩ : Addr).add j = ⟨k, 0 + j, none⟩ from add_plain' k 0 j, Nat.zero_add]
    refine (h.cell (i := j) (v := .int .u8 ((cs[j]'hj).toNat : Int)) ?_)
    simp [Lib.byteCells, List.getElem?_eq_getElem hj])

set_option maxRecDepth 100000 in
set_option maxHeartbeats 8000000 in
theorem aigerLong_in (m : Nat) (hm2 : m < 65536) (w : World) (ht : Tab w) :
    Calls Tryz.prog 3 #[.int .u16 m] w fun e w' => e = .returned (.bool true) ∧ Below w.heap.size w w' := by
  have HT := Lib.hid ht; clear ht
  obtain ⟨r, hr⟩ : ∃ r : Nat, (m : Int) % 20 = (r : Int) := ⟨m % 20, by omega⟩
  have hr2 : r < 20 := by omega
  obtain ⟨N, hN⟩ : ∃ N : Nat, 1048550 + (r : Int) = (N : Int) := ⟨1048550 + r, by omega⟩
  have hN1 : 1048550 ≤ N := by omega
  have hN2 : N < 1048570 := by omega
  obtain ⟨i0, hi, hz0, hz1, hz2⟩ := info_parts (show (Tryz.prog.info? 5).map (fun i => (i.zero, i.size, i.bytes)) = some (some (.int .u8 0), 1, 1) by kernel_rfl)
  have hmk : ∀ u : World, (Instr.makeSlice 23 (.int .i64 (N : Int)) (.int .i64 (N : Int))).run Tryz.prog u =
      .ok (.slice (some ⟨u.heap.size, 0, none⟩) N N) (u.alloc (.cells (madeCells #[.int .u8 0] N) 5)) := fun u => by
    have h := run_make (P := Tryz.prog) u 23 5 i0 (.int .u8 0) Tryz.underlying23 hi hz0 .i64 .i64 (N : Int) (N : Int) (by omega) (Int.le_refl _) (by rw [hz2]; omega) (by omega)
    simpa [hz1, Value.cells] using h
  clear hi hz0 hz1 hz2 i0
  have hmade := Lib.hid (made_bytes N)
  go_enter Tryz.func3, Tryz.ntmps3
  go_wp2_with fail
  go_loopw [4] (fun i wr => ∃ (k : Nat) (cs : List UInt8), k ≤ N ∧ i = .int .i64 k ∧ cs.length = N ∧ Blk wr w.heap.size (Lib.byteCells cs).toArray 5 ∧ Kp (fun _ => False) w wr) (fun i _ => N - (intOf i).toNat)
  case atStart => exact ⟨0, List.replicate N 0, Nat.zero_le _, rfl, by simp, by rw [← hmade.out]; exact Blk.new _ _ _, (Kp.refl _ _).alloc _⟩
  case round =>
    obtain ⟨k, cs, hk, rfl, hl, hB, hK⟩ := hrel
    have HL := Lib.hid hl; clear hl
    have HB := Lib.hid hB; clear hB
    have HK := Lib.hid hK
    by_cases hlt : k < N
    · have hd : decide ((k : Int) < (N : Int)) = true := by simp; omega
      obtain ⟨x0, hx0⟩ : ∃ x0, cs[k]? = some x0 := ⟨_, List.getElem?_eq_getElem (by rw [HL.out]; exact hlt)⟩
      have c0 := HB.out.cell (i := k) (v := .int .u8 (x0.toNat : Int)) (by simp [Lib.byteCells, hx0])
      have f0 := HB.out.free k
      clear hx0
      have hB1 := HB.out.set_same k (.int .u8 120)
      rw [show (Value.int .u8 120) = .int .u8 ((120 : UInt8).toNat : Int) from rfl, bcells_set] at hB1
      have HRel := Lib.hid (show ∃ (k' : Nat) (cs' : List UInt8), k' ≤ N ∧ Value.int .i64 ((k : Int) + 1) = .int .i64 k' ∧ cs'.length = N ∧ Blk (wr.setCell ⟨w.heap.size, k, none⟩ (.int .u8 120)) w.heap.size (Lib.byteCells cs').toArray 5 ∧ Kp (fun _ => False) w (wr.setCell ⟨w.heap.size, k, none⟩ (.int .u8 120)) from
        ⟨k + 1, cs.set k 120, by omega, by go_num, by rw [List.length_set, HL.out], hB1, hK.setCell (p := ⟨w.heap.size, k, none⟩) (by simp) _⟩)
      clear hB1 hK
      go_wp2_with fail
      go_roundw
      case rel => exact HRel.out
      case measure => simp [intOf]; omega
    · have hd : decide ((k : Int) < (N : Int)) = false := by simp; omega
      clear hr hr2 hN hmk hmade hK
      have HCv := Lib.hid (fun u (hK : Kp (fun _ => False) wr u) => bytes_conv (HB.out.kp hK (fun h => h)) HL.out)
      obtain ⟨cm, hcm⟩ : ∃ cm : ByteArray, cm = ⟨cs.toArray⟩ := ⟨_, rfl⟩
      have hsz : cm.size = N := by rw [hcm]; exact HL.out
      rw [← hcm] at HCv
      have hcv := HCv.out _ (Kp.refl _ _)
      clear hcm HB HL
      have HSz := Lib.hid (And.intro hsz (And.intro hN1 hN2))
      have hcat : ¬ 9223372036854775807 < 16 + cm.size := by omega
      obtain ⟨T, hT⟩ : ∃ T, T = fileT cm := ⟨_, rfl⟩
      have hTs : T.size = 16 + N := by rw [hT]; unfold fileT headS; rw [ByteArray.size_append, ByteArray.size_append, hsz]; show 14 + (2 + N) = _; omega
      have gS : (T.toList == T.toList) = true := by simp
      have HP := Lib.hid (fun u (hu : Tab u) bg hb => aiger_Print0 cm u (by omega) (by omega) hu bg hb)
      have HQ := Lib.hid (fun u bg hb => ref15_Print0 cm u (by omega) (by omega) bg hb)
      rw [← hT] at HP HQ
      unfold circN at HP HQ
      obtain ⟨wq, rfl⟩ : ∃ wq : World, wq = wr := ⟨_, rfl⟩
      have HC := Lib.hid (Blk.new wq #[.int .i64 0, .slice none 0 0, .slice none 0 0, .slice none 0 0, .slice none 0 0, .slice none 0 0, .slice none 0 0, .slice none 0 0, .string cm] 29)
      have HK1 := Lib.hid (HK.out.alloc (.cells #[.int .i64 0, .slice none 0 0, .slice none 0 0, .slice none 0 0, .slice none 0 0, .slice none 0 0, .slice none 0 0, .slice none 0 0, .string cm] 29))
      have HKq := Lib.hid ((Kp.refl (fun _ => False) wq).alloc (.cells #[.int .i64 0, .slice none 0 0, .slice none 0 0, .slice none 0 0, .slice none 0 0, .slice none 0 0, .slice none 0 0, .slice none 0 0, .string cm] 29))
      clear hT hk
      by_cases hb : 1048576 < 16 + N
      · have HP := Lib.hid (fun u hu => HP.out u hu true (by simp; omega))
        have HQ := Lib.hid (fun u => HQ.out u true (by simp; omega))
        simp only [cond_true] at HP HQ
        have HPa := Lib.hid (fun u => aiger_Parse_long (preS ++ cm) u (by rw [preS_size, hsz]; omega))
        unfold preS at HPa
        clear hsz hN1 hN2 hb hTs gS
        go_wp2_with fail
        refine (HP.out _ (HT.out.kp HK1.out)).mono ?_
        rintro e w2 ⟨rfl, hK2⟩
        have HC2 := Lib.hid (HC.out.kp hK2 (fun h => h))
        have HK2 := Lib.hid (HK1.out.trans hK2 (fun _ _ h => h))
        have HKq2 := Lib.hid (HKq.out.trans hK2 (fun _ _ h => h))
        clear hK2 hcv
        obtain ⟨z0, z1, z2, z3, z4, z5, z6, z7, z8⟩ := HC2.out.cells9'
        go_wp2_with fail
        refine (HQ.out _).mono ?_
        rintro e w3 ⟨rfl, hK3⟩
        have HK3 := Lib.hid (HK2.out.trans hK3 (fun _ _ h => h))
        have hcv := HCv.out _ (HKq2.out.trans hK3 (fun _ _ h => h))
        clear hK3 z0 z1 z2 z3 z4 z5 z6 z7 z8
        go_wp2_with fail
        refine (HPa.out _).mono ?_
        rintro e w4 ⟨rfl, hK4⟩
        have HK4 := Lib.hid ((HK3.out.trans hK4 (fun _ _ h => h)).alloc (.cells #[.int .i64 0, .slice none 0 0, .slice none 0 0, .slice none 0 0, .slice none 0 0, .slice none 0 0, .slice none 0 0, .slice none 0 0, .string ⟨#[]⟩] 29))
        clear hK4 hcv
        go_wp2_with fail
        refine (lives_ok _).mono ?_
        rintro e w5 ⟨rfl, hK5⟩
        have hend := (HK4.out.trans hK5 (fun _ _ h => h)).below (Nat.le_refl _) (fun _ _ h => h)
        go_wp2_with fail
        go_ret
        exact ⟨rfl, hend⟩
      · have HP := Lib.hid (fun u hu => HP.out u hu false (by simp; omega))
        have HQ := Lib.hid (fun u => HQ.out u false (by simp; omega))
        simp only [cond_false] at HP HQ
        have HPa := Lib.hid (fun u => pre_Parse cm u (by omega))
        rw [hsz] at HPa
        obtain ⟨K, hKn⟩ : ∃ K, 16 + N = K := ⟨_, rfl⟩
        rw [hKn] at HPa hTs
        unfold preS at HPa
        clear hsz hN1 hN2 hb hKn
        go_wp2_with fail
        refine (HP.out _ (HT.out.kp HK1.out)).mono ?_
        rintro e w2 ⟨rfl, hK2⟩
        have HC2 := Lib.hid (HC.out.kp hK2 (fun h => h))
        have HK2 := Lib.hid (HK1.out.trans hK2 (fun _ _ h => h))
        have HKq2 := Lib.hid (HKq.out.trans hK2 (fun _ _ h => h))
        clear hK2 hcv
        obtain ⟨z0, z1, z2, z3, z4, z5, z6, z7, z8⟩ := HC2.out.cells9'
        go_wp2_with fail
        refine (HQ.out _).mono ?_
        rintro e w3 ⟨rfl, hK3⟩
        have HK3 := Lib.hid (HK2.out.trans hK3 (fun _ _ h => h))
        have hcv := HCv.out _ (HKq2.out.trans hK3 (fun _ _ h => h))
        clear hK3 z0 z1 z2 z3 z4 z5 z6 z7 z8
        go_wp2_with fail
        refine (HPa.out _).mono ?_
        rintro e w4 ⟨ab, cb, cm', rfl, hK4⟩
        have HK4 := Lib.hid ((HK3.out.trans hK4 (fun _ _ h => h)).alloc (.cells #[.int .i64 0, .slice none 0 0, .slice none 0 0, .slice none 0 0, .slice ab 0 cb, .slice none 0 0, .slice none 0 0, .slice none 0 0, .string cm'] 29))
        clear hK4 hcv
        go_wp2_with fail
        refine (lives_ok _).mono ?_
        rintro e w5 ⟨rfl, hK5⟩
        have hend := (HK4.out.trans hK5 (fun _ _ h => h)).below (Nat.le_refl _) (fun _ _ h => h)
        go_wp2_with fail
        go_ret
        exact ⟨rfl, hend⟩

theorem aigerLong_walk (x : Int) (wx : (Lit.int .u16 x).wf = true) (w : World) (ht : Tab w) :
    Calls Tryz.prog 3 #[.int .u16 x] w fun e w' => e = .returned (.bool true) ∧ Below w.heap.size w w' := by
  obtain ⟨m, rfl, hm2⟩ : ∃ m : Nat, x = m ∧ m < 65536 := ⟨x.toNat, by simp [Lit.wf, IntKind.min, IntKind.max, IntKind.signed, IntKind.bits] at wx; omega, by simp [Lit.wf, IntKind.min, IntKind.max, IntKind.signed, IntKind.bits] at wx; omega⟩
  exact aigerLong_in m hm2 w ht

end Go.Proofs.YtpfofknjlhaanaaGreatDoor

/-
  The package-level variables that the rows list: a world that holds them, and the table of powers of ten out of a row's list.
-/
namespace Go.Proofs.YtpfofknjlhaanaaGreatDoor
open Go.RowKit

def synS : ByteArray := { data := #[105, 110, 118, 97, 108, 105, 100, 32, 115, 121, 110, 116, 97, 120] }
def rangeS : ByteArray := { data := #[118, 97, 108, 117, 101, 32, 111, 117, 116, 32, 111, 102, 32, 114, 97, 110, 103, 101] }
noncomputable def low : Nat := (World.holding Tryz.prog default ⟨#[], #[], []⟩).heap.size

def putCells (g : Nat) (cs : Array Value) (w : World) : World :=
  { w with heap := w.heap.modify g fun
      | .cells _ t frozen => .cells cs t frozen
      | o => o }

def tab32 : Array Value := #[0, 1, 28, 2, 29, 14, 24, 3, 30, 22, 20, 15, 25, 17, 4, 8, 31, 27, 13, 23, 21, 19, 16, 7, 26, 12, 18, 6, 11, 5, 10, 9].map (Value.int .u8)
def tab64 : Array Value := #[0, 1, 56, 2, 57, 49, 28, 3, 61, 58, 42, 50, 38, 29, 17, 4, 62, 47, 59, 36, 45, 43, 51, 22, 53, 39, 33, 30, 24, 18, 12, 5, 63, 55, 48, 27, 60, 41, 37, 16, 46, 35, 44, 21, 52, 32, 23, 11, 54, 26, 40, 15, 34, 20, 31, 10, 25, 14, 19, 9, 13, 8, 7, 6].map (Value.int .u8)
def tabPow : Array Value := (Lib.pow10Tab.map (Value.int .u64)).toArray

noncomputable def laidWorld (os : Os) : World :=
  putCells 5 tab64 (putCells 4 tab32 (putCells 1 tabPow
    (putCells 3 #[.iface 179 (.pointer (some ⟨low + 1, 0, none⟩))] (putCells 2 #[.iface 179 (.pointer (some ⟨low, 0, none⟩))]
      (World.holding Tryz.prog os ⟨#[.cells #[.string synS] 181, .cells #[.string rangeS] 181], #[], []⟩)))))

theorem gPowType : (Tryz.prog.globals[1]?).map (·.type) = some 167 := by kernel_rfl
theorem cells64 : Tryz.prog.cellsOf 155 = 1 := by kernel_rfl
theorem cellsPow : Tryz.prog.cellsOf 167 = 20 := by kernel_rfl

theorem tab_of_laid {W : World} {x y : String × DataW Unit} {r : List (String × DataW Unit)}
    (h : laidMet Tryz.prog (x :: y :: ("internal/strconv.uint64pow10", Rows.laid_internal_strconv_uint64pow10) :: r) W) : Tab W :=
  Lib.tabIs_of_head (zs := Lib.pow10Tab) gPow gPowType Tryz.underlying167 Tryz.underlying155 cells64 cellsPow (laidMet.tail (laidMet.tail h))

end Go.Proofs.YtpfofknjlhaanaaGreatDoor
