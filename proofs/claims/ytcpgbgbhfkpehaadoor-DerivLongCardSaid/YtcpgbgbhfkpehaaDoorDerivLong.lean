/-
  latchetlaw28.DerivLong: its walk.
-/
import Derived.Test.YtcpgbgbhfkpehaaDoorDerivReads
import Derived.Test.YtcpgbgbhfkpehaaDoorOctDec
namespace Go.Proofs.YtcpgbgbhfkpehaaDoor
open Go.RowKit

theorem short_lines {s : ByteArray} (h : ∀ j, j + 1 < s.size → j % 2 = 1 → bt s j = 10) {p : Nat} (hp : p ≤ s.size) : (lineT s (p : Nat)).1.size ≤ 1 := by
  unfold lineT
  rw [if_neg (by omega), Int.toNat_natCast]
  rcases feed_cases s p with ⟨i, hf, h1, h2, h3, h4⟩ | ⟨hf, _⟩
  · rw [hf]
    simp only [ByteArray.size_extract]
    by_cases hi : i ≤ p + 1
    · omega
    · exfalso
      by_cases ho : p % 2 = 1
      · exact h4 p (Nat.le_refl _) (by omega) (h p (by omega) ho)
      · exact h4 (p + 1) (by omega) (by omega) (h (p + 1) (by omega) (by omega))
  · rw [hf]; exact Nat.zero_le _

theorem made_bytes (n : Nat) : madeCells #[.int .u8 0] n = (Lib.byteCells (List.replicate n 0)).toArray := by
  apply Array.ext
  · simp [madeCells, Lib.byteCells]
  · intro i h1 h2
    simp [madeCells, Lib.byteCells, Nat.mod_one]

theorem bcells_set (cs : List UInt8) (k : Nat) (x : UInt8) : (Lib.byteCells cs).toArray.setIfInBounds k (.int .u8 (x.toNat : Int)) = (Lib.byteCells (cs.set k x)).toArray := by simp [Lib.byteCells, List.map_set]

theorem bytes_conv {cs : List UInt8} {n k : Nat} {u : World} (h : Blk u k (Lib.byteCells cs).toArray 5) (hn : cs.length = n) :
    (convert 81 9 (.slice (some ⟨k, 0, none⟩) n n)).run Tryd.prog u = .ok (.string ⟨cs.toArray⟩) u := by
  subst hn
  exact run_convert_bytes_back (P := Tryd.prog) u 81 9 5 ⟨k, 0, none⟩ cs.length cs Tryd.underlying81 Tryd.underlying5 Tryd.underlying9 (fun j hj => by
    rw [add_plain', Nat.zero_add]
    refine (h.cell (i := j) (v := .int .u8 ((cs[j]'hj).toNat : Int)) ?_)
    simp [Lib.byteCells, List.getElem?_eq_getElem hj])

theorem pats_at {n j : Nat} (h : j < n) : (pats n)[j]? = some (pat j) := by simp [pats, h]

theorem is_pats {cs : List UInt8} {n : Nat} (hl : cs.length = n) (h : ∀ j, j < n → cs[j]? = some (pat j)) : cs = pats n := by
  apply List.ext_getElem?
  intro j
  by_cases hj : j < n
  · rw [h j hj, pats_at hj]
  · rw [List.getElem?_eq_none (by omega), List.getElem?_eq_none (by rw [pats_len]; omega)]

theorem last_set (n : Nat) : (pats (n + 1)).set n 10 = pats n ++ [10] := by
  unfold pats
  rw [List.range_succ, List.map_append, List.set_append_right _ _ (by simp)]
  simp

/-- what is read of the long text -/
theorem long_read (N : Nat) (S : List UInt8) (hS : S = if N % 2 = 1 then pats (N - 1) ++ [10] else pats N) (h0 : 0 < N) :
    (⟨S.toArray⟩ : ByteArray).size = N ∧ (∀ p : Nat, p ≤ (⟨S.toArray⟩ : ByteArray).size → (lineT ⟨S.toArray⟩ (p : Nat)).1.size ≤ 1) ∧
    (1048576 < N → derivT ⟨S.toArray⟩ = ⟨[], 0, 4⟩) ∧ (N ≤ 1048576 → N % 2 = 1 → derivT ⟨S.toArray⟩ = ⟨[], N / 2 + 1, 2⟩) ∧ (N ≤ 1048576 → N % 2 = 0 → ∃ L, derivT ⟨S.toArray⟩ = ⟨L, 0, 0⟩) := by
  have hlen : S.length = N := by
    rw [hS]
    split
    · rw [List.length_append, pats_len]; simp; omega
    · rw [pats_len]
  have hsz : (⟨S.toArray⟩ : ByteArray).size = N := by rw [← list_size]; exact hlen
  refine ⟨hsz, fun p hp => short_lines ?_ hp, fun h => long_over (by rw [hsz]; exact h), fun h1 h2 => ?_, fun h1 h2 => ?_⟩
  · intro j hj ho
    rw [hsz] at hj
    have : S[j]? = some 10 := by
      rw [hS]
      split
      · rw [List.getElem?_append_left (by rw [pats_len]; omega), pats_at (by omega)]
        simp [pat, ho]
      · rw [pats_at (by omega)]
        simp [pat, ho]
    exact ((bt_is (s := ⟨S.toArray⟩) (i := j) (c := 10)).1 (by simpa using this)).2
  · rw [if_pos h2] at hS
    have e : N - 1 = 2 * (N / 2) := by omega
    rw [e] at hS
    exact long_odd (k := N / 2) hS (by rw [hsz]; exact h1)
  · rw [if_neg (by omega)] at hS
    have e : N = 2 * (N / 2) := by omega
    rw [e] at hS
    exact ⟨_, long_even (k := N / 2) hS (by rw [hsz]; exact h1)⟩

set_option maxRecDepth 100000 in
set_option maxHeartbeats 8000000 in
theorem derivLong_in (m : Nat) (hm2 : m < 256) (w : World) (ht : Tab w) (hm : ML w) :
    Calls Tryd.prog 9 #[.int .u8 m] w fun e w' => e = .returned (.bool true) ∧ Below w.heap.size w w' := by
  have HT := Lib.hid ht; clear ht
  have HM := Lib.hid hm; clear hm
  obtain ⟨r, hr⟩ : ∃ r : Nat, (m : Int) % 20 = (r : Int) := ⟨m % 20, by omega⟩
  have hr2 : r < 20 := by omega
  obtain ⟨N, hN⟩ : ∃ N : Nat, 1048566 + (r : Int) = (N : Int) := ⟨1048566 + r, by omega⟩
  have hN1 : 1048566 ≤ N := by omega
  have hN2 : N < 1048586 := by omega
  obtain ⟨i0, hi, hz0, hz1, hz2⟩ := info_parts (show (Tryd.prog.info? 5).map (fun i => (i.zero, i.size, i.bytes)) = some (some (.int .u8 0), 1, 1) by kernel_rfl)
  have hmk : ∀ u : World, (Instr.makeSlice 81 (.int .i64 (N : Int)) (.int .i64 (N : Int))).run Tryd.prog u =
      .ok (.slice (some ⟨u.heap.size, 0, none⟩) N N) (u.alloc (.cells (madeCells #[.int .u8 0] N) 5)) := fun u => by
    have h := run_make (P := Tryd.prog) u 81 5 i0 (.int .u8 0) Tryd.underlying81 hi hz0 .i64 .i64 (N : Int) (N : Int) (by omega) (Int.le_refl _) (by rw [hz2]; omega) (by omega)
    simpa [hz1, Value.cells] using h
  clear hi hz0 hz1 hz2 i0
  have hmade := Lib.hid (made_bytes N)
  go_enter Tryd.func9, Tryd.ntmps9
  go_wp2_with fail
  go_loopw [4] (fun i wr => ∃ (k : Nat) (cs : List UInt8), k ≤ N ∧ i = .int .i64 k ∧ cs.length = N ∧ (∀ j, j < k → cs[j]? = some (pat j)) ∧ Blk wr w.heap.size (Lib.byteCells cs).toArray 5 ∧ Kp (fun _ => False) w wr) (fun i _ => N - (intOf i).toNat)
  case atStart => exact ⟨0, List.replicate N 0, Nat.zero_le _, rfl, by simp, fun j hj => by omega, by rw [← hmade.out]; exact Blk.new _ _ _, (Kp.refl _ _).alloc _⟩
  case round =>
    obtain ⟨k, cs, hk, rfl, hl, hJ, hB, hK⟩ := hrel
    have HL := Lib.hid hl; clear hl
    have HJ := Lib.hid hJ; clear hJ
    have HB := Lib.hid hB; clear hB
    by_cases hlt : k < N
    · have hd : decide ((k : Int) < (N : Int)) = true := by simp; omega
      obtain ⟨x0, hx0⟩ : ∃ x0, cs[k]? = some x0 := ⟨_, List.getElem?_eq_getElem (by rw [HL.out]; exact hlt)⟩
      have c0 := HB.out.cell (i := k) (v := .int .u8 (x0.toNat : Int)) (by simp [Lib.byteCells, hx0])
      have f0 := HB.out.free k
      clear hx0
      have HRel := Lib.hid (show ∀ (x : UInt8) (wz : World), x = pat k → Blk wz w.heap.size (Lib.byteCells (cs.set k x)).toArray 5 → Kp (fun _ => False) w wz → ∃ (k' : Nat) (cs : List UInt8), k' ≤ N ∧ Value.int .i64 ((k : Int) + 1) = .int .i64 k' ∧ cs.length = N ∧ (∀ j, j < k' → cs[j]? = some (pat j)) ∧ Blk wz w.heap.size (Lib.byteCells cs).toArray 5 ∧ Kp (fun _ => False) w wz from
        fun x wz hx hBz hKz => ⟨k + 1, cs.set k x, by omega, by go_num, by rw [List.length_set, HL.out], fun j hj => by
          by_cases e : j = k
          · subst e; rw [List.getElem?_set_self (by rw [HL.out]; exact hlt), hx]
          · rw [List.getElem?_set_ne (fun h => e h.symm)]; exact HJ.out j (by omega), hBz, hKz⟩)
      have hB1 := HB.out.set_same k (.int .u8 10)
      have hB2 := hB1.set_same k (.int .u8 43)
      rw [show (Value.int .u8 10) = .int .u8 ((10 : UInt8).toNat : Int) from rfl, bcells_set] at hB1
      have e43 : ((Lib.byteCells cs).toArray.setIfInBounds k (.int .u8 10)).setIfInBounds k (.int .u8 43) = (Lib.byteCells (cs.set k 43)).toArray := by
        rw [show (Value.int .u8 10) = .int .u8 ((10 : UInt8).toNat : Int) from rfl, bcells_set, show (Value.int .u8 43) = .int .u8 ((43 : UInt8).toNat : Int) from rfl, bcells_set, List.set_set]
      rw [e43] at hB2
      clear e43
      have HB1 := Lib.hid hB1
      have HB2 := Lib.hid hB2
      have HK1 := Lib.hid (hK.setCell (p := ⟨w.heap.size, k, none⟩) (by simp) (.int .u8 10))
      have HK2 := Lib.hid ((hK.setCell (p := ⟨w.heap.size, k, none⟩) (by simp) (.int .u8 10)).setCell (p := ⟨w.heap.size, k, none⟩) (by simp) (.int .u8 43))
      clear hB1 hB2
      by_cases hp : k % 2 = 0
      · have p0 : ((k : Int) % 2 == 0) = true := by simp; omega
        have HP := Lib.hid (show (43 : UInt8) = pat k by simp [pat, hp])
        clear hp
        go_wp2_with fail
        go_roundw
        case rel => exact HRel.out 43 _ HP.out HB2.out HK2.out
        case measure => simp [intOf]; omega
      · have p0 : ((k : Int) % 2 == 0) = false := by simp; omega
        have HP := Lib.hid (show (10 : UInt8) = pat k by simp [pat, hp])
        clear hp
        go_wp2_with fail
        go_roundw
        case rel => exact HRel.out 10 _ HP.out HB1.out HK1.out
        case measure => simp [intOf]; omega
    · have hd : decide ((k : Int) < (N : Int)) = false := by simp; omega
      have hp := is_pats HL.out (fun j hj => HJ.out j (by omega))
      subst hp
      obtain ⟨P, hP⟩ : ∃ P, N = P + 1 := ⟨N - 1, by omega⟩
      have et : ((N : Int) - 1).toNat = P := by omega
      have j0 : (0 : Int) ≤ (N : Int) - 1 := by omega
      have j1 : (1 : Int) ≤ (N : Int) := by omega
      have j2 : (N : Int) - 1 < (N : Int) := by omega
      have HL2 : Hid (∀ u, Tab u → ML u → Calls Tryd.prog 46 #[] u fun e w' => e = .returned (.bool true) ∧ Kp (fun _ => False) u w') := fun u h1 h2 => deriv_lives u h1 h2
      have c0 := HB.out.cell (i := P) (v := .int .u8 ((pat P).toNat : Int)) (by simp [Lib.byteCells, pats_at (show P < N by omega)])
      have f0 := HB.out.free P
      have HS := Lib.hid (long_read N (if N % 2 = 1 then pats (N - 1) ++ [10] else pats N) rfl (by omega))
      clear HJ hmk hmade hr hr2 hN
      by_cases ho : N % 2 = 1
      · have p1 : ((N : Int) % 2 == 1) = true := by simp; omega
        have HBz : Blk (wr.setCell ⟨w.heap.size, P, none⟩ (.int .u8 10)) w.heap.size (Lib.byteCells (pats P ++ [10])).toArray 5 := by
          have := HB.out.set_same P (.int .u8 10)
          rw [show (Value.int .u8 10) = .int .u8 ((10 : UInt8).toNat : Int) from rfl, bcells_set, hP, last_set] at this
          exact this
        have hcv := bytes_conv (n := N) HBz (by rw [List.length_append, pats_len, hP]; rfl)
        have hKz := Lib.hid (hK.setCell (p := ⟨w.heap.size, P, none⟩) (by simp) (.int .u8 10))
        rw [if_pos ho, show N - 1 = P by omega] at HS
        obtain ⟨S, hS⟩ : ∃ S, (⟨(pats P ++ [10]).toArray⟩ : ByteArray) = S := ⟨_, rfl⟩
        rw [hS] at HS hcv
        clear hS HBz HB HL
        have HRd : Hid (∀ u, ML u → Calls Tryd.prog 42 #[.string S] u (DReadP (derivT S) u)) := by
          intro u hu
          by_cases hb : S.size ≤ 1048576
          · exact deriv_Read_in S u hb (fun p hp => Nat.le_trans (HS.out.2.1 p hp) (by decide)) hu
          · exact deriv_Read_long S u (by omega)
        by_cases hb : N ≤ 1048576
        · have d1 : decide ((1048576 : Int) < (N : Int)) = false := by simp; omega
          rw [HS.out.2.2.2.1 hb ho] at HRd
          obtain ⟨Q, hQ⟩ : ∃ Q, N / 2 + 1 = Q := ⟨_, rfl⟩
          have bQ : ((Q : Int) == (N : Int) / 2 + 1) = true := by simp; omega
          rw [hQ] at HRd
          clear ho hP hQ hb
          go_wp2_with fail
          refine (HRd.out _ (HM.out.kp hKz.out)).mono ?_
          rintro e w2 ⟨v, rs, rfl, _, _, hK2⟩
          have hK3 := Lib.hid (hKz.out.trans hK2 (fun _ _ h => h))
          clear hK2
          go_wp2_with fail
          refine (HL2.out _ (HT.out.kp hK3.out) (HM.out.kp hK3.out)).mono ?_
          rintro e w3 ⟨rfl, hK4⟩
          have hend := (hK3.out.trans hK4 (fun _ _ h => h)).below (Nat.le_refl _) (fun _ _ h => h)
          go_wp2_with fail
          go_ret
          exact ⟨rfl, hend⟩
        · have d1 : decide ((1048576 : Int) < (N : Int)) = true := by simp; omega
          rw [HS.out.2.2.1 (by omega)] at HRd
          clear ho hP hb
          go_wp2_with fail
          refine (HRd.out _ (HM.out.kp hKz.out)).mono ?_
          rintro e w2 ⟨v, rs, rfl, _, _, hK2⟩
          have hK3 := Lib.hid (hKz.out.trans hK2 (fun _ _ h => h))
          clear hK2
          go_wp2_with fail
          refine (HL2.out _ (HT.out.kp hK3.out) (HM.out.kp hK3.out)).mono ?_
          rintro e w3 ⟨rfl, hK4⟩
          have hend := (hK3.out.trans hK4 (fun _ _ h => h)).below (Nat.le_refl _) (fun _ _ h => h)
          go_wp2_with fail
          go_ret
          exact ⟨rfl, hend⟩
      · have p1 : ((N : Int) % 2 == 1) = false := by simp; omega
        have hcv := bytes_conv (n := N) HB.out (pats_len N)
        have hKz := Lib.hid hK
        rw [if_neg ho] at HS
        obtain ⟨S, hS⟩ : ∃ S, (⟨(pats N).toArray⟩ : ByteArray) = S := ⟨_, rfl⟩
        rw [hS] at HS hcv
        clear hS HB HL
        have HRd : Hid (∀ u, ML u → Calls Tryd.prog 42 #[.string S] u (DReadP (derivT S) u)) := by
          intro u hu
          by_cases hb : S.size ≤ 1048576
          · exact deriv_Read_in S u hb (fun p hp => Nat.le_trans (HS.out.2.1 p hp) (by decide)) hu
          · exact deriv_Read_long S u (by omega)
        by_cases hb : N ≤ 1048576
        · have d1 : decide ((1048576 : Int) < (N : Int)) = false := by simp; omega
          obtain ⟨L, hL⟩ := HS.out.2.2.2.2 hb (by omega)
          rw [hL] at HRd
          clear ho hP hb hL
          go_wp2_with fail
          refine (HRd.out _ (HM.out.kp hKz.out)).mono ?_
          rintro e w2 ⟨v, rs, rfl, _, _, hK2⟩
          have hK3 := Lib.hid (hKz.out.trans hK2 (fun _ _ h => h))
          clear hK2
          go_wp2_with fail
          refine (HL2.out _ (HT.out.kp hK3.out) (HM.out.kp hK3.out)).mono ?_
          rintro e w3 ⟨rfl, hK4⟩
          have hend := (hK3.out.trans hK4 (fun _ _ h => h)).below (Nat.le_refl _) (fun _ _ h => h)
          go_wp2_with fail
          go_ret
          exact ⟨rfl, hend⟩
        · have d1 : decide ((1048576 : Int) < (N : Int)) = true := by simp; omega
          rw [HS.out.2.2.1 (by omega)] at HRd
          clear ho hP hb
          go_wp2_with fail
          refine (HRd.out _ (HM.out.kp hKz.out)).mono ?_
          rintro e w2 ⟨v, rs, rfl, _, _, hK2⟩
          have hK3 := Lib.hid (hKz.out.trans hK2 (fun _ _ h => h))
          clear hK2
          go_wp2_with fail
          refine (HL2.out _ (HT.out.kp hK3.out) (HM.out.kp hK3.out)).mono ?_
          rintro e w3 ⟨rfl, hK4⟩
          have hend := (hK3.out.trans hK4 (fun _ _ h => h)).below (Nat.le_refl _) (fun _ _ h => h)
          go_wp2_with fail
          go_ret
          exact ⟨rfl, hend⟩

theorem derivLong_walk (x : Int) (wx : (Lit.int .u8 x).wf = true) (w : World) (ht : Tab w) (hm : ML w) :
    Calls Tryd.prog 9 #[.int .u8 x] w fun e w' => e = .returned (.bool true) ∧ Below w.heap.size w w' := by
  obtain ⟨m, rfl, hm2⟩ : ∃ m : Nat, x = m ∧ m < 256 := ⟨x.toNat, by simp [Lit.wf, IntKind.min, IntKind.max, IntKind.signed, IntKind.bits] at wx; omega, by simp [Lit.wf, IntKind.min, IntKind.max, IntKind.signed, IntKind.bits] at wx; omega⟩
  exact derivLong_in m hm2 w ht hm

end Go.Proofs.YtcpgbgbhfkpehaaDoor
