/-
  latchetref12.Read.
-/
import Derived.Test.YtojodmfkenfhlaaDoorTailRef
import Derived.Deep.DeepCutAuto
namespace Go.Proofs.YtojodmfkenfhlaaDoor
open Go.RowKit

theorem OwnK.empty {w : World} {base g : Nat} {e : TypeId} {k : Nat} (h : Blk w g #[] e) (hg : base ≤ g) : OwnK w base e k (.slice (some ⟨g, 0, none⟩) 0 0) [] :=
  ⟨⟨by simp, .inr ⟨g, 0, #[], rfl, hg, h, Nat.le_refl _, by simp [maxLen], by simp, by simp⟩⟩, fun r h => by cases h⟩

theorem natT_in {s : ByteArray} {p : Nat} (hp : p ≤ s.size) : natT s (p : Nat) = natN s p := by unfold natT; rw [if_neg (by omega), Int.toNat_natCast]

set_option maxRecDepth 100000 in
set_option maxHeartbeats 8000000 in
theorem ref12_Read_in (h : Hd) (s : ByteArray) (q : Nat) (w : World) (hs : s.size ≤ 100000) (hq : q ≤ s.size) :
    Calls Tryd.prog 27 #[.string s, .int .i64 q, hdV h] w (ReadPost (readR h s (s.size + 1) [] q) w) := by
  obtain ⟨R, hR⟩ : ∃ R, readR h s (s.size + 1) [] q = R := ⟨_, rfl⟩
  rw [hR]
  have HR := Lib.hid hR; clear hR
  have g0 : decide ((q : Int) < 0) = false := by simp
  have g1 : decide (s.size < q) = false := by simp; omega
  have HCT := Lib.hid (fun k u => ref12_Count h k u)
  obtain ⟨hd, hhd⟩ : ∃ hd, hd = h := ⟨_, rfl⟩
  have HB0 := Lib.hid (Blk.new w (hdCells h) 46)
  rw [← hhd] at HR
  have HHD := Lib.hid hhd; clear hhd
  obtain ⟨bin, m, i, l, o, a, b, c⟩ := h
  unfold hdV at HCT ⊢
  unfold hdCells at HB0
  simp only at HB0 HCT ⊢
  rw [← HHD.out] at HCT
  clear HHD
  go_enter Tryd.func27, Tryd.ntmps27
  go_wp2_with fail
  go_loopw [1, 10] (fun v1 v10 wr => ∃ (p f : Nat) (L : List Sym), v1 = .int .i64 p ∧ p ≤ s.size ∧ s.size < p + f ∧ L.length ≤ p ∧ readR hd s f L p = R ∧ OwnK wr (w.heap.size + 1) 100 3 v10 (L.map symCells) ∧ Blk wr w.heap.size #[.bool bin, .int .i64 m, .int .i64 i, .int .i64 l, .int .i64 o, .int .i64 a, .int .i64 b, .int .i64 c] 46 ∧ Kp (fun _ => False) w wr) (fun v1 _ _ => s.size - (intOf v1).toNat)
  case atStart =>
    refine ⟨q, s.size + 1, [], rfl, hq, by omega, by simp, HR.out, ?_, HB0.out.alloc _, ((Kp.refl _ w).alloc _).alloc _⟩
    have h1 := Blk.new (w.alloc (.cells #[.bool bin, .int .i64 m, .int .i64 i, .int .i64 l, .int .i64 o, .int .i64 a, .int .i64 b, .int .i64 c] 46)) #[] 100
    have h2 := OwnK.empty (k := 3) (base := w.heap.size + 1) h1 (by simp)
    simpa using h2
  case round =>
    obtain ⟨p, f, L, rfl, hp, hf, hLp, hRR, hO, hB, hK⟩ := hrel
    have HRR := Lib.hid hRR; clear hRR
    have HLP := Lib.hid hLp; clear hLp
    by_cases hlt : p < s.size
    · have p0 : (0 : Int) ≤ (p : Int) := by omega
      have p1 : (p : Int) < (s.size : Int) := by omega
      have hb := bt_eq hlt
      have hb2 := bt_lt s p
      by_cases cm : markAt s p
      · have HRm := Lib.hid (readR_mark (h := hd) (L := L) (f := f) hlt (by omega) cm)
        obtain ⟨m1, m2, m3⟩ := cm
        have hbn := bt_eq m2
        rw [m1] at hb
        rw [m3] at hbn
        clear m1 m3
        have n0 : (p : Int) + 1 < (s.size : Int) := by omega
        have n1 : decide ((p : Int) + 1 < (s.size : Int)) = true := by simp; omega
        have n2 : (p : Int) + 2 ≤ (s.size : Int) := by omega
        have n3 : (0 : Int) ≤ (p : Int) + 1 := by omega
        have n4 : (0 : Int) ≤ (p : Int) + 2 := by omega
        have n5 : ((p : Int) + 1).toNat = p + 1 := by omega
        have n6 : ((p : Int) + 2).toNat = p + 2 := by omega
        have HEnd : Hid (∀ q, ReadPost R w (.returned (.tuple #[u10, .string (s.extract (p + 2) s.size), .int .i64 (s.size : Int), .int .i64 0])) (wr.drewN q)) := by
          intro q
          rw [← HRR.out, HRm.out]
          exact ⟨u10, rfl, (hO.mono (by omega)).drewN _, hK.drewN _⟩
        clear HRm hO hB
        go_wp2_with fail
        go_quiet (fail)
        go_wp2_with fail
        exact bodyPost_ret (v := .tuple #[u10, .string (s.extract (p + 2) s.size), .int .i64 (s.size : Int), .int .i64 0]) (by simp [results, Tryd.results27, go_sem]) rfl (HEnd.out _)
      · have CM := Lib.hid cm
        obtain ⟨k, hk⟩ : ∃ k, bt s p = k := ⟨_, rfl⟩
        rw [hk] at hb hb2
        have HKK := Lib.hid hk
        have HM : Hid (((k : Int) == 99) = false ∨ ((k : Int) == 99) = true ∧ decide ((p : Int) + 1 < (s.size : Int)) = false ∨ ∃ (h : p + 1 < s.size) (z : Nat), ((k : Int) == 99) = true ∧ decide ((p : Int) + 1 < (s.size : Int)) = true ∧ (s[p + 1]'h).toNat = z ∧ ((z : Int) == 10) = false) := by
          show _ ∨ _
          unfold markAt at cm
          rw [hk] at cm
          by_cases e1 : k = 99
          · by_cases e2 : p + 1 < s.size
            · right; right
              refine ⟨e2, bt s (p + 1), by simp [e1], by simp; omega, bt_eq e2, ?_⟩
              have : bt s (p + 1) ≠ 10 := fun e => cm ⟨e1, e2, e⟩
              simp; omega
            · right; left
              exact ⟨by simp [e1], by simp; omega⟩
          · left
            simp; omega
        clear cm hk
        have n3 : (0 : Int) ≤ (p : Int) + 1 := by omega
        have n5 : ((p : Int) + 1).toNat = p + 1 := by omega
        have hKK2 := HKK.out
        clear hKK2
        go_upto_region 5 with fail
        go_cut [49] (fun s49 wx => s49 = .bool false ∧ wr = wx)
        case first =>
          rcases HM.out with h | ⟨h, h'⟩ | ⟨h, z, h1, h2, h3, h4⟩
          · go_wp2_with fail
            go_meet
            exact ⟨rfl, rfl⟩
          · go_wp2_with fail
            go_meet
            exact ⟨rfl, rfl⟩
          · have n0 : (p : Int) + 1 < (s.size : Int) := by omega
            go_wp2_with fail
            go_meet
            exact ⟨rfl, rfl⟩
        case rest =>
          obtain ⟨rfl, rfl⟩ := hcut
          clear HM
          go_upto_region 8 with fail
          go_cut [77] (fun s77 wx => s77 = .bool (!decide (isKind k)) ∧ wr = wx)
          case first =>
            by_cases ck : isKind k
            · have HD := Lib.hid (show (!decide (isKind k)) = false by simp [ck])
              rcases ck with e | e | e | e | e
              · have d1 : ((k : Int) != 105) = false := by simp; omega
                clear e
                go_wp2_with fail
                go_meet
                exact ⟨by rw [HD.out], rfl⟩
              · have d1 : ((k : Int) != 105) = true := by simp; omega
                have d2 : ((k : Int) != 108) = false := by simp; omega
                clear e
                go_wp2_with fail
                go_meet
                exact ⟨by rw [HD.out], rfl⟩
              · have d1 : ((k : Int) != 105) = true := by simp; omega
                have d2 : ((k : Int) != 108) = true := by simp; omega
                have d3 : ((k : Int) != 111) = false := by simp; omega
                clear e
                go_wp2_with fail
                go_meet
                exact ⟨by rw [HD.out], rfl⟩
              · have d1 : ((k : Int) != 105) = true := by simp; omega
                have d2 : ((k : Int) != 108) = true := by simp; omega
                have d3 : ((k : Int) != 111) = true := by simp; omega
                have d4 : ((k : Int) != 98) = false := by simp; omega
                clear e
                go_wp2_with fail
                go_meet
                exact ⟨by rw [HD.out], rfl⟩
              · have d1 : ((k : Int) != 105) = true := by simp; omega
                have d2 : ((k : Int) != 108) = true := by simp; omega
                have d3 : ((k : Int) != 111) = true := by simp; omega
                have d4 : ((k : Int) != 98) = true := by simp; omega
                have d5 : ((k : Int) != 99) = false := by simp; omega
                clear e
                go_wp2_with fail
                go_meet
                exact ⟨by rw [HD.out], rfl⟩
            · have HD := Lib.hid (show (!decide (isKind k)) = true by simp [ck])
              unfold isKind at ck
              have d1 : ((k : Int) != 105) = true := by simp; omega
              have d2 : ((k : Int) != 108) = true := by simp; omega
              have d3 : ((k : Int) != 111) = true := by simp; omega
              have d4 : ((k : Int) != 98) = true := by simp; omega
              have d5 : ((k : Int) != 99) = true := by simp; omega
              clear ck
              go_wp2_with fail
              go_meet
              exact ⟨by rw [HD.out], rfl⟩
          case rest =>
            obtain ⟨rfl, rfl⟩ := hcut
            by_cases ck : isKind k
            · have HD := Lib.hid (show (!decide (isKind k)) = false by simp [ck])
              rw [HD.out]
              have C1 : Hid (isKind (bt s p)) := by show isKind _; rw [HKK.out]; exact ck
              clear ck HD
              obtain ⟨n, en, er, hN⟩ : ∃ n en er, natN s (p + 1) = (n, en, er) := ⟨_, _, _, rfl⟩
              have HNE := Lib.hid (natN_end (s := s) (p := p + 1) (by omega))
              have HN := Lib.hid (fun u => ref_Nat s ((p + 1 : Nat) : Int) u (by omega))
              rw [natT_in (by omega), hN] at HN
              rw [hN] at HNE
              unfold tripI at HN
              have HNN := Lib.hid hN; clear hN
              obtain ⟨C, hC⟩ : ∃ C, cnt hd k = C := ⟨_, rfl⟩
              have HCT2 := Lib.hid (fun u => HCT.out k u)
              rw [hC] at HCT2
              have HCC : Hid (cnt hd (bt s p) = C) := by show _ = _; rw [HKK.out]; exact hC
              clear hC
              have h0 := hB.cell (i := 0) rfl
              have h1 := hB.cell (i := 1) rfl
              have h2 := hB.cell (i := 2) rfl
              have h3 := hB.cell (i := 3) rfl
              have h4 := hB.cell (i := 4) rfl
              have h5 := hB.cell (i := 5) rfl
              have h6 := hB.cell (i := 6) rfl
              have h7 := hB.cell (i := 7) rfl
              have HBl := Lib.hid hB; clear hB
              have HOw := Lib.hid hO; clear hO
              go_wp2_with fail
              refine (HN.out _).mono ?_
              rintro e w' ⟨rfl, rfl⟩
              by_cases c2 : er = 0
              · obtain ⟨hne1, hne2, hne3⟩ := HNE.out c2
                have d2 : ((er : Int) == 0) = true := by simp; omega
                have d2b : ((er : Int) != 0) = false := by simp; omega
                have C2 := Lib.hid c2; clear c2
                go_wp2_with fail
                refine (HCT2.out _).mono ?_
                rintro e w2 ⟨rfl, hK2⟩
                have hKw2 := hK.trans hK2 (fun _ _ h => h)
                clear h0 h1 h2 h3 h4 h5 h6 h7
                have HB2 := Lib.hid (HBl.out.kp hK2 (fun h => h))
                have HO2 := Lib.hid (HOw.out.kp hK2 (fun _ _ h => h))
                have hsz2 := hK2.size
                clear HBl HOw hK2
                by_cases c3 : C ≤ (n : Int)
                · have HT := Lib.hid (sym2 (h := hd) C1.out HNN.out C2.out (by rw [HCC.out]; exact c3))
                  have d3 : decide (C ≤ (n : Int)) = true := by simp [c3]
                  clear c3
                  have HEnd : Hid (ReadPost R w (.returned (.tuple #[.slice none 0 0, .string ⟨#[]⟩, .int .i64 ((p : Int) + 1), .int .i64 5])) w2) := by
                    show ReadPost _ _ _ _
                    rw [← HRR.out, readR_bad hlt (by omega) CM.out HT.out]
                    exact ⟨_, by simp, OwnK.nil _ _ _ _, hKw2⟩
                  go_wp2_with fail
                  exact bodyPost_ret (v := .tuple #[.slice none 0 0, .string ⟨#[]⟩, .int .i64 ((p : Int) + 1), .int .i64 5]) (by simp [results, Tryd.results27, go_sem]) rfl HEnd.out
                · have d3 : decide (C ≤ (n : Int)) = false := by simp [c3]
                  have C3 : Hid (¬ cnt hd (bt s p) ≤ (n : Int)) := by show ¬ _; rw [HCC.out]; exact c3
                  clear c3
                  by_cases c4 : en = s.size
                  · have HT := Lib.hid (sym3 (h := hd) C1.out HNN.out C2.out C3.out c4)
                    have d4 : ((en : Int) == (s.size : Int)) = true := by simp [c4]
                    clear c4
                    have HEnd : Hid (ReadPost R w (.returned (.tuple #[.slice none 0 0, .string ⟨#[]⟩, .int .i64 (en : Int), .int .i64 3])) w2) := by
                      show ReadPost _ _ _ _
                      rw [← HRR.out, readR_bad hlt (by omega) CM.out HT.out]
                      exact ⟨_, by simp, OwnK.nil _ _ _ _, hKw2⟩
                    go_wp2_with fail
                    exact bodyPost_ret (v := .tuple #[.slice none 0 0, .string ⟨#[]⟩, .int .i64 (en : Int), .int .i64 3]) (by simp [results, Tryd.results27, go_sem]) rfl HEnd.out
                  · have d4 : ((en : Int) == (s.size : Int)) = false := by simp; omega
                    have hlt2 : en < s.size := by omega
                    have hbe := bt_eq hlt2
                    have e0 : (0 : Int) ≤ (en : Int) := by omega
                    have e1 : (en : Int) < (s.size : Int) := by omega
                    have C4 := Lib.hid c4; clear c4
                    obtain ⟨B, hBB⟩ : ∃ B, bt s en = B := ⟨_, rfl⟩
                    rw [hBB] at hbe
                    have HBE := Lib.hid hBB; clear hBB
                    by_cases c5 : B = 32
                    · have d5 : ((B : Int) != 32) = false := by simp; omega
                      obtain ⟨nm, nx, ff, hL⟩ : ∃ nm nx f, lineT s (en + 1 : Nat) = (nm, nx, f) := ⟨_, _, _, rfl⟩
                      have HL := Lib.hid (fun u => ref_Line_in s (en + 1) u (by omega) (by omega))
                      unfold lineV at HL
                      rw [hL] at HL
                      have HLL := Lib.hid hL; clear hL
                      have C5 : Hid (bt s en = 32) := by show _ = _; rw [HBE.out]; exact c5
                      clear c5
                      by_cases c6 : ff = 0
                      · have d6 : ((ff : Int) == 0) = true := by simp; omega
                        have d6b : ((ff : Int) != 0) = false := by simp; omega
                        have C6 := Lib.hid c6; clear c6
                        by_cases c7 : nm.size = 0
                        · have HT := Lib.hid (sym6 (h := hd) C1.out HNN.out C2.out C3.out C4.out C5.out HLL.out C6.out c7)
                          have d7 := bytes_empty c7
                          subst d7
                          clear c7
                          have HEnd : Hid (ReadPost R w (.returned (.tuple #[.slice none 0 0, .string ⟨#[]⟩, .int .i64 ((en : Int) + 1), .int .i64 2])) w2) := by
                            show ReadPost _ _ _ _
                            rw [← HRR.out, readR_bad hlt (by omega) CM.out HT.out]
                            exact ⟨_, by simp, OwnK.nil _ _ _ _, hKw2⟩
                          go_wp2_with fail
                          refine (HL.out _).mono ?_
                          rintro e w' ⟨rfl, rfl⟩
                          go_wp2_with fail
                          exact bodyPost_ret (v := .tuple #[.slice none 0 0, .string ⟨#[]⟩, .int .i64 ((en : Int) + 1), .int .i64 2]) (by simp [results, Tryd.results27, go_sem]) rfl HEnd.out
                        · have d7 := bytes_some c7
                          have C7 := Lib.hid c7; clear c7
                          by_cases c8 : 64 < nm.size
                          · have HT := Lib.hid (sym7 (h := hd) C1.out HNN.out C2.out C3.out C4.out C5.out HLL.out C6.out C7.out c8)
                            have d8 : decide ((64 : Int) < (nm.size : Int)) = true := by simp; omega
                            clear c8
                            have HEnd : Hid (ReadPost R w (.returned (.tuple #[.slice none 0 0, .string ⟨#[]⟩, .int .i64 ((en : Int) + 1), .int .i64 4])) w2) := by
                              show ReadPost _ _ _ _
                              rw [← HRR.out, readR_bad hlt (by omega) CM.out HT.out]
                              exact ⟨_, by simp, OwnK.nil _ _ _ _, hKw2⟩
                            go_wp2_with fail
                            refine (HL.out _).mono ?_
                            rintro e w' ⟨rfl, rfl⟩
                            go_wp2_with fail
                            exact bodyPost_ret (v := .tuple #[.slice none 0 0, .string ⟨#[]⟩, .int .i64 ((en : Int) + 1), .int .i64 4]) (by simp [results, Tryd.results27, go_sem]) rfl HEnd.out
                          · have HT := Lib.hid (sym8 (h := hd) C1.out HNN.out C2.out C3.out C4.out C5.out HLL.out C6.out C7.out c8)
                            obtain ⟨hx1, hx2, hx3, hx4, hx5⟩ := symT_ok hlt HT.out
                            rw [HKK.out] at HT hx3
                            have d8 : decide ((64 : Int) < (nm.size : Int)) = false := by simp; omega
                            clear c8
                            have hlen := HLP.out
                            have hszr := hK.size
                            have HO3 := Lib.hid (HO2.out.alloc (.cells #[.int .u8 (k : Int), .int .i64 (n : Int), .string nm] 100))
                            have HB3 := Lib.hid (HB2.out.alloc (.cells #[.int .u8 (k : Int), .int .i64 (n : Int), .string nm] 100))
                            have HX3 := Lib.hid (Blk.new w2 #[.int .u8 (k : Int), .int .i64 (n : Int), .string nm] 100)
                            have hKw3 := hKw2.alloc (.cells #[.int .u8 (k : Int), .int .i64 (n : Int), .string nm] 100)
                            obtain ⟨av, cv, hav, _, _, _, _, hrv⟩ := HO3.out.form
                            rw [List.length_map] at hav
                            subst hav
                            have HTW := Lib.hid (ref12_twice av L L.length cv ⟨k, n, nm⟩ _ hrv rfl (by omega))
                            simp only at HTW
                            clear hrv
                            go_wp2_with fail
                            refine (HL.out _).mono ?_
                            rintro e w' ⟨rfl, rfl⟩
                            go_wp2_with fail
                            refine HTW.out.mono ?_
                            rintro e w4 ⟨rfl, hK4⟩
                            have hKw4 := hKw3.trans hK4 (fun _ _ h => h)
                            have HO4 := Lib.hid (HO3.out.kp hK4 (fun _ _ h => h))
                            have HB4 := Lib.hid (HB3.out.kp hK4 (fun h => h))
                            have hX4 := HX3.out.kp hK4 (fun h => h)
                            have hsz4 := hK4.size
                            rw [World.size_alloc] at hsz4
                            clear HO3 HB3 HX3 HTW hK4 HO2 HB2
                            by_cases ct : L.any (fun y => alike y ⟨k, n, nm⟩) = true
                            · have HEnd : Hid (ReadPost R w (.returned (.tuple #[.slice none 0 0, .string ⟨#[]⟩, .int .i64 (p : Int), .int .i64 7])) w4) := by
                                show ReadPost _ _ _ _
                                rw [← HRR.out, readR_twice hlt (by omega) CM.out HT.out ct]
                                exact ⟨_, rfl, OwnK.nil _ _ _ _, hKw4⟩
                              rw [ct]
                              clear ct
                              go_wp2_with fail
                              exact bodyPost_ret (v := .tuple #[.slice none 0 0, .string ⟨#[]⟩, .int .i64 (p : Int), .int .i64 7]) (by simp [results, Tryd.results27, go_sem]) rfl HEnd.out
                            · have HRM : Hid (readR hd s (f - 1) (L ++ [⟨k, n, nm⟩]) nx = R) := by
                                show _ = _
                                rw [← HRR.out]
                                obtain ⟨g, hg⟩ : ∃ g, f = g + 1 := ⟨f - 1, by omega⟩
                                rw [hg, readR_more hlt CM.out HT.out ct]
                                rfl
                              have ct' : L.any (fun y => alike y ⟨k, n, nm⟩) = false := by simpa using ct
                              rw [ct']
                              clear ct ct'
                              have x0 := hX4.cell (i := 0) rfl
                              have x1 := hX4.cell (i := 1) rfl
                              have x2 := hX4.cell (i := 2) rfl
                              clear hX4
                              go_wp2_with (at_builtin; refine wpList_appendK rfl _ _ 47 100 rfl Tryd.underlying47 symInfo rfl (by decide) (HO4.out.alloc _) rfl w4.heap.size (symCells ⟨k, n, nm⟩) rfl rfl ?c1 ?c2 ?c3 ?c4 ?c5 ?_)
                              case c1 => intro j u hj; exact (Blk.new w4 (symCells ⟨k, n, nm⟩).toArray 100).cell (by simpa using hj)
                              case c2 => intro u hu; simp [symCells] at hu; rcases hu with rfl | rfl | rfl <;> rfl
                              case c3 => rw [List.length_map]; omega
                              case c4 => rw [List.length_map]; unfold maxLen; omega
                              case c5 => simp; omega
                              intro v' w6 hO6 hg6 hat6
                              have hK6 : Kp (fun j => (Value.slice av L.length cv).ownBlock = some j) w4 w6 := ((Kp.refl _ w4).alloc _).grown hg6 (fun j hj _ => hj)
                              have hKw6 := hKw4.trans hK6 (fun j hj h => by have := (HO4.out.lt j h).1; omega)
                              have hB6 := HB4.out.kp hK6 (fun h => by have := (HO4.out.lt _ h).1; omega)
                              have HRel := Lib.hid (show ∃ (p f : Nat) (L : List Sym), Value.int .i64 (nx : Int) = .int .i64 p ∧ p ≤ s.size ∧ s.size < p + f ∧ L.length ≤ p ∧ readR hd s f L p = R ∧ OwnK w6 (w.heap.size + 1) 100 3 v' (L.map symCells) ∧ Blk w6 w.heap.size #[.bool bin, .int .i64 m, .int .i64 i, .int .i64 l, .int .i64 o, .int .i64 a, .int .i64 b, .int .i64 c] 46 ∧ Kp (fun _ => False) w w6 from
                                ⟨nx, f - 1, L ++ [⟨k, n, nm⟩], rfl, hx2, by omega, by rw [List.length_append]; simp; omega, HRM.out, by rw [List.map_append]; exact hO6, hB6, hKw6⟩)
                              clear hO6 hg6 hat6 hK6 hB6 hKw6 x0 x1 x2
                              go_wp2_with fail
                              go_roundw
                              case rel => exact HRel.out
                              case measure => simp [intOf]; omega
                      · have d6 : ((ff : Int) == 0) = false := by simp; omega
                        have d6b : ((ff : Int) != 0) = true := by simp; omega
                        have HT := Lib.hid (sym5 (h := hd) C1.out HNN.out C2.out C3.out C4.out C5.out HLL.out c6)
                        clear c6
                        have HEnd : Hid (ReadPost R w (.returned (.tuple #[.slice none 0 0, .string ⟨#[]⟩, .int .i64 ((en : Int) + 1), .int .i64 (ff : Int)])) w2) := by
                          show ReadPost _ _ _ _
                          rw [← HRR.out, readR_bad hlt (by omega) CM.out HT.out]
                          exact ⟨_, by simp, OwnK.nil _ _ _ _, hKw2⟩
                        go_wp2_with fail
                        refine (HL.out _).mono ?_
                        rintro e w' ⟨rfl, rfl⟩
                        go_wp2_with fail
                        exact bodyPost_ret (v := .tuple #[.slice none 0 0, .string ⟨#[]⟩, .int .i64 ((en : Int) + 1), .int .i64 (ff : Int)]) (by simp [results, Tryd.results27, go_sem]) rfl HEnd.out
                    · have HT := Lib.hid (sym4 (h := hd) C1.out HNN.out C2.out C3.out C4.out (by rw [HBE.out]; exact c5))
                      have d5 : ((B : Int) != 32) = true := by simp; omega
                      clear c5
                      have HEnd : Hid (ReadPost R w (.returned (.tuple #[.slice none 0 0, .string ⟨#[]⟩, .int .i64 (en : Int), .int .i64 2])) w2) := by
                        show ReadPost _ _ _ _
                        rw [← HRR.out, readR_bad hlt (by omega) CM.out HT.out]
                        exact ⟨_, by simp, OwnK.nil _ _ _ _, hKw2⟩
                      go_wp2_with fail
                      exact bodyPost_ret (v := .tuple #[.slice none 0 0, .string ⟨#[]⟩, .int .i64 (en : Int), .int .i64 2]) (by simp [results, Tryd.results27, go_sem]) rfl HEnd.out
              · have HT := Lib.hid (sym1 (h := hd) C1.out HNN.out c2)
                have d2 : ((er : Int) == 0) = false := by simp; omega
                have d2b : ((er : Int) != 0) = true := by simp; omega
                clear c2
                have HEnd : Hid (ReadPost R w (.returned (.tuple #[.slice none 0 0, .string ⟨#[]⟩, .int .i64 ((p : Int) + 1), .int .i64 (er : Int)])) wr) := by
                  show ReadPost _ _ _ _
                  rw [← HRR.out, readR_bad hlt (by omega) CM.out HT.out]
                  exact ⟨_, by simp, OwnK.nil _ _ _ _, hK⟩
                go_wp2_with fail
                exact bodyPost_ret (v := .tuple #[.slice none 0 0, .string ⟨#[]⟩, .int .i64 ((p : Int) + 1), .int .i64 (er : Int)]) (by simp [results, Tryd.results27, go_sem]) rfl HEnd.out
            · have HD := Lib.hid (show (!decide (isKind k)) = true by simp [ck])
              rw [HD.out]
              have HT := Lib.hid (symT_kind (h := hd) (s := s) (p := p) (by rw [HKK.out]; exact ck))
              clear ck HD
              have HEnd : Hid (ReadPost R w (.returned (.tuple #[.slice none 0 0, .string ⟨#[]⟩, .int .i64 (p : Int), .int .i64 2])) wr) := by
                show ReadPost _ _ _ _
                rw [← HRR.out, readR_bad hlt (by omega) CM.out HT.out]
                exact ⟨_, by simp, OwnK.nil _ _ _ _, hK⟩
              go_wp2_with fail
              exact bodyPost_ret (v := .tuple #[.slice none 0 0, .string ⟨#[]⟩, .int .i64 (p : Int), .int .i64 2]) (by simp [results, Tryd.results27, go_sem]) rfl HEnd.out
    · have HEnd : Hid (ReadPost R w (.returned (.tuple #[u10, .string ⟨#[]⟩, .int .i64 (s.size : Int), .int .i64 0])) wr) := by
        show ReadPost _ _ _ _
        rw [← HRR.out, readR_end hlt (by omega)]
        exact ⟨u10, rfl, hO.mono (by omega), hK⟩
      go_wp2_with fail
      exact bodyPost_ret (v := .tuple #[u10, .string ⟨#[]⟩, .int .i64 (s.size : Int), .int .i64 0]) (by simp [results, Tryd.results27, go_sem]) rfl HEnd.out

set_option maxRecDepth 100000 in
theorem ref12_Read (h : Hd) (s : ByteArray) (x : Int) (w : World) (hs : s.size ≤ 100000) :
    Calls Tryd.prog 27 #[.string s, .int .i64 x, hdV h] w (ReadPost (readT h s x) w) := by
  by_cases hx : x < 0 ∨ (s.size : Int) < x
  · rw [readT_out hx]
    have HEnd : Hid (∀ w', Kp (fun _ => False) w w' → ReadPost ⟨[], ⟨#[]⟩, 0, 1⟩ w (.returned (.tuple #[.slice none 0 0, .string ⟨#[]⟩, .int .i64 0, .int .i64 1])) w') := fun w' hk => ⟨_, rfl, OwnK.nil _ _ _ _, hk⟩
    obtain ⟨bin, m, i, l, o, a, b, c⟩ := h
    unfold hdV
    simp only
    by_cases h0 : x < 0
    · have g0 : decide (x < 0) = true := by simp [h0]
      clear hx h0
      go_enter Tryd.func27, Tryd.ntmps27
      go_wp2_with fail
      exact bodyPost_ret (v := .tuple #[.slice none 0 0, .string ⟨#[]⟩, .int .i64 0, .int .i64 1]) (by simp [results, Tryd.results27, go_sem]) rfl (HEnd.out _ (((Kp.refl _ w).alloc _).alloc _))
    · have g0 : decide (x < 0) = false := by simp [h0]
      have g1 : decide ((s.size : Int) < x) = true := by simp; omega
      clear hx h0
      go_enter Tryd.func27, Tryd.ntmps27
      go_wp2_with fail
      exact bodyPost_ret (v := .tuple #[.slice none 0 0, .string ⟨#[]⟩, .int .i64 0, .int .i64 1]) (by simp [results, Tryd.results27, go_sem]) rfl (HEnd.out _ (((Kp.refl _ w).alloc _).alloc _))
  · obtain ⟨q, rfl⟩ := Int.eq_ofNat_of_zero_le (show 0 ≤ x by omega)
    rw [readT_in (by omega)]
    exact ref12_Read_in h s q w hs (by omega)

end Go.Proofs.YtojodmfkenfhlaaDoor
