/-
  tail.symbol.
-/
import Derived.Test.YtojodmfkenfhlaaDoorTailSym
namespace Go.Proofs.YtojodmfkenfhlaaDoor
open Go.RowKit

def symOut (k : Nat) : SymR → Value
  | .bad p e => .tuple #[.agg #[.int .u8 (k : Int), .int .i64 0, .string ⟨#[]⟩], .int .i64 (p : Int), .int .i64 (e : Int)]
  | .ok x next => .tuple #[.agg #[.int .u8 (x.kind : Int), .int .i64 (x.idx : Int), .string x.name], .int .i64 (next : Int), .int .i64 0]

theorem kind_index {k : Nat} (hk : k < 256) : decide (Lib.indexByte [105, 108, 111, 98, 99] (UInt8.ofNat k) < 0) = !decide (isKind k) := by
  have : ∀ k : Nat, k < 256 → decide (Lib.indexByte [105, 108, 111, 98, 99] (UInt8.ofNat k) < 0) = !decide (isKind k) := by decide +kernel
  exact this k hk

theorem new3 (w : World) (c0 c1 c2 : Array Value) (t0 t1 t2 : TypeId) :
    Blk (((w.alloc (.cells c0 t0)).alloc (.cells c1 t1)).alloc (.cells c2 t2)) w.heap.size c0 t0 ∧ Blk (((w.alloc (.cells c0 t0)).alloc (.cells c1 t1)).alloc (.cells c2 t2)) (w.heap.size + 1) c1 t1 ∧ Blk (((w.alloc (.cells c0 t0)).alloc (.cells c1 t1)).alloc (.cells c2 t2)) (w.heap.size + 1 + 1) c2 t2 := by
  refine ⟨((Blk.new w c0 t0).alloc _).alloc _, ?_, ?_⟩
  · have := (Blk.new (w.alloc (.cells c0 t0)) c1 t1).alloc (.cells c2 t2)
    simpa using this
  · have := Blk.new ((w.alloc (.cells c0 t0)).alloc (.cells c1 t1)) c2 t2
    simpa using this

theorem bytes_empty {b : ByteArray} (h : b.size = 0) : b = ⟨#[]⟩ := by
  apply ByteArray.ext
  exact Array.eq_empty_of_size_eq_zero h

theorem bytes_some {b : ByteArray} (h : ¬ b.size = 0) : b.toList.isEmpty = false := by
  rw [Lib.toList_data]
  cases hb : b.data.toList with
  | nil => exact absurd (by rw [Lib.size_eq, hb]; rfl) h
  | cons x l => rfl

theorem symT_kind {h : Hd} {s : ByteArray} {p : Nat} (c : ¬ isKind (bt s p)) : symT h s p = .bad p 2 := by unfold symT; rw [if_pos c]

/-- what symbol leaves -/
def SymPost (h : Hd) (s : ByteArray) (p : Nat) (w : World) (e : Ending) (w' : World) : Prop := e = .returned (symOut (bt s p) (symT h s p)) ∧ Kp (fun _ => False) w w'

set_option maxRecDepth 100000 in
set_option maxHeartbeats 4000000 in
theorem tail_symbol (h : Hd) (s : ByteArray) (p : Nat) (w : World) (hs : s.size ≤ 9223372036854775000) (hp : p < s.size) :
    Calls Tryd.prog 56 #[.string s, .int .i64 p, hdV h] w (SymPost h s p w) := by
  have hb := bt_eq hp
  have hb2 := bt_lt s p
  have HX := Lib.hid (kind_index hb2)
  by_cases c1 : isKind (bt s p)
  · have q1 : decide (Lib.indexByte [105, 108, 111, 98, 99] (UInt8.ofNat (bt s p)) < 0) = false := by rw [HX.out]; simp [c1]
    have C1 := Lib.hid c1; clear c1 HX
    obtain ⟨n, en, er, hN⟩ : ∃ n en er, natN s (p + 1) = (n, en, er) := ⟨_, _, _, rfl⟩
    have HNE := Lib.hid (natN_end (s := s) (p := p + 1) (by omega))
    have HN := Lib.hid (fun u => octet_Nat_in s (p + 1) u hs (by omega))
    have HL0 := Lib.hid (fun (q : Nat) (hq : q ≤ s.size) u => octet_Line_in s q u hs hq)
    rw [hN] at HN HNE
    unfold tripI at HN
    unfold lineV at HL0
    have HNN := Lib.hid hN; clear hN
    have HP : Hid (∀ (r : SymR) (w' : World), symT h s p = r → Kp (fun _ => False) w w' → SymPost h s p w (.returned (symOut (bt s p) r)) w') := fun r w' h1 h2 => ⟨by rw [h1], h2⟩
    obtain ⟨k, hk⟩ : ∃ k, bt s p = k := ⟨_, rfl⟩
    have HKK := Lib.hid hk
    rw [hk] at hb hb2 q1 C1 HP
    clear hk
    obtain ⟨C, hC⟩ : ∃ C, cnt h k = C := ⟨_, rfl⟩
    have HCT := Lib.hid (fun u => tail_Count h k u)
    rw [hC] at HCT
    have HCC := Lib.hid hC; clear hC
    obtain ⟨b0, b1, b2⟩ := new3 w (hdCells h) #[.int .u8 0, .int .i64 0, .string ⟨#[]⟩] #[.int .u8 (k : Int), .int .i64 0, .string ⟨#[]⟩] 46 100 100
    obtain ⟨hd, hhd⟩ : ∃ hd, hd = h := ⟨_, rfl⟩
    have HS1 := Lib.hid (fun c2 => sym1 (h := h) (by rw [HKK.out]; exact C1.out) HNN.out c2)
    have HS2 := Lib.hid (fun c2 c3 => sym2 (h := h) (by rw [HKK.out]; exact C1.out) HNN.out c2 (by rw [HKK.out, HCC.out]; exact c3))
    have HS3 := Lib.hid (fun c2 c3 c4 => sym3 (h := h) (by rw [HKK.out]; exact C1.out) HNN.out c2 (by rw [HKK.out, HCC.out]; exact c3) c4)
    have HS4 := Lib.hid (fun c2 c3 c4 c5 => sym4 (h := h) (by rw [HKK.out]; exact C1.out) HNN.out c2 (by rw [HKK.out, HCC.out]; exact c3) c4 c5)
    have HS5 := Lib.hid (fun c2 c3 c4 c5 nm nx f hL c6 => sym5 (nm := nm) (nx := nx) (f := f) (h := h) (by rw [HKK.out]; exact C1.out) HNN.out c2 (by rw [HKK.out, HCC.out]; exact c3) c4 c5 hL c6)
    have HS6 := Lib.hid (fun c2 c3 c4 c5 nm nx f hL c6 c7 => sym6 (nm := nm) (nx := nx) (f := f) (h := h) (by rw [HKK.out]; exact C1.out) HNN.out c2 (by rw [HKK.out, HCC.out]; exact c3) c4 c5 hL c6 c7)
    have HS7 := Lib.hid (fun c2 c3 c4 c5 nm nx f hL c6 c7 c8 => sym7 (nm := nm) (nx := nx) (f := f) (h := h) (by rw [HKK.out]; exact C1.out) HNN.out c2 (by rw [HKK.out, HCC.out]; exact c3) c4 c5 hL c6 c7 c8)
    have HS8 := Lib.hid (fun c2 c3 c4 c5 nm nx f hL c6 c7 c8 => sym8 (nm := nm) (nx := nx) (f := f) (h := h) (by rw [HKK.out]; exact C1.out) HNN.out c2 (by rw [HKK.out, HCC.out]; exact c3) c4 c5 hL c6 c7 c8)
    rw [← hhd] at HP HS1 HS2 HS3 HS4 HS5 HS6 HS7 HS8 ⊢
    have HHD := Lib.hid hhd; clear hhd
    rw [HHD.out]
    obtain ⟨bin, m, i, l, o, a, b, c⟩ := h
    unfold hdV at HCT ⊢
    unfold hdCells at b0 b1 b2
    have HB := Lib.hid (And.intro b0 (And.intro b1 b2)); clear b0 b1 b2
    simp only at HB HCT ⊢
    rw [← HHD.out]
    clear HHD HCC HNN C1
    go_enter Tryd.func56, Tryd.ntmps56
    go_wp2_with fail
    refine (Tryd.strings_IndexByte _ _ _).mono ?_
    rintro e w' ⟨rfl, hw⟩
    have hw' := hw.symm; clear hw; subst hw'
    go_wp2_with fail
    refine (HN.out _).mono ?_
    rintro e w2 ⟨rfl, hK2⟩
    have hKw : Kp (fun _ => False) w w2 := ((((Kp.refl _ w).alloc _).alloc _).alloc _).trans hK2 (fun _ _ h => h)
    have b0 := HB.out.1.kp hK2 (fun h => h)
    have b1 := HB.out.2.1.kp hK2 (fun h => h)
    have b2 := HB.out.2.2.kp hK2 (fun h => h)
    clear HB hK2 q1
    have HKE : Hid (∀ k n m, Kp (fun _ => False) w (((w2.setCell ⟨w.heap.size + 1, 0, none⟩ k).setCell ⟨w.heap.size + 1, 1, none⟩ n).setCell ⟨w.heap.size + 1, 2, none⟩ m)) := fun k n m => ((hKw.setCell (p := ⟨w.heap.size + 1, 0, none⟩) (by simp) k).setCell (p := ⟨w.heap.size + 1, 1, none⟩) (by simp) n).setCell (p := ⟨w.heap.size + 1, 2, none⟩) (by simp) m
    have x0 := b2.cell (i := 0) rfl
    have r0 := b1.cell (i := 0) rfl
    have f0 := b1.free 0
    have g0 := b2.free 0
    have x1 := b2.cell (i := 1) rfl
    have r1 := b1.cell (i := 1) rfl
    have f1 := b1.free 1
    have g1 := b2.free 1
    have x2 := b2.cell (i := 2) rfl
    have r2 := b1.cell (i := 2) rfl
    have f2 := b1.free 2
    have g2 := b2.free 2
    have h0 := b0.cell (i := 0) rfl
    have h1 := b0.cell (i := 1) rfl
    have h2 := b0.cell (i := 2) rfl
    have h3 := b0.cell (i := 3) rfl
    have h4 := b0.cell (i := 4) rfl
    have h5 := b0.cell (i := 5) rfl
    have h6 := b0.cell (i := 6) rfl
    have h7 := b0.cell (i := 7) rfl
    have HB2 := Lib.hid (And.intro b0 (And.intro b1 b2)); clear b0 b1 b2
    by_cases c2 : er = 0
    · have d2 : ((er : Int) != 0) = false := by simp; omega
      obtain ⟨hne1, hne2, hne3⟩ := HNE.out c2
      have C2 := Lib.hid c2; clear c2
      go_wp2_with fail
      refine (HCT.out _).mono ?_
      rintro e w3 ⟨rfl, hK3⟩
      have hKw3 := hKw.trans hK3 (fun _ _ h => h)
      clear x0 r0 f0 g0 x1 r1 f1 g1 x2 r2 f2 g2 h0 h1 h2 h3 h4 h5 h6 h7 HKE
      have b0 := HB2.out.1.kp hK3 (fun h => h)
      have b1 := HB2.out.2.1.kp hK3 (fun h => h)
      have b2 := HB2.out.2.2.kp hK3 (fun h => h)
      have HKE : Hid (∀ k n m, Kp (fun _ => False) w (((w3.setCell ⟨w.heap.size + 1, 0, none⟩ k).setCell ⟨w.heap.size + 1, 1, none⟩ n).setCell ⟨w.heap.size + 1, 2, none⟩ m)) := fun k n m => ((hKw3.setCell (p := ⟨w.heap.size + 1, 0, none⟩) (by simp) k).setCell (p := ⟨w.heap.size + 1, 1, none⟩) (by simp) n).setCell (p := ⟨w.heap.size + 1, 2, none⟩) (by simp) m
      have HKE2 : Hid (∀ k n m n2 m2, Kp (fun _ => False) w (((((w3.setCell ⟨w.heap.size + 1 + 1, 1, none⟩ n2).setCell ⟨w.heap.size + 1 + 1, 2, none⟩ m2).setCell ⟨w.heap.size + 1, 0, none⟩ k).setCell ⟨w.heap.size + 1, 1, none⟩ n).setCell ⟨w.heap.size + 1, 2, none⟩ m)) := fun k n m n2 m2 => ((((hKw3.setCell (p := ⟨w.heap.size + 1 + 1, 1, none⟩) (by simp; omega) n2).setCell (p := ⟨w.heap.size + 1 + 1, 2, none⟩) (by simp; omega) m2).setCell (p := ⟨w.heap.size + 1, 0, none⟩) (by simp) k).setCell (p := ⟨w.heap.size + 1, 1, none⟩) (by simp) n).setCell (p := ⟨w.heap.size + 1, 2, none⟩) (by simp) m
      have x0 := b2.cell (i := 0) rfl
      have r0 := b1.cell (i := 0) rfl
      have f0 := b1.free 0
      have g0 := b2.free 0
      have x1 := b2.cell (i := 1) rfl
      have r1 := b1.cell (i := 1) rfl
      have f1 := b1.free 1
      have g1 := b2.free 1
      have x2 := b2.cell (i := 2) rfl
      have r2 := b1.cell (i := 2) rfl
      have f2 := b1.free 2
      have g2 := b2.free 2
      clear b0 b1 b2 hK3 HB2
      by_cases c3 : C ≤ (n : Int)
      · have HT := Lib.hid (HS2.out C2.out c3)
        have d3 : decide (C ≤ (n : Int)) = true := by simp [c3]
        clear c3
        go_wp2_with fail
        refine bodyPost_ret (v := symOut k (.bad (p + 1) 5)) (by simp [results, Tryd.results56, go_sem, symOut, r0, r1, r2]) rfl (HP.out _ _ ?_ ?_)
        · exact HT.out
        · exact HKE.out _ _ _
      · have d3 : decide (C ≤ (n : Int)) = false := by simp [c3]
        have C3 := Lib.hid c3; clear c3
        by_cases c4 : en = s.size
        · have HT := Lib.hid (HS3.out C2.out (by have := C3.out; omega) c4)
          have d4 : ((en : Int) == (s.size : Int)) = true := by simp [c4]
          clear c4
          go_wp2_with fail
          refine bodyPost_ret (v := symOut k (.bad en 3)) (by simp [results, Tryd.results56, go_sem, symOut, r0, r1, r2]) rfl (HP.out _ _ ?_ ?_)
          · exact HT.out
          · exact HKE.out _ _ _
        · have d4 : ((en : Int) == (s.size : Int)) = false := by simp; omega
          have hlt : en < s.size := by omega
          have hbe := bt_eq hlt
          have e0 : (0 : Int) ≤ (en : Int) := by omega
          have e1 : (en : Int) < (s.size : Int) := by omega
          have C4 := Lib.hid c4; clear c4
          obtain ⟨B, hB⟩ : ∃ B, bt s en = B := ⟨_, rfl⟩
          rw [hB] at hbe
          have HBE := Lib.hid hB; clear hB
          by_cases c5 : B = 32
          · have d5 : ((B : Int) != 32) = false := by simp; omega
            obtain ⟨nm, nx, f, hL⟩ : ∃ nm nx f, lineT s (en + 1 : Nat) = (nm, nx, f) := ⟨_, _, _, rfl⟩
            have HL := Lib.hid (HL0.out (en + 1) (by omega))
            rw [hL] at HL
            have HLL := Lib.hid hL; clear hL
            have C5 : Hid (bt s en = 32) := by show _ = _; rw [HBE.out]; exact c5
            clear c5
            by_cases c6 : f = 0
            · have d6 : ((f : Int) != 0) = false := by simp; omega
              have C6 := Lib.hid c6; clear c6
              by_cases c7 : nm.size = 0
              · have HT := Lib.hid (HS6.out C2.out (by have := C3.out; omega) C4.out C5.out nm nx f HLL.out C6.out c7)
                have d7 := bytes_empty c7
                subst d7
                clear c7
                go_wp2_with fail
                refine (HL.out _).mono ?_
                rintro e w' ⟨rfl, rfl⟩
                go_wp2_with fail
                refine bodyPost_ret (v := symOut k (.bad (en + 1) 2)) (by simp [results, Tryd.results56, go_sem, symOut, r0, r1, r2]) rfl (HP.out _ _ ?_ ?_)
                · exact HT.out
                · exact HKE.out _ _ _
              · have d7 := bytes_some c7
                have C7 := Lib.hid c7; clear c7
                by_cases c8 : 64 < nm.size
                · have HT := Lib.hid (HS7.out C2.out (by have := C3.out; omega) C4.out C5.out nm nx f HLL.out C6.out C7.out c8)
                  have d8 : decide ((64 : Int) < (nm.size : Int)) = true := by simp; omega
                  clear c8
                  go_wp2_with fail
                  refine (HL.out _).mono ?_
                  rintro e w' ⟨rfl, rfl⟩
                  go_wp2_with fail
                  refine bodyPost_ret (v := symOut k (.bad (en + 1) 4)) (by simp [results, Tryd.results56, go_sem, symOut, r0, r1, r2]) rfl (HP.out _ _ ?_ ?_)
                  · exact HT.out
                  · exact HKE.out _ _ _
                · have HT := Lib.hid (HS8.out C2.out (by have := C3.out; omega) C4.out C5.out nm nx f HLL.out C6.out C7.out c8)
                  rw [HKK.out] at HT
                  have d8 : decide ((64 : Int) < (nm.size : Int)) = false := by simp; omega
                  clear c8
                  go_wp2_with fail
                  refine (HL.out _).mono ?_
                  rintro e w' ⟨rfl, rfl⟩
                  go_wp2_with fail
                  refine bodyPost_ret (v := symOut k (.ok ⟨k, n, nm⟩ nx)) (by simp [results, Tryd.results56, go_sem, symOut, r0, r1, r2]) rfl (HP.out _ _ ?_ ?_)
                  · exact HT.out
                  · exact HKE2.out _ _ _ _ _
            · have d6 : ((f : Int) != 0) = true := by simp; omega
              have HT := Lib.hid (HS5.out C2.out (by have := C3.out; omega) C4.out C5.out nm nx f HLL.out c6)
              clear c6
              go_wp2_with fail
              refine (HL.out _).mono ?_
              rintro e w' ⟨rfl, rfl⟩
              go_wp2_with fail
              refine bodyPost_ret (v := symOut k (.bad (en + 1) f)) (by simp [results, Tryd.results56, go_sem, symOut, r0, r1, r2]) rfl (HP.out _ _ ?_ ?_)
              · exact HT.out
              · exact HKE.out _ _ _
          · have HT := Lib.hid (HS4.out C2.out (by have := C3.out; omega) C4.out (by rw [HBE.out]; exact c5))
            have d5 : ((B : Int) != 32) = true := by simp; omega
            clear c5
            go_wp2_with fail
            refine bodyPost_ret (v := symOut k (.bad en 2)) (by simp [results, Tryd.results56, go_sem, symOut, r0, r1, r2]) rfl (HP.out _ _ ?_ ?_)
            · exact HT.out
            · exact HKE.out _ _ _
    · have HT := Lib.hid (HS1.out c2)
      have d2 : ((er : Int) != 0) = true := by simp; omega
      clear c2
      go_wp2_with fail
      refine bodyPost_ret (v := symOut k (.bad (p + 1) er)) (by simp [results, Tryd.results56, go_sem, symOut, r0, r1, r2]) rfl (HP.out _ _ ?_ ?_)
      · exact HT.out
      · exact HKE.out _ _ _
  · have HT := Lib.hid (symT_kind (h := h) c1)
    have q1 : decide (Lib.indexByte [105, 108, 111, 98, 99] (UInt8.ofNat (bt s p)) < 0) = true := by rw [HX.out]; simp [c1]
    have HP : Hid (∀ w', Kp (fun _ => False) w w' → SymPost h s p w (.returned (symOut (bt s p) (.bad p 2))) w') := fun w' h2 => ⟨by rw [HT.out], h2⟩
    obtain ⟨hd, hhd⟩ : ∃ hd, hd = h := ⟨_, rfl⟩
    rw [← hhd] at HT HP ⊢
    have HHD := Lib.hid hhd; clear hhd
    rw [HHD.out]
    obtain ⟨bin, m, i, l, o, a, b, c⟩ := h
    unfold hdV
    simp only
    rw [← HHD.out]
    clear HHD
    go_enter Tryd.func56, Tryd.ntmps56
    go_wp2_with fail
    refine (Tryd.strings_IndexByte _ _ _).mono ?_
    rintro e w' ⟨rfl, hw⟩
    have hw' := hw.symm; clear hw; subst hw'
    go_wp2_with fail
    exact bodyPost_ret (v := symOut (bt s p) (.bad p 2)) (by simp [results, Tryd.results56, go_sem, symOut]) rfl (HP.out _ ((((Kp.refl _ w).alloc _).alloc _).alloc _))

end Go.Proofs.YtojodmfkenfhlaaDoor
