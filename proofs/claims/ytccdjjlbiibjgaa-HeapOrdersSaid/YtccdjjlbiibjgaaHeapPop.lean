/-
  heap.Pop.
-/
import Derived.Test.YtccdjjlbiibjgaaHeapPut
import Derived.Deep.RegionHeld3
namespace Go.Proofs.Ytccdjjlbiibjgaa
open Go.RowKit

theorem Own.cut' {w : World} {base : Nat} {e : TypeId} {g n cap m : Nat} {cs : List Value} (h : Own w base e (.slice (some ⟨g, 0, none⟩) n cap) cs) (hm : m ≤ cs.length) :
    Own w base e (.slice (some ⟨g, 0, none⟩) m cap) (cs.take m) := by
  rcases h.2 with ⟨h3, _⟩ | ⟨g', cap', cur, hv, hb, hg, hnc, hcm, hcs, htake⟩
  · cases h3
  · simp only [Value.slice.injEq, Option.some.injEq, Addr.mk.injEq, and_true] at hv
    obtain ⟨rfl, rfl, rfl⟩ := hv
    have hl : (cs.take m).length = m := by simp; omega
    refine ⟨by simp, .inr ⟨g, cap, cur, by rw [hl], hb, hg, by rw [hl]; omega, hcm, hcs, ?_⟩⟩
    rw [hl, Nat.mul_one]
    rw [Nat.mul_one] at htake
    rw [← htake, List.take_take]
    congr 1
    omega

theorem Hp.cutT {w : World} {base h n m gt ct : Nat} {vs va : Value} {S T : Nat → Nat} {Q : Nat → Int} (H : Hp w base h vs (.slice (some ⟨gt, 0, none⟩) (m + 1) ct) va n (m + 1) S T Q) :
    Hp (w.setCell ⟨h, 1, none⟩ (.slice (some ⟨gt, 0, none⟩) m ct)) base h vs (.slice (some ⟨gt, 0, none⟩) m ct) va n m S T Q := by
  refine ⟨H.blk.set_same 1 _, H.low, H.s.set_other (p := ⟨h, 1, none⟩) (fun j hj => (H.hs j hj).1) _, ?_, H.a.set_other (p := ⟨h, 1, none⟩) (fun j hj => H.ha j hj) _, H.hs, H.ht, H.ha⟩
  have := H.t.cut' (m := m) (by rw [nts_length]; omega)
  unfold nts at this ⊢
  rw [rowF_take _ (by omega)] at this
  exact this.set_other (p := ⟨h, 1, none⟩) (fun j hj => (H.ht j hj).1) _

/-- what Pop leaves -/
def PopPost (base h n m : Nat) (S T : Nat → Nat) (w : World) (e : Ending) (w' : World) : Prop :=
  ∃ id : Nat, id < n ∧ e = .returned (.tuple #[.int .i64 id, .bool true]) ∧ (∃ j, j < m + 1 ∧ T j = id) ∧ ∃ (T' : Nat → Nat) (Q' : Nat → Int), HOk w' base h n m S T' Q' ∧ Sub T' m T (m + 1) ∧ (∀ j, j < m → ¬ ah S (T' j) id) ∧ Kp (fun j => base ≤ j) w w'

theorem heap_Pop0 {w : World} {base h n : Nat} {S T : Nat → Nat} {Q : Nat → Int} (HO : HOk w base h n 0 S T Q) :
    Calls Try.prog 9 #[.pointer (some ⟨h, 0, none⟩)] w fun e w' => e = .returned (.tuple #[.int .i64 0, .bool false]) ∧ w = w' := by
  obtain ⟨⟨vs, vt, va, H⟩, hI, hok⟩ := HO
  have HH := Lib.hid H; clear H hI hok
  go_enter Try.func9, Try.ntmps9
  go_wp2_with fail
  refine (heap_Len HH.out).mono ?_
  rintro e w' ⟨rfl, rfl⟩
  go_wp2_with fail
  go_ret2
  exact ⟨rfl, rfl⟩

set_option maxRecDepth 100000 in
set_option maxHeartbeats 2000000 in
theorem heap_Pop {w : World} {base h n m : Nat} {S T : Nat → Nat} {Q : Nat → Int} (HO : HOk w base h n (m + 1) S T Q) (hn : n ≤ 1048576) (hm : m < 1048576) :
    Calls Try.prog 9 #[.pointer (some ⟨h, 0, none⟩)] w (PopPost base h n m S T w) := by
  obtain ⟨⟨vs, vt, va, H⟩, hI, hok⟩ := HO
  obtain ⟨gt, ct, hvt, hgt, _⟩ := H.t.leads (by rw [nts_length]; omega)
  rw [nts_length] at hvt
  subst hvt
  have hT0 := (hI.here 0 (by omega)).1
  obtain ⟨ga, ca, hva, hga, _⟩ := H.a.leads (by rw [zts_length]; omega)
  rw [zts_length] at hva
  subst hva
  have hct : m + 1 ≤ ct ∧ ct ≤ maxLen := by
    obtain ⟨a, c, e, h1, h2, _⟩ := H.t.form
    rw [nts_length] at e h1
    simp only [Value.slice.injEq] at e
    obtain ⟨_, _, rfl⟩ := e
    exact ⟨h1, h2⟩
  have hct2 : ct ≤ 9223372036854775807 := by have := hct.2; unfold maxLen at this; omega
  have hct1 : m + 1 ≤ ct := hct.1
  clear hct
  have hlow := H.low
  have c1 : w.cell? ⟨h, 1, none⟩ = some (.slice (some ⟨gt, 0, none⟩) (m + 1) ct) := H.blk.cell (i := 1) rfl
  have t0 := H.t.cell (nts_at (i := 0) (by omega))
  have z0 : (0 : Int) < ((m + 1 : Nat) : Int) := by omega
  have e0 : (((m + 1 : Nat) : Int) == 0) = false := by simp; omega
  have HH := Lib.hid H; clear H
  have HI := Lib.hid hI; clear hI
  have HOK := Lib.hid hok; clear hok
  obtain ⟨id, hid⟩ : ∃ id, T 0 = id := ⟨_, rfl⟩
  rw [hid] at t0 hT0
  have HID := Lib.hid hid; clear hid
  go_enter Try.func9, Try.ntmps9
  go_wp2_with fail
  refine (heap_Len HH.out).mono ?_
  rintro e w' ⟨rfl, rfl⟩
  go_wp2_with fail
  go_quiet (fail)
  have HK0 := (Kp.refl (fun j => base ≤ j) w).drewN nq
  go_wp2_with fail
  refine (heap_swap (i := 0) (k := m) (HH.out.drewN _) HI.out hn (by omega) (by omega) (by omega)).mono ?_
  rintro e w2 ⟨rfl, H2, hK2⟩
  have hI2 := HI.out.swap (i := 0) (k := m) (by omega) (by omega)
  have hsm : sw T 0 m m = id := by rw [sw_r]; exact HID.out
  have c1 : w2.cell? ⟨h, 1, none⟩ = some (.slice (some ⟨gt, 0, none⟩) (m + 1) ct) := H2.blk.cell (i := 1) rfl
  have f1 : w2.frozen? ⟨h, 1, none⟩ = false := H2.blk.free 1
  have c2 : w2.cell? ⟨h, 2, none⟩ = some (.slice (some ⟨ga, 0, none⟩) n ca) := H2.blk.cell (i := 2) rfl
  have ci := H2.a.cell (zts_at hT0)
  have fi := H2.a.free id
  have H3 := H2.cutT
  have ci3 := H3.a.cell (zts_at hT0)
  have fi3 := H3.a.free id
  have i0 : (0 : Int) ≤ (id : Int) := by omega
  have i1 : (id : Int) < (n : Int) := by omega
  have m0 : (0 : Int) ≤ (m : Int) := by omega
  have m1 : (m : Int) ≤ (ct : Int) := by omega
  obtain ⟨qv, hqv⟩ : ∃ qv, swQ T Q 0 m id = qv := ⟨_, rfl⟩
  rw [hqv] at ci ci3
  have H4 := Lib.hid (H3.setA id (-1)).drew
  have hID := hI2.drop
  rw [hsm] at hID
  have HI4 := Lib.hid hID
  have HK4 := Lib.hid ((((HK0 : Kp (fun j => base ≤ j) w (w.drewN nq)).trans hK2 (fun _ _ h => h)).setCell (p := ⟨h, 1, none⟩) (fun _ => hlow) (.slice (some ⟨gt, 0, none⟩) m ct)).setCell (p := ⟨ga, id, none⟩) (fun _ => hga) (.int .i64 (-1))).drew
  clear hqv H2 H3 hI2 hID hK2 hsm t0
  go_wp2_with fail
  go_region
  clear c1 f1 c2 ci fi ci3 fi3
  have HPW := Lib.hid (pop_weak HOK.out)
  have HRF := Lib.hid (root_first (ah_ord S) HOK.out)
  have HSub : Hid (Sub (sw T 0 m) m T (m + 1)) := fun j hj => Sub.sw (i := 0) (k := m) (by omega) (by omega) j (by omega)
  by_cases hm0 : m = 0
  · subst hm0
    go_wp2_with fail
    refine (heap_down0 H4.out).mono ?_
    rintro e w4 ⟨rfl, rfl⟩
    go_wp2_with fail
    go_ret2
    exact ⟨id, hT0, rfl, ⟨0, by omega, HID.out⟩, _, _, ⟨⟨_, _, _, H4.out⟩, HI4.out, fun j _ hj => by omega⟩, fun j hj => by omega, fun j hj => by omega, HK4.out⟩
  · go_wp2_with fail
    refine (heap_down (i := 0) H4.out HI4.out hn (by omega) (by omega) HPW.out.1 HPW.out.2).mono ?_
    rintro e w4 ⟨rfl, T5, Q5, H5, hI5, hSub5, hok5, hK5⟩
    have hS := Sub.trans hSub5 HSub.out
    have HEnd := Lib.hid (show ∃ (T' : Nat → Nat) (Q' : Nat → Int), HOk w4 base h n m S T' Q' ∧ Sub T' m T (m + 1) ∧ (∀ j, j < m → ¬ ah S (T' j) id) ∧ Kp (fun j => base ≤ j) w w4 from
      ⟨T5, Q5, ⟨⟨_, _, _, H5⟩, hI5, hok5⟩, hS, fun j hj => by
        obtain ⟨k, hk, e⟩ := hS j hj
        rw [e, ← HID.out]
        exact HRF.out k hk, HK4.out.trans hK5 (fun _ _ h => h)⟩)
    clear H5 hI5 hSub5 hok5 hK5 hS
    go_wp2_with fail
    go_ret2
    exact ⟨id, hT0, rfl, ⟨0, by omega, HID.out⟩, HEnd.out⟩

end Go.Proofs.Ytccdjjlbiibjgaa
