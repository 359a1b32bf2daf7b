/-
  heap.Push.
-/
import Derived.Test.YtnoknecfdnjomaaM1
import Derived.Deep.RegionHeld3
import Derived.Test.YtnoknecfdnjomaaRows
import Derived.Maps.Views
import Derived.Maps.OwnSet
import Derived.Deep.Quiet
import Derived.Deep.QuietTactic
import Derived.Orders
import Derived.RegionTactic
import Derived.ArgAppend
import Derived.StillTail
import Derived.Laws.Bits64b
import Derived.Laws.BitsLemmas
set_option linter.unusedVariables false
set_option linter.unusedSimpArgs false
namespace Go.Proofs.Ytnoknecfdnjomaa
open Go.RowKit

theorem Hp.pushT {w w' : World} {base h n m id : Nat} {vs vt vt' va : Value} {S T : Nat → Nat} {Q : Nat → Int} (H : Hp w base h vs vt va n m S T Q)
    (hO : Own w' base 3 vt' (nts T m ++ [.int .i64 (id : Int)])) (hg : w.grownBy w' vt.ownBlock) (hat : vt'.ownBlock = vt.ownBlock ∨ ∃ g, vt'.ownBlock = some g ∧ w.heap.size ≤ g) :
    Hp (w'.setCell ⟨h, 1, none⟩ vt') base h vs vt' va n (m + 1) S (up1 T m id) Q := by
  have hK : Kp (fun j => vt.ownBlock = some j) w w' := (Kp.refl _ w).grown hg (fun j hj _ => hj)
  have hh := H.blk.lt
  have hB := H.blk.kp hK (fun e => (H.ht h e).1 rfl)
  have hsame := hB.set_same 1 vt'
  have lift : ∀ j, vt'.ownBlock = some j → vt.ownBlock = some j ∨ w.heap.size ≤ j := by
    intro j hj
    rcases hat with e | ⟨g, e, hgl⟩
    · left; rw [← e]; exact hj
    · right; rw [e] at hj; have : g = j := by simpa using hj
      omega
  have hne : ∀ j, vt'.ownBlock = some j → j ≠ h := by
    intro j hj e
    rcases lift j hj with h1 | h1
    · exact (H.ht j h1).1 e
    · omega
  refine ⟨hsame, H.low, (H.s.kp hK (fun j hj e => (H.hs j hj).2.1 e)).set_other (p := ⟨h, 1, none⟩) (fun j hj => (H.hs j hj).1) _, ?_, (H.a.kp hK (fun j hj e => (H.ht j e).2 hj)).set_other (p := ⟨h, 1, none⟩) (fun j hj => H.ha j hj) _, ?_, ?_, H.ha⟩
  · rw [nts_snoc] at hO
    exact hO.set_other (p := ⟨h, 1, none⟩) hne _
  · intro j hj
    refine ⟨(H.hs j hj).1, fun e => ?_, (H.hs j hj).2.2⟩
    rcases lift j e with h1 | h1
    · exact (H.hs j hj).2.1 h1
    · have := (H.s.lt j hj).2; omega
  · intro j hj
    refine ⟨hne j hj, fun e => ?_⟩
    rcases lift j hj with h1 | h1
    · exact (H.ht j h1).2 e
    · have := (H.a.lt j e).2; omega

theorem Hp.alloc {w : World} {base h n m : Nat} {vs vt va : Value} {S T : Nat → Nat} {Q : Nat → Int} (H : Hp w base h vs vt va n m S T Q) (o : Obj) : Hp (w.alloc o) base h vs vt va n m S T Q :=
  H.kp ((Kp.refl (fun _ => False) w).alloc o) (fun _ _ _ h => h)

theorem int_info : (Try.prog.info? 3).map (fun i => (i.zero, i.size, i.bytes)) = some (some (.int .i64 0), 1, 8) := by kernel_rfl

/-- what Push leaves -/
def PushF (base h n m id : Nat) (vs vt va : Value) (S T : Nat → Nat) (w : World) (e : Ending) (w' : World) : Prop :=
  e = .returned (.int .i64 0) ∧ ∃ (vt' : Value) (T' : Nat → Nat) (Q' : Nat → Int), Hp w' base h vs vt' va n (m + 1) S T' Q' ∧ Inv n (m + 1) T' Q' ∧ HeapOK (ah S) T' (m + 1) ∧
    (vt'.ownBlock = vt.ownBlock ∨ ∃ g, vt'.ownBlock = some g ∧ w.heap.size ≤ g) ∧ Sub2 T' (up1 T m id) (m + 1) ∧ Kp (HB h vs vt va) w w'

set_option maxRecDepth 100000 in
set_option maxHeartbeats 2000000 in
theorem hf_Push {w : World} {base h n m : Nat} {vs vt va : Value} {S T : Nat → Nat} {Q : Nat → Int} (H : Hp w base h vs vt va n m S T Q) (hI : Inv n m T Q) (hok : HeapOK (ah S) T m) (hn : n ≤ 1048576) (hm : m < 1048576) {id : Nat} (hid : id < n) (hq : Q id < 0) :
    Calls Try.prog 77 #[.pointer (some ⟨h, 0, none⟩), .int .i64 id] w (PushF base h n m id vs vt va S T w) := by
  have HI := Lib.hid (hI.push hid hq)
  have HW := Lib.hid (push_weak (x := id) hok)
  clear hI hok
  obtain ⟨ga, ca, hva, hga, _⟩ := H.a.leads (by rw [zts_length]; omega)
  rw [zts_length] at hva
  subst hva
  obtain ⟨at_, ct, hvt⟩ := H.tform
  have hbl := H.blk.lt
  have hlow := H.low
  have c1 : w.cell? ⟨h, 1, none⟩ = some (.slice at_ m ct) := by rw [← hvt]; exact H.blk.cell (i := 1) rfl
  have c2 : w.cell? ⟨h, 2, none⟩ = some (.slice (some ⟨ga, 0, none⟩) n ca) := H.blk.cell (i := 2) rfl
  have ci := H.a.cell (zts_at hid)
  have fi := H.a.free id
  have i0 : (0 : Int) ≤ (id : Int) := by omega
  have i1 : (id : Int) < (n : Int) := by omega
  have g1 : decide ((0 : Int) ≤ Q id) = false := by simp; omega
  obtain ⟨qi, hqi⟩ : ∃ qi, Q id = qi := ⟨_, rfl⟩
  have H1 := Lib.hid (H.setA id (m : Int)).drew
  have HH := Lib.hid H
  have HVT := Lib.hid hvt
  have hK1 : Kp (HB h vs vt (.slice (some ⟨ga, 0, none⟩) n ca)) w (w.setCell ⟨ga, id, none⟩ (.int .i64 (m : Int))).drew := ((Kp.refl (HB h vs vt (.slice (some ⟨ga, 0, none⟩) n ca)) w).setCell (p := ⟨ga, id, none⟩) (fun _ => HB.a) _).drew
  have HK1 := Lib.hid hK1
  rw [hqi] at ci g1
  clear H hvt hK1 hqi hq
  go_enter Try.func77, Try.ntmps77
  go_wp2_with fail
  refine (heap_known HH.out hid).mono ?_
  rintro e w' ⟨rfl, rfl⟩
  go_wp2_with fail
  go_region
  clear c1 c2 ci fi
  all_goals generalize (w.setCell ⟨ga, id, none⟩ (.int .i64 (m : Int))).drew = w1 at *
  have c1 : w1.cell? ⟨h, 1, none⟩ = some (.slice at_ m ct) := by rw [← HVT.out]; exact H1.out.blk.cell (i := 1) rfl
  have hb1 := H1.out.blk.lt
  have hO := H1.out.t
  rw [HVT.out] at hO
  have HOw := Lib.hid hO; clear hO
  go_wp2_with (at_builtin; refine wpList_append1_at rfl _ _ 22 3 rfl Try.underlying22 int_info rfl (HOw.out.alloc _) rfl ⟨w1.heap.size, 0, none⟩ (.int .i64 id) rfl ?c1 rfl ?c2 ?c3 ?c4 ?_)
  case c1 => exact World.cell?_alloc_at _ _ _ _ rfl
  case c2 => rw [nts_length]; omega
  case c3 => rw [nts_length]; unfold maxLen; omega
  case c4 => simp; omega
  intro v' w2 hO2 hg2 hat2
  obtain ⟨av, cv, hav, _⟩ := hO2.form
  subst hav
  obtain ⟨lv, hlv⟩ : ∃ lv, lv = (nts T m ++ [Value.int .i64 (id : Int)]).length := ⟨_, rfl⟩
  rw [← hlv] at hO2 hat2 ⊢
  clear hlv
  obtain ⟨v', hv'⟩ : ∃ v', v' = Value.slice av lv cv := ⟨_, rfl⟩
  have HV := Lib.hid hv'
  rw [← hv'] at hO2 hat2
  clear hv'
  have HA := Lib.hid (H1.out.alloc (.cells #[.int .i64 (id : Int)] 3))
  have hP := Hp.pushT HA.out hO2 (by rw [HVT.out]; exact hg2) (by rw [HVT.out]; rcases hat2 with e | e; exact .inl e; exact .inr ⟨_, e, by simp⟩)
  have hK2 : Kp (HB h vs vt (.slice (some ⟨ga, 0, none⟩) n ca)) w w2 := (HK1.out.alloc _).grown hg2 (fun j hj _ => by rw [HVT.out]; exact .inr (.inr (.inl hj)))
  have hK3 : Kp (HB h vs vt (.slice (some ⟨ga, 0, none⟩) n ca)) w (w2.setCell ⟨h, 1, none⟩ v') := hK2.setCell (p := ⟨h, 1, none⟩) (fun _ => HB.h) _
  have hsz : w.heap.size ≤ w1.heap.size := HK1.out.size
  have hlift : v'.ownBlock = vt.ownBlock ∨ ∃ g, v'.ownBlock = some g ∧ w.heap.size ≤ g := by
    rcases hat2 with e | e
    · left; rw [HVT.out]; exact e
    · right; exact ⟨_, e, by (try simp); omega⟩
  have HLift := Lib.hid hlift
  clear hlift hsz
  have hKg : Kp (fun j => (Value.slice at_ m ct).ownBlock = some j) (w1.alloc (.cells #[.int .i64 (id : Int)] 3)) w2 := (Kp.refl _ _).grown hg2 (fun j hj _ => hj)
  have hb2 := HA.out.blk.kp hKg (fun e => (HA.out.ht h (by rw [HVT.out]; exact e)).1 rfl)
  have c1 : w2.cell? ⟨h, 1, none⟩ = some vt := hb2.cell (i := 1) rfl
  have f1 : w2.frozen? ⟨h, 1, none⟩ = false := hb2.free 1
  rw [HVT.out] at c1
  have HP := Lib.hid hP
  have HK3 := Lib.hid hK3
  rw [HV.out] at HP HK3 hP
  have c2 : (w2.setCell ⟨h, 1, none⟩ (.slice av lv cv)).cell? ⟨h, 2, none⟩ = some (.slice (some ⟨ga, 0, none⟩) n ca) := hP.blk.cell (i := 2) rfl
  have ci : (w2.setCell ⟨h, 1, none⟩ (.slice av lv cv)).cell? ⟨ga, id, none⟩ = some (.int .i64 (m : Int)) := by have := hP.a.cell (zts_at hid); rw [up1_at] at this; exact this
  clear hP hK2 hK3 hKg hb2 hO2 hg2 hat2
  go_wp2_with fail
  refine (hf_up HP.out HI.out hn (by omega) (i := m) (by omega) HW.out.1).mono ?_
  rintro e w3 ⟨rfl, T', Q', j, H4, hI4, hSub, hj, hTj, hW4, hU4, hD4, hK4⟩
  have hok4 := ok_of hW4 hU4 (hD4 HW.out.2)
  have hKe : Kp (HB h vs vt (.slice (some ⟨ga, 0, none⟩) n ca)) w w3 := HK3.out.trans hK4 (fun j hj hb => by
    rcases hb with e | e | e | e
    · exact .inl e
    · exact .inr (.inl e)
    · rw [← HV.out] at e
      rcases HLift.out with e2 | ⟨g, e2, hg⟩
      · exact .inr (.inr (.inl (e2 ▸ e)))
      · rw [e2] at e
        have : g = j := by simpa using e
        omega
    · exact .inr (.inr (.inr e)))
  have hL := HLift.out
  rw [HV.out] at hL
  have HEnd := Lib.hid (show ∃ (vt' : Value) (T' : Nat → Nat) (Q' : Nat → Int), Hp w3 base h vs vt' (.slice (some ⟨ga, 0, none⟩) n ca) n (m + 1) S T' Q' ∧ Inv n (m + 1) T' Q' ∧ HeapOK (ah S) T' (m + 1) ∧
      (vt'.ownBlock = vt.ownBlock ∨ ∃ g, vt'.ownBlock = some g ∧ w.heap.size ≤ g) ∧ Sub2 T' (up1 T m id) (m + 1) ∧ Kp (HB h vs vt (.slice (some ⟨ga, 0, none⟩) n ca)) w w3 from
    ⟨_, T', Q', H4, hI4, hok4, hL, hSub, hKe⟩)
  clear hok4 hKe hL
  clear H4 hI4 hSub hTj hW4 hU4 hD4 hK4
  go_wp2_with fail
  go_ret
  exact ⟨rfl, HEnd.out⟩

end Go.Proofs.Ytnoknecfdnjomaa

/-
  heap.Pop.
-/
namespace Go.Proofs.Ytnoknecfdnjomaa
open Go.RowKit

theorem Own.cut' {w : World} {base : Nat} {e : TypeId} {g n cap m : Nat} {cs : List Value} (h : Own w base e (.slice (some ⟨g, 0, none⟩) n cap) cs) (hm : m ≤ cs.length) :
    Own w base e (.slice (some ⟨g, 0, none⟩) m cap) (cs.take m) := by
  rcases h.2 with ⟨h3, _⟩ | ⟨g', cap', cur, hv, hb, hg, hnc, hcm, hcs, htake⟩
  · cases h3
  · simp only [Value.slice.injEq, Option.some.injEq, Addr.mk.injEq, and_true] at hv
    obtain ⟨rfl, rfl, rfl⟩ := hv
    have hl : (cs.take m).length = m := by simp; omega
    refine ⟨by simp, .inr ⟨g, cap, cur, by rw [hl], hb, hg, by rw [hl]; omega, hcm, hcs, ?_⟩⟩
    rw [hl, Nat.mul_one]
    rw [Nat.mul_one] at htake
    rw [← htake, List.take_take]
    congr 1
    omega

theorem Hp.cutT {w : World} {base h n m gt ct : Nat} {vs va : Value} {S T : Nat → Nat} {Q : Nat → Int} (H : Hp w base h vs (.slice (some ⟨gt, 0, none⟩) (m + 1) ct) va n (m + 1) S T Q) :
    Hp (w.setCell ⟨h, 1, none⟩ (.slice (some ⟨gt, 0, none⟩) m ct)) base h vs (.slice (some ⟨gt, 0, none⟩) m ct) va n m S T Q := by
  refine ⟨H.blk.set_same 1 _, H.low, H.s.set_other (p := ⟨h, 1, none⟩) (fun j hj => (H.hs j hj).1) _, ?_, H.a.set_other (p := ⟨h, 1, none⟩) (fun j hj => H.ha j hj) _, H.hs, H.ht, H.ha⟩
  have := H.t.cut' (m := m) (by rw [nts_length]; omega)
  unfold nts at this ⊢
  rw [rowF_take _ (by omega)] at this
  exact this.set_other (p := ⟨h, 1, none⟩) (fun j hj => (H.ht j hj).1) _

theorem pop_set {n m : Nat} {T : Nat → Nat} {Q : Nat → Int} (hI : Inv n (m + 1) T Q) (x : Nat) : (∃ j, j < m ∧ sw T 0 m j = x) ↔ x ≠ T 0 ∧ ∃ j, j < m + 1 ∧ T j = x := by
  constructor
  · rintro ⟨j, hj, rfl⟩
    by_cases e : j = 0
    · subst e
      rw [sw_l]
      exact ⟨fun e => by have := hI.inj (show m < m + 1 by omega) (show 0 < m + 1 by omega) e; omega, m, by omega, rfl⟩
    · rw [sw_o e (by omega)]
      exact ⟨fun e2 => e (hI.inj (show j < m + 1 by omega) (show 0 < m + 1 by omega) e2), j, by omega, rfl⟩
  · rintro ⟨hne, j, hj, rfl⟩
    have hj0 : j ≠ 0 := fun e => hne (by rw [e])
    by_cases e : j = m
    · subst e
      exact ⟨0, by omega, sw_l ..⟩
    · exact ⟨j, by omega, sw_o hj0 e⟩

/-- what Pop leaves -/
def PopF (base h n m : Nat) (vs vt va : Value) (S T : Nat → Nat) (w : World) (e : Ending) (w' : World) : Prop :=
  ∃ id : Nat, id < n ∧ e = .returned (.tuple #[.int .i64 id, .bool true]) ∧ (∃ j, j < m + 1 ∧ T j = id) ∧ (∀ j, j < m + 1 → ¬ ah S (T j) id) ∧ ∃ (vt' : Value) (T' : Nat → Nat) (Q' : Nat → Int), Hp w' base h vs vt' va n m S T' Q' ∧ Inv n m T' Q' ∧ HeapOK (ah S) T' m ∧
    vt'.ownBlock = vt.ownBlock ∧ (∀ x, (∃ j, j < m ∧ T' j = x) ↔ x ≠ id ∧ ∃ j, j < m + 1 ∧ T j = x) ∧ Kp (HB h vs vt va) w w'

theorem hf_Pop0 {w : World} {base h n : Nat} {vs vt va : Value} {S T : Nat → Nat} {Q : Nat → Int} (H : Hp w base h vs vt va n 0 S T Q) :
    Calls Try.prog 78 #[.pointer (some ⟨h, 0, none⟩)] w fun e w' => e = .returned (.tuple #[.int .i64 0, .bool false]) ∧ w = w' := by
  have HH := Lib.hid H; clear H
  go_enter Try.func78, Try.ntmps78
  go_wp2_with fail
  refine (heap_Len HH.out).mono ?_
  rintro e w' ⟨rfl, rfl⟩
  go_wp2_with fail
  go_ret2
  exact ⟨rfl, rfl⟩

set_option maxRecDepth 100000 in
set_option maxHeartbeats 2000000 in
theorem hf_Pop {w : World} {base h n m : Nat} {vs vt va : Value} {S T : Nat → Nat} {Q : Nat → Int} (H : Hp w base h vs vt va n (m + 1) S T Q) (hI : Inv n (m + 1) T Q) (hok : HeapOK (ah S) T (m + 1)) (hn : n ≤ 1048576) (hm : m < 1048576) :
    Calls Try.prog 78 #[.pointer (some ⟨h, 0, none⟩)] w (PopF base h n m vs vt va S T w) := by
  obtain ⟨gt, ct, hvt, hgt, _⟩ := H.t.leads (by rw [nts_length]; omega)
  rw [nts_length] at hvt
  subst hvt
  have hT0 := (hI.here 0 (by omega)).1
  obtain ⟨ga, ca, hva, hga, _⟩ := H.a.leads (by rw [zts_length]; omega)
  rw [zts_length] at hva
  subst hva
  have hct : m + 1 ≤ ct ∧ ct ≤ maxLen := by
    obtain ⟨a, c, e, h1, h2, _⟩ := H.t.form
    rw [nts_length] at e h1
    simp only [Value.slice.injEq] at e
    obtain ⟨_, _, rfl⟩ := e
    exact ⟨h1, h2⟩
  have hct2 : ct ≤ 9223372036854775807 := by have := hct.2; unfold maxLen at this; omega
  have hct1 : m + 1 ≤ ct := hct.1
  clear hct
  have hlow := H.low
  have c1 : w.cell? ⟨h, 1, none⟩ = some (.slice (some ⟨gt, 0, none⟩) (m + 1) ct) := H.blk.cell (i := 1) rfl
  have t0 := H.t.cell (nts_at (i := 0) (by omega))
  have z0 : (0 : Int) < ((m + 1 : Nat) : Int) := by omega
  have e0 : (((m + 1 : Nat) : Int) == 0) = false := by simp; omega
  have HH := Lib.hid H; clear H
  have HI := Lib.hid hI; clear hI
  have HOK := Lib.hid hok; clear hok
  obtain ⟨id, hid⟩ : ∃ id, T 0 = id := ⟨_, rfl⟩
  rw [hid] at t0 hT0
  have HID := Lib.hid hid; clear hid
  go_enter Try.func78, Try.ntmps78
  go_wp2_with fail
  refine (heap_Len HH.out).mono ?_
  rintro e w' ⟨rfl, rfl⟩
  go_wp2_with fail
  go_quiet (fail)
  have HK0 := (Kp.refl (HB h vs (.slice (some ⟨gt, 0, none⟩) (m + 1) ct) (.slice (some ⟨ga, 0, none⟩) n ca)) w).drewN nq
  go_wp2_with fail
  refine (hf_swap (i := 0) (k := m) (HH.out.drewN _) HI.out hn (by omega) (by omega) (by omega)).mono ?_
  rintro e w2 ⟨rfl, H2, hK2⟩
  have hI2 := HI.out.swap (i := 0) (k := m) (by omega) (by omega)
  have hsm : sw T 0 m m = id := by rw [sw_r]; exact HID.out
  have c1 : w2.cell? ⟨h, 1, none⟩ = some (.slice (some ⟨gt, 0, none⟩) (m + 1) ct) := H2.blk.cell (i := 1) rfl
  have f1 : w2.frozen? ⟨h, 1, none⟩ = false := H2.blk.free 1
  have c2 : w2.cell? ⟨h, 2, none⟩ = some (.slice (some ⟨ga, 0, none⟩) n ca) := H2.blk.cell (i := 2) rfl
  have ci := H2.a.cell (zts_at hT0)
  have fi := H2.a.free id
  have H3 := H2.cutT
  have ci3 := H3.a.cell (zts_at hT0)
  have fi3 := H3.a.free id
  have i0 : (0 : Int) ≤ (id : Int) := by omega
  have i1 : (id : Int) < (n : Int) := by omega
  have m0 : (0 : Int) ≤ (m : Int) := by omega
  have m1 : (m : Int) ≤ (ct : Int) := by omega
  obtain ⟨qv, hqv⟩ : ∃ qv, swQ T Q 0 m id = qv := ⟨_, rfl⟩
  rw [hqv] at ci ci3
  have H4 := Lib.hid (H3.setA id (-1)).drew
  have hID := hI2.drop
  rw [hsm] at hID
  have HI4 := Lib.hid hID
  have HK4 := Lib.hid ((((HK0 : Kp (HB h vs (.slice (some ⟨gt, 0, none⟩) (m + 1) ct) (.slice (some ⟨ga, 0, none⟩) n ca)) w (w.drewN nq)).trans hK2 (fun _ _ h => h)).setCell (p := ⟨h, 1, none⟩) (fun _ => HB.h) (.slice (some ⟨gt, 0, none⟩) m ct)).setCell (p := ⟨ga, id, none⟩) (fun _ => HB.a) (.int .i64 (-1))).drew
  clear hqv H2 H3 hI2 hID hK2 hsm t0
  go_wp2_with fail
  go_region
  clear c1 f1 c2 ci fi ci3 fi3
  have HPW := Lib.hid (pop_weak HOK.out)
  have HRF := Lib.hid (root_first (ah_ord S) HOK.out)
  by_cases hm0 : m = 0
  · subst hm0
    go_wp2_with fail
    refine (hf_down0 H4.out).mono ?_
    rintro e w4 ⟨rfl, rfl⟩
    go_wp2_with fail
    go_ret2
    exact ⟨id, hT0, rfl, ⟨0, by omega, HID.out⟩, fun j hj => by rw [← HID.out]; exact HRF.out j hj, _, _, _, H4.out, HI4.out, fun j _ hj => by omega, rfl, fun x => by rw [← HID.out]; exact pop_set HI.out x, HK4.out⟩
  · go_wp2_with fail
    refine (hf_down (i := 0) H4.out HI4.out hn (by omega) (by omega) HPW.out.1 HPW.out.2).mono ?_
    rintro e w4 ⟨rfl, T5, Q5, H5, hI5, hSub5, hok5, hK5⟩
    have hset : ∀ x, (∃ j, j < m ∧ T5 j = x) ↔ x ≠ id ∧ ∃ j, j < m + 1 ∧ T j = x := fun x => by
      rw [hSub5.iff x, ← HID.out]
      exact pop_set HI.out x
    have HSet := Lib.hid hset
    have HKz := Lib.hid (HK4.out.trans hK5 (fun _ _ h => h))
    have H5h := Lib.hid H5
    have HI5 := Lib.hid (And.intro hI5 hok5)
    clear H5 hI5 hSub5 hok5 hK5 hset
    go_wp2_with fail
    go_ret2
    exact ⟨id, hT0, rfl, ⟨0, by omega, HID.out⟩, fun j hj => by rw [← HID.out]; exact HRF.out j hj, _, T5, Q5, H5h.out, HI5.out.1, HI5.out.2, rfl, HSet.out, HKz.out⟩

end Go.Proofs.Ytnoknecfdnjomaa

/-
  A heap whose scores are all 0, as a set: what is popped is the least.
-/
namespace Go.Proofs.Ytnoknecfdnjomaa
open Go.RowKit

theorem ah_zero (a b : Nat) : ah (fun _ => 0) a b ↔ a < b := by
  rw [ah_iff]
  unfold klt
  omega

theorem Inv.room {n m : Nat} {T : Nat → Nat} {Q : Nat → Int} (h : Inv n m T Q) {id : Nat} (hid : id < n) (hq : Q id < 0) : m < n := by
  have hnd : ((List.range m).map T).Nodup := by
    rw [List.nodup_iff_pairwise_ne, List.pairwise_map]
    refine List.Pairwise.imp_of_mem ?_ (List.nodup_range (n := m))
    intro a b ha hb hne e
    exact hne (h.inj (List.mem_range.1 ha) (List.mem_range.1 hb) e)
  have := nodup_lt hnd (n := n) (i := id) (fun j hj => by
    obtain ⟨k, hk, rfl⟩ := List.mem_map.1 hj
    exact (h.here k (List.mem_range.1 hk)).1) hid (fun hm => by
    obtain ⟨k, hk, e⟩ := List.mem_map.1 hm
    have := (h.here k (List.mem_range.1 hk)).2
    rw [e] at this
    omega)
  simpa using this

theorem Inv.most {n m : Nat} {T : Nat → Nat} {Q : Nat → Int} (h : Inv n m T Q) : m ≤ n := by
  have hnd : ((List.range m).map T).Nodup := by
    rw [List.nodup_iff_pairwise_ne, List.pairwise_map]
    refine List.Pairwise.imp_of_mem ?_ (List.nodup_range (n := m))
    intro a b ha hb hne e
    exact hne (h.inj (List.mem_range.1 ha) (List.mem_range.1 hb) e)
  have := nodup_le n hnd (fun j hj => by
    obtain ⟨k, hk, rfl⟩ := List.mem_map.1 hj
    exact (h.here k (List.mem_range.1 hk)).1)
  simpa using this

/-- the heap at h holds just the things of M; its memory is the blocks of X, from base on -/
def HSet (w : World) (base h n : Nat) (X : Nat → Prop) (M : Nat → Prop) : Prop :=
  ∃ (vs vt va : Value) (m : Nat) (T : Nat → Nat) (Q : Nat → Int), Hp w base h vs vt va n m (fun _ => 0) T Q ∧ Inv n m T Q ∧ HeapOK (ah (fun _ => 0)) T m ∧ (∀ j, HB h vs vt va j ↔ X j) ∧ ∀ x, (∃ j, j < m ∧ T j = x) ↔ M x

section
variable {w w' : World} {base h n : Nat} {X M : Nat → Prop}

theorem Hp.own_lt {m : Nat} {vs vt va : Value} {S T : Nat → Nat} {Q : Nat → Int} (H : Hp w base h vs vt va n m S T Q) {j : Nat} (hj : HB h vs vt va j) : base ≤ j ∧ j < w.heap.size := by
  rcases hj with e | e | e | e
  · subst e; exact ⟨H.low, H.blk.lt⟩
  · exact H.s.lt j e
  · exact H.t.lt j e
  · exact H.a.lt j e

theorem HSet.lt (H : HSet w base h n X M) {j : Nat} (hj : X j) : base ≤ j ∧ j < w.heap.size := by
  obtain ⟨vs, vt, va, m, T, Q, H, _, _, hX, _⟩ := H
  exact H.own_lt ((hX j).2 hj)

theorem HSet.low (H : HSet w base h n X M) {b : Nat} (hb : b ≤ base) : HSet w b h n X M := by
  obtain ⟨vs, vt, va, m, T, Q, H, r⟩ := H
  exact ⟨vs, vt, va, m, T, Q, ⟨H.blk, Nat.le_trans hb H.low, H.s.mono hb, H.t.mono hb, H.a.mono hb, H.hs, H.ht, H.ha⟩, r⟩

theorem HSet.kp {S : Nat → Prop} (H : HSet w base h n X M) (k : Kp S w w') (hS : ∀ j, X j → ¬ S j) : HSet w' base h n X M := by
  obtain ⟨vs, vt, va, m, T, Q, H, hI, hok, hX, hM⟩ := H
  refine ⟨vs, vt, va, m, T, Q, ⟨H.blk.kp k (hS h ((hX h).1 HB.h)), H.low, H.s.kp k (fun j hj => hS j ((hX j).1 (.inr (.inl hj)))), H.t.kp k (fun j hj => hS j ((hX j).1 (.inr (.inr (.inl hj))))), H.a.kp k (fun j hj => hS j ((hX j).1 (.inr (.inr (.inr hj))))), H.hs, H.ht, H.ha⟩, hI, hok, hX, hM⟩

theorem HSet.same {M' : Nat → Prop} (H : HSet w base h n X M) (e : ∀ x, M x ↔ M' x) : HSet w base h n X M' := by
  obtain ⟨vs, vt, va, m, T, Q, H, hI, hok, hX, hM⟩ := H
  exact ⟨vs, vt, va, m, T, Q, H, hI, hok, hX, fun x => (hM x).trans (e x)⟩

theorem HSet.new (hn : n ≤ 1048576) (w : World) : Calls Try.prog 76 #[.int .i64 n] w fun e w' => ∃ h X, e = .returned (.pointer (some ⟨h, 0, none⟩)) ∧ HSet w' w.heap.size h n X (fun _ => False) ∧ Kp (fun _ => False) w w' :=
  (heap_New n hn w).mono (by
    rintro e w' ⟨h, vs, va, he, H, hK⟩
    refine ⟨h, _, he, ⟨vs, _, va, 0, _, _, H, ⟨fun i hi => by omega, fun x _ => .inl rfl⟩, fun j _ hj => by omega, fun _ => Iff.rfl, fun x => ?_⟩, hK⟩
    constructor
    · rintro ⟨j, hj, _⟩; omega
    · exact fun h => h.elim)

theorem HSet.push (H : HSet w base h n X M) (hn : n ≤ 1048576) {id : Nat} (hid : id < n) (hm : ¬ M id) :
    Calls Try.prog 77 #[.pointer (some ⟨h, 0, none⟩), .int .i64 id] w fun e w' => e = .returned (.int .i64 0) ∧ ∃ X', HSet w' base h n X' (fun x => M x ∨ x = id) ∧ (∀ j, X' j → X j ∨ w.heap.size ≤ j) ∧ Kp X w w' := by
  obtain ⟨vs, vt, va, m, T, Q, H, hI, hok, hX, hM⟩ := H
  have hq : Q id < 0 := by
    rcases hI.there id hid with e | ⟨i, hi, _, e⟩
    · omega
    · exact absurd ((hM id).1 ⟨i, hi, e⟩) hm
  have hroom := hI.room hid hq
  refine (hf_Push H hI hok hn (by omega) hid hq).mono ?_
  rintro e w' ⟨he, vt', T', Q', H', hI', hok', hat, hsub, hK⟩
  refine ⟨he, HB h vs vt' va, ⟨vs, vt', va, m + 1, T', Q', H', hI', hok', fun _ => Iff.rfl, fun x => ?_⟩, ?_, hK.mono (fun j _ hj => (hX j).1 hj)⟩
  · rw [hsub.iff x]
    constructor
    · rintro ⟨j, hj, e⟩
      by_cases ej : j = m
      · subst ej; rw [up1_at] at e; exact .inr e.symm
      · rw [up1_off _ _ ej] at e; exact .inl ((hM x).1 ⟨j, by omega, e⟩)
    · rintro (h | h)
      · obtain ⟨j, hj, e⟩ := (hM x).2 h
        exact ⟨j, by omega, by rw [up1_off _ _ (by omega)]; exact e⟩
      · exact ⟨m, by omega, by rw [up1_at]; exact h.symm⟩
  · intro j hj
    rcases hj with e | e | e | e
    · exact .inl ((hX j).1 (.inl e))
    · exact .inl ((hX j).1 (.inr (.inl e)))
    · rcases hat with e2 | ⟨g, e2, hg⟩
      · exact .inl ((hX j).1 (.inr (.inr (.inl (e2 ▸ e)))))
      · rw [e2] at e
        have : g = j := by simpa using e
        exact .inr (by omega)
    · exact .inl ((hX j).1 (.inr (.inr (.inr e))))

theorem HSet.pop (H : HSet w base h n X M) (hn : n ≤ 1048576) (hm : ∃ x, M x) :
    Calls Try.prog 78 #[.pointer (some ⟨h, 0, none⟩)] w fun e w' => ∃ id : Nat, id < n ∧ e = .returned (.tuple #[.int .i64 id, .bool true]) ∧ M id ∧ (∀ x, M x → id ≤ x) ∧ HSet w' base h n X (fun x => M x ∧ x ≠ id) ∧ Kp X w w' := by
  obtain ⟨vs, vt, va, m, T, Q, H, hI, hok, hX, hM⟩ := H
  obtain ⟨x, hx⟩ := hm
  obtain ⟨j0, hj0, _⟩ := (hM x).2 hx
  obtain ⟨m', rfl⟩ : ∃ m', m = m' + 1 := ⟨m - 1, by omega⟩
  have hmost := hI.most
  refine (hf_Pop H hI hok hn (by omega)).mono ?_
  rintro e w' ⟨id, hid, he, hmem, hleast, vt', T', Q', H', hI', hok', hat, hset, hK⟩
  refine ⟨id, hid, he, (hM id).1 hmem, fun x hx => ?_, ⟨vs, vt', va, m', T', Q', H', hI', hok', fun j => ?_, fun x => ?_⟩, hK.mono (fun j _ hj => (hX j).1 hj)⟩
  · obtain ⟨j, hj, rfl⟩ := (hM x).2 hx
    have := hleast j hj
    rw [ah_zero] at this
    omega
  · rw [← hX j]
    unfold HB
    rw [hat]
  · rw [hset x, hM x]
    exact And.comm

theorem HSet.pop0 (H : HSet w base h n X M) (hm : ∀ x, ¬ M x) :
    Calls Try.prog 78 #[.pointer (some ⟨h, 0, none⟩)] w fun e w' => e = .returned (.tuple #[.int .i64 0, .bool false]) ∧ w = w' := by
  obtain ⟨vs, vt, va, m, T, Q, H, hI, hok, hX, hM⟩ := H
  cases m with
  | zero => exact hf_Pop0 H
  | succ m => exact absurd ((hM (T 0)).1 ⟨0, by omega, rfl⟩) (hm _)
end

end Go.Proofs.Ytnoknecfdnjomaa

/-
  Maps of the call's own from numbers to truths, and to numbers.
-/
namespace Go.Proofs.Ytnoknecfdnjomaa
open Go.RowKit
open Go.Maps (Keyed)

theorem intk_keyed : Keyed Try.prog 3 := Maps.int_keyed Try.underlying3

def okInt (x : Int) : Prop := -9223372036854775808 ≤ x ∧ x ≤ 9223372036854775807
theorem okInt.wf {x : Int} (h : okInt x) : (Lit.int .i64 x).wf = true := by
  unfold okInt at h
  simp [Lit.wf, IntKind.min, IntKind.max, IntKind.signed, IntKind.bits]; omega
theorem intk_key {x : Int} (h : okInt x) : keyOf Try.prog 3 (.int .i64 x) = some (.int .i64 x) := Maps.keyOf_int_mk Try.underlying3 h.wf

theorem boolv_elem {H : Type} {P : Program} {e : TypeId} (he : P.underlying e = some .bool) {v : Value} {x : Bool} {ps : List MemPlace} (h : plainElem (H := H) P e v = some (.lit (.bool x), ps)) : v = .bool x := by
  unfold plainElem at h
  rw [he] at h
  cases v <;> simp at h
  rw [h.1]

/-- block b is a map in which F tells what stands by each number -/
def IMB (w : World) (b n : Nat) (F : Int → Bool) : Prop :=
  ∃ D : DataW Unit, w.ownsMap Try.prog 3 (plainElem Try.prog 4) b n D ∧ Maps.IsMap D ∧ ∀ x, okInt x → D.atKey (.int .i64 x) (.lit (.bool false)) = .lit (.bool (F x))

theorem IMB.made (w : World) : IMB (w.alloc (.map #[] 0)) w.heap.size 0 (fun _ => false) :=
  ⟨.map [], World.ownsMap_made _ _ _ _, Maps.isMap_empty, fun x _ => by simp [DataW.atKey]⟩

theorem IMB.lt {w : World} {b n : Nat} {F : Int → Bool} (h : IMB w b n F) : b < w.heap.size := by
  obtain ⟨D, h, _⟩ := h
  exact h.lt

theorem IMB.kp {S : Nat → Prop} {w w' : World} {b n : Nat} {F : Int → Bool} (h : IMB w b n F) (k : Kp S w w') (hS : ¬ S b) : IMB w' b n F := by
  have hb := h.lt
  obtain ⟨D, ⟨es, clock, h1, h2⟩, h3⟩ := h
  exact ⟨D, ⟨es, clock, (k.block b hb hS).trans h1, h2⟩, h3⟩

theorem IMB.look {w : World} {b n : Nat} {F : Int → Bool} (h : IMB w b n F) {x : Int} (hx : okInt x) :
    (Instr.lookup 101 (.map (some b)) (.int .i64 x) false).run Try.prog w = .ok (.bool (F x)) w := by
  obtain ⟨D, h1, _, h2⟩ := h
  obtain ⟨v, ps, hr, hv⟩ := h1.lookup intk_keyed Try.underlying101 (Try.zeroValue4 w) (plainElem_bool Try.underlying4 false) (intk_key hx)
  rw [h2 x hx] at hv
  rw [boolv_elem Try.underlying4 hv] at hr
  exact hr

theorem IMB.put {w : World} {b n : Nat} {F : Int → Bool} (h : IMB w b n F) (hn : n < maxLen) {x : Int} (hx : okInt x) (v : Bool) :
    ∃ w', (Instr.mapUpdate 101 (.map (some b)) (.int .i64 x) (.bool v)).run Try.prog w = .ok () w' ∧ IMB w' b (n + 1) (fun y => if y = x then v else F y) ∧ Kp (· = b) w w' := by
  obtain ⟨D, h1, hD, h2⟩ := h
  obtain ⟨w', hr, h3, hg⟩ := h1.update intk_keyed Try.underlying101 hn (intk_key hx) (plainElem_bool Try.underlying4 v)
  refine ⟨w', hr, ⟨_, h3, hD.put _ _, fun y hy => ?_⟩, (Kp.refl _ w).grown hg (fun j hj _ => by simpa using hj.symm)⟩
  show _ = DataW.lit (.bool (if y = x then v else F y))
  by_cases e : y = x
  · subst e
    rw [Maps.atKey_put_same hD (intk_keyed.key (intk_key hx)), if_pos rfl]
  · rw [if_neg e, Maps.atKey_put_other (fun h => e (by simpa using h)), h2 y hy]

/-- block b is a map in which F tells what stands by each number, if something does -/
def IMI (w : World) (b n : Nat) (F : Int → Option Int) : Prop :=
  ∃ D : DataW Unit, w.ownsMap Try.prog 3 (plainElem Try.prog 3) b n D ∧ Maps.IsMap D ∧ ∀ x, okInt x → D.atKey (.int .i64 x) (.lit (.int .i64 0)) = .lit (.int .i64 ((F x).getD 0)) ∧ Maps.has D (.int .i64 x) = (F x).isSome

theorem IMI.made (w : World) : IMI (w.alloc (.map #[] 0)) w.heap.size 0 (fun _ => none) :=
  ⟨.map [], World.ownsMap_made _ _ _ _, Maps.isMap_empty, fun x _ => ⟨by simp [DataW.atKey], rfl⟩⟩

theorem IMI.lt {w : World} {b n : Nat} {F : Int → Option Int} (h : IMI w b n F) : b < w.heap.size := by
  obtain ⟨D, h, _⟩ := h
  exact h.lt

theorem IMI.kp {S : Nat → Prop} {w w' : World} {b n : Nat} {F : Int → Option Int} (h : IMI w b n F) (k : Kp S w w') (hS : ¬ S b) : IMI w' b n F := by
  have hb := h.lt
  obtain ⟨D, ⟨es, clock, h1, h2⟩, h3⟩ := h
  exact ⟨D, ⟨es, clock, (k.block b hb hS).trans h1, h2⟩, h3⟩

theorem IMI.look {w : World} {b n : Nat} {F : Int → Option Int} (h : IMI w b n F) {x : Int} (hx : okInt x) :
    (Instr.lookup 40 (.map (some b)) (.int .i64 x) true).run Try.prog w = .ok (.tuple #[.int .i64 ((F x).getD 0), .bool (F x).isSome]) w := by
  obtain ⟨D, h1, _, h2⟩ := h
  obtain ⟨v, ps, hr, hv⟩ := h1.look_ok intk_keyed Try.underlying40 (Try.zeroValue3 w) (plainElem_int Try.underlying3 (q := .i64) (a := 0) (by decide)) (intk_key hx)
  rw [(h2 x hx).1] at hv
  obtain ⟨c, rfl, hc, _⟩ := plainElem_int_inv Try.underlying3 hv
  simp only [Prod.mk.injEq, DataW.lit.injEq, Lit.int.injEq, true_and] at hc
  rw [(h2 x hx).2, ← hc.1] at hr
  exact hr

theorem IMI.put {w : World} {b n : Nat} {F : Int → Option Int} (h : IMI w b n F) (hn : n < maxLen) {x : Int} (hx : okInt x) {v : Int} (hv : okInt v) :
    ∃ w', (Instr.mapUpdate 40 (.map (some b)) (.int .i64 x) (.int .i64 v)).run Try.prog w = .ok () w' ∧ IMI w' b (n + 1) (fun y => if y = x then some v else F y) ∧ Kp (· = b) w w' := by
  obtain ⟨D, h1, hD, h2⟩ := h
  obtain ⟨w', hr, h3, hg⟩ := h1.update intk_keyed Try.underlying40 hn (intk_key hx) (plainElem_int Try.underlying3 hv.wf)
  refine ⟨w', hr, ⟨_, h3, hD.put _ _, fun y hy => ?_⟩, (Kp.refl _ w).grown hg (fun j hj _ => by simpa using hj.symm)⟩
  show _ = DataW.lit (.int .i64 ((if y = x then some v else F y).getD 0)) ∧ _ = (if y = x then some v else F y).isSome
  by_cases e : y = x
  · subst e
    rw [Maps.atKey_put_same hD (intk_keyed.key (intk_key hx)), Maps.has_put_same hD (intk_keyed.key (intk_key hx)), if_pos rfl]
    exact ⟨rfl, rfl⟩
  · rw [if_neg e, Maps.atKey_put_other (fun h => e (by simpa using h)), Maps.has_put_other (fun h => e (by simpa using h))]
    exact h2 y hy

end Go.Proofs.Ytnoknecfdnjomaa

/-
  What circ.Order keeps in memory: the map of places, what is lacking, what is above, the heap, and the order so far.
-/
namespace Go.Proofs.Ytnoknecfdnjomaa
open Go.RowKit

def nv (l : List Nat) : List Value := l.map (fun (i : Nat) => Value.int .i64 (i : Int))
theorem nv_length (l : List Nat) : (nv l).length = l.length := List.length_map ..
theorem nv_snoc (l : List Nat) (i : Nat) : nv (l ++ [i]) = nv l ++ [.int .i64 (i : Int)] := by simp [nv]
def gn (l : List Nat) (k : Nat) : Nat := l[k]?.getD 0
theorem nv_at {l : List Nat} {k : Nat} (h : k < l.length) : (nv l)[k]? = some (.int .i64 (gn l k : Int)) := by
  unfold nv gn; rw [List.getElem?_map, List.getElem?_eq_getElem h]; rfl
theorem gn_mem {l : List Nat} {k : Nat} (h : k < l.length) : gn l k ∈ l := by
  unfold gn; rw [List.getElem?_eq_getElem h]; exact List.getElem_mem h

/-- the memory of circ.Order -/
structure OS (w : World) (bp gl ga h n np : Nat) (F : Int → Option Int) (L : Nat → Int) (R : Nat → Value) (A : Nat → List Nat) (X M : Nat → Prop) (vo : Value) (out : List Nat) (wr : World) : Prop where
  pl : IMI wr bp np F
  la : Blk wr gl (zts L n).toArray 3
  ab : Blk wr ga (rowF R n).toArray 22
  ow : ∀ k, k < n → Own wr w.heap.size 3 (R k) (nv (A k))
  hp : HSet wr w.heap.size h n X M
  oo : Own wr w.heap.size 3 vo (nv out)
  kp : Kp (fun _ => False) w wr
  lo : w.heap.size ≤ bp ∧ w.heap.size ≤ gl ∧ w.heap.size ≤ ga
  d1 : bp ≠ gl ∧ bp ≠ ga ∧ gl ≠ ga ∧ ¬ X bp ∧ ¬ X gl ∧ ¬ X ga
  d2 : ∀ k, k < n → ∀ j, (R k).ownBlock = some j → j ≠ bp ∧ j ≠ gl ∧ j ≠ ga ∧ ¬ X j
  d3 : ∀ k k', k < n → k' < n → k ≠ k' → ∀ j, (R k).ownBlock = some j → (R k').ownBlock ≠ some j
  d4 : ∀ j, vo.ownBlock = some j → j ≠ bp ∧ j ≠ gl ∧ j ≠ ga ∧ ¬ X j ∧ ∀ k, k < n → (R k).ownBlock ≠ some j

section
variable {w wr wr' : World} {bp gl ga h n np : Nat} {F : Int → Option Int} {L : Nat → Int} {R : Nat → Value} {A : Nat → List Nat} {X M : Nat → Prop} {vo : Value} {out : List Nat}

theorem OS.fresh (H : OS w bp gl ga h n np F L R A X M vo out wr) (k : Kp (fun _ => False) wr wr') : OS w bp gl ga h n np F L R A X M vo out wr' :=
  ⟨H.pl.kp k (fun h => h), H.la.kp k (fun h => h), H.ab.kp k (fun h => h), fun i hi => (H.ow i hi).kp k (fun _ _ h => h), H.hp.kp k (fun _ _ h => h), H.oo.kp k (fun _ _ h => h), H.kp.trans k (fun _ _ h => h), H.lo, H.d1, H.d2, H.d3, H.d4⟩

theorem OS.same {L' : Nat → Int} {A' : Nat → List Nat} {M' : Nat → Prop} (H : OS w bp gl ga h n np F L R A X M vo out wr) (h1 : ∀ k, k < n → L k = L' k) (h2 : ∀ k, k < n → A k = A' k) (h3 : ∀ x, M x ↔ M' x) : OS w bp gl ga h n np F L' R A' X M' vo out wr :=
  ⟨H.pl, by rw [← zts_congr h1]; exact H.la, H.ab, fun i hi => by rw [← h2 i hi]; exact H.ow i hi, H.hp.same h3, H.oo, H.kp, H.lo, H.d1, H.d2, H.d3, H.d4⟩

theorem OS.cellL (H : OS w bp gl ga h n np F L R A X M vo out wr) {k : Nat} (hk : k < n) : wr.cell? ⟨gl, k, none⟩ = some (.int .i64 (L k)) :=
  H.la.cell (by have := zts_at (T := L) hk; simpa using this)
theorem OS.freeL (H : OS w bp gl ga h n np F L R A X M vo out wr) (k : Nat) : wr.frozen? ⟨gl, k, none⟩ = false := H.la.free k
theorem OS.cellA (H : OS w bp gl ga h n np F L R A X M vo out wr) {k : Nat} (hk : k < n) : wr.cell? ⟨ga, k, none⟩ = some (R k) :=
  H.ab.cell (by have := rowF_at (f := R) hk; simpa using this)
theorem OS.setL (H : OS w bp gl ga h n np F L R A X M vo out wr) (k : Nat) (x : Int) : OS w bp gl ga h n np F (up1 L k x) R A X M vo out (wr.setCell ⟨gl, k, none⟩ (.int .i64 x)) := by
  have hK : Kp (fun j => j = gl) wr (wr.setCell ⟨gl, k, none⟩ (.int .i64 x)) := Kp.set wr ⟨gl, k, none⟩ _
  refine ⟨H.pl.kp hK H.d1.1, ?_, H.ab.kp hK (fun e => H.d1.2.2.1 e.symm), fun i hi => (H.ow i hi).kp hK (fun j hj e => (H.d2 i hi j hj).2.1 e), H.hp.kp hK (fun j hj e => H.d1.2.2.2.2.1 (e ▸ hj)), H.oo.kp hK (fun j hj e => (H.d4 j hj).2.1 e), H.kp.setCell (p := ⟨gl, k, none⟩) (fun hl => by have := H.lo.2.1; exact absurd hl (Nat.not_lt.2 this)) _, H.lo, H.d1, H.d2, H.d3, H.d4⟩
  have := H.la.set_same k (.int .i64 x)
  have e : (zts L n).toArray.setIfInBounds k (.int .i64 x) = ((zts L n).set k (.int .i64 x)).toArray := by simp
  rw [e, zts_set] at this
  exact this

/-- one more gate above gate k -/
theorem OS.snoc {w1 w2 : World} {v' : Value} {i k : Nat} (H : OS w bp gl ga h n np F L R A X M vo out wr) (hk : k < n) (hK : Kp (fun _ => False) wr w1)
    (hO : Own w2 w.heap.size 3 v' (nv (A k) ++ [.int .i64 (i : Int)])) (hg : w1.grownBy w2 (R k).ownBlock) (hat : v'.ownBlock = (R k).ownBlock ∨ v'.ownBlock = some w1.heap.size) :
    OS w bp gl ga h n np F L (up1 R k v') (up1 A k (A k ++ [i])) X M vo out (w2.setCell ⟨ga, k, none⟩ v') := by
  have H1 := H.fresh hK
  have hKg : Kp (fun j => (R k).ownBlock = some j) w1 w2 := (Kp.refl _ w1).grown hg (fun j hj _ => hj)
  have hsz := hKg.size
  have hKs : Kp (fun j => j = ga) w2 (w2.setCell ⟨ga, k, none⟩ v') := Kp.set w2 ⟨ga, k, none⟩ _
  have hKK : Kp (fun j => (R k).ownBlock = some j ∨ j = ga) w1 (w2.setCell ⟨ga, k, none⟩ v') := (hKg.mono (fun _ _ h => .inl h)).trans hKs (fun _ _ h => .inr h)
  have hv : ∀ j, v'.ownBlock = some j → (R k).ownBlock = some j ∨ w1.heap.size ≤ j := fun j hj => by
    rcases hat with e | e
    · exact .inl (e ▸ hj)
    · rw [e] at hj; right; have : w1.heap.size = j := by simpa using hj
      omega
  have hXlt : ∀ j, X j → j < w1.heap.size := fun j hj => (H1.hp.lt hj).2
  have hRlt : ∀ i, i < n → ∀ j, (R i).ownBlock = some j → j < w1.heap.size := fun i hi j hj => ((H1.ow i hi).lt j hj).2
  have hgl := H1.la.lt
  have hga := H1.ab.lt
  have hbp := H1.pl.lt
  have hne : ∀ j, v'.ownBlock = some j → j ≠ bp ∧ j ≠ gl ∧ j ≠ ga ∧ ¬ X j := fun j hj => by
    rcases hv j hj with e | e
    · exact H.d2 k hk j e
    · exact ⟨by omega, by omega, by omega, fun hx => by have := hXlt j hx; omega⟩
  refine ⟨H1.pl.kp hKK (fun e => ?_), H1.la.kp hKK (fun e => ?_), ?_, fun i' hi' => ?_, H1.hp.kp hKK (fun j hj e => ?_), H1.oo.kp hKK (fun j hj e => ?_), ?_, H.lo, H.d1, fun i' hi' j hj => ?_, fun a b ha hb hab j hj => ?_, fun j hj => ?_⟩
  · rcases e with e | e
    · exact (H.d2 k hk _ e).1 rfl
    · exact H.d1.2.1 e
  · rcases e with e | e
    · exact (H.d2 k hk _ e).2.1 rfl
    · exact H.d1.2.2.1 e
  · have hab : Blk w2 ga (rowF R n).toArray 22 := H1.ab.kp hKg (fun e => (H.d2 k hk _ e).2.2.1 rfl)
    have := hab.set_same k v'
    have e : (rowF R n).toArray.setIfInBounds k v' = ((rowF R n).set k v').toArray := by simp
    rw [e, rowF_set] at this
    exact this
  · by_cases e : i' = k
    · subst e
      rw [up1_at, up1_at, nv_snoc]
      exact hO.kp hKs (fun j hj e => (hne j hj).2.2.1 e)
    · rw [up1_off _ _ e, up1_off _ _ e]
      refine (H1.ow i' hi').kp hKK (fun j hj h => ?_)
      rcases h with h | h
      · exact H.d3 i' k hi' hk e j hj h
      · exact (H.d2 i' hi' j hj).2.2.1 h
  · rcases e with e | e
    · exact (H.d2 k hk _ e).2.2.2 hj
    · exact H.d1.2.2.2.2.2 (e ▸ hj)
  · rcases e with e | e
    · exact (H.d4 j hj).2.2.2.2 k hk e
    · exact (H.d4 j hj).2.2.1 e
  · exact (H1.kp.grown hg (fun j hj hl => by have := ((H.ow k hk).lt j hj).1; omega)).setCell (p := ⟨ga, k, none⟩) (fun hl => by have := H.lo.2.2; exact absurd hl (Nat.not_lt.2 this)) _
  · by_cases e : i' = k
    · subst e; rw [up1_at] at hj; exact hne j hj
    · rw [up1_off _ _ e] at hj; exact H.d2 i' hi' j hj
  · by_cases ea : a = k
    · subst ea
      rw [up1_at] at hj
      rw [up1_off _ _ (fun e => hab e.symm)]
      intro hb'
      rcases hv j hj with h | h
      · exact H.d3 a b ha hb hab j h hb'
      · have := hRlt b hb j hb'; omega
    · rw [up1_off _ _ ea] at hj
      by_cases eb : b = k
      · subst eb
        rw [up1_at]
        intro hb'
        rcases hv j hb' with h | h
        · exact H.d3 a b ha hb hab j hj h
        · have := hRlt a ha j hj; omega
      · rw [up1_off _ _ eb]; exact H.d3 a b ha hb hab j hj
  · obtain ⟨q1, q2, q3, q4, q5⟩ := H.d4 j hj
    refine ⟨q1, q2, q3, q4, fun i' hi' => ?_⟩
    by_cases e : i' = k
    · subst e
      rw [up1_at]
      intro hb
      rcases hv j hb with h | h
      · exact q5 i' hi' h
      · have := (H1.oo.lt j hj).2; omega
    · rw [up1_off _ _ e]; exact q5 i' hi'

/-- the order grows -/
theorem OS.outS {w1 w2 : World} {v' : Value} {i : Nat} (H : OS w bp gl ga h n np F L R A X M vo out wr) (hK : Kp (fun _ => False) wr w1)
    (hO : Own w2 w.heap.size 3 v' (nv out ++ [.int .i64 (i : Int)])) (hg : w1.grownBy w2 vo.ownBlock) (hat : v'.ownBlock = vo.ownBlock ∨ v'.ownBlock = some w1.heap.size) :
    OS w bp gl ga h n np F L R A X M v' (out ++ [i]) w2 := by
  have H1 := H.fresh hK
  have hKg : Kp (fun j => vo.ownBlock = some j) w1 w2 := (Kp.refl _ w1).grown hg (fun j hj _ => hj)
  have hXlt : ∀ j, X j → j < w1.heap.size := fun j hj => (H1.hp.lt hj).2
  have hRlt : ∀ i, i < n → ∀ j, (R i).ownBlock = some j → j < w1.heap.size := fun i hi j hj => ((H1.ow i hi).lt j hj).2
  have hgl := H1.la.lt
  have hga := H1.ab.lt
  have hbp := H1.pl.lt
  refine ⟨H1.pl.kp hKg (fun e => (H.d4 _ e).1 rfl), H1.la.kp hKg (fun e => (H.d4 _ e).2.1 rfl), H1.ab.kp hKg (fun e => (H.d4 _ e).2.2.1 rfl), fun k hk => (H1.ow k hk).kp hKg (fun j hj e => (H.d4 j e).2.2.2.2 k hk hj), H1.hp.kp hKg (fun j hj e => (H.d4 j e).2.2.2.1 hj), by rw [nv_snoc]; exact hO, H1.kp.grown hg (fun j hj hl => by have := (H.oo.lt j hj).1; omega), H.lo, H.d1, H.d2, H.d3, fun j hj => ?_⟩
  rcases hat with e | e
  · exact H.d4 j (e ▸ hj)
  · rw [e] at hj
    have hj' : w1.heap.size = j := by simpa using hj
    exact ⟨by omega, by omega, by omega, fun hx => by have := hXlt j hx; omega, fun k hk hb => by have := hRlt k hk j hb; omega⟩

theorem OS.push (H : OS w bp gl ga h n np F L R A X M vo out wr) (hn : n ≤ 1048576) {id : Nat} (hid : id < n) (hm : ¬ M id) :
    Calls Try.prog 77 #[.pointer (some ⟨h, 0, none⟩), .int .i64 id] wr fun e w' => e = .returned (.int .i64 0) ∧ ∃ X', OS w bp gl ga h n np F L R A X' (fun x => M x ∨ x = id) vo out w' :=
  (H.hp.push hn hid hm).mono (by
    rintro e w' ⟨he, X', hp', hX', hK⟩
    have hgl := H.la.lt
    have hga := H.ab.lt
    have hbp := H.pl.lt
    have no : ∀ j, j < wr.heap.size → ¬ X j → ¬ X' j := fun j hj hx h => by
      rcases hX' j h with h | h
      · exact hx h
      · omega
    exact ⟨he, X', H.pl.kp hK H.d1.2.2.2.1, H.la.kp hK H.d1.2.2.2.2.1, H.ab.kp hK H.d1.2.2.2.2.2, fun k hk => (H.ow k hk).kp hK (fun j hj => (H.d2 k hk j hj).2.2.2), hp', H.oo.kp hK (fun j hj => (H.d4 j hj).2.2.2.1), H.kp.trans hK (fun j hj hx => by have := (H.hp.lt hx).1; omega), H.lo,
      ⟨H.d1.1, H.d1.2.1, H.d1.2.2.1, no _ hbp H.d1.2.2.2.1, no _ hgl H.d1.2.2.2.2.1, no _ hga H.d1.2.2.2.2.2⟩,
      fun k hk j hj => ⟨(H.d2 k hk j hj).1, (H.d2 k hk j hj).2.1, (H.d2 k hk j hj).2.2.1, no j ((H.ow k hk).lt j hj).2 (H.d2 k hk j hj).2.2.2⟩, H.d3,
      fun j hj => ⟨(H.d4 j hj).1, (H.d4 j hj).2.1, (H.d4 j hj).2.2.1, no j (H.oo.lt j hj).2 (H.d4 j hj).2.2.2.1, (H.d4 j hj).2.2.2.2⟩⟩)

theorem OS.pop (H : OS w bp gl ga h n np F L R A X M vo out wr) (hn : n ≤ 1048576) (hm : ∃ x, M x) :
    Calls Try.prog 78 #[.pointer (some ⟨h, 0, none⟩)] wr fun e w' => ∃ id : Nat, id < n ∧ e = .returned (.tuple #[.int .i64 id, .bool true]) ∧ M id ∧ (∀ x, M x → id ≤ x) ∧ OS w bp gl ga h n np F L R A X (fun x => M x ∧ x ≠ id) vo out w' :=
  (H.hp.pop hn hm).mono (by
    rintro e w' ⟨id, hid, he, h1, h2, hp', hK⟩
    exact ⟨id, hid, he, h1, h2, H.pl.kp hK H.d1.2.2.2.1, H.la.kp hK H.d1.2.2.2.2.1, H.ab.kp hK H.d1.2.2.2.2.2, fun k hk => (H.ow k hk).kp hK (fun j hj => (H.d2 k hk j hj).2.2.2), hp', H.oo.kp hK (fun j hj => (H.d4 j hj).2.2.2.1), H.kp.trans hK (fun j hj hx => by have := (H.hp.lt hx).1; omega), H.lo, H.d1, H.d2, H.d3, H.d4⟩)

theorem OS.pop0 (H : OS w bp gl ga h n np F L R A X M vo out wr) (hm : ∀ x, ¬ M x) :
    Calls Try.prog 78 #[.pointer (some ⟨h, 0, none⟩)] wr fun e w' => e = .returned (.tuple #[.int .i64 0, .bool false]) ∧ wr = w' := H.hp.pop0 hm

end

/-- which gate a variable is, by the first k gates -/
def placeF (G : List (Int × Int × Int)) : Nat → Int → Option Int
  | 0 => fun _ => none
  | k + 1 => fun y => if y = (g3 G k).1 / 2 then some (k : Int) else placeF G k y

theorem placeF_some {G : List (Int × Int × Int)} : ∀ {n : Nat} {y v : Int}, placeF G n y = some v → ∃ k : Nat, v = k ∧ k < n ∧ (g3 G k).1 / 2 = y
  | 0, _, _, h => by simp [placeF] at h
  | n + 1, y, v, h => by
    unfold placeF at h
    by_cases e : y = (g3 G n).1 / 2
    · simp only [e, if_true, Option.some.injEq] at h
      exact ⟨n, h.symm, by omega, e.symm⟩
    · simp only [e, if_false] at h
      obtain ⟨k, h1, h2, h3⟩ := placeF_some h
      exact ⟨k, h1, by omega, h3⟩

theorem placeF_isSome {G : List (Int × Int × Int)} : ∀ {n : Nat} {y : Int}, (placeF G n y).isSome = true ↔ ∃ k, k < n ∧ (g3 G k).1 / 2 = y
  | 0, y => by simp [placeF]
  | n + 1, y => by
    unfold placeF
    by_cases e : y = (g3 G n).1 / 2
    · simp only [e, if_true, Option.isSome_some, true_iff]
      exact ⟨n, by omega, rfl⟩
    · simp only [e, if_false, placeF_isSome]
      constructor
      · rintro ⟨k, h1, h2⟩; exact ⟨k, by omega, h2⟩
      · rintro ⟨k, h1, h2⟩
        refine ⟨k, ?_, h2⟩
        have : k ≠ n := fun ek => e (by rw [← h2, ek])
        omega

theorem waits_nil {G : List (Int × Int × Int)} {l : Int} : waitsB G [] l = (placeF G G.length (l / 2)).isSome := by
  rw [Bool.eq_iff_iff, waitsB_iff, placeF_isSome]
  simp

/-- above and lacking while gate i's literals are gone through -/
def abvP (G : List (Int × Int × Int)) (i q k : Nat) : List Nat := aboveL G k i ++ (((pins G i).take q).filter (fun p => decide (p / 2 = (g3 G k).1 / 2))).map (fun _ => i)
def cntP (G : List (Int × Int × Int)) (i q : Nat) : Nat := (((pins G i).take q).filter (waitsB G [])).length
def lackP (G : List (Int × Int × Int)) (i q k : Nat) : Int := if k < i then (cntO G [] k : Int) else if k = i then (cntP G i q : Int) else 0

theorem aboveL_len (G : List (Int × Int × Int)) (k : Nat) : ∀ i, (aboveL G k i).length ≤ 2 * i
  | 0 => by simp [aboveL]
  | i + 1 => by
    unfold aboveL
    rw [List.length_append, List.length_map]
    have := aboveL_len G k i
    have := List.length_filter_le (fun p => decide (p / 2 = (g3 G k).1 / 2)) (pins G i)
    have : (pins G i).length = 2 := rfl
    omega
theorem abvP_len (G : List (Int × Int × Int)) (i q k : Nat) : (abvP G i q k).length ≤ 2 * i + 2 := by
  unfold abvP
  rw [List.length_append, List.length_map]
  have := aboveL_len G k i
  have := List.length_filter_le (fun p => decide (p / 2 = (g3 G k).1 / 2)) ((pins G i).take q)
  have : ((pins G i).take q).length ≤ 2 := by rw [List.length_take, show (pins G i).length = 2 from rfl]; omega
  omega

theorem abvP_zero (G : List (Int × Int × Int)) (i k : Nat) : abvP G i 0 k = aboveL G k i := by simp [abvP]
theorem abvP_two (G : List (Int × Int × Int)) (i k : Nat) : abvP G i 2 k = aboveL G k (i + 1) := by simp [abvP, aboveL, pins]
theorem lackP_two (G : List (Int × Int × Int)) (i k : Nat) : lackP G i 2 k = lackP G (i + 1) 0 k := by
  unfold lackP cntP
  by_cases h1 : k < i
  · rw [if_pos h1, if_pos (by omega)]
  · rw [if_neg h1]
    by_cases h2 : k = i
    · subst h2
      rw [if_pos rfl, if_pos (by omega)]
      simp [cntO, pins]
    · rw [if_neg h2, if_neg (by omega)]
      by_cases h3 : k = i + 1
      · rw [if_pos h3]; simp
      · rw [if_neg h3]

def gpin (G : List (Int × Int × Int)) (i q : Nat) : Int := gi (pins G i) q
theorem pins_take {G : List (Int × Int × Int)} {i q : Nat} (h : q < 2) : (pins G i).take (q + 1) = (pins G i).take q ++ [gpin G i q] := take_gi (by simpa [pins] using h)

theorem pin_hit {G : List (Int × Int × Int)} (hG : GoodG G) {i q k : Nat} (hq : q < 2) (hk : k < G.length) (hp : (g3 G k).1 / 2 = gpin G i q / 2) :
    (∀ x, x < G.length → up1 (abvP G i q) k (abvP G i q k ++ [i]) x = abvP G i (q + 1) x) ∧ (∀ x, up1 (lackP G i q) i (lackP G i q i + 1) x = lackP G i (q + 1) x) := by
  refine ⟨fun x hx => ?_, fun x => ?_⟩
  · by_cases e : x = k
    · subst e
      rw [up1_at]
      unfold abvP
      rw [pins_take hq, List.filter_append, List.map_append, ← List.append_assoc]
      congr 1
      simp [hp]
    · rw [up1_off _ _ e]
      unfold abvP
      rw [pins_take hq, List.filter_append, List.map_append]
      have : ¬ gpin G i q / 2 = (g3 G x).1 / 2 := fun h => e (hG x k hx hk (h.symm.trans hp.symm))
      simp [this]
  · have hw : waitsB G [] (gpin G i q) = true := waitsB_iff.2 ⟨k, hk, by simp, hp⟩
    by_cases e : x = i
    · subst e
      rw [up1_at]
      unfold lackP cntP
      rw [if_neg (by omega), if_pos rfl, if_neg (by omega), if_pos rfl, pins_take hq, List.filter_append, List.length_append]
      simp [hw]
    · rw [up1_off _ _ e]
      unfold lackP
      simp only [e, if_false]

theorem pin_miss {G : List (Int × Int × Int)} {i q : Nat} (hq : q < 2) (hp : waitsB G [] (gpin G i q) = false) :
    (∀ x, x < G.length → abvP G i q x = abvP G i (q + 1) x) ∧ (∀ x, lackP G i q x = lackP G i (q + 1) x) := by
  refine ⟨fun x hx => ?_, fun x => ?_⟩
  · unfold abvP
    rw [pins_take hq, List.filter_append, List.map_append]
    have : ¬ gpin G i q / 2 = (g3 G x).1 / 2 := fun h => by
      have : waitsB G [] (gpin G i q) = true := waitsB_iff.2 ⟨x, hx, by simp, h.symm⟩
      rw [hp] at this; cases this
    simp [this]
  · unfold lackP cntP
    rw [pins_take hq, List.filter_append]
    simp [hp]

/-- what is lacking while those above gate i are gone through -/
def lackQ (G : List (Int × Int × Int)) (out : List Nat) (i q k : Nat) : Int := (cntO G out k : Int) - (((aboveL G i G.length).take q).count k : Int)

theorem take_gn {l : List Nat} {q : Nat} (h : q < l.length) : l.take (q + 1) = l.take q ++ [gn l q] := by
  rw [List.take_succ_eq_append_getElem h]
  unfold gn
  rw [List.getElem?_eq_getElem h]
  rfl

theorem lackQ_zero (G : List (Int × Int × Int)) (out : List Nat) (i k : Nat) : lackQ G out i 0 k = (cntO G out k : Int) := by simp [lackQ]
theorem lackQ_step {G : List (Int × Int × Int)} {out : List Nat} {i q : Nat} (hq : q < (aboveL G i G.length).length) (x : Nat) :
    up1 (lackQ G out i q) (gn (aboveL G i G.length) q) (lackQ G out i q (gn (aboveL G i G.length) q) - 1) x = lackQ G out i (q + 1) x := by
  by_cases e : x = gn (aboveL G i G.length) q
  · subst e
    rw [up1_at]
    unfold lackQ
    rw [take_gn hq, List.count_append]
    simp
    omega
  · rw [up1_off _ _ e]
    unfold lackQ
    rw [take_gn hq, List.count_append]
    have : [gn (aboveL G i G.length) q].count x = 0 := by
      rw [List.count_eq_zero]; simpa using e
    rw [this]
    simp
theorem lackQ_at {G : List (Int × Int × Int)} (hG : GoodG G) {out : List Nat} (h : MidO G out) {i q : Nat} (hn : nextO G out = some i) (hq : q < (aboveL G i G.length).length) :
    gn (aboveL G i G.length) q < G.length ∧ 1 ≤ lackQ G out i q (gn (aboveL G i G.length) q) ∧ lackQ G out i q (gn (aboveL G i G.length) q) ≤ 2 ∧ gn (aboveL G i G.length) q ∉ out ++ [i] := by
  have e : aboveL G i G.length = (aboveL G i G.length).take q ++ gn (aboveL G i G.length) q :: (aboveL G i G.length).drop (q + 1) := by
    have h1 := List.take_append_drop (q + 1) (aboveL G i G.length)
    rw [take_gn hq] at h1
    simpa using h1.symm
  obtain ⟨h1, h2, h3⟩ := part_count hG h hn e
  refine ⟨h1, ?_, ?_, h3⟩
  · unfold lackQ; omega
  · unfold lackQ
    have : cntO G out (gn (aboveL G i G.length) q) ≤ 2 := by unfold cntO; exact Nat.le_trans (List.length_filter_le _ _) (by simp [pins])
    omega
theorem lackQ_end {G : List (Int × Int × Int)} (hG : GoodG G) {out : List Nat} {i : Nat} (hn : nextO G out = some i) {k : Nat} (hk : k < G.length) :
    lackQ G out i (aboveL G i G.length).length k = (cntO G (out ++ [i]) k : Int) := by
  obtain ⟨hi, hr⟩ := nextO_some hn
  have := cnt_step hG hi (ready_iff.1 hr).1 hk
  unfold lackQ
  rw [List.take_length]
  omega

/-- between two takings, what is popped lies in two slots -/
def OrdRel (w : World) (bp gl ga h n : Nat) (G : List (Int × Int × Int)) (v15 v16 v17 : Value) (wr : World) : Prop :=
  ∃ (out : List Nat) (R : Nat → Value) (X M : Nat → Prop), MidO G out ∧ OS w bp gl ga h n n (placeF G n) (fun k => (cntO G out k : Int)) R (fun k => aboveL G k n) X M v15 out wr ∧
    ((∃ i : Nat, v16 = .int .i64 i ∧ v17 = .bool true ∧ nextO G out = some i ∧ ∀ x, M x ↔ x < n ∧ x ∉ out ∧ cntO G out x = 0 ∧ x ≠ i) ∨ (v16 = .int .i64 0 ∧ v17 = .bool false ∧ nextO G out = none))

theorem pop_next {w wr : World} {bp gl ga h n : Nat} {G : List (Int × Int × Int)} (hn : G.length = n) (hn1 : n ≤ 1048576) {out : List Nat} {R : Nat → Value} {X M : Nat → Prop} {vo : Value} (hM : MidO G out)
    (H : OS w bp gl ga h n n (placeF G n) (fun k => (cntO G out k : Int)) R (fun k => aboveL G k n) X M vo out wr) (hm : ∀ x, M x ↔ x < n ∧ x ∉ out ∧ cntO G out x = 0) :
    Calls Try.prog 78 #[.pointer (some ⟨h, 0, none⟩)] wr fun e w' => ∃ v16 v17, e = .returned (.tuple #[v16, v17]) ∧ OrdRel w bp gl ga h n G vo v16 v17 w' := by
  by_cases hex : ∃ x, M x
  · refine (H.pop hn1 hex).mono ?_
    rintro e w' ⟨id, hid, he, h1, h2, H'⟩
    refine ⟨_, _, he, out, R, X, _, hM, H', .inl ⟨id, rfl, rfl, ?_, fun x => ?_⟩⟩
    · obtain ⟨q1, q2, q3⟩ := (hm id).1 h1
      refine next_of_least (by omega) q2 q3 (fun j hj hjm hz => ?_)
      have := h2 j ((hm j).2 ⟨by omega, hjm, hz⟩)
      omega
    · rw [hm x]
      constructor
      · rintro ⟨⟨a, b, c⟩, d⟩; exact ⟨a, b, c, d⟩
      · rintro ⟨a, b, c, d⟩; exact ⟨⟨a, b, c⟩, d⟩
  · refine (H.pop0 (fun x hx => hex ⟨x, hx⟩)).mono ?_
    rintro e w' ⟨he, rfl⟩
    refine ⟨_, _, he, out, R, X, M, hM, H, .inr ⟨rfl, rfl, next_none (fun j hj hjm hz => hex ⟨j, (hm j).2 ⟨by omega, hjm, hz⟩⟩)⟩⟩

def lenV : Value → Nat
  | .slice _ n _ => n
  | _ => 0

theorem OS.start {w wa w2 : World} {bp gl ga h n : Nat} {F : Int → Option Int} {X : Nat → Prop} (hp : IMI wa bp n F) (hl : Blk wa gl (zts (fun _ => 0) n).toArray 3) (ha : Blk wa ga (rowF (fun _ => .slice none 0 0) n).toArray 22)
    (hK : Kp (fun _ => False) w wa) (hH : HSet w2 wa.heap.size h n X (fun _ => False)) (hK2 : Kp (fun _ => False) wa w2) (lo : w.heap.size ≤ bp ∧ w.heap.size ≤ gl ∧ w.heap.size ≤ ga) (d : bp ≠ gl ∧ bp ≠ ga ∧ gl ≠ ga) :
    OS w bp gl ga h n n F (fun _ => 0) (fun _ => .slice none 0 0) (fun _ => []) X (fun _ => False) (.slice none 0 0) [] w2 := by
  have far : ∀ j, j < wa.heap.size → ¬ X j := fun j hj hx => by have := (hH.lt hx).1; omega
  refine ⟨hp.kp hK2 (fun h => h), hl.kp hK2 (fun h => h), ha.kp hK2 (fun h => h), fun k _ => Own.nil _ _ _, hH.low hK.size, Own.nil _ _ _, hK.trans hK2 (fun _ _ h => h), lo, ⟨d.1, d.2.1, d.2.2, far _ hp.lt, far _ hl.lt, far _ ha.lt⟩, fun k _ j hj => by simp [Value.ownBlock] at hj, fun a b _ _ _ j hj => by simp [Value.ownBlock] at hj, fun j hj => by simp [Value.ownBlock] at hj⟩

theorem lackP_nil (G : List (Int × Int × Int)) (k : Nat) : lackP G 0 0 k = 0 := by
  unfold lackP cntP
  simp

/-- the second loop, at gate i -/
def BuildRel (w : World) (bp gl ga h n : Nat) (G : List (Int × Int × Int)) (i : Nat) (wr : World) : Prop :=
  ∃ (R : Nat → Value) (X : Nat → Prop), OS w bp gl ga h n n (placeF G n) (lackP G i 0) R (fun k => aboveL G k i) X (fun x => x < i ∧ cntO G [] x = 0) (.slice none 0 0) [] wr

/-- in the round of gate i, at its literal q -/
def PinRel (w : World) (bp gl ga h n : Nat) (G : List (Int × Int × Int)) (i q bq : Nat) (x1 x2 : Int) (wr : World) : Prop :=
  ∃ (R : Nat → Value) (X : Nat → Prop), OS w bp gl ga h n n (placeF G n) (lackP G i q) R (abvP G i q) X (fun x => x < i ∧ cntO G [] x = 0) (.slice none 0 0) [] wr ∧
    Blk wr bq #[.int .i64 x1, .int .i64 x2] 3 ∧ bq ≠ gl ∧ bq ≠ ga ∧ ∀ k, k < n → (R k).ownBlock ≠ some bq

theorem OS.abG {w wr w1 w2 : World} {bp gl ga h n np : Nat} {F : Int → Option Int} {L : Nat → Int} {R : Nat → Value} {A : Nat → List Nat} {X M : Nat → Prop} {vo : Value} {out : List Nat} {k : Nat} (H : OS w bp gl ga h n np F L R A X M vo out wr) (hk : k < n) (hK : Kp (fun _ => False) wr w1) (hg : w1.grownBy w2 (R k).ownBlock) :
    Blk w2 ga (rowF R n).toArray 22 :=
  (H.ab.kp hK (fun h => h)).kp (S := fun j => (R k).ownBlock = some j) ((Kp.refl _ w1).grown hg (fun j hj _ => hj)) (fun e => (H.d2 k hk _ e).2.2.1 rfl)

theorem PinRel.hit {w w1 w1' w2 : World} {bp gl ga h n i q k bq : Nat} {x1 x2 c : Int} {G : List (Int × Int × Int)} {R : Nat → Value} {X : Nat → Prop} {v' : Value}
    (H : OS w bp gl ga h n n (placeF G n) (up1 (lackP G i q) i (c + 1)) R (abvP G i q) X (fun x => x < i ∧ cntO G [] x = 0) (.slice none 0 0) [] w1) (hn : G.length = n) (hc : lackP G i q i = c) (hk : k < n)
    (hh : (∀ x, x < G.length → up1 (abvP G i q) k (abvP G i q k ++ [i]) x = abvP G i (q + 1) x) ∧ ∀ x, up1 (lackP G i q) i (lackP G i q i + 1) x = lackP G i (q + 1) x)
    (hB : Blk w1 bq #[.int .i64 x1, .int .i64 x2] 3) (hq1 : bq ≠ gl) (hq2 : bq ≠ ga) (hq3 : ∀ k, k < n → (R k).ownBlock ≠ some bq) (hK : Kp (fun _ => False) w1 w1')
    (hO : Own w2 w.heap.size 3 v' (nv (abvP G i q k) ++ [.int .i64 (i : Int)])) (hg : w1'.grownBy w2 (R k).ownBlock) (hat : v'.ownBlock = (R k).ownBlock ∨ v'.ownBlock = some w1'.heap.size) :
    PinRel w bp gl ga h n G i (q + 1) bq x1 x2 (w2.setCell ⟨ga, k, none⟩ v') := by
  have H2 := H.snoc hk hK hO hg hat
  have hlt := hB.lt
  have hsz := hK.size
  have hKg : Kp (fun j => (R k).ownBlock = some j) w1' w2 := (Kp.refl _ w1').grown hg (fun j hj _ => hj)
  refine ⟨_, X, H2.same (fun x _ => ?_) (fun x hx => hh.1 x (by omega)) (fun _ => Iff.rfl), ((hB.kp hK (fun h => h)).kp hKg (fun e => hq3 k hk e)).set_other (p := ⟨ga, k, none⟩) hq2 _, hq1, hq2, fun k' hk' => ?_⟩
  · rw [← hh.2 x, hc]
  · by_cases e : k' = k
    · subst e
      rw [up1_at]
      intro hb
      rcases hat with e | e
      · exact hq3 k' hk' (e ▸ hb)
      · rw [e] at hb
        have : w1'.heap.size = bq := by simpa using hb
        omega
    · rw [up1_off _ _ e]; exact hq3 k' hk'

theorem BuildRel.push {w wr : World} {bp gl ga h n i : Nat} {G : List (Int × Int × Int)} {R : Nat → Value} {X : Nat → Prop} (hz : cntO G [] i = 0)
    (H : OS w bp gl ga h n n (placeF G n) (lackP G i 2) R (abvP G i 2) X (fun x => (x < i ∧ cntO G [] x = 0) ∨ x = i) (.slice none 0 0) [] wr) : BuildRel w bp gl ga h n G (i + 1) wr :=
  ⟨R, X, H.same (fun k _ => lackP_two G i k) (fun k _ => abvP_two G i k) (fun x => by
    constructor
    · rintro (⟨a, b⟩ | rfl)
      · exact ⟨by omega, b⟩
      · exact ⟨by omega, hz⟩
    · rintro ⟨a, b⟩
      by_cases e : x = i
      · exact .inr e
      · exact .inl ⟨by omega, b⟩)⟩

theorem BuildRel.skip {w wr : World} {bp gl ga h n i : Nat} {G : List (Int × Int × Int)} {R : Nat → Value} {X : Nat → Prop} (hz : cntO G [] i ≠ 0)
    (H : OS w bp gl ga h n n (placeF G n) (lackP G i 2) R (abvP G i 2) X (fun x => x < i ∧ cntO G [] x = 0) (.slice none 0 0) [] wr) : BuildRel w bp gl ga h n G (i + 1) wr :=
  ⟨R, X, H.same (fun k _ => lackP_two G i k) (fun k _ => abvP_two G i k) (fun x => by
    constructor
    · rintro ⟨a, b⟩; exact ⟨by omega, b⟩
    · rintro ⟨a, b⟩
      have : x ≠ i := fun e => hz (e ▸ b)
      exact ⟨by omega, b⟩)⟩

theorem lackP_self (G : List (Int × Int × Int)) (i : Nat) : lackP G i 2 i = (cntO G [] i : Int) := by
  unfold lackP
  rw [if_neg (by omega), if_pos rfl]
  rfl

/-- in the round of a gate that is taken, behind q of those above it -/
def LackRel (w : World) (bp gl ga h n : Nat) (G : List (Int × Int × Int)) (out : List Nat) (i q : Nat) (R : Nat → Value) (v : Value) (wr : World) : Prop :=
  ∃ (X M : Nat → Prop), OS w bp gl ga h n n (placeF G n) (lackQ G out i q) R (fun k => aboveL G k n) X M v (out ++ [i]) wr ∧ ∀ x, M x ↔ x < n ∧ x ∉ out ++ [i] ∧ lackQ G out i q x = 0

theorem LackRel.start {w wr : World} {bp gl ga h n : Nat} {G : List (Int × Int × Int)} {out : List Nat} {i : Nat} {R : Nat → Value} {X M : Nat → Prop} {v : Value}
    (H : OS w bp gl ga h n n (placeF G n) (fun k => (cntO G out k : Int)) R (fun k => aboveL G k n) X M v (out ++ [i]) wr) (hM : ∀ x, M x ↔ x < n ∧ x ∉ out ∧ cntO G out x = 0 ∧ x ≠ i) : LackRel w bp gl ga h n G out i 0 R v wr :=
  ⟨X, M, H.same (fun k _ => (lackQ_zero G out i k).symm) (fun _ _ => rfl) (fun _ => Iff.rfl), fun x => by
    rw [hM x, lackQ_zero]
    simp only [List.mem_append, List.mem_singleton]
    constructor
    · rintro ⟨a, b, c, d⟩; exact ⟨a, fun h => by rcases h with h | h; exact b h; exact d h, by omega⟩
    · rintro ⟨a, b, c⟩; exact ⟨a, fun h => b (.inl h), by omega, fun h => b (.inr h)⟩⟩

theorem LackRel.end_ {w wr : World} {bp gl ga h n : Nat} {G : List (Int × Int × Int)} (hn : G.length = n) (hG : GoodG G) {out : List Nat} {i : Nat} (hi : nextO G out = some i) {R : Nat → Value} {v : Value}
    (H : LackRel w bp gl ga h n G out i (aboveL G i n).length R v wr) : ∃ (X M : Nat → Prop), OS w bp gl ga h n n (placeF G n) (fun k => (cntO G (out ++ [i]) k : Int)) R (fun k => aboveL G k n) X M v (out ++ [i]) wr ∧ ∀ x, M x ↔ x < n ∧ x ∉ out ++ [i] ∧ cntO G (out ++ [i]) x = 0 := by
  obtain ⟨X, M, H, hM⟩ := H
  subst hn
  refine ⟨X, M, H.same (fun k hk => lackQ_end hG hi hk) (fun _ _ => rfl) (fun _ => Iff.rfl), fun x => ?_⟩
  rw [hM x]
  constructor
  · rintro ⟨a, b, c⟩; rw [lackQ_end hG hi a] at c; exact ⟨a, b, by omega⟩
  · rintro ⟨a, b, c⟩; exact ⟨a, b, by rw [lackQ_end hG hi a]; omega⟩

end Go.Proofs.Ytnoknecfdnjomaa

/-
  circ.Order: the gates' places, in the document's order.
-/
namespace Go.Proofs.Ytnoknecfdnjomaa
open Go.RowKit

/-- literals of gates that are no greater than may be -/
def GBnd (G : List (Int × Int × Int)) : Prop := ∀ i, i < G.length → 0 ≤ (g3 G i).1 ∧ (g3 G i).1 ≤ 100000000 ∧ 0 ≤ (g3 G i).2.1 ∧ (g3 G i).2.1 ≤ 100000000 ∧ 0 ≤ (g3 G i).2.2 ∧ (g3 G i).2.2 ≤ 100000000

/-- what making two lists leaves -/
def Made2 (n : Nat) (wp : World) (s6 s7 : Value) (wx : World) : Prop :=
  ∃ gl ga, s6 = .slice (some ⟨gl, 0, none⟩) n n ∧ s7 = .slice (some ⟨ga, 0, none⟩) n n ∧ Blk wx gl (zts (fun _ => 0) n).toArray 3 ∧ Blk wx ga (rowF (fun _ => .slice none 0 0) n).toArray 22 ∧ gl ≠ ga ∧ wp.heap.size ≤ gl ∧ wp.heap.size ≤ ga ∧ Kp (fun _ => False) wp wx

theorem made2_a (n : Nat) (wp : World) : Made2 n wp (.slice (some ⟨wp.heap.size, 0, none⟩) n n) (.slice (some ⟨wp.heap.size + 1, 0, none⟩) n n) ((wp.alloc (.cells (madeCells #[.int .i64 0] n) 3)).alloc (.cells (madeCells #[.slice none 0 0] n) 22)).drew := by
  refine ⟨_, _, rfl, rfl, ?_, ?_, by omega, Nat.le_refl _, by omega, (((Kp.refl _ wp).alloc _).alloc _).drew⟩
  · show Blk _ _ (rowF (fun _ => .int .i64 0) n).toArray _
    rw [← made_row]
    exact ((Blk.new wp (madeCells #[.int .i64 0] n) 3).alloc (.cells (madeCells #[.slice none 0 0] n) 22)).drew
  · rw [← made_row (.slice none 0 0)]
    exact (two_blk wp (madeCells #[.int .i64 0] n) (madeCells #[.slice none 0 0] n) 3 22).drew
theorem made2_b (n : Nat) (wp : World) : Made2 n wp (.slice (some ⟨wp.heap.size + 1, 0, none⟩) n n) (.slice (some ⟨wp.heap.size, 0, none⟩) n n) ((wp.alloc (.cells (madeCells #[.slice none 0 0] n) 22)).alloc (.cells (madeCells #[.int .i64 0] n) 3)).drew := by
  refine ⟨_, _, rfl, rfl, ?_, ?_, by omega, by omega, Nat.le_refl _, (((Kp.refl _ wp).alloc _).alloc _).drew⟩
  · show Blk _ _ (rowF (fun _ => .int .i64 0) n).toArray _
    rw [← made_row]
    exact (two_blk wp (madeCells #[.slice none 0 0] n) (madeCells #[.int .i64 0] n) 22 3).drew
  · rw [← made_row (.slice none 0 0)]
    exact ((Blk.new wp (madeCells #[.slice none 0 0] n) 22).alloc (.cells (madeCells #[.int .i64 0] n) 3)).drew

set_option maxRecDepth 100000 in
set_option maxHeartbeats 8000000 in
theorem circ_Order (V : CV) (C : Circ) (w : World) (h : CAt w V C) (hf : C.gates.length ≤ 1000000) (hG : GoodG C.gates) (hb : GBnd C.gates) :
    Calls Try.prog 59 #[.agg (cvals V C)] w fun e w' => ∃ v, e = .returned v ∧ Own w' w.heap.size 3 v (nv (ordO C.gates)) ∧ Kp (fun _ => False) w w' := by
  obtain ⟨n, hn⟩ : ∃ n, C.gates.length = n := ⟨_, rfl⟩
  have hn1 : n ≤ 1000000 := by omega
  obtain ⟨i0, hi, hz0, hz1, hz2⟩ := info_parts (show (Try.prog.info? 3).map (fun i => (i.zero, i.size, i.bytes)) = some (some (.int .i64 0), 1, 8) by kernel_rfl)
  have hmk : ∀ u : World, (Instr.makeSlice 22 (.int .i64 (n : Int)) (.int .i64 (n : Int))).run Try.prog u =
      .ok (.slice (some ⟨u.heap.size, 0, none⟩) n n) (u.alloc (.cells (madeCells #[.int .i64 0] n) 3)) := fun u => by
    have h := run_make (P := Try.prog) u 22 3 i0 (.int .i64 0) Try.underlying22 hi hz0 .i64 .i64 (n : Int) (n : Int) (by omega) (Int.le_refl _) (by rw [hz2]; omega) (by omega)
    simpa [hz1, Value.cells] using h
  clear hi hz0 hz1 hz2 i0
  obtain ⟨i0, hi, hz0, hz1, hz2⟩ := info_parts (show (Try.prog.info? 22).map (fun i => (i.zero, i.size, i.bytes)) = some (some (.slice none 0 0), 1, 24) by kernel_rfl)
  have hms : ∀ u : World, (Instr.makeSlice 86 (.int .i64 (n : Int)) (.int .i64 (n : Int))).run Try.prog u =
      .ok (.slice (some ⟨u.heap.size, 0, none⟩) n n) (u.alloc (.cells (madeCells #[.slice none 0 0] n) 22)) := fun u => by
    have h := run_make (P := Try.prog) u 86 22 i0 (.slice none 0 0) Try.underlying86 hi hz0 .i64 .i64 (n : Int) (n : Int) (by omega) (Int.le_refl _) (by rw [hz2]; omega) (by omega)
    simpa [hz1, Value.cells] using h
  clear hi hz0 hz1 hz2 i0
  have hmm := @run_makeMap Try.prog
  have HMk := Lib.hid (And.intro hmk hms)
  clear hmk hms
  have HI := Lib.hid (show (Try.prog.info? 3).map (fun i => (i.zero, i.size, i.bytes)) = some (some (.int .i64 0), 1, 8) by kernel_rfl)
  obtain ⟨bp, hbp⟩ : ∃ bp, bp = w.heap.size + 1 := ⟨_, rfl⟩
  obtain ⟨wz, hwz⟩ : ∃ wz : World, wz = (w.alloc (.cells (cvals V C) 63)).alloc (.map #[] 0) := ⟨_, rfl⟩
  have HK0 : Hid (Kp (fun _ => False) w wz) := Lib.hid (by rw [hwz]; exact ((Kp.refl _ w).alloc _).alloc _)
  have HC0 : Hid (Blk wz w.heap.size (cvals V C) 63) := Lib.hid (by rw [hwz]; exact (Blk.new w _ _).alloc _)
  have HM0 : Hid (IMI wz bp 0 (placeF C.gates 0)) := Lib.hid (by rw [hwz, hbp]; have := IMI.made (w.alloc (.cells (cvals V C) 63)); rw [World.size_alloc] at this; exact this)
  have HBP := Lib.hid hbp
  have HZ := Lib.hid hwz
  have HA := Lib.hid h
  have HN := Lib.hid hn
  have HG := Lib.hid hG
  have HB := Lib.hid hb
  have HU : Hid (cvals V C = #[.int .i64 C.max, .slice V.ai C.ins.length V.ci, .slice V.al C.lats.length V.cl, .slice V.ao C.outs.length V.co, .slice V.ab C.bads.length V.cb, .slice V.ac C.cons.length V.cc, .slice V.ag n V.cg, .slice V.ay V.ny V.cy, .string V.cm]) := Lib.hid (by unfold cvals; rw [hn])
  clear hbp hwz h hf hn hG hb
  go_enter Try.func59, Try.ntmps59
  go_upto_region 2 with fail
  rw [← HZ.out]
  clear hmm HZ
  rw [show w.heap.size + 1 = bp from HBP.out.symm]
  have c6 := HC0.out.cell (i := 6) (v := .slice V.ag n V.cg) (by rw [HU.out]; rfl)
  go_wp2_with fail
  go_loopw [24] (fun v24 wr => ∃ k : Nat, v24 = .int .i64 k ∧ k ≤ n ∧ IMI wr bp k (placeF C.gates k) ∧ Blk wr w.heap.size (cvals V C) 63 ∧ Kp (fun _ => False) w wr) (fun v24 _ => n - (intOf v24).toNat)
  case atStart => exact ⟨0, rfl, by omega, HM0.out, HC0.out, HK0.out⟩
  case round =>
    obtain ⟨k, rfl, hk, hM, hC, hK⟩ := hrel
    clear c6 HM0 HC0 HK0
    obtain ⟨wp, rfl⟩ : ∃ wp : World, wp = wr := ⟨_, rfl⟩
    by_cases hlt : k < n
    · have hkl : k < C.gates.length := by rw [HN.out]; exact hlt
      obtain ⟨b, off, ea, e0, e1, e2⟩ := tri_cells (HA.out.kp hK).g hkl
      have hbd := HB.out k hkl
      obtain ⟨x0, hx0⟩ : ∃ x, (g3 C.gates k).1 = x := ⟨_, rfl⟩
      obtain ⟨x1, hx1⟩ : ∃ x, (g3 C.gates k).2.1 = x := ⟨_, rfl⟩
      obtain ⟨x2, hx2⟩ : ∃ x, (g3 C.gates k).2.2 = x := ⟨_, rfl⟩
      rw [hx0] at e0
      rw [hx1] at e1
      rw [hx2] at e2
      have b0 : 0 ≤ x0 := by rw [← hx0]; exact hbd.1
      have b1 : x0 ≤ 100000000 := by rw [← hx0]; exact hbd.2.1
      have i0 : (0 : Int) ≤ (k : Int) := by omega
      have i2 : (k : Int) < (n : Int) := by omega
      obtain ⟨w3, hput, hM3, hK3⟩ := (hM.kp ((Kp.refl (fun _ => False) wp).alloc (.cells #[.int .i64 x0, .int .i64 x1, .int .i64 x2] 106)) (fun h => h)).put (by unfold maxLen; omega) (x := x0 / 2) ⟨by omega, by omega⟩ (v := (k : Int)) ⟨by omega, by omega⟩
      have hfun : (fun y => if y = x0 / 2 then some (k : Int) else placeF C.gates k y) = placeF C.gates (k + 1) := by funext y; show _ = (if y = (g3 C.gates k).1 / 2 then some (k : Int) else placeF C.gates k y); rw [hx0]
      rw [hfun] at hM3
      have hbw : w.heap.size < bp := by have := HBP.out; omega
      have HR := Lib.hid (show ∃ k' : Nat, Value.int .i64 ((k : Int) + 1) = .int .i64 k' ∧ k' ≤ n ∧ IMI w3 bp k' (placeF C.gates k') ∧ Blk w3 w.heap.size (cvals V C) 63 ∧ Kp (fun _ => False) w w3 from
        ⟨k + 1, by go_num, by omega, hM3, (hC.alloc _).kp hK3 (by omega), (hK.alloc _).trans hK3 (fun j hj h => by omega)⟩)
      have HEA := Lib.hid ea
      clear hx0 hx1 hx2 ea hM3 hK3 hfun hM hC hK hbd hkl hbw
      rw [HEA.out]
      go_wp2_with fail
      go_roundw
      case rel => exact HR.out
      case measure => simp [intOf]; omega
    · have hk' : k = n := by omega
      have HM := Lib.hid (show IMI wp bp n (placeF C.gates n) by rw [← hk']; exact hM)
      have HC := Lib.hid hC
      have HK := Lib.hid hK
      clear hk' hM hC hK
      go_upto_region 7 with fail
      have c6 := HC.out.cell (i := 6) (v := .slice V.ag n V.cg) (by rw [HU.out]; rfl)
      go_cut [6, 7] from 35 to 42 (fun s6 s7 wx => Made2 n wp s6 s7 wx)
      case first =>
        have hmk := HMk.out.1
        have hms := HMk.out.2
        go_region_held3 (fun u => u.cell? ⟨w.heap.size, 6, none⟩ = some (.slice V.ag n V.cg)) (first | exact HC.out.cell (by rw [HU.out]; rfl) | exact HC.out.drew.cell (by rw [HU.out]; rfl) | exact ((HC.out).alloc _).cell (by rw [HU.out]; rfl) | exact ((HC.out).alloc _).drew.cell (by rw [HU.out]; rfl) | exact (((HC.out).alloc _).alloc _).cell (by rw [HU.out]; rfl) | exact (((HC.out).alloc _).alloc _).drew.cell (by rw [HU.out]; rfl)) (fail)
        all_goals go_wp2_with fail
        all_goals go_meet
        all_goals first | exact made2_a n wp | exact made2_b n wp
      case rest =>
      obtain ⟨gl, ga, rfl, rfl, hL, hAb, hne, hgl, hga, hKc⟩ := hcut
      obtain ⟨wa, rfl⟩ : ∃ wa : World, wa = wc := ⟨_, rfl⟩
      have hbw := HBP.out
      have hbpl := HM.out.lt
      have HC1 := Lib.hid (HC.out.kp hKc (fun h => h))
      have HX := Lib.hid (fun w2 h X hH hK2 => OS.start (w := w) (wa := wa) (w2 := w2) (h := h) (X := X) (HM.out.kp hKc (fun h => h)) hL hAb (HK.out.trans hKc (fun _ _ h => h)) hH hK2 ⟨by omega, by have := HK.out.size; omega, by have := HK.out.size; omega⟩ ⟨by omega, by omega, hne⟩)
      clear hL hAb hne hgl hga hKc hbpl hbw c6 HM HC HK hlt hk
      have c6 := HC1.out.cell (i := 6) (v := .slice V.ag n V.cg) (by rw [HU.out]; rfl)
      go_wp2_with fail
      refine (HSet.new (n := n) (by omega) _).mono ?_
      rintro e w2 ⟨h, X, rfl, hH, hK2⟩
      have HC2 := Lib.hid (HC1.out.kp hK2 (fun h => h))
      have HOS := Lib.hid (show BuildRel w bp gl ga h n C.gates 0 w2 from by
        exact ⟨fun _ => .slice none 0 0, X, (HX.out w2 h X hH hK2).same (fun k _ => (lackP_nil C.gates k).symm) (fun k _ => rfl) (fun x => ⟨fun h => h.elim, fun h => by omega⟩)⟩)
      clear hH hK2 HX c6 HC1
      have c6 := HC2.out.cell (i := 6) (v := .slice V.ag n V.cg) (by rw [HU.out]; rfl)
      go_wp2_with fail
      go_loopw [50] (fun v50 wr => ∃ i : Nat, v50 = .int .i64 i ∧ i ≤ n ∧ BuildRel w bp gl ga h n C.gates i wr) (fun v50 _ => n - (intOf v50).toNat)
      case atStart => exact ⟨0, rfl, by omega, HOS.out⟩
      case round =>
        obtain ⟨i, rfl, hi, hB⟩ := hrel
        clear c6 HOS HC2
        obtain ⟨wq, rfl⟩ : ∃ wq : World, wq = wr := ⟨_, rfl⟩
        by_cases hlt : i < n
        · obtain ⟨R, X, H⟩ := hB
          have hkl : i < C.gates.length := by rw [HN.out]; exact hlt
          obtain ⟨b, off, ea, e0, e1, e2⟩ := tri_cells (HA.out.kp H.kp).g hkl
          have hbd := HB.out i hkl
          obtain ⟨x0, hx0⟩ : ∃ x, (g3 C.gates i).1 = x := ⟨_, rfl⟩
          obtain ⟨x1, hx1⟩ : ∃ x, (g3 C.gates i).2.1 = x := ⟨_, rfl⟩
          obtain ⟨x2, hx2⟩ : ∃ x, (g3 C.gates i).2.2 = x := ⟨_, rfl⟩
          have HPin := Lib.hid (show (∀ q, q < 2 → 0 ≤ gpin C.gates i q ∧ gpin C.gates i q ≤ 100000000) ∧ gpin C.gates i 0 = x1 ∧ gpin C.gates i 1 = x2 from by
            have g0 : gpin C.gates i 0 = x1 := hx1
            have g1 : gpin C.gates i 1 = x2 := hx2
            refine ⟨fun q hq => ?_, g0, g1⟩
            match q, hq with
            | 0, _ => rw [g0, ← hx1]; exact ⟨hbd.2.2.1, hbd.2.2.2.1⟩
            | 1, _ => rw [g1, ← hx2]; exact ⟨hbd.2.2.2.2.1, hbd.2.2.2.2.2⟩)
          rw [hx0] at e0
          rw [hx1] at e1
          rw [hx2] at e2
          have i0 : (0 : Int) ≤ (i : Int) := by omega
          have i2 : (i : Int) < (n : Int) := by omega
          have HEA := Lib.hid ea
          have HKL := Lib.hid hkl
          have HP := Lib.hid (show PinRel w bp gl ga h n C.gates i 0 (wq.heap.size + 1) x1 x2 ((wq.alloc (.cells #[.int .i64 x0, .int .i64 x1, .int .i64 x2] 106)).alloc (.cells #[.int .i64 x1, .int .i64 x2] 3)) from by
            have hgl := H.la.lt
            have hga := H.ab.lt
            exact ⟨R, X, (H.fresh (((Kp.refl _ wq).alloc _).alloc _)).same (fun k _ => rfl) (fun k _ => (abvP_zero C.gates i k).symm) (fun x => Iff.rfl), two_blk wq _ _ _ _, by omega, by omega, fun k hk e => by have := ((H.ow k hk).lt _ e).2; omega⟩)
          clear hx0 hx1 hx2 ea hbd H hkl
          rw [HEA.out]
          go_wp2_with fail
          obtain ⟨bq, hbq⟩ : ∃ bq, bq = wq.heap.size + 1 := ⟨_, rfl⟩
          rw [← hbq] at HP ⊢
          clear hbq
          go_loopw [61] (fun v61 wr => ∃ q : Nat, v61 = .int .i64 q ∧ q ≤ 2 ∧ PinRel w bp gl ga h n C.gates i q bq x1 x2 wr) (fun v61 _ => 2 - (intOf v61).toNat)
          case atStart => exact ⟨0, rfl, by omega, HP.out⟩
          case round =>
            obtain ⟨q, rfl, hq, hP⟩ := hrel
            clear e0 e1 e2 HP
            obtain ⟨wp2, rfl⟩ : ∃ wp2 : World, wp2 = wr := ⟨_, rfl⟩
            obtain ⟨R, X, H, hbq, hq1, hq2, hq3⟩ := hP
            by_cases hq2' : q < 2
            · have hbd := HPin.out.1 q hq2'
              have hcell : wp2.cell? ⟨bq, q, none⟩ = some (.int .i64 (gpin C.gates i q)) := by
                match q, hq2' with
                | 0, _ => rw [HPin.out.2.1]; exact hbq.cell rfl
                | 1, _ => rw [HPin.out.2.2]; exact hbq.cell rfl
              have q0 : (0 : Int) ≤ (q : Int) := by omega
              have q1 : (q : Int) < 2 := by omega
              have hlook := H.pl.look (x := gpin C.gates i q / 2) ⟨by omega, by omega⟩
              have HHit := Lib.hid (fun k (hk : k < C.gates.length) hp => pin_hit (i := i) (q := q) (k := k) HG.out hq2' hk hp)
              have HMiss := Lib.hid (pin_miss (G := C.gates) (i := i) (q := q) hq2')
              have hW := waits_nil (G := C.gates) (l := gpin C.gates i q)
              rw [HN.out] at hW
              obtain ⟨l, hl⟩ : ∃ l, gpin C.gates i q = l := ⟨_, rfl⟩
              rw [hl] at hcell hlook hbd hW HMiss
              have HL := Lib.hid hl
              have l0 := hbd.1
              have l1 := hbd.2
              clear hl hbd
              cases hF : placeF C.gates n (l / 2) with
              | none =>
                rw [hF] at hlook hW
                have hlook' : (Instr.lookup 40 (.map (some bp)) (.int .i64 (l / 2)) true).run Try.prog wp2 = .ok (.tuple #[.int .i64 0, .bool false]) wp2 := hlook
                have HR := Lib.hid (show PinRel w bp gl ga h n C.gates i (q + 1) bq x1 x2 wp2 from ⟨R, X, H.same (fun k _ => (HMiss.out hW).2 k) (fun k hk => (HMiss.out hW).1 k (by rw [HN.out]; exact hk)) (fun _ => Iff.rfl), hbq, hq1, hq2, hq3⟩)
                clear hF hlook hW H hbq hq1 hq2 hq3
                go_wp2_with fail
                go_roundw
                case rel => exact ⟨q + 1, by go_num, by omega, HR.out⟩
                case measure => simp [intOf]; omega
              | some v =>
                obtain ⟨k, rfl, hk, hkv⟩ := placeF_some hF
                rw [hF] at hlook
                have hlook' : (Instr.lookup 40 (.map (some bp)) (.int .i64 (l / 2)) true).run Try.prog wp2 = .ok (.tuple #[.int .i64 (k : Int), .bool true]) wp2 := hlook
                have hh := HHit.out k (by rw [HN.out]; exact hk) (by rw [HL.out]; exact hkv)
                obtain ⟨c, hc⟩ : ∃ c, lackP C.gates i q i = c := ⟨_, rfl⟩
                have c01 : 0 ≤ c ∧ c ≤ 2 := by
                  rw [← hc]; unfold lackP
                  rw [if_neg (by omega), if_pos rfl]
                  have : cntP C.gates i q ≤ 2 := by unfold cntP; exact Nat.le_trans (List.length_filter_le _ _) (by simp [pins]; omega)
                  omega
                have cL := H.cellL hlt
                have fL := H.freeL i
                rw [hc] at cL
                have H1 := H.setL i (c + 1)
                have cA : (wp2.setCell ⟨gl, i, none⟩ (.int .i64 (c + 1))).cell? ⟨ga, k, none⟩ = some (R k) := H1.cellA hk
                have k0 : (0 : Int) ≤ (k : Int) := by omega
                have k1 : (k : Int) < (n : Int) := by omega
                have c0 := c01.1
                have c1 := c01.2
                have hbq' : Blk (wp2.setCell ⟨gl, i, none⟩ (.int .i64 (c + 1))) bq #[.int .i64 x1, .int .i64 x2] 3 := hbq.set_other (p := ⟨gl, i, none⟩) hq1 _
                have HLen := Lib.hid (abvP_len C.gates i q k)
                have HC := Lib.hid hc
                have HH1 := Lib.hid H1
                have HBq := Lib.hid (And.intro hbq' (And.intro hq1 (And.intro hq2 hq3)))
                have HH := Lib.hid (And.intro hh hkv)
                clear hF hlook hW hc c01 H H1 hbq hbq' hq1 hq2 hq3 hh hkv
                go_upto_region 18 with fail
                obtain ⟨w1, hw1⟩ : ∃ w1, w1 = wp2.setCell ⟨gl, i, none⟩ (.int .i64 (c + 1)) := ⟨_, rfl⟩
                rw [← hw1] at HH1 HBq cA ⊢
                clear hw1 cL fL hlook'
                have HOw := Lib.hid ((HH1.out.fresh ((Kp.refl _ _).alloc (.cells #[.int .i64 (i : Int)] 3))).ow k hk)
                have HSz := Lib.hid (show w.heap.size ≤ w1.heap.size from HH1.out.kp.size)
                go_wp2_with (at_builtin; refine wpList_append1_at rfl _ _ 22 3 rfl Try.underlying22 HI.out rfl HOw.out rfl ⟨w1.heap.size, 0, none⟩ (.int .i64 (i : Int)) rfl ?c1 rfl ?c2 ?c3 ?c4 ?_)
                case c1 => exact World.cell?_alloc_at _ _ _ _ rfl
                case c2 => rw [nv_length]; have := HLen.out; omega
                case c3 => rw [nv_length]; have := HLen.out; unfold maxLen; omega
                case c4 => have := HSz.out; simp; omega
                intro v' w3 hO2 hg2 hat2
                have hcA := HH1.out.abG hk ((Kp.refl _ w1).alloc _) hg2
                have cA : w3.cell? ⟨ga, k, none⟩ = some (R k) := hcA.cell (by have := rowF_at (f := R) hk; simpa using this)
                have fA : w3.frozen? ⟨ga, k, none⟩ = false := hcA.free k
                have hR := PinRel.hit HH1.out HN.out HC.out hk HH.out.1 HBq.out.1 HBq.out.2.1 HBq.out.2.2.1 HBq.out.2.2.2 ((Kp.refl _ w1).alloc _) hO2 hg2 (by simpa using hat2)
                obtain ⟨av, cv, hav, _⟩ := hO2.form
                obtain ⟨lv, hlv⟩ : ∃ lv, lv = (nv (abvP C.gates i q k) ++ [Value.int .i64 (i : Int)]).length := ⟨_, rfl⟩
                rw [← hlv] at hav
                subst hav
                have HR := Lib.hid hR
                clear hcA hR hO2 hg2 hat2 hlv HOw
                obtain ⟨rk, hrk⟩ : ∃ rk, R k = rk := ⟨_, rfl⟩
                rw [hrk] at cA
                clear hrk
                go_wp2_with fail
                go_roundw
                case rel => exact ⟨q + 1, by go_num, by omega, HR.out⟩
                case measure => simp [intOf]; omega
            · obtain rfl : q = 2 := by omega
              have cL := H.cellL hlt
              rw [lackP_self] at cL
              have HH := Lib.hid H
              clear H hbq hq1 hq2 hq3
              obtain ⟨c, hc⟩ : ∃ c, cntO C.gates [] i = c := ⟨_, rfl⟩
              rw [hc] at cL
              have HC := Lib.hid hc
              clear hc
              by_cases hz : c = 0
              · have hz1 : ((c : Int) == 0) = true := by simp [hz]
                have HP := Lib.hid (HH.out.push (by omega) hlt (by rintro ⟨a, _⟩; omega))
                have HZ := Lib.hid (show cntO C.gates [] i = 0 by rw [HC.out]; exact hz)
                clear hz HC HH
                go_wp2_with fail
                refine HP.out.mono ?_
                rintro e w4 ⟨rfl, X', H4⟩
                have HR := Lib.hid (BuildRel.push HZ.out H4)
                clear H4 HP
                go_wp2_with fail
                go_roundw
                case rel => exact ⟨i + 1, by go_num, by omega, HR.out⟩
                case measure => simp [intOf]; omega
              · have hz1 : ((c : Int) == 0) = false := by simp; omega
                have HR := Lib.hid (BuildRel.skip (by rw [HC.out]; exact hz) HH.out)
                clear hz HC HH
                go_wp2_with fail
                go_roundw
                case rel => exact ⟨i + 1, by go_num, by omega, HR.out⟩
                case measure => simp [intOf]; omega
        · obtain rfl : i = n := by omega
          obtain ⟨R, X, H⟩ := hB
          have H0 : OS w bp gl ga h i i (placeF C.gates i) (fun k => (cntO C.gates [] k : Int)) R (fun k => aboveL C.gates k i) X (fun x => x < i ∧ x ∉ ([] : List Nat) ∧ cntO C.gates [] x = 0) (.slice none 0 0) [] wq :=
            H.same (fun k hk => by unfold lackP; rw [if_pos hk]) (fun _ _ => rfl) (fun x => by simp)
          have HP := Lib.hid (pop_next HN.out (by omega) (MidO.start C.gates) H0 (fun x => Iff.rfl))
          clear H H0
          go_wp2_with fail
          refine HP.out.mono ?_
          rintro e w4 ⟨v16, v17, rfl, hR⟩
          have HR := Lib.hid hR
          clear hR HP
          go_wp2_with fail
          go_loopw [15, 16, 17] (fun v15 v16 v17 wr => OrdRel w bp gl ga h i C.gates v15 v16 v17 wr) (fun v15 _ _ _ => i - lenV v15)
          case atStart => exact HR.out
          case round =>
            clear HR
            obtain ⟨w5, rfl⟩ : ∃ w5 : World, w5 = wr := ⟨_, rfl⟩
            obtain ⟨out, R, X, M, hMid, H, hcase⟩ := hrel
            rcases hcase with ⟨g, rfl, rfl, hnext, hM⟩ | ⟨rfl, rfl, hnone⟩
            · have hg : g < i := by have := (nextO_some hnext).1; rw [HN.out] at this; exact this
              have hol : out.length < i := by have := hMid.at_.lenlt hnext; rw [HN.out] at this; exact this
              have HOw := Lib.hid ((H.fresh ((Kp.refl _ _).alloc (.cells #[.int .i64 (g : Int)] 3))).oo)
              have HSz := Lib.hid (show w.heap.size ≤ w5.heap.size from H.kp.size)
              have hlv : lenV u15 = out.length := by
                obtain ⟨a, c, e, -⟩ := H.oo.form
                rw [e]; exact nv_length out
              have HLV := Lib.hid hlv
              have HOut := Lib.hid (fun v' w2 hO2 hgr hat => H.outS (i := g) (v' := v') (w2 := w2) ((Kp.refl _ w5).alloc (.cells #[.int .i64 (g : Int)] 3)) hO2 hgr hat)
              have HMM := Lib.hid (And.intro hMid (And.intro hnext hM))
              have g0 : (0 : Int) ≤ (g : Int) := by omega
              have g1 : (g : Int) < (i : Int) := by omega
              clear hlv hMid H hnext hM
              go_wp2_with (at_builtin; refine wpList_append1_at rfl _ _ 22 3 rfl Try.underlying22 HI.out rfl HOw.out rfl ⟨w5.heap.size, 0, none⟩ (.int .i64 (g : Int)) rfl ?d1 rfl ?d2 ?d3 ?d4 ?_)
              case d1 => exact World.cell?_alloc_at _ _ _ _ rfl
              case d2 => rw [nv_length]; omega
              case d3 => rw [nv_length]; unfold maxLen; omega
              case d4 => have := HSz.out; simp; omega
              intro v' w6 hO2 hgr hat
              have H6 := HOut.out v' w6 hO2 hgr (by simpa using hat)
              have hlv' : lenV v' = out.length + 1 := by
                obtain ⟨a, c, e, -⟩ := hO2.form
                rw [e]; show (nv out ++ [Value.int .i64 (g : Int)]).length = _
                rw [List.length_append, nv_length]; rfl
              have HLV' := Lib.hid hlv'
              have cA := H6.cellA hg
              obtain ⟨ai, ci, eR, hci, hcm, -, -⟩ := (H6.ow g hg).form
              rw [nv_length] at eR hci
              obtain ⟨m, hm⟩ : ∃ m, (aboveL C.gates g i).length = m := ⟨_, rfl⟩
              rw [hm] at eR hci
              rw [eR] at cA
              have hmle : m ≤ 2 * i := by rw [← hm]; exact aboveL_len C.gates g i
              have HER := Lib.hid eR
              have HM := Lib.hid hm
              have HS6 := Lib.hid (LackRel.start H6 HMM.out.2.2)
              clear hO2 hgr hat H6 hlv' eR hm hci hcm HOut HOw
              go_wp2_with fail
              go_loopw [119] (fun v119 wr => ∃ q : Nat, v119 = .int .i64 q ∧ q ≤ m ∧ LackRel w bp gl ga h i C.gates out g q R v' wr) (fun v119 _ => m - (intOf v119).toNat)
              case atStart => exact ⟨0, rfl, by omega, HS6.out⟩
              case round =>
                clear cA HS6
                obtain ⟨q, rfl, hq, hL⟩ := hrel
                obtain ⟨w7, rfl⟩ : ∃ w7 : World, w7 = wr := ⟨_, rfl⟩
                by_cases hqm : q < m
                · obtain ⟨X2, M2, H7, hM7⟩ := hL
                  have hqa : q < (aboveL C.gates g C.gates.length).length := by rw [HN.out, HM.out]; exact hqm
                  obtain ⟨l1, l2, l3, l4⟩ := lackQ_at HG.out HMM.out.1 HMM.out.2.1 hqa
                  have hstep := lackQ_step (out := out) hqa
                  obtain ⟨-, -, -, -, -, -, hrow⟩ := (H7.ow g hg).form
                  obtain ⟨a2, c2, e2, -, -, -, hrow⟩ := (H7.ow g hg).form
                  rw [HER.out] at e2
                  simp only [Value.slice.injEq] at e2
                  obtain ⟨rfl, -, -⟩ := e2
                  obtain ⟨b2, off2, ea2, hcell⟩ := hrow q _ (nv_at (by rw [HM.out]; exact hqm))
                  rw [HN.out] at l1 l2 l3 l4 hstep
                  obtain ⟨k, hk⟩ : ∃ k, gn (aboveL C.gates g i) q = k := ⟨_, rfl⟩
                  rw [hk] at hcell l1 l2 l3 l4 hstep
                  have cL := H7.cellL l1
                  have fL := H7.freeL k
                  have H8 := H7.setL k (lackQ C.gates out g q k - 1)
                  have cL2 := H8.cellL l1
                  rw [up1_at] at cL2
                  have hkM : ¬ M2 k := fun h => by have := ((hM7 k).1 h).2.2; omega
                  have hM8 : ∀ x, (lackQ C.gates out g q k - 1 = 0 → ((M2 x ∨ x = k) ↔ x < i ∧ x ∉ out ++ [g] ∧ lackQ C.gates out g (q + 1) x = 0)) ∧ (lackQ C.gates out g q k - 1 ≠ 0 → (M2 x ↔ x < i ∧ x ∉ out ++ [g] ∧ lackQ C.gates out g (q + 1) x = 0)) := by
                    intro x
                    rw [← hstep x]
                    by_cases ex : x = k
                    · subst ex
                      rw [up1_at]
                      exact ⟨fun h => ⟨fun _ => ⟨l1, l4, h⟩, fun _ => .inr rfl⟩, fun h => ⟨fun h2 => absurd h2 hkM, fun h2 => absurd h2.2.2 h⟩⟩
                    · rw [up1_off _ _ ex]
                      refine ⟨fun h => ?_, fun h => hM7 x⟩
                      rw [← hM7 x]
                      exact ⟨fun h => h.resolve_right ex, .inl⟩
                  obtain ⟨c, hc⟩ : ∃ c, lackQ C.gates out g q k = c := ⟨_, rfl⟩
                  rw [hc] at cL H8 cL2 hM8 l2 l3
                  have HSt := Lib.hid (And.intro hstep hc)
                  have H8h := Lib.hid H8
                  have HM8 := Lib.hid hM8
                  have HKM := Lib.hid (And.intro hkM l4)
                  have k0 : (0 : Int) ≤ (k : Int) := by omega
                  have k1 : (k : Int) < (i : Int) := by omega
                  have q0 : (0 : Int) ≤ (q : Int) := by omega
                  have q1 : (q : Int) < (m : Int) := by omega
                  have HEA2 := Lib.hid ea2
                  clear H7 hM7 hqa hstep hrow hk H8 hkM l4 hM8 hc ea2
                  subst HEA2
                  by_cases hz : c - 1 = 0
                  · have hz1 : ((c - 1 : Int) == 0) = true := by simp [hz]
                    have HP := Lib.hid (H8h.out.push (by omega) l1 HKM.out.1)
                    have HZ := Lib.hid hz
                    clear hz
                    go_wp2_with fail
                    refine HP.out.mono ?_
                    rintro e w9 ⟨rfl, X', H9⟩
                    have HR := Lib.hid (show LackRel w bp gl ga h i C.gates out g (q + 1) R v' w9 from ⟨X', _, H9.same (fun x _ => by rw [← HSt.out.1 x, HSt.out.2]) (fun _ _ => rfl) (fun _ => Iff.rfl), fun x => (HM8.out x).1 HZ.out⟩)
                    clear H9 HP
                    go_wp2_with fail
                    go_roundw
                    case rel => exact ⟨q + 1, by go_num, by omega, HR.out⟩
                    case measure => simp [intOf]; omega
                  · have hz1 : ((c - 1 : Int) == 0) = false := by simp; omega
                    have HR := Lib.hid (show LackRel w bp gl ga h i C.gates out g (q + 1) R v' (w7.setCell ⟨gl, k, none⟩ (.int .i64 (c - 1))) from ⟨X2, _, H8h.out.same (fun x _ => by rw [← HSt.out.1 x, HSt.out.2]) (fun _ _ => rfl) (fun _ => Iff.rfl), fun x => (HM8.out x).2 hz⟩)
                    clear hz
                    go_wp2_with fail
                    go_roundw
                    case rel => exact ⟨q + 1, by go_num, by omega, HR.out⟩
                    case measure => simp [intOf]; omega
                · obtain rfl : q = m := by omega
                  have hm := HM.out
                  rw [← hm] at hL
                  obtain ⟨X2, M2, H8, hM8⟩ := hL.end_ HN.out HG.out HMM.out.2.1
                  have HP := Lib.hid (pop_next HN.out (by omega) (HMM.out.1.step HG.out HMM.out.2.1) H8 hM8)
                  clear H8 hM8 hL hm
                  go_wp2_with fail
                  refine HP.out.mono ?_
                  rintro e w9 ⟨v16, v17, rfl, hR⟩
                  have HR := Lib.hid hR
                  clear hR HP
                  go_wp2_with fail
                  go_roundw
                  case rel => exact HR.out
                  case measure => have h1 := HLV.out; have h2 := HLV'.out; simp [h1, h2]; omega
            · have hend := hMid.at_.done hnone
              have HE := Lib.hid (show Own w5 w.heap.size 3 u15 (nv (ordO C.gates)) ∧ Kp (fun _ => False) w w5 from ⟨by rw [hend]; exact H.oo, H.kp⟩)
              clear hend hnone H hMid
              go_wp2_with fail
              go_ret
              exact ⟨_, rfl, HE.out.1, HE.out.2⟩

end Go.Proofs.Ytnoknecfdnjomaa

/-
  A region that draws its order, whose calls may make and turn memory of their own, and leave all old blocks alone:
  one walk, in the order of the text, in every world that keeps the old blocks.
-/
namespace Go.Proofs.Ytnoknecfdnjomaa
open Go

/-- the worlds that keep all blocks of w, as the values of a function -/
theorem still_class (w : World) : ∃ F : World → World, (∀ x, Kp (fun _ => False) w (F x)) ∧ (∀ w', Kp (fun _ => False) w w' → ∃ y, w' = F y) := by
  classical
  refine ⟨fun u => if Kp (fun _ => False) w u then u else w, fun x => ?_, fun w' h => ⟨w', by simp [h]⟩⟩
  by_cases h : Kp (fun _ => False) w x
  · simp [h]
  · simp [h, Kp.refl]

theorem Calls.still_of {P : Program} {f : FuncId} {args : Array Value} {w : World} {F : World → World} (h1 : ∀ x, Kp (fun _ => False) w (F x)) (h2 : ∀ w', Kp (fun _ => False) w w' → ∃ y, w' = F y) {x : World} {v : Value}
    (h : Calls P f args (F x) fun e w' => e = .returned v ∧ Kp (fun _ => False) (F x) w') : Calls P f args (F x) fun e w'' => e = .returned v ∧ ∃ y, w'' = F y :=
  h.mono fun _ _ ⟨he, hk⟩ => ⟨he, h2 _ ((h1 x).trans hk (fun _ _ h => h))⟩

theorem wp_region_kept {P : Program} {id : Nat} {Q : Exit → Act → World → Prop} {a : Act} {w : World} {l : List Oper} {F : World → World} (hm : P.follows .mixedOrders = true) (hB : Region.lexB .any l.toArray = true)
    (h2 : ∀ w', Kp (fun _ => False) w w' → ∃ y, w' = F y)
    (h : wpQuiet P l.toArray (fun w' => ∃ x, w' = F x) (fun a' => ∀ w', (∃ x, w' = F x) → Q .normal a' w') l a) : (Code.region id l.toArray true).wp P Q a w :=
  wp_region_quiet (C := fun w' => ∃ x, w' = F x) hm hB (h2 _ (Kp.refl _ w).drew) (by simpa using h)


end Go.Proofs.Ytnoknecfdnjomaa

/-
  latchetref11: waits, Order.
-/
namespace Go.Proofs.Ytnoknecfdnjomaa
open Go.RowKit

/-- which gates are told, as cells -/
def toldC (out : List Nat) (n : Nat) : List Value := rowF (fun i => .bool (decide (i ∈ out))) n
/-- what ref11.Order has made so far -/
structure RO (V : CV) (C : Circ) (w : World) (n gt : Nat) (out : List Nat) (v3 : Value) (wr : World) : Prop where
  mid : OrdAt C.gates out
  own : Own wr w.heap.size 3 v3 (nv out)
  told : Blk wr gt (toldC out n).toArray 4
  low : w.heap.size < gt
  far : ∀ j, v3.ownBlock = some j → w.heap.size < j ∧ j ≠ gt
  circ : Blk wr w.heap.size (cvals V C) 63
  kp : Kp (fun _ => False) w wr

theorem RO.fr {V : CV} {C : Circ} {w wr wr' : World} {n gt : Nat} {out : List Nat} {v3 : Value} (h : RO V C w n gt out v3 wr) (k : Kp (fun _ => False) wr wr') : RO V C w n gt out v3 wr' :=
  ⟨h.mid, h.own.kp k (fun _ _ h => h), h.told.kp k (fun h => h), h.low, h.far, h.circ.kp k (fun h => h), h.kp.trans k (fun _ _ h => h)⟩

theorem RO.more {V : CV} {C : Circ} {w wr wr' w2 : World} {n gt i : Nat} {out : List Nat} {v3 v' : Value} (h : RO V C w n gt out v3 wr) (hn : nextO C.gates out = some i) (hi : i < n) (hK : Kp (fun _ => False) wr wr')
    (hO : Own w2 w.heap.size 3 v' (nv out ++ [.int .i64 (i : Int)])) (hg : wr'.grownBy w2 v3.ownBlock) (hat : v'.ownBlock = v3.ownBlock ∨ v'.ownBlock = some wr'.heap.size) : RO V C w n gt (out ++ [i]) v' (w2.setCell ⟨gt, i, none⟩ (.bool true)) := by
  have h1 := h.fr hK
  have hKg : Kp (fun j => v3.ownBlock = some j) wr' w2 := (Kp.refl _ wr').grown hg (fun j hj _ => hj)
  have hKs := Kp.set w2 ⟨gt, i, none⟩ (.bool true)
  have hlt := h1.told.lt
  have hfar : ∀ j, v'.ownBlock = some j → w.heap.size < j ∧ j ≠ gt := fun j hj => by
    rcases hat with e | e
    · exact h.far j (e ▸ hj)
    · rw [e] at hj
      have : wr'.heap.size = j := by simpa using hj
      have := h.low
      omega
  refine ⟨h.mid.step hn, by rw [nv_snoc]; exact hO.kp hKs (fun j hj e => (hfar j hj).2 e), ?_, h.low, hfar, (h1.circ.kp hKg (fun e => by have := (h.far _ e).1; omega)).kp hKs (fun e => by have := h.low; have e2 : w.heap.size = gt := e; omega), (h1.kp.grown hg (fun j hj hl => by have := (h.far j hj).1; omega)).setCell (p := ⟨gt, i, none⟩) (fun hl => by have := h.low; exact absurd hl (Nat.not_lt.2 (Nat.le_of_lt this))) _⟩
  have ht := (h1.told.kp hKg (fun e => (h.far _ e).2 rfl)).set_same i (.bool true)
  have e : (toldC out n).toArray.setIfInBounds i (.bool true) = (toldC (out ++ [i]) n).toArray := by
    have e1 : (toldC out n).toArray.setIfInBounds i (.bool true) = ((toldC out n).set i (.bool true)).toArray := by simp
    rw [e1]
    congr 1
    unfold toldC
    rw [rowF_set]
    apply rowF_congr
    intro j _
    by_cases ej : j = i
    · subst ej; rw [up1_at]; simp
    · rw [up1_off _ _ ej]; simp [ej]
  rw [e] at ht
  exact ht

end Go.Proofs.Ytnoknecfdnjomaa

/-
  A region that draws its order, whose operations up to a row of last ones load, compute, make memory of their own, or call what
  makes memory of its own: what each yields is told by a predicate that no new memory spoils. One proof an operation, no orders.
-/
namespace Go.Proofs.Ytnoknecfdnjomaa
open Go Go.RowKit

def unl (listed : Array Bool) (i : Nat) : Bool := !listed.getD i false
def cntU (n : Nat) (listed : Array Bool) : Nat := (List.range n).countP (unl listed)

theorem cntU_succ (n : Nat) (listed : Array Bool) : cntU (n + 1) listed = cntU n listed + (if unl listed n = true then 1 else 0) := by
  unfold cntU
  rw [List.range_succ, List.countP_append]
  simp [List.countP_cons]

theorem unl_set_ne {listed : Array Bool} {i j : Nat} (h : j ≠ i) : unl (listed.setIfInBounds i true) j = unl listed j := by
  unfold unl
  simp only [Array.getD_eq_getD_getElem?, Array.getElem?_setIfInBounds]
  rw [if_neg (fun e => h e.symm)]

theorem cntU_far {listed : Array Bool} {i : Nat} : ∀ n, n ≤ i → cntU n (listed.setIfInBounds i true) = cntU n listed
  | 0, _ => rfl
  | n + 1, h => by rw [cntU_succ, cntU_succ, cntU_far n (by omega), unl_set_ne (by omega)]

theorem cntU_set {listed : Array Bool} {i : Nat} (hi : i < listed.size) (hu : listed.getD i false = false) : ∀ n, i < n → cntU n (listed.setIfInBounds i true) + 1 = cntU n listed
  | 0, h => by omega
  | n + 1, h => by
    rw [cntU_succ, cntU_succ]
    by_cases e : i = n
    · subst e
      rw [cntU_far i (Nat.le_refl _)]
      have h1 : unl (listed.setIfInBounds i true) i = false := by
        unfold unl
        simp [Array.getD_eq_getD_getElem?, hi]
      have h2 : unl listed i = true := by unfold unl; rw [hu]; rfl
      rw [h1, h2]
      simp
    · have := cntU_set hi hu n (by omega)
      rw [unl_set_ne (fun h => e h.symm)]
      omega

theorem least_of {R : Nat → Prop} (h : ∃ n, R n) : ∃ n, R n ∧ ∀ m, m < n → ¬ R m := by
  obtain ⟨n, hn⟩ := h
  induction n using Nat.strongRecOn with
  | _ n ih =>
    by_cases h : ∃ m, m < n ∧ R m
    · obtain ⟨m, hm, hr⟩ := h
      exact ih m hm hr
    · exact ⟨n, hn, fun m hm hr => h ⟨m, hm, hr⟩⟩

/-- on what an operation waits -/
def edgesOf (ops : Array Oper) (i : Nat) : List Nat := match ops[i]? with
  | none => []
  | some o => (o.after.toList.filter (Region.binds .any)).map (·.on)
def cloStep (ops : Array Oper) (l : List Nat) : List Nat := (List.range ops.size).filter (fun j => l.contains j || l.any (fun i => (edgesOf ops i).contains j))
def clo (ops : Array Oper) : Nat → List Nat → List Nat
  | 0, l => l
  | n + 1, l => clo ops n (cloStep ops l)

theorem clo_listed {ops : Array Oper} {listed : Nat → Prop} (hc : ∀ j, listed j → ∀ k, k ∈ edgesOf ops j → listed k) : ∀ (n : Nat) (l : List Nat), (∀ j, j ∈ l → listed j) → ∀ j, j ∈ clo ops n l → listed j
  | 0, _, h, j, hj => h j hj
  | n + 1, l, h, j, hj => by
    refine clo_listed hc n _ (fun k hk => ?_) j hj
    unfold cloStep at hk
    have h2 := (List.mem_filter.1 hk).2
    simp only [Bool.or_eq_true, List.contains_eq_mem, decide_eq_true_eq, List.any_eq_true] at h2
    rcases h2 with h2 | ⟨i, hi, h3⟩
    · exact h k h2
    · exact hc i (h i hi) k h3

theorem mem_edgesOf {ops : Array Oper} {i : Nat} {o : Oper} (ho : ops[i]? = some o) {k : Nat} : k ∈ edgesOf ops i ↔ ∃ e ∈ o.after, Region.binds .any e = true ∧ e.on = k := by
  unfold edgesOf
  rw [ho]
  simp only [List.mem_map, List.mem_filter, Array.mem_toList_iff]
  exact ⟨fun ⟨e, ⟨h1, h2⟩, h3⟩ => ⟨e, h1, h2, h3⟩, fun ⟨e, h1, h2, h3⟩ => ⟨e, ⟨h1, h2⟩, h3⟩⟩

/-- how the operations hang together: those of p come first -/
structure LooseOK (ops : Array Oper) (p : Nat → Bool) (N : Nat) : Prop where
  ng : ∀ (i : Nat) (o : Oper), ops[i]? = some o → o.guard = none
  low : ∀ (i : Nat) (o : Oper), ops[i]? = some o → p i = true → ∀ e ∈ o.after, Region.binds .any e = true → e.on < i ∧ p e.on = true
  dst : ∀ (i : Nat) (o : Oper), ops[i]? = some o → p i = true → ∃ d, o.dst = some d ∧ d < N
  inj : ∀ (i j : Nat) (o o' : Oper), ops[i]? = some o → ops[j]? = some o' → p i = true → p j = true → o.dst = o'.dst → i = j
  bar : ∀ (i : Nat) (o : Oper), ops[i]? = some o → p i = false → ∀ j, j < ops.size → p j = true → j ∈ clo ops 6 (edgesOf ops i)

def looseB (ops : Array Oper) (p : Nat → Bool) (N : Nat) : Bool :=
  (List.range ops.size).all fun i => match ops[i]? with
    | none => true
    | some o => o.guard.isNone && (if p i then
        o.after.all (fun e => !Region.binds .any e || (decide (e.on < i) && p e.on)) &&
          (match o.dst with
            | none => false
            | some d => decide (d < N) && (List.range ops.size).all (fun j => !p j || decide (j = i) || (match ops[j]? with | none => true | some o' => decide (o'.dst ≠ some d))))
      else (List.range ops.size).all (fun j => !p j || (clo ops 6 (edgesOf ops i)).contains j))

theorem looseB_spec {ops : Array Oper} {p : Nat → Bool} {N : Nat} (h : looseB ops p N = true) : LooseOK ops p N := by
  unfold looseB at h
  rw [List.all_eq_true] at h
  have get : ∀ (i : Nat) (o : Oper), ops[i]? = some o → o.guard.isNone = true ∧ (if p i then
        o.after.all (fun e => !Region.binds .any e || (decide (e.on < i) && p e.on)) &&
          (match o.dst with
            | none => false
            | some d => decide (d < N) && (List.range ops.size).all (fun j => !p j || decide (j = i) || (match ops[j]? with | none => true | some o' => decide (o'.dst ≠ some d))))
      else (List.range ops.size).all (fun j => !p j || (clo ops 6 (edgesOf ops i)).contains j)) = true := fun i o ho => by
    have hi : i < ops.size := (Array.getElem?_eq_some_iff.1 ho).1
    have := h i (List.mem_range.2 hi)
    simp only [ho, Bool.and_eq_true] at this
    exact this
  refine ⟨fun i o ho => ?_, fun i o ho hp e he hb => ?_, fun i o ho hp => ?_, fun i j o o' ho ho' hp hp' hd => ?_, fun i o ho hp j hj hpj => ?_⟩
  · have := (get i o ho).1
    simpa using this
  · have := (get i o ho).2
    rw [if_pos hp, Bool.and_eq_true] at this
    have h1 := this.1
    rw [Array.all_eq_true_iff_forall_mem] at h1
    have h2 := h1 e he
    rw [hb] at h2
    simpa using h2
  · have := (get i o ho).2
    rw [if_pos hp, Bool.and_eq_true] at this
    have h1 := this.2
    cases hd : o.dst with
    | none => rw [hd] at h1; cases h1
    | some d =>
      rw [hd] at h1
      simp only [Bool.and_eq_true, decide_eq_true_eq] at h1
      exact ⟨d, rfl, h1.1⟩
  · have := (get i o ho).2
    rw [if_pos hp, Bool.and_eq_true] at this
    have h1 := this.2
    cases hdd : o.dst with
    | none => rw [hdd] at h1; cases h1
    | some d =>
      rw [hdd] at h1
      simp only [Bool.and_eq_true] at h1
      have h2 := h1.2
      rw [List.all_eq_true] at h2
      have h3 := h2 j (List.mem_range.2 (Array.getElem?_eq_some_iff.1 ho').1)
      rw [hp', ho'] at h3
      simp only [Bool.not_true, Bool.false_or, Bool.or_eq_true, decide_eq_true_eq] at h3
      rcases h3 with h3 | h3
      · exact h3.symm
      · exact absurd (hd.symm.trans hdd) h3
  · have := (get i o ho).2
    rw [if_neg (by simp [hp]), List.all_eq_true] at this
    have h1 := this j (List.mem_range.2 hj)
    rw [hpj, Bool.not_true, Bool.false_or] at h1
    simpa using h1

/-- behind those that are listed -/
structure LInv (ops : Array Oper) (V : Nat → World → Value → Prop) (w0 : World) (a0 : Act) (L : Nat → Prop) (a : Act) (u : World) : Prop where
  kp : Kp (fun _ => False) w0 u
  val : ∀ (i : Nat) (o : Oper) (d : Nat), ops[i]? = some o → L i → o.dst = some d → V i u (a.tmps.getD d undef)
  off : ∀ s, (∀ (i : Nat) (o : Oper), ops[i]? = some o → L i → o.dst ≠ some s) → a.tmps.getD s undef = a0.tmps.getD s undef
  size : a.tmps.size = a0.tmps.size
  defers : a.defers = a0.defers

theorem put_getD_same {a : Act} {d : Nat} {v : Value} (h : d < a.tmps.size) : (a.put (some d) v).tmps.getD d undef = v := by
  show (a.tmps.setIfInBounds d v).getD d undef = v
  simp [Array.getD_eq_getD_getElem?, h]
theorem put_getD_ne {a : Act} {x : Option Tmp} {d : Nat} {v : Value} (h : x ≠ some d) : (a.put x v).tmps.getD d undef = a.tmps.getD d undef := by
  cases x with
  | none => rfl
  | some e =>
    show (a.tmps.setIfInBounds e v).getD d undef = _
    simp only [Array.getD_eq_getD_getElem?, Array.getElem?_setIfInBounds]
    rw [if_neg (fun h' => h (by rw [h']))]
theorem put_size (a : Act) (x : Option Tmp) (v : Value) : (a.put x v).tmps.size = a.tmps.size := by
  cases x with
  | none => rfl
  | some e => show (a.tmps.setIfInBounds e v).size = _; simp
theorem put_defers (a : Act) (x : Option Tmp) (v : Value) : (a.put x v).defers = a.defers := by cases x <;> rfl

theorem getD_true_false {listed : Array Bool} {i : Nat} (h : i < listed.size) : listed.getD i true = listed.getD i false := by
  simp [Array.getD_eq_getD_getElem?, Array.getElem?_eq_getElem h]

theorem listed_ext {a b : Array Bool} (hs : a.size = b.size) (h : ∀ i, i < a.size → a.getD i false = b.getD i false) : a = b := by
  apply Array.ext hs
  intro i h1 h2
  have := h i h1
  simpa [Array.getD_eq_getD_getElem?, Array.getElem?_eq_getElem h1, Array.getElem?_eq_getElem h2] using this

theorem wpAny_loose {P : Program} {ops : Array Oper} {Q : Exit → Act → World → Prop} {p : Nat → Bool} {V : Nat → World → Value → Prop} {w0 : World} {a0 : Act} {LP : Array Bool} (L : LooseOK ops p a0.tmps.size)
    (stable : ∀ i u u' v, Kp (fun _ => False) u u' → V i u v → V i u' v)
    (hstep : ∀ (i : Nat) (o : Oper), ops[i]? = some o → p i = true → ∀ a u, Kp (fun _ => False) w0 u →
      (∀ s, (∀ (j : Nat) (oj : Oper), ops[j]? = some oj → p j = true → oj.dst ≠ some s) → a.tmps.getD s undef = a0.tmps.getD s undef) →
      (∀ e ∈ o.after, Region.binds .any e = true → ∀ (oj : Oper) (d : Nat), ops[e.on]? = some oj → oj.dst = some d → V e.on u (a.tmps.getD d undef)) →
      o.wp P a u (fun a' u' => ∃ v, a' = a.put o.dst v ∧ Kp (fun _ => False) u u' ∧ V i u' v) Q)
    (hLs : LP.size = ops.size) (hLP : ∀ i, i < ops.size → LP.getD i false = p i)
    (hend : ∀ a u, LInv ops V w0 a0 (fun i => p i = true) a u → wpAny P .any ops Q (cntU ops.size LP) LP a u) :
    ∀ (fuel : Nat) (listed : Array Bool) (a : Act) (u : World), listed.size = ops.size → fuel = cntU ops.size listed → (∀ i, i < ops.size → listed.getD i false = true → p i = true) → (∀ j, listed.getD j false = true → ∀ k, k ∈ edgesOf ops j → listed.getD k false = true) →
      LInv ops V w0 a0 (fun i => listed.getD i false = true) a u → wpAny P .any ops Q fuel listed a u := by
  intro fuel
  induction fuel with
  | zero =>
    intro listed a u hs hf hl hcl hI
    have hall : ∀ i, i < ops.size → listed.getD i false = true := fun i hi => by
      by_cases h : listed.getD i false = true
      · exact h
      · have := cntU_set (listed := listed) (by omega) (by simpa using h) ops.size hi
        omega
    have e : listed = LP := listed_ext (by omega) (fun i hi => by
      rw [hall i (by omega), hLP i (by omega)]
      exact (hl i (by omega) (hall i (by omega))).symm)
    subst e
    have := hend a u ⟨hI.kp, fun i o d ho _ hd => hI.val i o d ho (hall i (Array.getElem?_eq_some_iff.1 ho).1) hd, fun s hs' => hI.off s (fun i o ho hi => hs' i o ho (hl i (Array.getElem?_eq_some_iff.1 ho).1 hi)), hI.size, hI.defers⟩
    rwa [← hf] at this
  | succ fuel ih =>
    intro listed a u hs hf hl hcl hI
    by_cases hall : ∀ i, i < ops.size → p i = true → listed.getD i false = true
    · have e : listed = LP := listed_ext (by omega) (fun i hi => by
        rw [hLP i (by omega)]
        by_cases h : p i = true
        · rw [h, hall i (by omega) h]
        · by_cases h2 : listed.getD i false = true
          · exact absurd (hl i (by omega) h2) h
          · have h3 : p i = false := by simpa using h
            have h4 : listed.getD i false = false := by simpa using h2
            rw [h3, h4])
      subst e
      have := hend a u ⟨hI.kp, fun i o d ho hp hd => hI.val i o d ho (hall i (Array.getElem?_eq_some_iff.1 ho).1 hp) hd, fun s hs' => hI.off s (fun i o ho hi => hs' i o ho (hl i (Array.getElem?_eq_some_iff.1 ho).1 hi)), hI.size, hI.defers⟩
      rwa [← hf] at this
    · obtain ⟨i0, ⟨hi0, hp0, hu0⟩, hmin⟩ := least_of (R := fun i => i < ops.size ∧ p i = true ∧ listed.getD i false = false) (by
        refine Classical.byContradiction fun hno => hall fun i hi hp => ?_
        by_cases h : listed.getD i false = true
        · exact h
        · exact absurd ⟨i, hi, hp, by simpa using h⟩ hno)
      have hready : i0 ∈ Region.ready .any ops listed := by
        rw [mem_ready]
        refine ⟨by rw [getD_true_false (by omega)]; exact hu0, ops[i0], Array.getElem?_eq_getElem hi0, fun e he hb => ?_⟩
        obtain ⟨h1, h2⟩ := L.low i0 _ (Array.getElem?_eq_getElem hi0) hp0 e he hb
        by_cases h : listed.getD e.on false = true
        · exact h
        · exact absurd ⟨by omega, h2, by simpa using h⟩ (hmin e.on h1)
      refine ⟨fun h => (by rw [h] at hready; cases hready), fun i hi => ?_⟩
      obtain ⟨h1, o, ho, hedge⟩ := mem_ready.1 hi
      have hisz : i < ops.size := (Array.getElem?_eq_some_iff.1 ho).1
      rw [getD_true_false (by omega)] at h1
      have hpi : p i = true := by
        by_cases h : p i = true
        · exact h
        · have h3 := clo_listed (listed := fun j => listed.getD j false = true) hcl 6 (edgesOf ops i) (fun k hk => by
            obtain ⟨e, he, hb, hon⟩ := (mem_edgesOf ho).1 hk
            have := hedge e he hb
            rwa [hon] at this) i0 (L.bar i o ho (by simpa using h) i0 hi0 hp0)
          rw [hu0] at h3
          cases h3
      obtain ⟨d, hd, hdN⟩ := L.dst i o ho hpi
      have hw : Region.wanted o (yielded ops a.tmps) = true := by simp [Region.wanted, L.ng i o ho]
      unfold wpOp
      rw [ho]
      simp only
      rw [if_pos hw]
      refine .inl (Oper.wp_mono ?_ (hstep i o ho hpi a u hI.kp (fun s hs' => hI.off s (fun j oj hoj hj => hs' j oj hoj (hl j (Array.getElem?_eq_some_iff.1 hoj).1 hj))) (fun e he hb oj d' hoj hd' => hI.val e.on oj d' hoj (hedge e he hb) hd')))
      rintro a' u' ⟨v, rfl, hK, hV⟩
      have hset : ∀ j, (listed.setIfInBounds i true).getD j false = true ↔ j = i ∨ listed.getD j false = true := fun j => by
        simp only [Array.getD_eq_getD_getElem?, Array.getElem?_setIfInBounds]
        by_cases e : i = j
        · subst e; simp [show i < listed.size by omega]
        · rw [if_neg e]
          exact ⟨.inr, fun h => h.resolve_left (fun h => e h.symm)⟩
      refine ih _ _ _ (by simp [hs]) ?_ (fun j hj hlj => ?_) (fun j hj k hk => ?_) ⟨hI.kp.trans hK (fun _ _ h => h), fun j oj dj hoj hj hdj => ?_, fun s hs' => ?_, by rw [put_size]; exact hI.size, by rw [put_defers]; exact hI.defers⟩
      · have := cntU_set (listed := listed) (by omega) h1 ops.size hisz
        omega
      · rcases (hset j).1 hlj with e | e
        · rw [e]; exact hpi
        · exact hl j hj e
      · rcases (hset j).1 hj with e | e
        · subst e
          obtain ⟨e, he, hb, hon⟩ := (mem_edgesOf ho).1 hk
          refine (hset k).2 (.inr ?_)
          rw [← hon]
          exact hedge e he hb
        · exact (hset k).2 (.inr (hcl j e k hk))
      · rcases (hset j).1 hj with e | e
        · subst e
          have : oj = o := by rw [hoj] at ho; exact Option.some.inj ho
          subst this
          rw [hdj] at hd
          have : dj = d := Option.some.inj hd
          subst this
          rw [hdj, put_getD_same (by rw [hI.size]; exact hdN)]
          exact hV
        · by_cases eji : j = i
          · subst eji
            rw [h1] at e; cases e
          · rw [put_getD_ne (fun h => eji (L.inj j i oj o hoj ho (hl j (Array.getElem?_eq_some_iff.1 hoj).1 e) hpi (by rw [hdj, h])))]
            exact stable j u u' _ hK (hI.val j oj dj hoj e hdj)
      · rw [put_getD_ne (hs' i o ho ((hset i).2 (.inl rfl)))]
        exact hI.off s (fun j oj hoj hj => hs' j oj hoj ((hset j).2 (.inr hj)))

/-- the region, whose last ones (not of p) stay to be walked -/
theorem wp_region_loose {P : Program} {id : Nat} {ops : Array Oper} {Q : Exit → Act → World → Prop} {p : Nat → Bool} {V : Nat → World → Value → Prop} {w : World} {a0 : Act} {LP : Array Bool} {K : Nat} (hm : P.follows .mixedOrders = true) (hB : looseB ops p a0.tmps.size = true)
    (stable : ∀ i u u' v, Kp (fun _ => False) u u' → V i u v → V i u' v)
    (hstep : ∀ (i : Nat) (o : Oper), ops[i]? = some o → p i = true → ∀ a u, Kp (fun _ => False) w u →
      (∀ s, (∀ (j : Nat) (oj : Oper), ops[j]? = some oj → p j = true → oj.dst ≠ some s) → a.tmps.getD s undef = a0.tmps.getD s undef) →
      (∀ e ∈ o.after, Region.binds .any e = true → ∀ (oj : Oper) (d : Nat), ops[e.on]? = some oj → oj.dst = some d → V e.on u (a.tmps.getD d undef)) →
      o.wp P a u (fun a' u' => ∃ v, a' = a.put o.dst v ∧ Kp (fun _ => False) u u' ∧ V i u' v) Q)
    (hLs : LP.size = ops.size) (hLP : ∀ i, i < ops.size → LP.getD i false = p i) (hK : cntU ops.size LP = K)
    (hend : ∀ a u, LInv ops V w a0 (fun i => p i = true) a u → wpAny P .any ops Q K LP a u) : (Code.region id ops true).wp P Q a0 w := by
  refine wp_region_any hm ?_
  refine wpAny_loose (looseB_spec hB) stable hstep hLs hLP (fun a u h => by rw [hK]; exact hend a u h) ops.size _ a0 _ (by simp) ?_ (fun i hi h => ?_) (fun i h => ?_) ⟨(Kp.refl (fun _ => False) w).drew, fun i o d ho h => ?_, fun _ _ => rfl, rfl, rfl⟩
  · have : ∀ n, cntU n (Array.replicate ops.size false) = n := fun n => by
      induction n with
      | zero => rfl
      | succ n ih => rw [cntU_succ, ih]; simp [unl, Array.getD_eq_getD_getElem?, Array.getElem?_replicate]; split <;> simp
    rw [this]
  · simp [Array.getD_eq_getD_getElem?, Array.getElem?_replicate] at h
    split at h <;> simp at h
  · simp [Array.getD_eq_getD_getElem?, Array.getElem?_replicate] at h
    split at h <;> simp at h
  · simp [Array.getD_eq_getD_getElem?, Array.getElem?_replicate] at h
    split at h <;> simp at h

def noDst (ops : Array Oper) (p : Nat → Bool) (s : Nat) : Bool := (List.range ops.size).all fun j => !p j || (match ops[j]? with | none => true | some o => decide (o.dst ≠ some s))
theorem noDst_spec {ops : Array Oper} {p : Nat → Bool} {s : Nat} (h : noDst ops p s = true) : ∀ (j : Nat) (oj : Oper), ops[j]? = some oj → p j = true → oj.dst ≠ some s := by
  intro j oj hj hp
  unfold noDst at h
  rw [List.all_eq_true] at h
  have := h j (List.mem_range.2 (Array.getElem?_eq_some_iff.1 hj).1)
  rw [hp, hj] at this
  simpa using this

theorem slot_at {a : Act} {s : Nat} {v : Value} (h : a.tmps.getD s undef = v) : a.tmps[s]?.getD undef = v := by rw [← Array.getD_eq_getD_getElem?]; exact h

/-- a frame, slot by slot -/
theorem act_list (a : Act) (n : Nat) (h : a.tmps.size = n) : a = ⟨((List.range n).map (fun s => a.tmps.getD s undef)).toArray, a.defers⟩ := by
  obtain ⟨t, ds⟩ := a
  simp only at h
  subst h
  simp only [Act.mk.injEq, and_true]
  apply Array.ext
  · simp
  · intro i h1 h2
    simp [Array.getD_eq_getD_getElem?, Array.getElem?_eq_getElem h1]

end Go.Proofs.Ytnoknecfdnjomaa

/-
  What the operations of a loose region yield: lists of their own, copies of lists.
-/
namespace Go.Proofs.Ytnoknecfdnjomaa
open Go Go.RowKit

/-- an empty list of the call's own -/
def LitV (t : TypeId) (u : World) (v : Value) : Prop := ∃ g, v = .slice (some ⟨g, 0, none⟩) 0 0 ∧ Blk u g #[] t
/-- a list of the call's own, of n elements that are the cells cs -/
def LitC (B : Nat) (cs : Array Value) (n : Nat) (t : TypeId) (u : World) (v : Value) : Prop := ∃ g, v = .slice (some ⟨g, 0, none⟩) n n ∧ Blk u g cs t ∧ B ≤ g
/-- a slice that reads ints -/
def SlI (L : List Int) (n : Nat) (u : World) (v : Value) : Prop := ∃ a c, v = .slice a n c ∧ SlOK a n c ∧ IntsAt u a L
/-- a slice that reads rows -/
def SlK (rows : List (List Value)) (n : Nat) (u : World) (v : Value) : Prop := ∃ a c, v = .slice a n c ∧ SlOK a n c ∧ RowAt u a rows.flatten
def EqV (x : Value) (_ : World) (v : Value) : Prop := v = x
def AnyV (_ : World) (_ : Value) : Prop := True

def Stable (V : World → Value → Prop) : Prop := ∀ u u' v, Kp (fun _ => False) u u' → V u v → V u' v
theorem LitV.st (t : TypeId) : Stable (LitV t) := fun _ _ _ k ⟨g, h1, h2⟩ => ⟨g, h1, h2.kp k (fun h => h)⟩
theorem LitC.st (B : Nat) (cs : Array Value) (n : Nat) (t : TypeId) : Stable (LitC B cs n t) := fun _ _ _ k ⟨g, h1, h2, h3⟩ => ⟨g, h1, h2.kp k (fun h => h), h3⟩
theorem SlI.st (L : List Int) (n : Nat) : Stable (SlI L n) := fun _ _ _ k ⟨a, c, h1, h2, h3⟩ => ⟨a, c, h1, h2, h3.kp k (fun _ _ h => h)⟩
theorem SlK.st (L : List (List Value)) (n : Nat) : Stable (SlK L n) := fun _ _ _ k ⟨a, c, h1, h2, h3⟩ => ⟨a, c, h1, h2, h3.kp k (fun _ _ h => h)⟩
theorem EqV.st (x : Value) : Stable (EqV x) := fun _ _ _ _ h => h
theorem AnyV.st : Stable AnyV := fun _ _ _ _ _ => trivial

/-- a slice that reads rows, in memory from B on -/
def SlF (B : Nat) (rows : List (List Value)) (n : Nat) (u : World) (v : Value) : Prop := ∃ a c, v = .slice a n c ∧ SlOK a n c ∧ RowAt u a rows.flatten ∧ (rows ≠ [] → ∀ p, a = some p → B ≤ p.block)
theorem SlF.st (B : Nat) (L : List (List Value)) (n : Nat) : Stable (SlF B L n) := fun _ _ _ k ⟨a, c, h1, h2, h3, h4⟩ => ⟨a, c, h1, h2, h3.kp k (fun _ _ h => h), h4⟩
theorem SlF.kp {B n : Nat} {rows : List (List Value)} {S : Nat → Prop} {u u' : World} {v : Value} (h : SlF B rows n u v) (k : Kp S u u') (hS : ∀ j, S j → j < B) : SlF B rows n u' v := by
  obtain ⟨a, c, h1, h2, h3, h4⟩ := h
  refine ⟨a, c, h1, h2, ?_, h4⟩
  by_cases hn : rows = []
  · subst hn; exact RowAt.nil _ _
  · exact h3.kp k (fun p hp hs => by have := h4 hn p hp; have := hS _ hs; omega)
theorem SlF.low {B B' n : Nat} {rows : List (List Value)} {u : World} {v : Value} (h : SlF B rows n u v) (hb : B' ≤ B) : SlF B' rows n u v := by
  obtain ⟨a, c, h1, h2, h3, h4⟩ := h
  exact ⟨a, c, h1, h2, h3, fun hn p hp => Nat.le_trans hb (h4 hn p hp)⟩
theorem SlF.row {B n : Nat} {rows : List (List Value)} {u : World} {a : Option Addr} {c : Nat} (h : SlF B rows n u (.slice a n c)) : SlOK a n c ∧ RowAt u a rows.flatten := by
  obtain ⟨a2, c2, e, h2, h3, _⟩ := h
  simp only [Value.slice.injEq, true_and] at e
  obtain ⟨rfl, rfl⟩ := e
  exact ⟨h2, h3⟩

theorem ownForm {w : World} {base : Nat} {e : TypeId} {v : Value} {cs : List Value} (h : Own w base e v cs) : ∃ a cap, v = .slice a cs.length cap ∧ cs.length ≤ cap ∧ cap ≤ maxLen ∧ (a = none → cap = 0) ∧ (∀ p, a = some p → base ≤ p.block) ∧ RowAt w a cs := by
  rcases h.2 with ⟨rfl, hn⟩ | ⟨g, cap, cur, rfl, hb, hg, hnc, hcm, hcs, htake⟩
  · have : cs = [] := List.eq_nil_of_length_eq_zero hn
    subst this
    exact ⟨none, 0, rfl, Nat.le_refl _, Nat.zero_le _, fun _ => rfl, fun p hp => (by cases hp), RowAt.nil _ _⟩
  · have hB : Blk w g cur e := hg
    exact ⟨_, cap, rfl, hnc, hcm, (fun h => by cases h), fun p hp => by simp at hp; subst hp; exact hb, hB.rowAt (off := 0) (n := cs.length * 1) (by simpa using htake)⟩

/-- a list of predicates, by places -/
def atV (Vs : List (World → Value → Prop)) (i : Nat) : World → Value → Prop := Vs.getD i AnyV
theorem atV_st {Vs : List (World → Value → Prop)} (h : ∀ V ∈ Vs, Stable V) : ∀ i u u' v, Kp (fun _ => False) u u' → atV Vs i u v → atV Vs i u' v := by
  intro i u u' v k
  unfold atV
  rw [List.getD_eq_getElem?_getD]
  cases hi : Vs[i]? with
  | none => exact fun _ => trivial
  | some V => exact h V (List.mem_of_getElem? hi) u u' v k

/-- the last operations of a region, that stand in one order -/
theorem wpAny_tail {P : Program} {l : List Oper} {Q : Exit → Act → World → Prop} (n : Nat) {LP : Array Bool} {a : Act} {u : World} {K : Nat} (hK : (l.drop n).length = K) (hB : Region.seqB .any l.toArray K n LP = true) (h : wpList P l.toArray Q (l.drop n) a u) : wpAny P .any l.toArray Q K LP a u := by
  subst hK
  exact wpAny_of_seq (md := .any) (Q' := Q) (l.drop n) n LP a u (fun j => by simp [List.getElem?_drop]) hB h

def upTo (n i : Nat) : Bool := decide (i < n)

theorem upTo_spec {n m : Nat} {LP : Array Bool} (h : (List.range m).all (fun i => LP.getD i false == upTo n i) = true) : ∀ i, i < m → LP.getD i false = upTo n i := by
  intro i hi
  rw [List.all_eq_true] at h
  have := h i (List.mem_range.2 hi)
  simpa using this

/-- ints as rows of one -/
def ir (L : List Int) : List (List Value) := L.map (fun x => [Value.int .i64 x])
theorem ir_flat (L : List Int) : (ir L).flatten = L.map (Value.int .i64) := by
  unfold ir
  rw [← flat_ones (L.map (Value.int .i64)), List.map_map]
  rfl
theorem SlK.ints {L : List Int} {n : Nat} {u : World} {v : Value} (h : SlK (ir L) n u v) : ∃ a c, v = .slice a n c ∧ SlOK a n c ∧ IntsAt u a L := by
  obtain ⟨a, c, h1, h2, h3⟩ := h
  rw [ir_flat] at h3
  exact ⟨a, c, h1, h2, h3⟩
theorem SlK.of_ints {L : List Int} {n : Nat} {u : World} {a : Option Addr} {c : Nat} (h2 : SlOK a n c) (h3 : IntsAt u a L) : SlK (ir L) n u (.slice a n c) := ⟨a, c, rfl, h2, by rw [ir_flat]; exact h3⟩

/-- a call of what makes memory of its own -/
theorem lw_call {P : Program} {o : Oper} {a : Act} {u : World} {Q : Exit → Act → World → Prop} {V : World → Value → Prop} {f : FuncId} {args : Array Value} (h : (execOp a.eval o).run P u = .ok (.enter f args) u)
    (hc : Calls P f args u fun e u' => ∃ v, e = .returned v ∧ Kp (fun _ => False) u u' ∧ V u' v) : o.wp P a u (fun a' u' => ∃ v, a' = a.put o.dst v ∧ Kp (fun _ => False) u u' ∧ V u' v) Q := by
  unfold Oper.wp
  rw [h]
  refine hc.mono ?_
  rintro e u' ⟨v, rfl, hK, hV⟩
  exact ⟨v, rfl, hK, hV⟩

theorem lw_value {P : Program} {o : Oper} {a : Act} {u u' : World} {Q : Exit → Act → World → Prop} {V : World → Value → Prop} {v : Value} (h : (execOp a.eval o).run P u = .ok (.value v) u') (hK : Kp (fun _ => False) u u') (hV : V u' v) :
    o.wp P a u (fun a' u' => ∃ v, a' = a.put o.dst v ∧ Kp (fun _ => False) u u' ∧ V u' v) Q := by
  unfold Oper.wp
  rw [h]
  exact ⟨v, rfl, hK, hV⟩

end Go.Proofs.Ytnoknecfdnjomaa

/-
  A net on the way, in memory: its nodes, and where its circuit's variables are.
-/
namespace Go.Proofs.Ytnoknecfdnjomaa
open Go.RowKit

theorem OwnK.blkN {w : World} {base k : Nat} {e : TypeId} {v : Value} {rows : List (List Value)} (h : OwnK w base e k v rows) {j : Nat} (hj : v.ownBlock = some j) : ∃ c, Blk w j c e := by
  rcases h.own.2 with ⟨hv, _⟩ | ⟨g, cap, cur, hv, hb, hg, _⟩
  · rw [hv] at hj; cases hj
  · rw [hv] at hj
    have e : g = j := by simpa [Value.ownBlock] using hj
    subst e
    exact ⟨cur, hg⟩

theorem blkN_type {w : World} {j : Nat} {c c' : Array Value} {t t' : TypeId} (h : Blk w j c t) (h' : Blk w j c' t') : t = t' := by
  unfold Blk at h h'
  rw [h] at h'
  simp at h'
  exact h'.2

/-- a node as cells -/
def pr2 (x : Int × Int) : List Value := [.int .i64 x.1, .int .i64 x.2]
theorem pr2_len (L : List (Int × Int)) : ∀ r ∈ L.map pr2, r.length = 2 := fun r hr => by obtain ⟨x, _, rfl⟩ := List.mem_map.1 hr; rfl
theorem pr2_one (x : Int × Int) : ∀ u ∈ pr2 x, u.oneCell' = true := fun u hu => by
  unfold pr2 at hu
  simp at hu
  rcases hu with rfl | rfl <;> rfl

theorem iv_at {l : List Int} {j : Nat} (h : j < l.length) : (iv l)[j]? = some (.int .i64 (gi l j)) := by
  unfold iv gi
  rw [List.getElem?_map, List.getElem?_eq_getElem h]; rfl

theorem iv_set (l : List Int) (j : Nat) (x : Int) : (iv l).set j (.int .i64 x) = iv (l.set j x) := by
  unfold iv; rw [List.map_set]

/-- a net on the way beside its circuit -/
structure NM (V : CV) (C : Circ) (w : World) (s : NS) (v4 v5 : Value) (wr : World) : Prop where
  n : OwnK wr (w.heap.size + 1) 111 2 v4 (s.1.map pr2)
  a : Own wr (w.heap.size + 1) 3 v5 (iv s.2)
  circ : Blk wr w.heap.size (cvals V C) 63
  kp : Kp (fun _ => False) w wr

section
variable {V : CV} {C : Circ} {w wr wr' w2 : World} {s : NS} {v4 v5 v' : Value}

theorem NM.fr (h : NM V C w s v4 v5 wr) (k : Kp (fun _ => False) wr wr') : NM V C w s v4 v5 wr' :=
  ⟨h.n.kp k (fun _ _ h => h), h.a.kp k (fun _ _ h => h), h.circ.kp k (fun h => h), h.kp.trans k (fun _ _ h => h)⟩

theorem NM.apart (h : NM V C w s v4 v5 wr) {j : Nat} (h4 : v4.ownBlock = some j) (h5 : v5.ownBlock = some j) : False := by
  obtain ⟨c, hc⟩ := h.n.blkN h4
  obtain ⟨c', hc'⟩ := h.a.rows.blkN h5
  exact absurd (blkN_type hc hc') (by decide)

/-- a node more -/
theorem NM.push (h : NM V C w s v4 v5 wr) (hK : Kp (fun _ => False) wr wr') {x : Int × Int} (hO : OwnK w2 (w.heap.size + 1) 111 2 v' (s.1.map pr2 ++ [pr2 x])) (hg : wr'.grownBy w2 v4.ownBlock) : NM V C w (s.1 ++ [x], s.2) v' v5 w2 := by
  have h1 := h.fr hK
  have hk : Kp (fun j => v4.ownBlock = some j) wr' w2 := (Kp.refl _ wr').grown hg (fun j hj _ => hj)
  refine ⟨by rw [List.map_append]; exact hO, h1.a.kp hk (fun j h5 h4 => h1.apart h4 h5), h1.circ.kp hk (fun e => by have := (h1.n.lt _ e).1; omega), h1.kp.grown hg (fun j hj hl => by have := (h1.n.lt j hj).1; omega)⟩

/-- where a variable is -/
theorem NM.at_ (h : NM V C w s v4 v5 wr) (hl : 0 < s.2.length) : ∃ g c, v5 = .slice (some ⟨g, 0, none⟩) s.2.length c ∧ s.2.length ≤ c ∧ c ≤ maxLen ∧ (∀ j, j < s.2.length → wr.cell? ⟨g, j, none⟩ = some (.int .i64 (gi s.2 j))) ∧ (∀ j, wr.frozen? ⟨g, j, none⟩ = false) ∧ (∀ (j : Nat) (x : Int), NM V C w (s.1, s.2.set j x) v4 v5 (wr.setCell ⟨g, j, none⟩ (.int .i64 x))) := by
  obtain ⟨g, c, hv, hb, hlt⟩ := h.a.leads (by rw [iv_length]; exact hl)
  obtain ⟨a', c', hv', hle, hm, -⟩ := h.a.form
  rw [iv_length] at hv hv' hle
  have e : c' = c := by rw [hv] at hv'; simp only [Value.slice.injEq] at hv'; exact hv'.2.2.symm
  subst e
  subst hv
  refine ⟨g, c', rfl, hle, hm, fun j hj => h.a.cell (iv_at hj), fun j => h.a.free j, fun j x => ?_⟩
  refine ⟨h.n.kp (Kp.set wr ⟨g, j, none⟩ _) (fun i h4 e => h.apart (j := g) (by rw [h4]; exact congrArg some e) rfl), by show Own _ _ _ _ (iv (s.2.set j x)); rw [← iv_set]; exact h.a.set j _, h.circ.kp (Kp.set wr ⟨g, j, none⟩ _) (fun e => by have e2 : w.heap.size = g := e; omega), h.kp.setCell (p := ⟨g, j, none⟩) (fun hlt => by have h3 : g < w.heap.size := hlt; omega) _⟩

end

theorem in_own {C : Circ} {i : Nat} (h : i < C.ins.length) : gi C.ins i ∈ C.owned := by
  unfold Circ.owned
  refine List.mem_append.2 (.inl (List.mem_append.2 (.inl ?_)))
  unfold gi; rw [List.getElem?_eq_getElem h]; exact List.getElem_mem _
theorem lat_own {C : Circ} {i : Nat} (h : i < C.lats.length) : (g3 C.lats i).1 ∈ C.owned := by
  unfold Circ.owned
  exact List.mem_append.2 (.inl (List.mem_append.2 (.inr (List.mem_map.2 ⟨_, g3_mem h, rfl⟩))))

theorem CAt.inCell {w : World} {V : CV} {C : Circ} (h : CAt w V C) {q : Nat} (hq : q < C.ins.length) : ∃ b off, V.ai = some ⟨b, off, none⟩ ∧ ∀ u, Kp (fun _ => False) w u → u.cell? ⟨b, off + q, none⟩ = some (.int .i64 (gi C.ins q)) := by
  obtain ⟨b, off, ea, e⟩ := h.i.get hq
  exact ⟨b, off, ea, fun u hu => hu.cellK e⟩
theorem CAt.latCell {w : World} {V : CV} {C : Circ} (h : CAt w V C) {q : Nat} (hq : q < C.lats.length) : ∃ b off, V.al = some ⟨b, off, none⟩ ∧ ∀ u, Kp (fun _ => False) w u → u.cell? ⟨b, off + q * 3, none⟩ = some (.int .i64 (g3 C.lats q).1) ∧ u.cell? ⟨b, off + q * 3 + 1, none⟩ = some (.int .i64 (g3 C.lats q).2.1) ∧ u.cell? ⟨b, off + q * 3 + 2, none⟩ = some (.int .i64 (g3 C.lats q).2.2) := by
  obtain ⟨b, off, ea, e0, e1, e2⟩ := tri_cells h.l hq
  exact ⟨b, off, ea, fun u hu => ⟨hu.cellK e0, hu.cellK e1, hu.cellK e2⟩⟩
theorem CAt.gateCell {w : World} {V : CV} {C : Circ} (h : CAt w V C) {q : Nat} (hq : q < C.gates.length) : ∃ b off, V.ag = some ⟨b, off, none⟩ ∧ ∀ u, Kp (fun _ => False) w u → u.cell? ⟨b, off + q * 3, none⟩ = some (.int .i64 (g3 C.gates q).1) ∧ u.cell? ⟨b, off + q * 3 + 1, none⟩ = some (.int .i64 (g3 C.gates q).2.1) ∧ u.cell? ⟨b, off + q * 3 + 2, none⟩ = some (.int .i64 (g3 C.gates q).2.2) := by
  obtain ⟨b, off, ea, e0, e1, e2⟩ := tri_cells h.g hq
  exact ⟨b, off, ea, fun u hu => ⟨hu.cellK e0, hu.cellK e1, hu.cellK e2⟩⟩

end Go.Proofs.Ytnoknecfdnjomaa

/-
  What a net's variables are; latchetref07.Of.
-/
namespace Go.Proofs.Ytnoknecfdnjomaa
open Go.RowKit

def vb (l : List Bool) (i : Nat) : Bool := l[i]?.getD false
def bv (l : List Bool) : List Value := l.map Value.bool
theorem bv_length (l : List Bool) : (bv l).length = l.length := List.length_map ..
theorem bv_append (l r : List Bool) : bv (l ++ r) = bv l ++ bv r := List.map_append
theorem bv_one (l : List Bool) : ∀ u ∈ bv l, u.oneCell' = true := fun u hu => by obtain ⟨x, _, rfl⟩ := List.mem_map.1 hu; rfl
theorem bv_at {l : List Bool} {i : Nat} (h : i < l.length) : (bv l)[i]? = some (.bool (vb l i)) := by
  unfold bv vb
  rw [List.getElem?_map, List.getElem?_eq_getElem h]; rfl
theorem vb_far {l : List Bool} {i : Nat} (h : l.length ≤ i) : vb l i = false := by unfold vb; rw [List.getElem?_eq_none h]; rfl
def litN (vals : List Bool) (l : Int) : Bool := vb vals (l / 2).toNat != decide (l % 2 = 1)
def stepV (ins : List Bool) (s : List Bool × Nat) (x : Int × Int) : List Bool × Nat := if x.1 < 0 then (s.1 ++ [vb ins s.2], s.2 + 1) else (s.1 ++ [litN s.1 x.1 && litN s.1 x.2], s.2)
def valsK (N : List (Int × Int)) (ins : List Bool) (k : Nat) : List Bool × Nat := (N.take k).foldl (stepV ins) ([false], 0)
def valsOf (N : List (Int × Int)) (ins : List Bool) : List Bool := (valsK N ins N.length).1
def g2 (N : List (Int × Int)) (k : Nat) : Int × Int := N[k]?.getD (0, 0)
theorem take_g2 {N : List (Int × Int)} {q : Nat} (h : q < N.length) : N.take (q + 1) = N.take q ++ [g2 N q] := by
  rw [List.take_succ_eq_append_getElem h]
  unfold g2
  rw [List.getElem?_eq_getElem h]; rfl
theorem valsK_succ {N : List (Int × Int)} {ins : List Bool} {k : Nat} (h : k < N.length) : valsK N ins (k + 1) = stepV ins (valsK N ins k) (g2 N k) := by
  unfold valsK; rw [take_g2 h, List.foldl_append]; rfl
theorem valsK_len {N : List (Int × Int)} {ins : List Bool} : ∀ k, k ≤ N.length → (valsK N ins k).1.length = k + 1
  | 0, _ => rfl
  | k + 1, h => by
    have ih := valsK_len (N := N) (ins := ins) k (by omega)
    rw [valsK_succ (by omega)]
    unfold stepV
    split <;> simp [ih]
theorem valsOf_len (N : List (Int × Int)) (ins : List Bool) : (valsOf N ins).length = N.length + 1 := valsK_len _ (Nat.le_refl _)

/-- a net whose nodes stand on those ahead of them -/
def GoodN (N : List (Int × Int)) : Prop := ∀ j, j < N.length → (g2 N j).1 < 0 ∨ (0 ≤ (g2 N j).1 ∧ (g2 N j).1 ≤ 2 * (j : Int) + 1 ∧ 0 ≤ (g2 N j).2 ∧ (g2 N j).2 ≤ 2 * (j : Int) + 1)
theorem GoodC.net {C : Circ} (h : GoodC C) : GoodN (netOf C).1 := fun j hj => by
  have hi := netG_inv h (ordO C.gates).length (Nat.le_refl _)
  refine hi.node j (g2 (netOf C).1 j) ?_
  show (netOf C).1[j]? = _
  unfold g2
  rw [List.getElem?_eq_getElem hj]; rfl
theorem nodes_len (C : Circ) : (netOf C).1.length = C.ins.length + C.lats.length + (ordO C.gates).length := netG_len C _ (Nat.le_refl _)

theorem pr2_at {N : List (Int × Int)} {k : Nat} (h : k < N.length) : (N.map pr2)[k]? = some (pr2 (g2 N k)) := by
  rw [List.getElem?_map, List.getElem?_eq_getElem h]; unfold g2; rw [List.getElem?_eq_getElem h]; rfl
theorem pr2_cells {w : World} {a : Option Addr} {N : List (Int × Int)} (h : RowAt w a (N.map pr2).flatten) {k : Nat} (hk : k < N.length) :
    ∃ b off, a = some ⟨b, off, none⟩ ∧ w.cell? ⟨b, off + k * 2, none⟩ = some (.int .i64 (g2 N k).1) ∧ w.cell? ⟨b, off + k * 2 + 1, none⟩ = some (.int .i64 (g2 N k).2) := by
  obtain ⟨b, off, e0, h0⟩ := h.cellAt (pr2_len N) (j := k) (i := 0) (pr2_at hk) rfl
  obtain ⟨b1, off1, e1, h1⟩ := h.cellAt (pr2_len N) (j := k) (i := 1) (pr2_at hk) rfl
  obtain ⟨rfl, rfl⟩ : b = b1 ∧ off = off1 := by rw [e0] at e1; simpa using e1
  exact ⟨b, off, e0, h0, h1⟩

end Go.Proofs.Ytnoknecfdnjomaa

/-
  The closures of circ.Net.
-/
namespace Go.Proofs.Ytnoknecfdnjomaa
open Go.RowKit

theorem i64_and1 (n : Int) (h0 : 0 ≤ n) (h1 : n ≤ 9223372036854775807) : bits .and .i64 n 1 = n % 2 := by
  obtain ⟨a, rfl⟩ : ∃ a : Nat, n = (a : Int) := ⟨n.toNat, by omega⟩
  have e1 : (BitVec.ofInt 64 (a : Int)).toNat = a := by
    rw [BitVec.ofInt_natCast, BitVec.toNat_ofNat]; exact Nat.mod_eq_of_lt (by omega)
  show IntKind.i64.wrap ((BitVec.ofInt 64 (a : Int) &&& BitVec.ofInt 64 1).toNat : Int) = _
  have h2 : (BitVec.ofInt 64 (1 : Int)).toNat = 1 := by decide
  rw [BitVec.toNat_and, e1, h2, Nat.and_one_is_mod]
  rw [IntKind.wrap_i64]
  omega

theorem nat_xor_bit (a b : Nat) (ha : a % 2 = 0) (hb : b < 2) : a ^^^ b = a + b := by
  have x1 := Nat.xor_div_two (a := a) (b := b)
  have x2 := Nat.xor_mod_two_pow (a := a) (b := b) (n := 1)
  simp only [Nat.pow_one] at x2
  have hb2 : b / 2 = 0 := by omega
  rw [hb2, Nat.xor_zero] at x1
  have hm : b % 2 = b := by omega
  rw [ha, hm, Nat.zero_xor] at x2
  omega

theorem i64_xor1 (x l : Int) (x0 : 0 ≤ x) (x1 : x % 2 = 0) (x2 : x ≤ 1000000000) : bits .xor .i64 x (l % 2) = x + l % 2 := by
  obtain ⟨a, rfl⟩ : ∃ a : Nat, x = (a : Int) := ⟨x.toNat, by omega⟩
  obtain ⟨b, hb⟩ : ∃ b : Nat, l % 2 = (b : Int) := ⟨(l % 2).toNat, by omega⟩
  have hb1 : b < 2 := by omega
  rw [hb]
  have e1 : (BitVec.ofInt 64 (a : Int)).toNat = a := by
    rw [BitVec.ofInt_natCast, BitVec.toNat_ofNat]; exact Nat.mod_eq_of_lt (by omega)
  have e2 : (BitVec.ofInt 64 (b : Int)).toNat = b := by
    rw [BitVec.ofInt_natCast, BitVec.toNat_ofNat]; exact Nat.mod_eq_of_lt (by omega)
  show IntKind.i64.wrap ((BitVec.ofInt 64 (a : Int) ^^^ BitVec.ofInt 64 (b : Int)).toNat : Int) = _
  rw [BitVec.toNat_xor, e1, e2, nat_xor_bit a b (by omega) hb1]
  rw [IntKind.wrap_i64]
  omega

/-- 'of' -/
theorem net_f2 (ba g n c : Nat) (L : List Int) (l : Int) (w : World) (hb : w.cell? ⟨ba, 0, none⟩ = some (.slice (some ⟨g, 0, none⟩) n c)) (hm : n ≤ 100000000) (hc : ∀ j, j < n → w.cell? ⟨g, j, none⟩ = some (.int .i64 (gi L j))) (l0 : 0 ≤ l) (l1 : (l / 2).toNat < n) (hx : 0 ≤ gi L (l / 2).toNat ∧ gi L (l / 2).toNat % 2 = 0 ∧ gi L (l / 2).toNat ≤ 1000000000) :
    Calls Try.prog 65 #[.int .i64 l, .pointer (some ⟨ba, 0, none⟩)] w fun e w' => e = .returned (.int .i64 (ofN L l)) ∧ w = w' := by
  obtain ⟨q, hq⟩ : ∃ q : Nat, (l / 2).toNat = q := ⟨_, rfl⟩
  have hd : l / 2 = (q : Int) := by omega
  have hl9 : l ≤ 200000002 := by omega
  have ha : bits .and .i64 l 1 = l % 2 := i64_and1 l l0 (by omega)
  obtain ⟨r, hr⟩ : ∃ r, ofN L l = r := ⟨_, rfl⟩
  rw [hr]
  unfold ofN at hr
  rw [hq] at l1 hx hr
  have hcell := hc q l1
  obtain ⟨x, hx0⟩ : ∃ x, gi L q = x := ⟨_, rfl⟩
  rw [hx0] at hcell hx hr
  have HX := Lib.hid (show bits .xor .i64 x (l % 2) = r by
    rw [i64_xor1 x l hx.1 hx.2.1 hx.2.2, ← hr]
    split <;> omega)
  have q0 : (0 : Int) ≤ (q : Int) := by omega
  have q1 : (q : Int) < (n : Int) := by omega
  have x0 := hx.1
  have x2 := hx.2.2
  clear hq hc hx0 hr hx
  go_enter Try.func65, Try.ntmps65
  go_wp2_with fail
  go_ret
  exact ⟨by rw [← HX.out]; rfl, rfl⟩

/-- circ.Net on the way: its two boxes, the nodes, the places -/
structure NP (V : CV) (C : Circ) (w : World) (bn ba g m c : Nat) (s : NS) (v4 : Value) (wr : World) : Prop where
  n : OwnK wr (w.heap.size + 1) 111 2 v4 (s.1.map pr2)
  a : Own wr (w.heap.size + 1) 3 (.slice (some ⟨g, 0, none⟩) m c) (iv s.2)
  xn : Blk wr bn #[v4] 70
  xa : Blk wr ba #[.slice (some ⟨g, 0, none⟩) m c] 22
  circ : Blk wr w.heap.size (cvals V C) 63
  kp : Kp (fun _ => False) w wr
  lbn : w.heap.size < bn
  lba : w.heap.size < ba

section
variable {V : CV} {C : Circ} {w wr wr' w2 : World} {bn ba g m c : Nat} {s : NS} {v4 v' : Value}

theorem NP.fr (h : NP V C w bn ba g m c s v4 wr) (k : Kp (fun _ => False) wr wr') : NP V C w bn ba g m c s v4 wr' :=
  ⟨h.n.kp k (fun _ _ h => h), h.a.kp k (fun _ _ h => h), h.xn.kp k (fun h => h), h.xa.kp k (fun h => h), h.circ.kp k (fun h => h), h.kp.trans k (fun _ _ h => h), h.lbn, h.lba⟩

theorem NP.gblk (h : NP V C w bn ba g m c s v4 wr) : ∃ cc, Blk wr g cc 3 := h.a.rows.blkN (j := g) rfl

theorem NP.push (h : NP V C w bn ba g m c s v4 wr) (hK : Kp (fun _ => False) wr wr') {x : Int × Int} (hO : OwnK w2 (w.heap.size + 1) 111 2 v' (s.1.map pr2 ++ [pr2 x])) (hg : wr'.grownBy w2 v4.ownBlock) :
    NP V C w bn ba g m c (s.1 ++ [x], s.2) v' (w2.setCell ⟨bn, 0, none⟩ v') ∧ (∃ u, w2.cell? ⟨bn, 0, none⟩ = some u) ∧ w2.frozen? ⟨bn, 0, none⟩ = false := by
  have h1 := h.fr hK
  have hk : Kp (fun j => v4.ownBlock = some j) wr' w2 := (Kp.refl _ wr').grown hg (fun j hj _ => hj)
  have ap : ∀ {j : Nat} {cc : Array Value} {t : TypeId}, Blk wr' j cc t → t ≠ 111 → ¬ v4.ownBlock = some j := fun hB ht h4 => by
    obtain ⟨c', hc'⟩ := h1.n.blkN h4
    exact ht (blkN_type hB hc')
  obtain ⟨cg, hcg⟩ := h1.gblk
  have a2 := h1.a.kp hk (fun j h5 h4 => by
    have e : g = j := by simpa [Value.ownBlock] using h5
    subst e
    exact ap hcg (by decide) h4)
  have bn2 := h1.xn.kp hk (ap h1.xn (by decide))
  have ba2 := h1.xa.kp hk (ap h1.xa (by decide))
  have cc2 := h1.circ.kp hk (ap h1.circ (by decide))
  have kp2 := h1.kp.grown hg (fun j hj hl => by have := (h1.n.lt j hj).1; omega)
  have hs := Kp.set w2 ⟨bn, 0, none⟩ v'
  refine ⟨⟨?_, ?_, ?_, ?_, ?_, kp2.setCell (p := ⟨bn, 0, none⟩) (fun hlt => by have h3 : bn < w.heap.size := hlt; have := h.lbn; omega) _, h.lbn, h.lba⟩, ⟨_, bn2.cell rfl⟩, bn2.free 0⟩
  · show OwnK _ _ _ _ _ ((s.1 ++ [x]).map pr2)
    rw [List.map_append]
    exact hO.kp hs (fun j hj e => by
      have e2 : j = bn := e
      subst e2
      obtain ⟨c', hc'⟩ := hO.blkN hj
      exact absurd (blkN_type bn2 hc') (by decide))
  · obtain ⟨cg2, hcg2⟩ := a2.rows.blkN (j := g) rfl
    exact a2.kp hs (fun j hj e => by
      have e2 : j = bn := e
      have e3 : g = j := by simpa [Value.ownBlock] using hj
      subst e3
      subst e2
      exact absurd (blkN_type bn2 hcg2) (by decide))
  · exact bn2.set_same 0 v'
  · exact ba2.kp hs (fun e => by
      have e2 : ba = bn := e
      subst e2
      exact absurd (blkN_type bn2 ba2) (by decide))
  · exact cc2.kp hs (fun e => by have e2 : w.heap.size = bn := e; have := h.lbn; omega)

theorem NP.len (h : NP V C w bn ba g m c s v4 wr) : s.2.length = m := by
  obtain ⟨a', c', hv, -⟩ := h.a.form
  rw [iv_length] at hv
  simp only [Value.slice.injEq] at hv
  exact hv.2.1.symm

theorem NP.put (h : NP V C w bn ba g m c s v4 wr) (j : Nat) (x : Int) : NP V C w bn ba g m c (s.1, s.2.set j x) v4 (wr.setCell ⟨g, j, none⟩ (.int .i64 x)) := by
  obtain ⟨cg, hcg⟩ := h.gblk
  have hlt := h.a.lt g rfl
  have hs := Kp.set wr ⟨g, j, none⟩ (.int .i64 x)
  have ap : ∀ {i : Nat} {cc : Array Value} {t : TypeId}, Blk wr i cc t → t ≠ 3 → ¬ i = g := fun hB ht e => by
    subst e
    exact ht (blkN_type hB hcg)
  refine ⟨h.n.kp hs (fun i h4 e => ?_), ?_, h.xn.kp hs (ap h.xn (by decide)), h.xa.kp hs (ap h.xa (by decide)), h.circ.kp hs (ap h.circ (by decide)), h.kp.setCell (p := ⟨g, j, none⟩) (fun hl => by have h3 : g < w.heap.size := hl; omega) _, h.lbn, h.lba⟩
  · obtain ⟨c', hc'⟩ := h.n.blkN h4
    exact ap hc' (by decide) e
  · show Own _ _ _ _ (iv (s.2.set j x)); rw [← iv_set]; exact h.a.set j _

theorem NP.cells (h : NP V C w bn ba g m c s v4 wr) : (∀ j, j < m → wr.cell? ⟨g, j, none⟩ = some (.int .i64 (gi s.2 j))) ∧ (∀ j, wr.frozen? ⟨g, j, none⟩ = false) ∧ wr.cell? ⟨bn, 0, none⟩ = some v4 ∧ wr.cell? ⟨ba, 0, none⟩ = some (.slice (some ⟨g, 0, none⟩) m c) :=
  ⟨fun j hj => h.a.cell (iv_at (by rw [h.len]; exact hj)), fun j => h.a.free j, h.xn.cell rfl, h.xa.cell rfl⟩
end

set_option maxRecDepth 100000 in
/-- 'put' -/
theorem net_f1 (V : CV) (C : Circ) (w0 : World) (bn ba g m c k : Nat) (s : NS) (v4 : Value) (l x1 x2 : Int) (w : World) (h : NP V C w0 bn ba g m c s v4 w) (hk : s.1.length = k) (hk1 : k ≤ 10000000) (l0 : 0 ≤ l) (l1 : (l / 2).toNat < m) (hm : m ≤ 100000000) :
    Calls Try.prog 64 #[.int .i64 l, .agg #[.int .i64 x1, .int .i64 x2], .pointer (some ⟨bn, 0, none⟩), .pointer (some ⟨ba, 0, none⟩)] w fun e w' => e = .returned (.tuple #[]) ∧ (∃ v', NP V C w0 bn ba g m c (putN s l (x1, x2)) v' w') ∧ Kp (fun j => v4.ownBlock = some j ∨ j = bn ∨ j = g) w w' := by
  have HIn := Lib.hid (show (Try.prog.info? 111).map (fun i => (i.zero, i.size, i.bytes)) = some (some (.agg #[.int .i64 0, .int .i64 0]), 2, 16) by kernel_rfl)
  obtain ⟨y, hy⟩ : ∃ y : Nat, (l / 2).toNat = y := ⟨_, rfl⟩
  have hd : l / 2 = (y : Int) := by omega
  have hl9 : l ≤ 200000002 := by omega
  have y0 : (0 : Int) ≤ (y : Int) := by omega
  have y1 : (y : Int) < (m : Int) := by omega
  have HY := Lib.hid hy
  have HL := Lib.hid hk
  obtain ⟨wz, hwz⟩ : ∃ wz : World, wz = (w.alloc (.cells #[.int .i64 x1, .int .i64 x2] 111)).alloc (.cells #[.int .i64 x1, .int .i64 x2] 111) := ⟨_, rfl⟩
  have HZ := Lib.hid hwz
  have HH := Lib.hid (show NP V C w0 bn ba g m c s v4 wz from by rw [hwz]; exact h.fr (((Kp.refl _ w).alloc _).alloc _))
  have HNew := Lib.hid (show Blk wz (w.heap.size + 1) #[.int .i64 x1, .int .i64 x2] 111 by rw [hwz]; exact two_blk _ _ _ _ _)
  have HSz := Lib.hid (show w0.heap.size + 1 ≤ wz.heap.size from by have := HH.out.circ.lt; omega)
  have cb := h.cells.2.2.1
  have cb2 := ((Kp.refl (fun _ => False) w).alloc (.cells #[.int .i64 x1, .int .i64 x2] 111)).cellK cb
  clear h hk hwz hy
  go_enter Try.func64, Try.ntmps64
  go_wp2_with (at_builtin; rw [← HZ.out]; refine wpList_appendK rfl _ _ 70 111 rfl Try.underlying70 HIn.out rfl (by decide) HH.out.n rfl (w.heap.size + 1) (pr2 (x1, x2)) rfl rfl ?n0 (pr2_one _) ?n1 ?n2 ?n3 ?_)
  case n0 => intro j u hj; exact HNew.out.cell (by simpa [pr2] using hj)
  case n1 => rw [List.length_map, HL.out]; omega
  case n2 => rw [List.length_map, HL.out]; unfold maxLen; omega
  case n3 => exact HSz.out
  intro v' w2 hO2 hg2 hat2
  have hP := HH.out.push (x := (x1, x2)) (Kp.refl _ _) hO2 hg2
  obtain ⟨hP1, ⟨ub, hub⟩, hfb⟩ := hP
  obtain ⟨a4, c4, e4, l4, m4, -⟩ := hP1.n.form
  have hlen : ((s.1 ++ [(x1, x2)]).map pr2).length = k + 1 := by rw [List.length_map, List.length_append, HL.out]; rfl
  rw [hlen] at e4 l4
  subst e4
  have hc := hP1.cells
  have cy := hc.1 y (by omega)
  have fy := hc.2.1 y
  have cn := hc.2.2.1
  have ca := hc.2.2.2
  have HP2 := Lib.hid (hP1.put y (2 * (((k + 1 : Nat)) : Int)))
  have HKp := Lib.hid (show Kp (fun j => v4.ownBlock = some j ∨ j = bn ∨ j = g) w ((w2.setCell ⟨bn, 0, none⟩ (.slice a4 (k + 1) c4)).setCell ⟨g, y, none⟩ (.int .i64 (2 * (((k + 1 : Nat)) : Int)))) from by
    have h0 : Kp (fun j => v4.ownBlock = some j ∨ j = bn ∨ j = g) w wz := by rw [HZ.out]; exact ((Kp.refl _ w).alloc _).alloc _
    exact ((h0.grown hg2 (fun j hj _ => .inl hj)).setCell (p := ⟨bn, 0, none⟩) (fun _ => .inr (.inl rfl)) _).setCell (p := ⟨g, y, none⟩) (fun _ => .inr (.inr rfl)) _)
  clear hP1 hO2 hg2 hat2 hc hlen HZ HNew HH cb cb2
  go_wp2_with fail
  go_end0
  refine ⟨rfl, ⟨.slice a4 (k + 1) c4, ?_⟩, HKp.out⟩
  unfold putN
  rw [HY.out, HL.out]
  exact HP2.out

end Go.Proofs.Ytnoknecfdnjomaa

/-
  sim: Lit, Word.
-/
namespace Go.Proofs.Ytnoknecfdnjomaa
open Go.RowKit

theorem sim_Lit (a : Option Addr) (n c : Nat) (vals : List Bool) (l : Int) (w : World) (hr : RowAt w a (bv vals)) (hn : vals.length = n) (hm : n ≤ 100000000) (h0 : vb vals 0 = false) (l0 : 0 ≤ l) (l1 : (l / 2).toNat < n) :
    Calls Try.prog 81 #[.slice a n c, .int .i64 l] w fun e w' => e = .returned (.bool (litN vals l)) ∧ w = w' := by
  obtain ⟨q, hq⟩ : ∃ q : Nat, (l / 2).toNat = q := ⟨_, rfl⟩
  have hd : l / 2 = (q : Int) := by omega
  have hl9 : l ≤ 200000002 := by omega
  have ha : bits .and .i64 l 1 = l % 2 := i64_and1 l l0 (by omega)
  obtain ⟨r, hr0⟩ : ∃ r, litN vals l = r := ⟨_, rfl⟩
  rw [hr0]
  unfold litN at hr0
  rw [hq] at l1 hr0
  obtain ⟨b, off, rfl, hcell⟩ := hr q _ (bv_at (by omega))
  obtain ⟨x, hx⟩ : ∃ x, vb vals q = x := ⟨_, rfl⟩
  rw [hx] at hcell hr0
  have q0 : (0 : Int) ≤ (q : Int) := by omega
  have q1 : (q : Int) < (n : Int) := by omega
  have q2 : decide (l < 0) = false := decide_eq_false (by omega)
  have q3 : decide ((n : Int) ≤ (q : Int)) = false := decide_eq_false (by omega)
  have q4 : ¬ (n : Int) ≤ (q : Int) := by omega
  have q5 : ¬ l < 0 := by omega
  by_cases hz : q = 0
  · subst hz
    have hxf : x = false := by rw [← hx]; exact h0
    subst hxf
    have z0 : (((0 : Nat) : Int) == 0) = true := rfl
    by_cases e : l = 1
    · subst e
      have hrt : r = true := by rw [← hr0]; rfl
      subst hrt
      clear hr hq hn hx hr0 h0
      go_enter Try.func81, Try.ntmps81
      go_wp2_with fail
      go_ret
      exact ⟨rfl, rfl⟩
    · have e0 : l = 0 := by omega
      subst e0
      have hrt : r = false := by rw [← hr0]; rfl
      subst hrt
      clear hr hq hn hx hr0 h0 e
      go_enter Try.func81, Try.ntmps81
      go_wp2_with fail
      go_ret
      exact ⟨rfl, rfl⟩
  · have z0 : ((q : Int) == 0) = false := by simp [hz]
    have z1 : ¬ (q : Int) = 0 := by omega
    have HR := Lib.hid hr0
    clear hr hq hn hx hr0 h0 hz
    by_cases e : l % 2 = 1
    · have e1 : (l % 2 == 1) = true := by simp [e]
      have HE := Lib.hid e
      clear e
      go_enter Try.func81, Try.ntmps81
      go_wp2_with fail
      go_ret
      refine ⟨?_, rfl⟩
      have := HR.out
      rw [decide_eq_true HE.out] at this
      rw [← this]; cases x <;> rfl
    · have e1 : (l % 2 == 1) = false := by simp [e]
      have HE := Lib.hid e
      clear e
      go_enter Try.func81, Try.ntmps81
      go_wp2_with fail
      go_ret
      refine ⟨?_, rfl⟩
      have := HR.out
      rw [decide_eq_false HE.out] at this
      rw [← this]; cases x <;> rfl

/-- a word whose least bit is b -/
structure BitOf (x : Int) (b : Bool) : Prop where
  lo : 0 ≤ x
  hi : x < 18446744073709551616
  bit : decide (x % 2 = 1) = b

theorem BitOf.nat {x : Int} {b : Bool} (h : BitOf x b) : ∃ a : Nat, x = (a : Int) ∧ a < 18446744073709551616 ∧ decide (a % 2 = 1) = b := by
  have h0 := h.lo
  have h1 := h.hi
  refine ⟨x.toNat, by omega, by omega, ?_⟩
  rw [← h.bit]
  apply decide_eq_decide.2
  omega
theorem BitOf.of {a : Nat} {b : Bool} (h : a < 18446744073709551616) (hb : decide (a % 2 = 1) = b) : BitOf (a : Int) b := by
  refine ⟨by omega, by omega, ?_⟩
  rw [← hb]
  apply decide_eq_decide.2
  omega
theorem BitOf.not {x : Int} {b : Bool} (h : BitOf x b) : BitOf (bits .xor .u64 IntKind.u64.max x) (b != true) := by
  obtain ⟨a, rfl, ha, hb⟩ := h.nat
  have e : IntKind.u64.max = ((18446744073709551615 : Nat) : Int) := by decide
  rw [e, bits_xor_u64_nat _ _ (by decide) ha]
  refine BitOf.of (by have := Nat.xor_lt_two_pow (x := 18446744073709551615) (y := a) (n := 64) (by decide) (by omega); omega) ?_
  have hm := Nat.xor_mod_two_pow (a := 18446744073709551615) (b := a) (n := 1)
  simp only [Nat.pow_one] at hm
  rw [hm]
  rcases Nat.mod_two_eq_zero_or_one a with q | q
  · rw [q] at hb ⊢; subst hb; decide
  · rw [q] at hb ⊢; subst hb; decide
theorem BitOf.and {x y : Int} {b c : Bool} (h : BitOf x b) (k : BitOf y c) : BitOf (bits .and .u64 x y) (b && c) := by
  obtain ⟨a, rfl, ha, hb⟩ := h.nat
  obtain ⟨d, rfl, hd, hc⟩ := k.nat
  rw [bits_and_u64_nat _ _ ha hd]
  refine BitOf.of (by have := Nat.and_lt_two_pow (n := 64) a (y := d) (by omega); omega) ?_
  have hm := Nat.and_mod_two_pow (a := a) (b := d) (n := 1)
  simp only [Nat.pow_one] at hm
  rw [hm]
  rcases Nat.mod_two_eq_zero_or_one a with q | q <;> rcases Nat.mod_two_eq_zero_or_one d with p | p <;> (rw [q] at hb ⊢; rw [p] at hc ⊢; subst hb; subst hc; decide)
theorem BitOf.zero : BitOf 0 false := ⟨by decide, by decide, by decide⟩

def uv (l : List Int) : List Value := l.map (Value.int .u64)
theorem uv_length (l : List Int) : (uv l).length = l.length := List.length_map ..
theorem uv_append (l r : List Int) : uv (l ++ r) = uv l ++ uv r := List.map_append
theorem uv_at {l : List Int} {i : Nat} (h : i < l.length) : (uv l)[i]? = some (.int .u64 (gi l i)) := by
  unfold uv gi
  rw [List.getElem?_map, List.getElem?_eq_getElem h]; rfl

/-- words whose least bits are the values -/
def BitsOf (ws : List Int) (vals : List Bool) : Prop := ws.length = vals.length ∧ ∀ i, i < ws.length → BitOf (gi ws i) (vb vals i)

/-- the word of a literal -/
def wordF (ws : List Int) (l : Int) : Int := if l % 2 = 1 then bits .xor .u64 IntKind.u64.max (gi ws (l / 2).toNat) else gi ws (l / 2).toNat

theorem wordF_bit {ws : List Int} {vals : List Bool} {l : Int} (hb : BitsOf ws vals) (h : (l / 2).toNat < ws.length) : BitOf (wordF ws l) (litN vals l) := by
  have hbx := hb.2 _ h
  unfold wordF litN
  by_cases e : l % 2 = 1
  · rw [if_pos e, decide_eq_true e]; exact hbx.not
  · rw [if_neg e, decide_eq_false e]
    cases hv : vb vals (l / 2).toNat
    · rw [hv] at hbx; exact hbx
    · rw [hv] at hbx; exact hbx

theorem sim_Word (a : Option Addr) (n c : Nat) (ws : List Int) (vals : List Bool) (l : Int) (w : World) (hr : RowAt w a (uv ws)) (hn : ws.length = n) (hm : n ≤ 100000000) (h0 : gi ws 0 = 0) (hb : BitsOf ws vals) (l0 : 0 ≤ l) (l1 : (l / 2).toNat < n) :
    Calls Try.prog 92 #[.slice a n c, .int .i64 l] w fun e w' => e = .returned (.int .u64 (wordF ws l)) ∧ w = w' := by
  obtain ⟨q, hq⟩ : ∃ q : Nat, (l / 2).toNat = q := ⟨_, rfl⟩
  have hd : l / 2 = (q : Int) := by omega
  have hl9 : l ≤ 200000002 := by omega
  have ha : bits .and .i64 l 1 = l % 2 := i64_and1 l l0 (by omega)
  obtain ⟨r, hr0⟩ : ∃ r, wordF ws l = r := ⟨_, rfl⟩
  rw [hr0]
  unfold wordF at hr0
  rw [hq] at l1 hr0
  obtain ⟨b, off, rfl, hcell⟩ := hr q _ (uv_at (by omega))
  have hbx := hb.2 q (by omega)
  obtain ⟨x, hx⟩ : ∃ x, gi ws q = x := ⟨_, rfl⟩
  rw [hx] at hcell hbx hr0
  have x0 := hbx.lo
  have x1 := hbx.hi
  have q0 : (0 : Int) ≤ (q : Int) := by omega
  have q1 : (q : Int) < (n : Int) := by omega
  have q2 : decide (l < 0) = false := decide_eq_false (by omega)
  have q3 : decide ((n : Int) ≤ (q : Int)) = false := decide_eq_false (by omega)
  have q4 : ¬ (n : Int) ≤ (q : Int) := by omega
  have q5 : ¬ l < 0 := by omega
  by_cases hz : q = 0
  · subst hz
    have hvf : x = 0 := by rw [← hx]; exact h0
    subst hvf
    have z0 : decide ((0 : Int) < ((0 : Nat) : Int)) = false := rfl
    have HR := Lib.hid hr0
    clear hr hq hn hx hr0 h0 hb hbx
    by_cases e : l % 2 = 1
    · have e1 : (l % 2 == 1) = true := by simp [e]
      have HE := Lib.hid e
      clear e
      go_enter Try.func92, Try.ntmps92
      go_wp2_with fail
      go_ret
      refine ⟨?_, rfl⟩
      have := HR.out
      rw [if_pos HE.out] at this
      rw [← this]; rfl
    · have e1 : (l % 2 == 1) = false := by simp [e]
      have HE := Lib.hid e
      clear e
      go_enter Try.func92, Try.ntmps92
      go_wp2_with fail
      go_ret
      refine ⟨?_, rfl⟩
      have := HR.out
      rw [if_neg HE.out] at this
      rw [← this]; rfl
  · have z0 : decide ((0 : Int) < (q : Int)) = true := decide_eq_true (by omega)
    have HR := Lib.hid hr0
    clear hr hq hn hx hr0 h0 hb hbx
    by_cases e : l % 2 = 1
    · have e1 : (l % 2 == 1) = true := by simp [e]
      have HE := Lib.hid e
      clear e
      go_enter Try.func92, Try.ntmps92
      go_wp2_with fail
      go_ret
      refine ⟨?_, rfl⟩
      have h1 := HR.out
      rw [if_pos HE.out] at h1
      rw [← h1]; rfl
    · have e1 : (l % 2 == 1) = false := by simp [e]
      have HE := Lib.hid e
      clear e
      go_enter Try.func92, Try.ntmps92
      go_wp2_with fail
      go_ret
      refine ⟨?_, rfl⟩
      have h1 := HR.out
      rw [if_neg HE.out] at h1
      rw [← h1]; rfl

end Go.Proofs.Ytnoknecfdnjomaa
