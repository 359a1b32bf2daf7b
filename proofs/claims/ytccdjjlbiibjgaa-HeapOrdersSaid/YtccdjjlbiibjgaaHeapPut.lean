/-
  heap.Push, heap.Set.
-/
import Derived.Test.YtccdjjlbiibjgaaHeapDown
import Derived.Test.YtccdjjlbiibjgaaHeapNew
import Derived.Test.YtccdjjlbiibjgaaAppendAt
namespace Go.Proofs.Ytccdjjlbiibjgaa
open Go.RowKit

/-- a heap in order -/
structure HOk (w : World) (base h n m : Nat) (S T : Nat → Nat) (Q : Nat → Int) : Prop where
  hp : ∃ vs vt va, Hp w base h vs vt va n m S T Q
  inv : Inv n m T Q
  ok : HeapOK (ah S) T m

theorem HOk.kp {X : Nat → Prop} {w w' : World} {base h n m : Nat} {S T : Nat → Nat} {Q : Nat → Int} (H : HOk w base h n m S T Q) (k : Kp X w w') (hX : ∀ j, base ≤ j → j < w.heap.size → ¬ X j) : HOk w' base h n m S T Q := by
  obtain ⟨vs, vt, va, h⟩ := H.hp
  exact ⟨⟨vs, vt, va, h.kp k hX⟩, H.inv, H.ok⟩

theorem Hp.pushT {w w' : World} {base h n m id : Nat} {vs vt vt' va : Value} {S T : Nat → Nat} {Q : Nat → Int} (H : Hp w base h vs vt va n m S T Q)
    (hO : Own w' base 3 vt' (nts T m ++ [.int .i64 (id : Int)])) (hg : w.grownBy w' vt.ownBlock) (hat : vt'.ownBlock = vt.ownBlock ∨ ∃ g, vt'.ownBlock = some g ∧ w.heap.size ≤ g) :
    Hp (w'.setCell ⟨h, 1, none⟩ vt') base h vs vt' va n (m + 1) S (up1 T m id) Q := by
  have hK : Kp (fun j => vt.ownBlock = some j) w w' := (Kp.refl _ w).grown hg (fun j hj _ => hj)
  have hh := H.blk.lt
  have hB := H.blk.kp hK (fun e => (H.ht h e).1 rfl)
  have hsame := hB.set_same 1 vt'
  have lift : ∀ j, vt'.ownBlock = some j → vt.ownBlock = some j ∨ w.heap.size ≤ j := by
    intro j hj
    rcases hat with e | ⟨g, e, hgl⟩
    · left; rw [← e]; exact hj
    · right; rw [e] at hj; have : g = j := by simpa using hj
      omega
  have hne : ∀ j, vt'.ownBlock = some j → j ≠ h := by
    intro j hj e
    rcases lift j hj with h1 | h1
    · exact (H.ht j h1).1 e
    · omega
  refine ⟨hsame, H.low, (H.s.kp hK (fun j hj e => (H.hs j hj).2.1 e)).set_other (p := ⟨h, 1, none⟩) (fun j hj => (H.hs j hj).1) _, ?_, (H.a.kp hK (fun j hj e => (H.ht j e).2 hj)).set_other (p := ⟨h, 1, none⟩) (fun j hj => H.ha j hj) _, ?_, ?_, H.ha⟩
  · rw [nts_snoc] at hO
    exact hO.set_other (p := ⟨h, 1, none⟩) hne _
  · intro j hj
    refine ⟨(H.hs j hj).1, fun e => ?_, (H.hs j hj).2.2⟩
    rcases lift j e with h1 | h1
    · exact (H.hs j hj).2.1 h1
    · have := (H.s.lt j hj).2; omega
  · intro j hj
    refine ⟨hne j hj, fun e => ?_⟩
    rcases lift j hj with h1 | h1
    · exact (H.ht j h1).2 e
    · have := (H.a.lt j e).2; omega

theorem Hp.alloc {w : World} {base h n m : Nat} {vs vt va : Value} {S T : Nat → Nat} {Q : Nat → Int} (H : Hp w base h vs vt va n m S T Q) (o : Obj) : Hp (w.alloc o) base h vs vt va n m S T Q :=
  H.kp ((Kp.refl (fun _ => False) w).alloc o) (fun _ _ _ h => h)

theorem Sub.push {T T' : Nat → Nat} {m id : Nat} (h : Sub T' (m + 1) (up1 T m id) (m + 1)) : ∀ j, j < m + 1 → T' j = id ∨ ∃ k, k < m ∧ T' j = T k := by
  intro j hj
  obtain ⟨k, hk, e⟩ := h j hj
  by_cases e2 : k = m
  · subst e2; rw [up1_at] at e; exact .inl e
  · rw [up1_off _ _ e2] at e; exact .inr ⟨k, by omega, e⟩

theorem int_info : (Try.prog.info? 3).map (fun i => (i.zero, i.size, i.bytes)) = some (some (.int .i64 0), 1, 8) := by kernel_rfl

/-- what Push leaves -/
def PushPost (base h n m id : Nat) (S T : Nat → Nat) (w : World) (e : Ending) (w' : World) : Prop :=
  e = .returned (.int .i64 0) ∧ ∃ (T' : Nat → Nat) (Q' : Nat → Int), HOk w' base h n (m + 1) S T' Q' ∧ (∀ j, j < m + 1 → T' j = id ∨ ∃ k, k < m ∧ T' j = T k) ∧ Kp (fun j => base ≤ j) w w'

set_option maxRecDepth 100000 in
set_option maxHeartbeats 2000000 in
theorem heap_Push {w : World} {base h n m : Nat} {S T : Nat → Nat} {Q : Nat → Int} (HO : HOk w base h n m S T Q) (hn : n ≤ 1048576) (hm : m < 1048576) {id : Nat} (hid : id < n) (hq : Q id < 0) :
    Calls Try.prog 6 #[.pointer (some ⟨h, 0, none⟩), .int .i64 id] w (PushPost base h n m id S T w) := by
  obtain ⟨⟨vs, vt, va, H⟩, hI, hok⟩ := HO
  have HI := Lib.hid (hI.push hid hq)
  have HW := Lib.hid (push_weak (x := id) hok)
  clear hI hok
  obtain ⟨ga, ca, hva, hga, _⟩ := H.a.leads (by rw [zts_length]; omega)
  rw [zts_length] at hva
  subst hva
  obtain ⟨at_, ct, hvt⟩ := H.tform
  have hbl := H.blk.lt
  have hlow := H.low
  have c1 : w.cell? ⟨h, 1, none⟩ = some (.slice at_ m ct) := by rw [← hvt]; exact H.blk.cell (i := 1) rfl
  have c2 : w.cell? ⟨h, 2, none⟩ = some (.slice (some ⟨ga, 0, none⟩) n ca) := H.blk.cell (i := 2) rfl
  have ci := H.a.cell (zts_at hid)
  have fi := H.a.free id
  have i0 : (0 : Int) ≤ (id : Int) := by omega
  have i1 : (id : Int) < (n : Int) := by omega
  have g1 : decide ((0 : Int) ≤ Q id) = false := by simp; omega
  obtain ⟨qi, hqi⟩ : ∃ qi, Q id = qi := ⟨_, rfl⟩
  have H1 := Lib.hid (H.setA id (m : Int)).drew
  have HH := Lib.hid H
  have HVT := Lib.hid hvt
  have hK1 : Kp (fun j => base ≤ j) w (w.setCell ⟨ga, id, none⟩ (.int .i64 (m : Int))).drew := ((Kp.refl (fun j => base ≤ j) w).setCell (p := ⟨ga, id, none⟩) (fun _ => hga) _).drew
  have HK1 := Lib.hid hK1
  rw [hqi] at ci g1
  clear H hvt hK1 hqi hq
  go_enter Try.func6, Try.ntmps6
  go_wp2_with fail
  refine (heap_known HH.out hid).mono ?_
  rintro e w' ⟨rfl, rfl⟩
  go_wp2_with fail
  go_region
  clear c1 c2 ci fi
  all_goals generalize (w.setCell ⟨ga, id, none⟩ (.int .i64 (m : Int))).drew = w1 at *
  have c1 : w1.cell? ⟨h, 1, none⟩ = some (.slice at_ m ct) := by rw [← HVT.out]; exact H1.out.blk.cell (i := 1) rfl
  have hb1 := H1.out.blk.lt
  have hO := H1.out.t
  rw [HVT.out] at hO
  have HOw := Lib.hid hO; clear hO
  go_wp2_with (at_builtin; refine wpList_append1_at rfl _ _ 39 3 rfl Try.underlying39 int_info rfl (HOw.out.alloc _) rfl ⟨w1.heap.size, 0, none⟩ (.int .i64 id) rfl ?c1 rfl ?c2 ?c3 ?c4 ?_)
  case c1 => exact World.cell?_alloc_at _ _ _ _ rfl
  case c2 => rw [nts_length]; omega
  case c3 => rw [nts_length]; unfold maxLen; omega
  case c4 => simp; omega
  intro v' w2 hO2 hg2 hat2
  obtain ⟨av, cv, hav, _⟩ := hO2.form
  subst hav
  obtain ⟨lv, hlv⟩ : ∃ lv, lv = (nts T m ++ [Value.int .i64 (id : Int)]).length := ⟨_, rfl⟩
  rw [← hlv] at hO2 hat2 ⊢
  clear hlv
  obtain ⟨v', hv'⟩ : ∃ v', v' = Value.slice av lv cv := ⟨_, rfl⟩
  have HV := Lib.hid hv'
  rw [← hv'] at hO2 hat2
  clear hv'
  have HA := Lib.hid (H1.out.alloc (.cells #[.int .i64 (id : Int)] 3))
  have hP := Hp.pushT HA.out hO2 (by rw [HVT.out]; exact hg2) (by rw [HVT.out]; rcases hat2 with e | e; exact .inl e; exact .inr ⟨_, e, by simp⟩)
  have hK2 : Kp (fun j => base ≤ j) w w2 := (HK1.out.alloc _).grown hg2 (fun j hj _ => (HOw.out.lt j hj).1)
  have hK3 : Kp (fun j => base ≤ j) w (w2.setCell ⟨h, 1, none⟩ v') := hK2.setCell (p := ⟨h, 1, none⟩) (fun _ => hlow) _
  have hKg : Kp (fun j => (Value.slice at_ m ct).ownBlock = some j) (w1.alloc (.cells #[.int .i64 (id : Int)] 3)) w2 := (Kp.refl _ _).grown hg2 (fun j hj _ => hj)
  have hb2 := HA.out.blk.kp hKg (fun e => (HA.out.ht h (by rw [HVT.out]; exact e)).1 rfl)
  have c1 : w2.cell? ⟨h, 1, none⟩ = some vt := hb2.cell (i := 1) rfl
  have f1 : w2.frozen? ⟨h, 1, none⟩ = false := hb2.free 1
  rw [HVT.out] at c1
  have HP := Lib.hid hP
  have HK3 := Lib.hid hK3
  rw [HV.out] at HP HK3 hP
  have c2 : (w2.setCell ⟨h, 1, none⟩ (.slice av lv cv)).cell? ⟨h, 2, none⟩ = some (.slice (some ⟨ga, 0, none⟩) n ca) := hP.blk.cell (i := 2) rfl
  have ci : (w2.setCell ⟨h, 1, none⟩ (.slice av lv cv)).cell? ⟨ga, id, none⟩ = some (.int .i64 (m : Int)) := by have := hP.a.cell (zts_at hid); rw [up1_at] at this; exact this
  clear hP hK2 hK3 hKg hb2 hO2 hg2 hat2
  go_wp2_with fail
  refine (heap_up HP.out HI.out hn (by omega) (i := m) (by omega) HW.out.1).mono ?_
  rintro e w3 ⟨rfl, T', Q', j, H4, hI4, hSub, hj, hTj, hW4, hU4, hD4, hK4⟩
  have HEnd := Lib.hid (show ∃ (T' : Nat → Nat) (Q' : Nat → Int), HOk w3 base h n (m + 1) S T' Q' ∧ (∀ j, j < m + 1 → T' j = id ∨ ∃ k, k < m ∧ T' j = T k) ∧ Kp (fun j => base ≤ j) w w3 from
    ⟨T', Q', ⟨⟨_, _, _, H4⟩, hI4, ok_of hW4 hU4 (hD4 HW.out.2)⟩, Sub.push hSub, HK3.out.trans hK4 (fun _ _ h => h)⟩)
  clear H4 hI4 hSub hTj hW4 hU4 hD4 hK4
  go_wp2_with fail
  go_ret
  exact ⟨rfl, HEnd.out⟩

/-- what Set leaves -/
def SetPost (base h n m id x : Nat) (S T : Nat → Nat) (w : World) (e : Ending) (w' : World) : Prop :=
  e = .returned (.int .i64 0) ∧ ∃ (T' : Nat → Nat) (Q' : Nat → Int), HOk w' base h n m (up1 S id x) T' Q' ∧ Sub T' m T m ∧ Kp (fun j => base ≤ j) w w'

set_option maxRecDepth 100000 in
set_option maxHeartbeats 2000000 in
theorem heap_Set {w : World} {base h n m : Nat} {S T : Nat → Nat} {Q : Nat → Int} (HO : HOk w base h n m S T Q) (hn : n ≤ 1048576) (hm : m ≤ 1048576) {id : Nat} (hid : id < n) (x : Nat) :
    Calls Try.prog 7 #[.pointer (some ⟨h, 0, none⟩), .int .i64 id, .float .f64 x] w (SetPost base h n m id x S T w) := by
  obtain ⟨⟨vs, vt, va, H⟩, hI, hok⟩ := HO
  obtain ⟨gs, cs, hvs, hgs, _⟩ := H.s.leads (by rw [fls_length]; omega)
  rw [fls_length] at hvs
  subst hvs
  obtain ⟨ga, ca, hva, hga, _⟩ := H.a.leads (by rw [zts_length]; omega)
  rw [zts_length] at hva
  subst hva
  have c0 : w.cell? ⟨h, 0, none⟩ = some (.slice (some ⟨gs, 0, none⟩) n cs) := H.blk.cell (i := 0) rfl
  have ci := H.s.cell (fls_at hid)
  have fi := H.s.free id
  have i0 : (0 : Int) ≤ (id : Int) := by omega
  have i1 : (id : Int) < (n : Int) := by omega
  have H1 := H.setS id x
  have hK1 : Kp (fun j => base ≤ j) w (w.setCell ⟨gs, id, none⟩ (.float .f64 x)) := (Kp.refl (fun j => base ≤ j) w).setCell (p := ⟨gs, id, none⟩) (fun _ => hgs) _
  have c2 : (w.setCell ⟨gs, id, none⟩ (.float .f64 x)).cell? ⟨h, 2, none⟩ = some (.slice (some ⟨ga, 0, none⟩) n ca) := H1.blk.cell (i := 2) rfl
  have cq := H1.a.cell (zts_at hid)
  have HH := Lib.hid H; clear H
  have HH1 := Lib.hid H1; clear H1
  have HK1 := Lib.hid hK1; clear hK1
  have hst : ∀ (u : World) (a : Addr) (m : Mode), (store a (.float .f64 x) m).run Try.prog u = stored Try.prog u a (.float .f64 x) m := fun u a m => run_store _ u a _ m rfl
  have HI := Lib.hid hI
  rcases hI.there id hid with hq | ⟨i, hi, hq, hT⟩
  · have hend : ∃ (T' : Nat → Nat) (Q' : Nat → Int), HOk (w.setCell ⟨gs, id, none⟩ (.float .f64 x)) base h n m (up1 S id x) T' Q' ∧ Sub T' m T m ∧ Kp (fun j => base ≤ j) w (w.setCell ⟨gs, id, none⟩ (.float .f64 x)) :=
      ⟨T, Q, ⟨⟨_, _, _, HH1.out⟩, hI, ok_set_out hok hI (by omega)⟩, Sub.refl _ _, HK1.out⟩
    have HEnd := Lib.hid hend; clear hend
    rw [hq] at cq
    clear hok hI hq
    go_enter Try.func7, Try.ntmps7
    go_wp2_with fail
    refine (heap_known HH.out hid).mono ?_
    rintro e w' ⟨rfl, rfl⟩
    go_wp2_with fail
    go_ret
    exact ⟨rfl, HEnd.out⟩
  · have HW := Lib.hid (weak_set (x := x) hok hI hi)
    rw [hT] at HW
    have HT := Lib.hid hT
    rw [hq] at cq
    have g1 : decide ((0 : Int) ≤ (i : Int)) = true := by simp
    clear hok hI hq hT
    go_enter Try.func7, Try.ntmps7
    go_wp2_with fail
    refine (heap_known HH.out hid).mono ?_
    rintro e w' ⟨rfl, rfl⟩
    go_wp2_with fail
    refine (heap_up HH1.out HI.out hn hm hi HW.out).mono ?_
    rintro e w3 ⟨rfl, T', Q', j, H4, hI4, hSub, hj, hTj, hW4, hU4, hD4, hK4⟩
    have c2 : w3.cell? ⟨h, 2, none⟩ = some (.slice (some ⟨ga, 0, none⟩) n ca) := H4.blk.cell (i := 2) rfl
    have cq : w3.cell? ⟨ga, id, none⟩ = some (.int .i64 (j : Int)) := by
      have h1 := H4.a.cell (zts_at hid)
      have h2 := (hI4.here j hj).2
      rw [hTj, HT.out] at h2
      rw [h2] at h1
      exact h1
    have H4h := Lib.hid H4; clear H4
    have HR := Lib.hid (And.intro hI4 (And.intro hSub (And.intro hW4 (And.intro hU4 hK4))))
    clear hI4 hSub hTj hW4 hU4 hD4 hK4
    go_wp2_with fail
    refine (heap_down H4h.out HR.out.1 hn hm hj HR.out.2.2.1 HR.out.2.2.2.1).mono ?_
    rintro e w4 ⟨rfl, T5, Q5, H5, hI5, hSub5, hok5, hK5⟩
    have HEnd := Lib.hid (show ∃ (T' : Nat → Nat) (Q' : Nat → Int), HOk w4 base h n m (up1 S id x) T' Q' ∧ Sub T' m T m ∧ Kp (fun j => base ≤ j) w w4 from
      ⟨T5, Q5, ⟨⟨_, _, _, H5⟩, hI5, hok5⟩, Sub.trans hSub5 HR.out.2.1, (HK1.out.trans HR.out.2.2.2.2 (fun _ _ h => h)).trans hK5 (fun _ _ h => h)⟩)
    clear H5 hI5 hSub5 hok5 hK5
    go_wp2_with fail
    go_ret
    exact ⟨rfl, HEnd.out⟩

end Go.Proofs.Ytccdjjlbiibjgaa
