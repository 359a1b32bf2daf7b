/-
  latchetlaw18.lives.
-/
import Derived.Test.YtpejimlmokfppaaDoorWitSame
namespace Go.Proofs.YtpejimlmokfppaaDoor
open Go.RowKit Go.Shelf

def wlText : ByteArray := ⟨#[49, 10, 98, 48, 10, 48, 10, 49, 10, 46, 10]⟩
def wlD : WitD := ⟨1, 0, [false], [[true]]⟩
theorem wl_read : witT wlText 1 1 = .ok wlD := by kernel_rfl

/-- the literal that lives compares with -/
theorem wl_lit (w : World) : WitSl (((w.alloc (.cells #[.bool false] 4)).alloc (.cells #[.bool true] 4)).alloc (.cells #[.slice (some ⟨w.heap.size + 1, 0, none⟩) 1 1] 22))
    (.agg #[.int .i64 1, .int .i64 0, .slice (some ⟨w.heap.size, 0, none⟩) 1 1, .slice (some ⟨w.heap.size + 1 + 1, 0, none⟩) 1 1]) wlD := by
  have new : ∀ (u : World) (c : Array Value) (t : TypeId) (b : Nat), u.heap.size = b → Blk (u.alloc (.cells c t)) b c t := fun u c t b h => by subst h; exact Blk.new u c t
  have h0 : Blk (((w.alloc (.cells #[.bool false] 4)).alloc (.cells #[.bool true] 4)).alloc (.cells #[.slice (some ⟨w.heap.size + 1, 0, none⟩) 1 1] 22)) w.heap.size #[.bool false] 4 := ((new _ _ _ _ rfl).alloc _).alloc _
  have h1 : Blk (((w.alloc (.cells #[.bool false] 4)).alloc (.cells #[.bool true] 4)).alloc (.cells #[.slice (some ⟨w.heap.size + 1, 0, none⟩) 1 1] 22)) (w.heap.size + 1) #[.bool true] 4 := (new _ _ _ _ (by simp)).alloc _
  have h2 : Blk (((w.alloc (.cells #[.bool false] 4)).alloc (.cells #[.bool true] 4)).alloc (.cells #[.slice (some ⟨w.heap.size + 1, 0, none⟩) 1 1] 22)) (w.heap.size + 1 + 1) #[.slice (some ⟨w.heap.size + 1, 0, none⟩) 1 1] 22 := new _ _ _ _ (by simp)
  refine ⟨_, _, rfl, ⟨_, 1, rfl, Nat.le_refl _, by simp [maxLen], fun h => (by cases h), h0.rowAt (n := 1) rfl⟩, ⟨_, 1, rfl, Nat.le_refl _, by simp [maxLen], fun h => (by cases h), [.slice (some ⟨w.heap.size + 1, 0, none⟩) 1 1], h2.rowAt (n := 1) rfl, rfl, ?_⟩⟩
  intro k r x hr hx
  match k, hr, hx with
  | 0, hr, hx =>
    simp [wlD] at hr hx
    subst hr hx
    exact ⟨_, 1, rfl, Nat.le_refl _, by simp [maxLen], fun h => (by cases h), h1.rowAt (n := 1) rfl⟩
  | n + 1, hr, hx => simp at hr

theorem WitSl.kp {w w' : World} {v : Value} {d : WitD} (h : WitSl w v d) (k : Kp (fun _ => False) w w') : WitSl w' v d := by
  obtain ⟨v2, v3, rfl, h2, h3⟩ := h
  exact ⟨v2, v3, rfl, h2.kp k, h3.kp k⟩

set_option maxRecDepth 100000 in
set_option maxHeartbeats 4000000 in
theorem wit_lives (w : World) (hm : ML w) : Calls Tryd.prog 8 #[] w fun e w' => e = .returned (.bool true) ∧ Kp (fun _ => False) w w' := by
  have HRd := Lib.hid (wit_Read_any wlText 1 1 w (by decide) hm)
  rw [wl_read] at HRd
  unfold wlText at HRd
  clear hm
  go_enter Tryd.func8, Tryd.ntmps8
  go_wp2_with fail
  refine HRd.out.mono ?_
  rintro e w2 ⟨⟨v, rfl, hv⟩, hK⟩
  have HV := Lib.hid hv
  obtain ⟨v2, v3, rfl, ⟨a2, c2, rfl, _⟩, ⟨a3, c3, rfl, _⟩⟩ := hv
  have HK := Lib.hid hK
  clear hK
  have q := (Kp.refl (fun _ => False) w2).alloc (.cells #[.int .i64 1, .int .i64 0, .slice a2 1 c2, .slice a3 1 c3] 27)
  have hB := Blk.new w2 #[.int .i64 1, .int .i64 0, .slice a2 1 c2, .slice a3 1 c3] 27
  simp only [WitO.w, WitO.at_, WitO.e, wlD, List.length_cons, List.length_nil] at HV ⊢
  have hL := wl_lit (w2.alloc (.cells #[.int .i64 1, .int .i64 0, .slice a2 1 c2, .slice a3 1 c3] 27))
  rw [World.size_alloc] at hL
  have q4 := ((q.alloc (.cells #[.bool false] 4)).alloc (.cells #[.bool true] 4)).alloc (.cells #[.slice (some ⟨w2.heap.size + 1 + 1, 0, none⟩) 1 1] 22)
  have HSm := Lib.hid (ref18_Same (.agg #[.int .i64 1, .int .i64 0, .slice a2 1 c2, .slice a3 1 c3]) _ wlD _ (HV.out.kp q4) hL (by decide))
  have HK4 := Lib.hid (HK.out.trans q4 (fun _ _ h => h))
  clear hL q4 q
  go_wp2_with fail
  refine HSm.out.mono ?_
  rintro e w3 ⟨rfl, hK3⟩
  have HK5 := Lib.hid (HK4.out.trans hK3 (fun _ _ h => h))
  clear hK3
  go_wp2_with fail
  go_ret
  exact ⟨rfl, HK5.out⟩

end Go.Proofs.YtpejimlmokfppaaDoor
