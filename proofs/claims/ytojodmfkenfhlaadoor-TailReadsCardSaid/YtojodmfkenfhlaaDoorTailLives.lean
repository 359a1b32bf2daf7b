/-
  tail.Write at one symbol; latchetlaw12.lives.
-/
import Derived.Test.YtojodmfkenfhlaaDoorTailRef2
import Derived.Test.YtojodmfkenfhlaaDoorOctLives
import Derived.Test.YtojodmfkenfhlaaDoorBuilder2
import Derived.Deep.RegionWith
namespace Go.Proofs.YtojodmfkenfhlaaDoor
open Go.RowKit

def lifeText : ByteArray := ⟨#[105, 48, 32, 120, 10, 99, 10, 104, 101, 108, 108, 111]⟩
def lifeSym : Sym := ⟨105, 0, ⟨#[120]⟩⟩

theorem Tab.below {w w' : World} {B : Nat} (h : Tab w) (hB : w.heap.size ≤ B) (k : Below B w w') : Tab w' :=
  h.kp ⟨k.os, k.tape, k.output, k.size, fun j hj _ => k.block j (by omega)⟩

theorem isb_kp {T e : TypeId} {B b : Nat} {bs : List Value} {w w' : World} (h : Lib.IsBuilder T e B b bs w) (k : Kp (fun _ => False) w w') : Lib.IsBuilder T e B b bs w' := by
  have go : ∀ p, Lib.BuilderAt T e B b p bs w → Lib.BuilderAt T e B b p bs w' := by
    rintro p ⟨hB, v, hb, hown, hne⟩
    exact ⟨hB, v, (k.block b (Array.getElem?_eq_some_iff.1 hb).1 (fun h => h)).trans hb, Own.kp (cs := bs) hown k (fun _ _ h => h), hne⟩
  rcases h with h | h
  · exact .inl (go _ h)
  · exact .inr (go _ h)

set_option maxRecDepth 100000 in
set_option maxHeartbeats 4000000 in
theorem tail_Write_life (a : Option Addr) (cap : Nat) (w : World) (hr : RowAt w a ([lifeSym].map symCells).flatten) (ht : Tab w) :
    Calls Tryd.prog 59 #[.slice a 1 cap, .string ⟨#[104, 101, 108, 108, 111]⟩] w fun e w' => e = .returned (.string lifeText) ∧ Kp (fun _ => False) w w' := by
  have HT := Lib.hid ht; clear ht
  have hr1 := hr.kp ((Kp.refl (fun _ => False) w).alloc (.cells #[.pointer none, .slice none 0 0] 93)) (fun _ _ h => h)
  obtain ⟨b, off, rfl, h0, h1, h2⟩ := sy_cells hr1 (k := 0) (by simp)
  clear hr hr1
  simp only [sy, List.getElem?_cons_zero, Option.getD_some, Nat.zero_mul, Nat.add_zero, lifeSym] at h0 h1 h2
  have HB := Lib.hid (Lib.fresh_isBuilder 93 5 w)
  have HB1 := Lib.hid (isb_kp HB.out ((Kp.refl _ _).alloc (.cells #[.int .u8 105, .int .i64 0, .string ⟨#[120]⟩] 100)))
  have HX1 := Lib.hid (Blk.new (w.alloc (.cells #[.pointer none, .slice none 0 0] 93)) #[.int .u8 105, .int .i64 0, .string ⟨#[120]⟩] 100)
  rw [World.size_alloc] at HX1
  clear HB
  go_enter Tryd.func59, Tryd.ntmps59
  go_wp2_with fail
  refine wp_loop_rounds 2 ?_
  rw [rounds_succ]
  go_wp2_with fail
  refine (bld_byteK _ _ _ 105 _ HB1.out (by simp) (by simp; omega)).mono ?_
  rintro e w2 ⟨rfl, hB2, hb2, hk2⟩
  have hX2 := HX1.out.kp hk2 (BFr.not HX1.out (by omega) (by decide))
  have hbw2 : Below w.heap.size w w2 := (((Below.refl _ w).alloc (Nat.le_refl _) _).alloc (by simp) _).trans hb2
  have HT2 : Hid (Tab w2.drew) := (HT.out.below (Nat.le_refl _) hbw2).kp ((Kp.refl _ _).drew)
  have HDec := Lib.hid (octet_Dec 0 w2.drew (by decide) (by decide) HT2.out)
  rw [show (⟨(Lib.itoa 0).toArray⟩ : ByteArray) = ⟨#[48]⟩ by decide +kernel] at HDec
  have hsz2 : w.heap.size + 1 < w2.heap.size := hX2.lt
  have x1 := hX2.cell (i := 1) rfl
  have x2 := hX2.cell (i := 2) rfl
  have HB2 : Hid (Lib.IsBuilder 93 5 w.heap.size w.heap.size ([] ++ [.int .u8 105]) w2) := .inr hB2
  have HBW2 := Lib.hid hbw2
  have HX2 := Lib.hid hX2
  clear HB1 HX1 hB2 hb2 hk2 hbw2 hX2
  go_wp2_with fail
  go_region_with (first | (go_at_call 15; refine HDec.out.mono ?_; rintro e w3 ⟨rfl, hK3⟩; have hX3 := HX2.out.drew.kp hK3 (fun h => h); have y1 := hX3.cell (i := 1) rfl; have y2 := hX3.cell (i := 2) rfl; have HB3 : Hid (Lib.IsBuilder 93 5 w.heap.size w.heap.size ([] ++ [.int .u8 105]) w3) := isb_kp (w := w2.drew) HB2.out hK3; have HBW3 : Hid (Below w.heap.size w w3) := Below.trans (b := w2.drew) HBW2.out.drew (hK3.below (by have := HBW2.out.size; exact this) (fun _ _ h => h)); clear hX3) | (go_at_call 81; refine (bld_stringK w.heap.size w.heap.size _ _ _ HB3.out (by decide +kernel) HBW3.out.size).mono ?_; rintro e w4 ⟨rfl, hB4, hb4, hk4⟩))
  all_goals
    have HB4 : Hid (Lib.IsBuilder 93 5 w.heap.size w.heap.size ([] ++ [.int .u8 105] ++ Lib.strCells (⟨#[48]⟩ ++ ⟨#[32]⟩ ++ ⟨#[120]⟩ ++ ⟨#[10]⟩)) w4) := .inr hB4
    have hbw4 := HBW3.out.trans hb4
    have hsz4 := hbw4.size
    clear hB4 hb4 hk4 hK3 HB3 HBW3 y1 y2
    go_wp2_with fail
    rw [rounds_succ]
    go_wp2_with fail
    refine (bld_stringK _ _ _ _ _ HB4.out (by decide +kernel) hsz4).mono ?_
    rintro e w5 ⟨rfl, hB5, hb5, hk5⟩
    have HB5 : Hid (Lib.IsBuilder 93 5 w.heap.size w.heap.size (Lib.byteCells [105, 48, 32, 120, 10, 99, 10, 104, 101, 108, 108, 111]) w5) := .inr hB5
    have hbw5 := hbw4.trans hb5
    have hsz5 := hbw5.size
    clear hB5 hb5 hk5
    go_wp2_with fail
    refine (Tryd.Builder_String_any _ _ _ _ HB5.out hsz5).mono ?_
    rintro e w6 ⟨rfl, hb6⟩
    have hend : Kp (fun _ => False) w w6 := Kp.of_below (hbw5.trans hb6) _
    go_wp2_with fail
    go_ret
    exact ⟨rfl, hend⟩

theorem life_read : readT ⟨false, 0, 1, 0, 0, 0, 0, 0⟩ lifeText 0 = ⟨[lifeSym], ⟨#[104, 101, 108, 108, 111]⟩, 12, 0⟩ := by kernel_rfl

set_option maxRecDepth 100000 in
set_option maxHeartbeats 1000000 in
theorem tail_lives (w : World) (ht : Tab w) : Calls Tryd.prog 29 #[] w fun e w' => e = .returned (.bool true) ∧ Kp (fun _ => False) w w' := by
  have HT := Lib.hid ht; clear ht
  have HRd := Lib.hid (tail_Read ⟨false, 0, 1, 0, 0, 0, 0, 0⟩ lifeText 0 w (by decide))
  rw [life_read] at HRd
  unfold hdV lifeText at HRd
  simp only at HRd
  go_enter Tryd.func29, Tryd.ntmps29
  go_wp2_with fail
  refine HRd.out.mono ?_
  rintro e w2 ⟨v, rfl, hO, hK⟩
  obtain ⟨a, cap, rfl, _, _, _, _, hr⟩ := hO.form
  simp only [List.map_cons, List.map_nil, List.length_cons, List.length_nil, Nat.zero_add]
  have HR := Lib.hid hr
  have hr1 : RowAt (w2.alloc (.cells #[.int .u8 105, .int .i64 0, .string ⟨#[120]⟩] 100)) a ([lifeSym].map symCells).flatten := hr.kp ((Kp.refl (fun _ => False) w2).alloc _) (fun _ _ h => h)
  have hr2 : RowAt (w2.alloc (.cells #[.int .u8 105, .int .i64 0, .string ⟨#[120]⟩] 100)) (some ⟨w2.heap.size, 0, none⟩) ([lifeSym].map symCells).flatten :=
    (Blk.new w2 #[.int .u8 105, .int .i64 0, .string ⟨#[120]⟩] 100).rowAt (n := 3) rfl
  have HSm := Lib.hid (ref12_Same a (some ⟨w2.heap.size, 0, none⟩) [lifeSym] 1 cap 1 _ hr1 hr2 rfl (by decide))
  have HW := Lib.hid (fun q => tail_Write_life a cap ((w2.alloc (.cells #[.int .u8 105, .int .i64 0, .string ⟨#[120]⟩] 100)).drewN q) (hr1.drewN q) (HT.out.kp ((hK.alloc _).drewN q)))
  unfold lifeText at HW
  clear hr hr1 hr2 hO
  go_wp2_with fail
  refine HSm.out.mono ?_
  rintro e w' ⟨rfl, q, rfl⟩
  have hK3 := (hK.alloc (.cells #[.int .u8 105, .int .i64 0, .string ⟨#[120]⟩] 100)).drewN q
  go_wp2_with fail
  refine (HW.out q).mono ?_
  rintro e w4 ⟨rfl, hK4⟩
  have hend := hK3.trans hK4 (fun _ _ h => h)
  go_wp2_with fail
  go_ret
  exact ⟨rfl, hend⟩

end Go.Proofs.YtojodmfkenfhlaaDoor
