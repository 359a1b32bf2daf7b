/-
  octet.Text, the reference's Text and Same: signs of truths.
-/
import Derived.Test.YtpejimlmokfppaaDoorOctBits2
namespace Go.Proofs.YtpejimlmokfppaaDoor
open Go.RowKit

def sign (b : Bool) : UInt8 := if b then 49 else 48
def signs (l : List Bool) : List UInt8 := l.map sign

/-- the truth at a place -/
def tb (l : List Bool) (k : Nat) : Bool := l[k]?.getD false
theorem tb_at {l : List Bool} {k : Nat} (h : k < l.length) : (l.map Value.bool)[k]? = some (.bool (tb l k)) := by
  simp [tb, List.getElem?_eq_getElem h]
theorem take_tb {l : List Bool} {k : Nat} (h : k < l.length) : l.take (k + 1) = l.take k ++ [tb l k] := by
  rw [List.take_add_one]; simp [tb, List.getElem?_eq_getElem h]

theorem signs_append (a b : List Bool) : signs (a ++ b) = signs a ++ signs b := by simp [signs]
theorem signs_succ {l : List Bool} {k : Nat} (h : k < l.length) : signs (l.take (k + 1)) = signs (l.take k) ++ [sign (tb l k)] := by
  rw [take_tb h, signs_append]; rfl
theorem signs_length (l : List Bool) : (signs l).length = l.length := by simp [signs]
theorem cells_one {l : List UInt8} {c : UInt8} {n : Int} (h : (c.toNat : Int) = n) : Lib.byteCells (l ++ [c]) = Lib.byteCells l ++ [.int .u8 n] := by
  rw [Lib.byteCells_append]; simp [Lib.byteCells, h]

set_option maxRecDepth 100000 in
set_option maxHeartbeats 1000000 in
theorem octet_Text (a : Option Addr) (l : List Bool) (cap : Nat) (w : World) (hr : RowAt w a (l.map Value.bool)) (hl : l.length ≤ 100000) :
    Calls Tryd.prog 21 #[.slice a l.length cap] w fun e w' => e = .returned (.string ⟨(signs l).toArray⟩) ∧ Kp (fun _ => False) w w' := by
  go_enter Tryd.func21, Tryd.ntmps21
  go_wp2_with fail
  go_loopw [8] (fun i wr => ∃ k : Nat, k ≤ l.length ∧ i = .int .i64 k ∧ Lib.IsBuilder 72 5 w.heap.size w.heap.size (Lib.byteCells (signs (l.take k))) wr ∧ Kp (fun _ => False) w wr) (fun i _ => l.length - (intOf i).toNat)
  case atStart => exact ⟨0, Nat.zero_le _, rfl, Lib.fresh_isBuilder _ _ _, (Kp.refl _ _).alloc _⟩
  case round =>
    obtain ⟨k, hk, rfl, hB, hK⟩ := hrel
    have hsz := hK.size
    have HLN := Lib.hid (show (Lib.byteCells (signs (l.take k))).length ≤ 100000 by rw [Lib.byteCells_length, signs_length, List.length_take]; omega)
    by_cases hlt : k < l.length
    · have hd : decide ((k : Int) < (l.length : Int)) = true := by simp; omega
      have HS := Lib.hid (signs_succ hlt)
      obtain ⟨b, off, rfl, hc⟩ := (hr.kp hK (fun _ _ h => h)) k _ (tb_at hlt)
      obtain ⟨x, hx⟩ : ∃ x, tb l k = x := ⟨_, rfl⟩
      rw [hx] at hc HS
      cases x
      · go_wp2_with fail
        refine (bld_byte _ _ _ 48 _ hB (by have := HLN.out; omega) hsz).mono ?_
        rintro e w1 ⟨rfl, hB1, hb1⟩
        have hB2 : Lib.IsBuilder 72 5 w.heap.size w.heap.size (Lib.byteCells (signs (l.take (k + 1)))) w1 := by rw [HS.out, cells_one (n := 48) rfl]; exact .inr hB1
        have hK1 : Kp (fun _ => False) w w1 := (Kp.below hK (Nat.le_refl _) (fun _ _ h => h)).trans hb1 |> fun h => Kp.of_below h _
        clear hB1 hb1 hB hK hc
        go_wp2_with fail
        refine ⟨⟨k + 1, by omega, by simp, hB2, hK1⟩, ?_⟩
        simp [intOf]; omega
      · go_wp2_with fail
        refine (bld_byte _ _ _ 49 _ hB (by have := HLN.out; omega) hsz).mono ?_
        rintro e w1 ⟨rfl, hB1, hb1⟩
        have hB2 : Lib.IsBuilder 72 5 w.heap.size w.heap.size (Lib.byteCells (signs (l.take (k + 1)))) w1 := by rw [HS.out, cells_one (n := 49) rfl]; exact .inr hB1
        have hK1 : Kp (fun _ => False) w w1 := (Kp.below hK (Nat.le_refl _) (fun _ _ h => h)).trans hb1 |> fun h => Kp.of_below h _
        clear hB1 hb1 hB hK hc
        go_wp2_with fail
        refine ⟨⟨k + 1, by omega, by simp, hB2, hK1⟩, ?_⟩
        simp [intOf]; omega
    · have hd : decide ((k : Int) < (l.length : Int)) = false := by simp; omega
      have HE := Lib.hid (show l.take k = l from List.take_of_length_le (by omega))
      go_wp2_with fail
      refine (Tryd.Builder_String_any _ _ _ _ hB hsz).mono ?_
      rintro e w1 ⟨rfl, hb1⟩
      rw [HE.out]
      go_wp2_with fail
      go_ret
      exact ⟨rfl, (Kp.below hK (Nat.le_refl _) (fun _ _ h => h)).trans hb1 |> fun h => Kp.of_below h _⟩

end Go.Proofs.YtpejimlmokfppaaDoor
