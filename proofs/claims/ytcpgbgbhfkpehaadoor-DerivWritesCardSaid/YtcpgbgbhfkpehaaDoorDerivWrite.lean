/-
  clause.Text.
-/
import Derived.Test.YtcpgbgbhfkpehaaDoorLit
import Derived.Test.YtcpgbgbhfkpehaaDoorDerivRead
import Derived.Test.YtcpgbgbhfkpehaaDoorBuilder2
import Derived.Test.YtcpgbgbhfkpehaaDoorOctText
namespace Go.Proofs.YtcpgbgbhfkpehaaDoor
open Go.RowKit

def ltxt (l : Int) : ByteArray := ⟨(litText l).toArray⟩

theorem join_jn : ∀ xs : List (List UInt8), Lib.join xs [32] = jn xs
  | [] => rfl
  | a :: r => by
    rw [jn_flat, Lib.join_cons]
    unfold Lib.joinTail
    rw [List.flatMap]
    rfl

theorem jn_len : ∀ {xs : List (List UInt8)} {m : Nat}, (∀ x ∈ xs, x.length ≤ m) → (jn xs).length ≤ (m + 1) * xs.length
  | [], m, _ => by simp [jn]
  | a :: r, m, h => by
    rw [jn_flat, List.length_append, List.length_cons]
    have h1 := h a (by simp)
    have h2 : ∀ (r : List (List UInt8)), (∀ x ∈ r, x.length ≤ m) → (r.flatMap (fun x => 32 :: x)).length ≤ (m + 1) * r.length := by
      intro r
      induction r with
      | nil => intro _; simp
      | cons b r ih =>
        intro h
        have h3 := h b (by simp)
        have h4 := ih (fun x hx => h x (by simp [hx]))
        rw [List.flatMap_cons, List.length_append, List.length_cons, List.length_cons, Nat.mul_succ]
        omega
    have := h2 r (fun x hx => h x (by simp [hx]))
    rw [Nat.mul_succ]; omega

theorem made_strs (n : Nat) : madeCells #[.string .empty] n = (strs (List.replicate n .empty)).toArray := by
  apply Array.ext
  · simp [madeCells, strs]
  · intro i h1 h2
    simp [madeCells, strs, Nat.mod_one]

theorem strs_set (L : List ByteArray) (k : Nat) (x : ByteArray) : (strs L).toArray.setIfInBounds k (.string x) = (strs (L.set k x)).toArray := by simp [strs, List.map_set]
theorem strs_at {L : List ByteArray} {k : Nat} {x : ByteArray} (h : L[k]? = some x) : (strs L).toArray[k]? = some (.string x) := by simp [strs, h]

set_option maxRecDepth 100000 in
set_option maxHeartbeats 2000000 in
theorem clause_Text (a : Option Addr) (cap : Nat) (l : List Int) (n : Nat) (w : World) (hr : IntsAt w a l) (hln : l.length = n) (hn : n ≤ 100000) (ht : Tab w) :
    Calls Tryd.prog 110 #[.slice a n cap] w fun e w' => e = .returned (.string ⟨(jn (l.map litText)).toArray⟩) ∧ Kp (fun _ => False) w w' := by
  obtain ⟨i0, hi, hz0, hz1, hz2⟩ := info_parts strInfo
  have hmk : ∀ u : World, (Instr.makeSlice 152 (.int .i64 (n : Int)) (.int .i64 (n : Int))).run Tryd.prog u =
      .ok (.slice (some ⟨u.heap.size, 0, none⟩) n n) (u.alloc (.cells (madeCells #[.string .empty] n) 9)) := fun u => by
    have h := run_make (P := Tryd.prog) u 152 9 i0 (.string .empty) Tryd.underlying152 hi hz0 .i64 .i64 (n : Int) (n : Int) (by omega) (Int.le_refl _) (by rw [hz2]; omega) (by omega)
    simpa [hz1, Value.cells] using h
  clear hi hz0 hz1 hz2 i0
  have hmade := Lib.hid (made_strs n)
  have HT := Lib.hid ht; clear ht
  have HR := Lib.hid hr; clear hr
  have HLN := Lib.hid hln; clear hln
  go_enter Tryd.func110, Tryd.ntmps110
  go_wp2_with fail
  go_loopw [11] (fun i wr => ∃ (k : Nat) (L : List ByteArray), k ≤ n ∧ i = .int .i64 k ∧ L.length = n ∧ (∀ j, j < k → L[j]? = some (ltxt (gi l j))) ∧ Blk wr w.heap.size (strs L).toArray 9 ∧ Kp (fun _ => False) w wr) (fun i _ => n - (intOf i).toNat)
  case atStart => exact ⟨0, List.replicate n .empty, Nat.zero_le _, rfl, by simp, fun j hj => by omega, by rw [← hmade.out]; exact Blk.new _ _ _, (Kp.refl _ _).alloc _⟩
  case round =>
    obtain ⟨k, L, hk, rfl, hL, hJ, hB, hK⟩ := hrel
    have HL := Lib.hid hL; clear hL
    have HJ := Lib.hid hJ; clear hJ
    have HB := Lib.hid hB; clear hB
    by_cases hlt : k < n
    · have hd : decide ((k : Int) < (n : Int)) = true := by simp; omega
      obtain ⟨b, off, rfl, hc⟩ := (show IntsAt wr a l from HR.out.kp hK (fun _ _ h => h)).get (j := k) (by rw [HLN.out]; exact hlt)
      obtain ⟨x, hx⟩ : ∃ x, gi l k = x := ⟨_, rfl⟩
      rw [hx] at hc
      have HX := Lib.hid hx; clear hx
      have HTx := Lib.hid (lit_Text x wr (HT.out.kp hK))
      obtain ⟨x0, hx0⟩ : ∃ x0, L[k]? = some x0 := ⟨_, List.getElem?_eq_getElem (by rw [HL.out]; exact hlt)⟩
      have HX0 := Lib.hid hx0; clear hx0
      go_wp2_with fail
      refine HTx.out.mono ?_
      rintro e w2 ⟨rfl, hK2⟩
      have hB2 := HB.out.kp hK2 (fun h => h)
      have hK3 := hK.trans hK2 (fun _ _ h => h)
      have c0 := hB2.cell (i := k) (strs_at HX0.out)
      have f0 := hB2.free k
      have HRel := Lib.hid (show ∃ (k' : Nat) (L : List ByteArray), k' ≤ n ∧ Value.int .i64 ((k : Int) + 1) = .int .i64 k' ∧ L.length = n ∧ (∀ j, j < k' → L[j]? = some (ltxt (gi l j))) ∧ Blk (w2.setCell ⟨w.heap.size, k, none⟩ (.string ⟨(litText x).toArray⟩)) w.heap.size (strs L).toArray 9 ∧ Kp (fun _ => False) w (w2.setCell ⟨w.heap.size, k, none⟩ (.string ⟨(litText x).toArray⟩)) from
        ⟨k + 1, L.set k (ltxt x), by omega, by go_num, by rw [List.length_set, HL.out], fun j hj => by
            by_cases e : j = k
            · subst e; rw [List.getElem?_set_self (by rw [HL.out]; exact hlt), HX.out]
            · rw [List.getElem?_set_ne (fun h => e h.symm)]; exact HJ.out j (by omega),
          by rw [← strs_set]; exact hB2.set_same k _, hK3.setCell (p := ⟨w.heap.size, k, none⟩) (by simp) _⟩)
      clear hB2 hK2 hK3
      go_wp2_with fail
      go_roundw
      case rel => exact HRel.out
      case measure => simp [intOf]; omega
    · have hd : decide ((k : Int) < (n : Int)) = false := by simp; omega
      have e : L = l.map ltxt := by
        apply List.ext_getElem?
        intro j
        by_cases hj : j < n
        · rw [HJ.out j (by omega), List.getElem?_map]
          have hj2 : j < l.length := by rw [HLN.out]; exact hj
          rw [List.getElem?_eq_getElem hj2]
          simp [gi, List.getElem?_eq_getElem hj2]
        · rw [List.getElem?_eq_none (by rw [HL.out]; omega), List.getElem?_eq_none (by rw [List.length_map, HLN.out]; omega)]
      subst e
      have ej : (l.map ltxt).map (·.data.toList) = l.map litText := by rw [List.map_map]; apply List.map_congr_left; intro z _; simp [ltxt]
      have hlt2 : w.heap.size < wr.heap.size := HB.out.lt
      have HJn := Lib.hid (Tryd.strings_Join w.heap.size 0 n (l.map ltxt) ⟨#[32]⟩ wr (fun j x hx => by rw [Nat.zero_add]; exact HB.out.cell (strs_at hx)) hlt2 (by rw [List.length_map, HLN.out]; omega) (by rw [List.length_map, HLN.out]; exact Nat.le_refl _)
        (by rw [ej, show (⟨#[32]⟩ : ByteArray).data.toList = [32] from rfl, join_jn]; have := jn_len (xs := l.map litText) (m := 23) (fun x hx => by obtain ⟨z, _, rfl⟩ := List.mem_map.1 hx; exact litSize z); rw [List.length_map, HLN.out] at this; omega))
      rw [ej, show (⟨#[32]⟩ : ByteArray).data.toList = [32] from rfl, join_jn, List.length_map, HLN.out] at HJn
      go_wp2_with fail
      refine HJn.out.mono ?_
      rintro e w2 ⟨rfl, hb⟩
      have hend := hK.trans (Kp.of_below hb (fun _ => False)) (fun _ _ h => h)
      go_wp2_with fail
      go_ret
      exact ⟨rfl, hend⟩

end Go.Proofs.YtcpgbgbhfkpehaaDoor
