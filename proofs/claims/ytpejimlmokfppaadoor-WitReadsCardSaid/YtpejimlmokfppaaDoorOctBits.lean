/-
  octet.Bits and the reference's: truths of signs.
-/
import Derived.Test.YtpejimlmokfppaaDoorOctGet
import Derived.Test.YtpejimlmokfppaaDoorBuilder
namespace Go.Proofs.YtpejimlmokfppaaDoor
open Go.RowKit

def goodAt (s : ByteArray) (i : Nat) : Prop := bt s i = 48 ∨ bt s i = 49
instance (s : ByteArray) (i : Nat) : Decidable (goodAt s i) := by unfold goodAt; infer_instance
def bitAt (s : ByteArray) (i : Nat) : Bool := bt s i == 49
/-- the first k truths -/
def bitsL (s : ByteArray) (k : Nat) : List Bool := (List.range k).map (bitAt s)
def allGood (s : ByteArray) : Prop := ∀ i, i < s.size → goodAt s i
instance (s : ByteArray) : Decidable (allGood s) := by unfold allGood; infer_instance
def bitsR (s : ByteArray) : List Bool := if allGood s then bitsL s s.size else []
def bitsC (s : ByteArray) : Nat := if allGood s then 0 else 2
def bools (l : List Bool) : Array Value := (l.map Value.bool).toArray

theorem bitsL_succ (s : ByteArray) (k : Nat) : bitsL s (k + 1) = bitsL s k ++ [bitAt s k] := by simp [bitsL, List.range_succ]
theorem bitsL_length (s : ByteArray) (k : Nat) : (bitsL s k).length = k := by simp [bitsL]
theorem bools_get (l : List Bool) (i : Nat) : (bools l)[i]? = (l[i]?).map Value.bool := by simp [bools]
theorem bools_set (l : List Bool) (i : Nat) (x : Bool) : (bools l).setIfInBounds i (.bool x) = bools (l.set i x) := by simp [bools, List.map_set]

theorem made_bools (n : Nat) : madeCells #[.bool false] n = bools (List.replicate n false) := by
  apply Array.ext
  · simp [madeCells, bools]
  · intro i h1 h2
    simp [madeCells, bools, Nat.mod_one]

/-- a block of its own is owned -/
theorem own_bools {w : World} {b base : Nat} {l : List Bool} (h : Blk w b (bools l) 4) (hb : base ≤ b) (hl : l.length ≤ maxLen) :
    Own w base 4 (.slice (some ⟨b, 0, none⟩) l.length l.length) (l.map Value.bool) := by
  refine ⟨by simp, .inr ⟨b, l.length, bools l, by simp, hb, h, by simp, hl, by simp [bools], by simp [bools]; exact List.take_of_length_le (by simp)⟩⟩

/-- a sign that is none: not all are good -/
theorem notGood {s : ByteArray} {i : Nat} (h : i < s.size) (hb : ¬ goodAt s i) : bitsR s = [] ∧ bitsC s = 2 := by
  have : ¬ allGood s := fun hg => hb (hg i h)
  simp [bitsR, bitsC, this]

theorem isGood {s : ByteArray} (h : allGood s) : bitsR s = bitsL s s.size ∧ bitsC s = 0 := by simp [bitsR, bitsC, h]

theorem bits_step {s : ByteArray} {w wr : World} {k : Nat} {l : List Bool} {x : Bool} (hlt : k < s.size) (hl : l.length = s.size) (ht : l.take k = bitsL s k) (hg : ∀ j, j < k → goodAt s j) (hB : Blk wr w.heap.size (bools l) 4) (hK : Kp (fun _ => False) w wr) (hx : bitAt s k = x) (hk : goodAt s k) :
    ∃ (k1 : Nat) (l : List Bool), k1 ≤ s.size ∧ Value.int .i64 ((k : Int) + 1) = .int .i64 k1 ∧ l.length = s.size ∧ l.take k1 = bitsL s k1 ∧ (∀ j, j < k1 → goodAt s j) ∧ Blk (wr.setCell ⟨w.heap.size, k, none⟩ (.bool x)) w.heap.size (bools l) 4 ∧ Kp (fun _ => False) w (wr.setCell ⟨w.heap.size, k, none⟩ (.bool x)) := by
  refine ⟨k + 1, l.set k x, by omega, by simp, by simp [hl], ?_, fun j hj => ?_, ?_, hK.setCell (by simp) _⟩
  · rw [bitsL_succ, ← ht, hx, List.take_add_one, List.take_set_of_le (Nat.le_refl _), List.getElem?_set_self (by omega)]; rfl
  · by_cases e : j = k
    · subst e; exact hk
    · exact hg j (by omega)
  · rw [← bools_set]; exact hB.set_same k _

set_option maxHeartbeats 1000000 in
theorem octet_Bits (s : ByteArray) (w : World) (hs : s.size ≤ 100000) :
    Calls Tryd.prog 30 #[.string s] w fun e w' => ∃ v, e = .returned (.tuple #[v, .int .i64 (bitsC s)]) ∧ Own w' w.heap.size 4 v ((bitsR s).map Value.bool) ∧ Kp (fun _ => False) w w' := by
  obtain ⟨i0, hi, hz0, hz1, hz2⟩ := info_parts (show (Tryd.prog.info? 4).map (fun i => (i.zero, i.size, i.bytes)) = some (some (.bool false), 1, 1) by kernel_rfl)
  have hmk : ∀ u : World, (Instr.makeSlice 22 (.int .i64 (s.size : Int)) (.int .i64 (s.size : Int))).run Tryd.prog u =
      .ok (.slice (some ⟨u.heap.size, 0, none⟩) s.size s.size) (u.alloc (.cells (madeCells #[.bool false] s.size) 4)) := fun u => by
    have h := run_make (P := Tryd.prog) u 22 4 i0 (.bool false) Tryd.underlying22 hi hz0 .i64 .i64 (s.size : Int) (s.size : Int) (by omega) (Int.le_refl _) (by rw [hz2]; omega) (by omega)
    simpa [hz1, Value.cells] using h
  clear hi hz0 hz1 hz2 i0
  have hmade := made_bools s.size
  go_enter Tryd.func30, Tryd.ntmps30
  go_wp2_with fail
  go_loopw [11] (fun i wr => ∃ (k : Nat) (l : List Bool), k ≤ s.size ∧ i = .int .i64 k ∧ l.length = s.size ∧ l.take k = bitsL s k ∧ (∀ j, j < k → goodAt s j) ∧ Blk wr w.heap.size (bools l) 4 ∧ Kp (fun _ => False) w wr) (fun i _ => s.size - (intOf i).toNat)
  case atStart => exact ⟨0, List.replicate s.size false, Nat.zero_le _, rfl, by simp, by simp [bitsL], fun j hj => by omega, by rw [← hmade]; exact Blk.new _ _ _, (Kp.refl _ _).alloc _⟩
  case round =>
    obtain ⟨k, l, hk, rfl, hl, htk, hgd, hB, hK⟩ := hrel
    have HL := Lib.hid hl; clear hl
    have HT := Lib.hid htk; clear htk
    have HG := Lib.hid hgd; clear hgd
    clear hmade
    by_cases hlt : k < s.size
    · have hd : decide ((k : Int) < (s.size : Int)) = true := by simp; omega
      obtain ⟨x0, hx0⟩ : ∃ x0, l[k]? = some x0 := ⟨_, List.getElem?_eq_getElem (by rw [HL.out]; exact hlt)⟩
      have hc := hB.cell (i := k) (v := .bool x0) (by rw [bools_get, hx0]; rfl)
      have HX := Lib.hid hx0; clear hx0
      have hf := hB.free k
      have hb2 := bt_lt s k
      obtain ⟨b, hb0⟩ : ∃ b, b = bt s k := ⟨_, rfl⟩
      have hb := bt_eq hlt
      rw [← hb0] at hb2 hb
      have HB := Lib.hid hb0; clear hb0
      by_cases h1 : b = 49
      · subst h1
        go_wp2_with fail
        refine ⟨bits_step hlt HL.out HT.out HG.out hB hK (by simp [bitAt, ← HB.out]) (by unfold goodAt; exact .inr HB.out.symm), ?_⟩
        simp [intOf]; omega
      · by_cases h0 : b = 48
        · subst h0
          go_wp2_with fail
          refine ⟨bits_step hlt HL.out HT.out HG.out hB hK (by simp [bitAt, ← HB.out]) (by unfold goodAt; exact .inl HB.out.symm), ?_⟩
          simp [intOf]; omega
        · have h1i : ¬ (b : Int) = 49 := by omega
          have h0i : ¬ (b : Int) = 48 := by omega
          have HN := Lib.hid (notGood hlt (by unfold goodAt; rw [← HB.out]; omega))
          go_wp2_with fail
          case roundEnd => rename_i hx; exfalso; simp at hx; omega
          go_ret2
          rw [HN.out.1, HN.out.2]
          exact ⟨_, rfl, Own.nil _ _ _, hK.setCell (by simp) _⟩
    · have hd : decide ((k : Int) < (s.size : Int)) = false := by simp; omega
      have ek : k = s.size := by omega
      have HI := Lib.hid (isGood (s := s) (fun i hi => HG.out i (by omega)))
      go_wp2_with fail
      go_ret2
      have e : l = bitsL s s.size := by rw [← ek, ← HT.out, List.take_of_length_le (by rw [HL.out]; omega)]
      rw [HI.out.1, HI.out.2, ← e]
      refine ⟨_, rfl, ?_, hK⟩
      have := own_bools hB (Nat.le_refl _) (by rw [HL.out]; unfold maxLen; omega)
      rw [HL.out] at this
      exact this

end Go.Proofs.YtpejimlmokfppaaDoor
