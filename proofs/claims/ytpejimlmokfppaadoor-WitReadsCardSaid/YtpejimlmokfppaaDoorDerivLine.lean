/-
  deriv.line.
-/
import Derived.Test.YtpejimlmokfppaaDoorDerivWalk
namespace Go.Proofs.YtpejimlmokfppaaDoor
open Go.RowKit

theorem two_blocks (w : World) (c0 c1 : Array Value) (t : TypeId) : Blk ((w.alloc (.cells c0 t)).alloc (.cells c1 t)) w.heap.size c0 t ∧ Blk ((w.alloc (.cells c0 t)).alloc (.cells c1 t)) (w.heap.size + 1) c1 t ∧ Kp (fun _ => False) w ((w.alloc (.cells c0 t)).alloc (.cells c1 t)) := by
  refine ⟨(Blk.new w c0 t).alloc _, ?_, ((Kp.refl _ _).alloc _).alloc _⟩
  have := Blk.new (w.alloc (.cells c0 t)) c1 t
  rw [World.size_alloc] at this
  exact this

theorem sgn_data (f : Bool) : (sgn f).data.toList = [sgb f] := by cases f <;> rfl

theorem has_sign {s : ByteArray} {f : Bool} {r : List UInt8} (h : s.data.toList = sgb f :: r) : Lib.hasPrefix s.data.toList [45] = f := by
  cases f with
  | false =>
    refine has_not ?_
    rintro ⟨r', h'⟩
    rw [h] at h'
    simp [sgb] at h'
  | true => exact (has_one s 45).2 ⟨r, h⟩

theorem not_empty {s : ByteArray} (h : s.size ≠ 0) : ¬ s.toList = [] ∧ s.toList.isEmpty = false ∧ (!s.toList.isEmpty) = true := by
  have h1 : ¬ s.toList = [] := fun e => h (nil_toList e)
  have h2 : s.toList.isEmpty = false := by cases hl : s.toList with
    | nil => exact absurd hl h1
    | cons a r => rfl
  exact ⟨h1, h2, by rw [h2]; rfl⟩

theorem is_empty {s : ByteArray} (h : s.size = 0) : s.toList = [] ∧ s.toList.isEmpty = true ∧ (!s.toList.isEmpty) = false := by
  have h1 := toList_nil h
  exact ⟨h1, by rw [h1]; rfl, by rw [h1]; rfl⟩

theorem cut_blank {rest : ByteArray} {r : List UInt8} (h : rest.data.toList = 32 :: r) (u : World) : Calls Tryd.prog 28 #[.string rest, .string ⟨#[32]⟩] u fun e w' => e = .returned (.tuple #[.string ⟨r.toArray⟩, .bool true]) ∧ w' = u := by
  have HC := Tryd.strings_CutPrefix rest ⟨#[32]⟩ u
  rw [show (⟨#[32]⟩ : ByteArray).data.toList = [32] from rfl, (has_one rest 32).2 ⟨r, h⟩, trim_one h] at HC
  exact HC

theorem cut_noblank {rest : ByteArray} (h : ¬ ∃ r, rest.data.toList = 32 :: r) (u : World) : Calls Tryd.prog 28 #[.string rest, .string ⟨#[32]⟩] u fun e w' => e = .returned (.tuple #[.string rest, .bool false]) ∧ w' = u := by
  have HC := Tryd.strings_CutPrefix rest ⟨#[32]⟩ u
  rw [show (⟨#[32]⟩ : ByteArray).data.toList = [32] from rfl, has_not h] at HC
  have e : (⟨(Lib.trimPrefix rest.data.toList [32]).toArray⟩ : ByteArray) = rest := by
    apply ba_ext
    unfold Lib.trimPrefix
    rw [has_not h]; rfl
  rw [e] at HC
  exact HC

end Go.Proofs.YtpejimlmokfppaaDoor
