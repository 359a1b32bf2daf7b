/-
  octet.Words, the reference's Words and Strings.
-/
import Derived.Test.YtpejimlmokfppaaDoorLineWalk
import Derived.Deep.QuietTactic
import Derived.BigQuiet
namespace Go.Proofs.YtpejimlmokfppaaDoor
open Go.RowKit

theorem bt_is {s : ByteArray} {i : Nat} {c : UInt8} : s.data.toList[i]? = some c ↔ i < s.size ∧ bt s i = c.toNat := by
  constructor
  · intro h
    have hi : i < s.data.toList.length := (List.getElem?_eq_some_iff.1 h).1
    have hi' : i < s.size := by simpa using hi
    refine ⟨hi', ?_⟩
    rw [← bt_eq hi']
    have h2 := (List.getElem?_eq_some_iff.1 h).2
    have : s[i] = c := h2
    rw [this]
  · rintro ⟨hi, hb⟩
    rw [List.getElem?_eq_getElem (by simpa using hi)]
    rw [← bt_eq hi] at hb
    have : s[i] = c := UInt8.toNat_inj.1 hb
    exact congrArg some this

def mkW (l : List UInt8) : List ByteArray := (wordsF l).map (fun x => (⟨x.toArray⟩ : ByteArray))
def wordsB (s : ByteArray) : List ByteArray := mkW s.data.toList
def noBlank (s : ByteArray) (a b : Nat) : Prop := ∀ j, a ≤ j → j < b → bt s j ≠ 32

theorem mk_data (b : ByteArray) : (⟨b.data.toList.toArray⟩ : ByteArray) = b := by apply ByteArray.ext; simp

theorem noBlank_piece {s : ByteArray} {a b : Nat} (hn : noBlank s a b) : ∀ x ∈ (s.data.toList.drop a).take (b - a), x ≠ 32 := by
  intro x hx h32
  obtain ⟨k, hk⟩ := List.mem_iff_getElem?.1 hx
  rw [List.getElem?_take] at hk
  split at hk
  · rw [List.getElem?_drop, h32] at hk
    exact hn (a + k) (by omega) (by omega) (bt_is.1 hk).2
  · cases hk

theorem words_blank {s : ByteArray} {a k : Nat} (h1 : a ≤ k) (h2 : k < s.size) (hb : bt s k = 32) (hn : noBlank s a k) :
    mkW (s.data.toList.drop a) = s.extract a k :: mkW (s.data.toList.drop (k + 1)) := by
  have hk : s.data.toList[k]? = some 32 := bt_is.2 ⟨h2, hb⟩
  have hlt : k < s.data.toList.length := (List.getElem?_eq_some_iff.1 hk).1
  have hv := (List.getElem?_eq_some_iff.1 hk).2
  have e : s.data.toList.drop a = (s.data.toList.drop a).take (k - a) ++ 32 :: s.data.toList.drop (k + 1) := by
    conv => lhs; rw [← List.take_append_drop (k - a) (s.data.toList.drop a)]
    rw [List.drop_drop, show a + (k - a) = k by omega, List.drop_eq_getElem_cons hlt, hv]
  unfold mkW
  rw [e, words_app _ (noBlank_piece hn), List.map_cons]
  congr 1
  rw [← Lib.extract_data, mk_data]

theorem words_end {s : ByteArray} {a : Nat} (hn : noBlank s a s.size) : mkW (s.data.toList.drop a) = [s.extract a s.size] := by
  have e : s.data.toList.drop a = (s.data.toList.drop a).take (s.size - a) := by
    rw [List.take_of_length_le (by rw [List.length_drop]; exact Nat.le_refl _)]
  unfold mkW
  rw [e, words_none (noBlank_piece hn), ← Lib.extract_data, List.map_cons, mk_data]; rfl

/-- the strings as cells -/
def strs (L : List ByteArray) : List Value := L.map Value.string

theorem splitB_words (s : ByteArray) : Lib.splitB ⟨#[32]⟩ 0 (Lib.countB s ⟨#[32]⟩) s = wordsB s := by
  have h := Lib.splitB_data ⟨#[32]⟩ 0 (Lib.countB s ⟨#[32]⟩) s
  have h2 := split_words _ s.data.toList (Nat.le_refl _)
  have h3 : (Lib.splitB ⟨#[32]⟩ 0 (Lib.countB s ⟨#[32]⟩) s).map (·.data.toList) = wordsF s.data.toList := h.trans h2
  unfold wordsB mkW
  rw [← h3, List.map_map]
  conv => lhs; rw [← List.map_id (Lib.splitB ⟨#[32]⟩ 0 (Lib.countB s ⟨#[32]⟩) s)]
  apply List.map_congr_left
  intro b _
  exact (mk_data b).symm

theorem count_words (s : ByteArray) : Lib.countB s ⟨#[32]⟩ + 1 = (wordsB s).length := by
  rw [← splitB_words]
  exact (Lib.splitB_all ⟨#[32]⟩ (by decide) 0 _ s rfl).symm

theorem count_le (s : ByteArray) : Lib.countB s ⟨#[32]⟩ ≤ s.size := Lib.countB_le ⟨#[32]⟩ (by decide) s.size s (Nat.le_refl _)

/-- a block of strings of its own is owned -/
theorem own_strs {w : World} {b base : Nat} {L : List ByteArray} (h : Blk w b (strs L).toArray 9) (hb : base ≤ b) (hl : L.length ≤ maxLen) :
    Own w base 9 (.slice (some ⟨b, 0, none⟩) L.length L.length) (strs L) := by
  refine ⟨by simp [strs], .inr ⟨b, L.length, (strs L).toArray, by simp [strs], hb, h, by simp [strs], hl, by simp [strs], by simp [strs]; exact List.take_of_length_le (by simp)⟩⟩

theorem strInfo : (Tryd.prog.info? 9).map (fun i => (i.zero, i.size, i.bytes)) = some (some (.string .empty), 1, 16) := by kernel_rfl

theorem strs_snoc (L : List ByteArray) (b : ByteArray) : strs (L ++ [b]) = strs L ++ [.string b] := by simp [strs]
theorem strs_length (L : List ByteArray) : (strs L).length = L.length := by simp [strs]

end Go.Proofs.YtpejimlmokfppaaDoor
