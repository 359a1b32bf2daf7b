/-
  octet.Words, the reference's Words and Strings.
-/
import Derived.Test.YtcpgbgbhfkpehaaDoorLineWalk
import Derived.Deep.QuietTactic
import Derived.BigQuiet
namespace Go.Proofs.YtcpgbgbhfkpehaaDoor
open Go.RowKit

theorem bt_is {s : ByteArray} {i : Nat} {c : UInt8} : s.data.toList[i]? = some c ↔ i < s.size ∧ bt s i = c.toNat := by
  constructor
  · intro h
    have hi : i < s.data.toList.length := (List.getElem?_eq_some_iff.1 h).1
    have hi' : i < s.size := by simpa using hi
    refine ⟨hi', ?_⟩
    rw [← bt_eq hi']
    have h2 := (List.getElem?_eq_some_iff.1 h).2
    have : s[i] = c := h2
    rw [this]
  · rintro ⟨hi, hb⟩
    rw [List.getElem?_eq_getElem (by simpa using hi)]
    rw [← bt_eq hi] at hb
    have : s[i] = c := UInt8.toNat_inj.1 hb
    exact congrArg some this

def mkW (l : List UInt8) : List ByteArray := (wordsF l).map (fun x => (⟨x.toArray⟩ : ByteArray))
def wordsB (s : ByteArray) : List ByteArray := mkW s.data.toList
def noBlank (s : ByteArray) (a b : Nat) : Prop := ∀ j, a ≤ j → j < b → bt s j ≠ 32

theorem mk_data (b : ByteArray) : (⟨b.data.toList.toArray⟩ : ByteArray) = b := by apply ByteArray.ext; simp

theorem noBlank_piece {s : ByteArray} {a b : Nat} (hn : noBlank s a b) : ∀ x ∈ (s.data.toList.drop a).take (b - a), x ≠ 32 := by
  intro x hx h32
  obtain ⟨k, hk⟩ := List.mem_iff_getElem?.1 hx
  rw [List.getElem?_take] at hk
  split at hk
  · rw [List.getElem?_drop, h32] at hk
    exact hn (a + k) (by omega) (by omega) (bt_is.1 hk).2
  · cases hk

theorem words_blank {s : ByteArray} {a k : Nat} (h1 : a ≤ k) (h2 : k < s.size) (hb : bt s k = 32) (hn : noBlank s a k) :
    mkW (s.data.toList.drop a) = s.extract a k :: mkW (s.data.toList.drop (k + 1)) := by
  have hk : s.data.toList[k]? = some 32 := bt_is.2 ⟨h2, hb⟩
  have hlt : k < s.data.toList.length := (List.getElem?_eq_some_iff.1 hk).1
  have hv := (List.getElem?_eq_some_iff.1 hk).2
  have e : s.data.toList.drop a = (s.data.toList.drop a).take (k - a) ++ 32 :: s.data.toList.drop (k + 1) := by
    conv => lhs; rw [← List.take_append_drop (k - a) (s.data.toList.drop a)]
    rw [List.drop_drop, show a + (k - a) = k by omega, List.drop_eq_getElem_cons hlt, hv]
  unfold mkW
  rw [e, words_app _ (noBlank_piece hn), List.map_cons]
  congr 1
  rw [← Lib.extract_data, mk_data]

theorem words_end {s : ByteArray} {a : Nat} (hn : noBlank s a s.size) : mkW (s.data.toList.drop a) = [s.extract a s.size] := by
  have e : s.data.toList.drop a = (s.data.toList.drop a).take (s.size - a) := by
    rw [List.take_of_length_le (by rw [List.length_drop]; exact Nat.le_refl _)]
  unfold mkW
  rw [e, words_none (noBlank_piece hn), ← Lib.extract_data, List.map_cons, mk_data]; rfl

/-- the strings as cells -/
def strs (L : List ByteArray) : List Value := L.map Value.string

theorem splitB_words (s : ByteArray) : Lib.splitB ⟨#[32]⟩ 0 (Lib.countB s ⟨#[32]⟩) s = wordsB s := by
  have h := Lib.splitB_data ⟨#[32]⟩ 0 (Lib.countB s ⟨#[32]⟩) s
  have h2 := split_words _ s.data.toList (Nat.le_refl _)
  have h3 : (Lib.splitB ⟨#[32]⟩ 0 (Lib.countB s ⟨#[32]⟩) s).map (·.data.toList) = wordsF s.data.toList := h.trans h2
  unfold wordsB mkW
  rw [← h3, List.map_map]
  conv => lhs; rw [← List.map_id (Lib.splitB ⟨#[32]⟩ 0 (Lib.countB s ⟨#[32]⟩) s)]
  apply List.map_congr_left
  intro b _
  exact (mk_data b).symm

theorem count_words (s : ByteArray) : Lib.countB s ⟨#[32]⟩ + 1 = (wordsB s).length := by
  rw [← splitB_words]
  exact (Lib.splitB_all ⟨#[32]⟩ (by decide) 0 _ s rfl).symm

theorem count_le (s : ByteArray) : Lib.countB s ⟨#[32]⟩ ≤ s.size := Lib.countB_le ⟨#[32]⟩ (by decide) s.size s (Nat.le_refl _)

/-- a block of strings of its own is owned -/
theorem own_strs {w : World} {b base : Nat} {L : List ByteArray} (h : Blk w b (strs L).toArray 9) (hb : base ≤ b) (hl : L.length ≤ maxLen) :
    Own w base 9 (.slice (some ⟨b, 0, none⟩) L.length L.length) (strs L) := by
  refine ⟨by simp [strs], .inr ⟨b, L.length, (strs L).toArray, by simp [strs], hb, h, by simp [strs], hl, by simp [strs], by simp [strs]; exact List.take_of_length_le (by simp)⟩⟩

theorem octet_Words (s : ByteArray) (m : Int) (w : World) (hs : s.size ≤ 100000) (hm : w.cell? ⟨2, 0, none⟩ = some (.int .i64 m)) :
    Calls Tryd.prog 115 #[.string s] w fun e w' => ∃ v, e = .returned v ∧ Own w' w.heap.size 9 v (strs (wordsB s)) ∧ Kp (fun _ => False) w w' := by
  have HM := Lib.hid hm; clear hm
  go_enter Tryd.func115, Tryd.ntmps115
  go_wp2_with fail
  refine (Tryd.strings_Split s ⟨#[32]⟩ m _ (by omega) HM.out (by decide)).mono ?_
  rintro e w' ⟨rfl, hw⟩
  go_wp2_with fail
  go_ret
  subst hw
  rw [count_words, splitB_words]
  refine ⟨_, rfl, own_strs (Blk.new _ _ _) (Nat.le_refl _) ?_, (Kp.refl _ _).alloc _⟩
  rw [← count_words]
  have := count_le s
  unfold maxLen; omega

theorem strInfo : (Tryd.prog.info? 9).map (fun i => (i.zero, i.size, i.bytes)) = some (some (.string .empty), 1, 16) := by kernel_rfl

theorem strs_snoc (L : List ByteArray) (b : ByteArray) : strs (L ++ [b]) = strs L ++ [.string b] := by simp [strs]
theorem strs_length (L : List ByteArray) : (strs L).length = L.length := by simp [strs]

set_option maxRecDepth 100000 in
set_option maxHeartbeats 1000000 in
theorem ref_Words (s : ByteArray) (w : World) (hs : s.size ≤ 100000) :
    Calls Tryd.prog 119 #[.string s] w fun e w' => ∃ v, e = .returned v ∧ Own w' w.heap.size 9 v (strs (wordsB s)) ∧ Kp (fun _ => False) w w' := by
  go_enter Tryd.func119, Tryd.ntmps119
  go_wp2_with fail
  go_loopw [3, 4, 5] (fun v f i wr => ∃ (k a : Nat) (L : List ByteArray), k ≤ s.size ∧ a ≤ k ∧ i = .int .i64 k ∧ f = .int .i64 a ∧ noBlank s a k ∧ L.length ≤ k ∧ L ++ mkW (s.data.toList.drop a) = wordsB s ∧ Own wr w.heap.size 9 v (strs L) ∧ Kp (fun _ => False) w wr) (fun _ _ i _ => s.size - (intOf i).toNat)
  case atStart => exact ⟨0, 0, [], Nat.zero_le _, Nat.le_refl _, rfl, rfl, fun j h1 h2 => by omega, Nat.le_refl _, rfl, own_strs (L := []) (Blk.new _ _ _) (Nat.le_refl _) (Nat.zero_le _), (Kp.refl _ _).alloc _⟩
  case round =>
    obtain ⟨k, a, L, hk, ha, rfl, rfl, hn, hL, hW, hO, hK⟩ := hrel
    have HN := Lib.hid hn; clear hn
    have HW := Lib.hid hW; clear hW
    have hLs : (strs L).length ≤ 100000 := by rw [strs_length]; omega
    have HLS := Lib.hid hLs; clear hLs
    by_cases hlt : k < s.size
    · have hd : decide ((k : Int) < (s.size : Int)) = true := by simp; omega
      have hC := bt_lt s k
      have hc0 := bt_eq (s := s) (i := k) hlt
      by_cases h32 : bt s k = 32
      · have HB := Lib.hid (words_blank ha hlt h32 HN.out)
        rw [h32] at hc0
        clear h32 hC
        go_wp2_with (at_builtin; refine wpList_append1 rfl _ _ 152 9 rfl Tryd.underlying152 strInfo rfl (hO.alloc _) rfl ⟨wr.heap.size, 0, none⟩ (.string (s.extract a k)) rfl ?c1 rfl ?c2 ?c3 ?c4 ?_)
        case c1 => exact World.cell?_alloc_at _ _ _ _ rfl
        case c2 => have := HLS.out; omega
        case c3 => have := HLS.out; unfold maxLen; omega
        case c4 => have := hK.size; simp; omega
        intro v' w1 hO1 hg1
        have hK1 : Kp (fun _ => False) w w1 := (hK.alloc _).grown hg1 (fun j hj hlt => by have := (hO.lt j hj).1; omega)
        have hO2 : Own w1 w.heap.size 9 v' (strs (L ++ [s.extract a k])) := by rw [strs_snoc]; exact hO1
        clear hO hg1 hO1
        go_wp2_with fail
        refine ⟨⟨k + 1, k + 1, L ++ [s.extract a k], by omega, Nat.le_refl _, by simp, by simp, fun j h1 h2 => by omega, by simp; omega, ?_, hO2, hK1⟩, ?_⟩
        · rw [← HW.out, HB.out]; simp
        · simp [intOf]; omega
      · have HX := Lib.hid (show noBlank s a (k + 1) from fun j h1 h2 => by
          by_cases e : j = k
          · subst e; exact h32
          · exact HN.out j h1 (by omega))
        obtain ⟨B, hB⟩ : ∃ B, bt s k = B := ⟨_, rfl⟩
        rw [hB] at hc0 hC h32
        clear hB
        have q : ((B : Int) == 32) = false := by rw [beq_eq_false_iff_ne]; omega
        clear h32
        go_wp2_with fail
        refine ⟨⟨k + 1, a, L, by omega, by omega, by simp, rfl, HX.out, by omega, HW.out, hO, hK⟩, ?_⟩
        simp [intOf]; omega
    · have hd : decide ((k : Int) < (s.size : Int)) = false := by simp; omega
      have ek : k = s.size := by omega
      have HB := Lib.hid (words_end (s := s) (a := a) (by rw [← ek]; exact HN.out))
      clear ek
      go_wp2_with (at_builtin; refine wpList_append1 rfl _ _ 152 9 rfl Tryd.underlying152 strInfo rfl (hO.alloc _) rfl ⟨wr.heap.size, 0, none⟩ (.string (s.extract a s.size)) rfl ?c1 rfl ?c2 ?c3 ?c4 ?_)
      case c1 => exact World.cell?_alloc_at _ _ _ _ rfl
      case c2 => have := HLS.out; omega
      case c3 => have := HLS.out; unfold maxLen; omega
      case c4 => have := hK.size; simp; omega
      intro v' w1 hO1 hg1
      have hK1 : Kp (fun _ => False) w w1 := (hK.alloc _).grown hg1 (fun j hj hlt => by have := (hO.lt j hj).1; omega)
      have hO2 : Own w1 w.heap.size 9 v' (strs (wordsB s)) := by rw [← HW.out, HB.out, strs_snoc]; exact hO1
      clear hO hg1 hO1
      go_wp2_with fail
      go_ret
      exact ⟨_, rfl, hO2, hK1⟩

end Go.Proofs.YtcpgbgbhfkpehaaDoor
