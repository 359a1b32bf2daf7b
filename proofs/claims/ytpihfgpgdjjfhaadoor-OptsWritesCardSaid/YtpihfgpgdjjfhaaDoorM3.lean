/-
  octet.Words, the reference's Words and Strings.
-/
import Derived.Test.YtpihfgpgdjjfhaaDoorM2
import Derived.Deep.QuietTactic
import Derived.BigQuiet
import Derived.Test.YtpihfgpgdjjfhaaDoorM1
import Derived.Deep.Quiet
import Derived.Orders
namespace Go.Proofs.YtpihfgpgdjjfhaaDoor
open Go.RowKit

theorem bt_is {s : ByteArray} {i : Nat} {c : UInt8} : s.data.toList[i]? = some c ↔ i < s.size ∧ bt s i = c.toNat := by
  constructor
  · intro h
    have hi : i < s.data.toList.length := (List.getElem?_eq_some_iff.1 h).1
    have hi' : i < s.size := by simpa using hi
    refine ⟨hi', ?_⟩
    rw [← bt_eq hi']
    have h2 := (List.getElem?_eq_some_iff.1 h).2
    have : s[i] = c := h2
    rw [this]
  · rintro ⟨hi, hb⟩
    rw [List.getElem?_eq_getElem (by simpa using hi)]
    rw [← bt_eq hi] at hb
    have : s[i] = c := UInt8.toNat_inj.1 hb
    exact congrArg some this

def mkW (l : List UInt8) : List ByteArray := (wordsF l).map (fun x => (⟨x.toArray⟩ : ByteArray))
def wordsB (s : ByteArray) : List ByteArray := mkW s.data.toList
def noBlank (s : ByteArray) (a b : Nat) : Prop := ∀ j, a ≤ j → j < b → bt s j ≠ 32

theorem mk_data (b : ByteArray) : (⟨b.data.toList.toArray⟩ : ByteArray) = b := by apply ByteArray.ext; simp

theorem noBlank_piece {s : ByteArray} {a b : Nat} (hn : noBlank s a b) : ∀ x ∈ (s.data.toList.drop a).take (b - a), x ≠ 32 := by
  intro x hx h32
  obtain ⟨k, hk⟩ := List.mem_iff_getElem?.1 hx
  rw [List.getElem?_take] at hk
  split at hk
  · rw [List.getElem?_drop, h32] at hk
    exact hn (a + k) (by omega) (by omega) (bt_is.1 hk).2
  · cases hk

theorem words_blank {s : ByteArray} {a k : Nat} (h1 : a ≤ k) (h2 : k < s.size) (hb : bt s k = 32) (hn : noBlank s a k) :
    mkW (s.data.toList.drop a) = s.extract a k :: mkW (s.data.toList.drop (k + 1)) := by
  have hk : s.data.toList[k]? = some 32 := bt_is.2 ⟨h2, hb⟩
  have hlt : k < s.data.toList.length := (List.getElem?_eq_some_iff.1 hk).1
  have hv := (List.getElem?_eq_some_iff.1 hk).2
  have e : s.data.toList.drop a = (s.data.toList.drop a).take (k - a) ++ 32 :: s.data.toList.drop (k + 1) := by
    conv => lhs; rw [← List.take_append_drop (k - a) (s.data.toList.drop a)]
    rw [List.drop_drop, show a + (k - a) = k by omega, List.drop_eq_getElem_cons hlt, hv]
  unfold mkW
  rw [e, words_app _ (noBlank_piece hn), List.map_cons]
  congr 1
  rw [← Lib.extract_data, mk_data]

theorem words_end {s : ByteArray} {a : Nat} (hn : noBlank s a s.size) : mkW (s.data.toList.drop a) = [s.extract a s.size] := by
  have e : s.data.toList.drop a = (s.data.toList.drop a).take (s.size - a) := by
    rw [List.take_of_length_le (by rw [List.length_drop]; exact Nat.le_refl _)]
  unfold mkW
  rw [e, words_none (noBlank_piece hn), ← Lib.extract_data, List.map_cons, mk_data]; rfl

/-- the strings as cells -/
def strs (L : List ByteArray) : List Value := L.map Value.string

theorem splitB_words (s : ByteArray) : Lib.splitB ⟨#[32]⟩ 0 (Lib.countB s ⟨#[32]⟩) s = wordsB s := by
  have h := Lib.splitB_data ⟨#[32]⟩ 0 (Lib.countB s ⟨#[32]⟩) s
  have h2 := split_words _ s.data.toList (Nat.le_refl _)
  have h3 : (Lib.splitB ⟨#[32]⟩ 0 (Lib.countB s ⟨#[32]⟩) s).map (·.data.toList) = wordsF s.data.toList := h.trans h2
  unfold wordsB mkW
  rw [← h3, List.map_map]
  conv => lhs; rw [← List.map_id (Lib.splitB ⟨#[32]⟩ 0 (Lib.countB s ⟨#[32]⟩) s)]
  apply List.map_congr_left
  intro b _
  exact (mk_data b).symm

theorem count_words (s : ByteArray) : Lib.countB s ⟨#[32]⟩ + 1 = (wordsB s).length := by
  rw [← splitB_words]
  exact (Lib.splitB_all ⟨#[32]⟩ (by decide) 0 _ s rfl).symm

theorem count_le (s : ByteArray) : Lib.countB s ⟨#[32]⟩ ≤ s.size := Lib.countB_le ⟨#[32]⟩ (by decide) s.size s (Nat.le_refl _)

/-- a block of strings of its own is owned -/
theorem own_strs {w : World} {b base : Nat} {L : List ByteArray} (h : Blk w b (strs L).toArray 9) (hb : base ≤ b) (hl : L.length ≤ maxLen) :
    Own w base 9 (.slice (some ⟨b, 0, none⟩) L.length L.length) (strs L) := by
  refine ⟨by simp [strs], .inr ⟨b, L.length, (strs L).toArray, by simp [strs], hb, h, by simp [strs], hl, by simp [strs], by simp [strs]; exact List.take_of_length_le (by simp)⟩⟩

theorem octet_Words (s : ByteArray) (m : Int) (w : World) (hs : s.size ≤ 100000) (hm : w.cell? ⟨4, 0, none⟩ = some (.int .i64 m)) :
    Calls Tryd.prog 15 #[.string s] w fun e w' => ∃ v, e = .returned v ∧ Own w' w.heap.size 9 v (strs (wordsB s)) ∧ Kp (fun _ => False) w w' := by
  have HM := Lib.hid hm; clear hm
  go_enter Tryd.func15, Tryd.ntmps15
  go_wp2_with fail
  refine (Tryd.strings_Split s ⟨#[32]⟩ m _ (by omega) HM.out (by decide)).mono ?_
  rintro e w' ⟨rfl, hw⟩
  go_wp2_with fail
  go_ret
  subst hw
  rw [count_words, splitB_words]
  refine ⟨_, rfl, own_strs (Blk.new _ _ _) (Nat.le_refl _) ?_, (Kp.refl _ _).alloc _⟩
  rw [← count_words]
  have := count_le s
  unfold maxLen; omega

theorem strInfo : (Tryd.prog.info? 9).map (fun i => (i.zero, i.size, i.bytes)) = some (some (.string .empty), 1, 16) := by kernel_rfl

theorem strs_snoc (L : List ByteArray) (b : ByteArray) : strs (L ++ [b]) = strs L ++ [.string b] := by simp [strs]
theorem strs_length (L : List ByteArray) : (strs L).length = L.length := by simp [strs]

set_option maxRecDepth 100000 in
set_option maxHeartbeats 1000000 in
theorem ref_Words (s : ByteArray) (w : World) (hs : s.size ≤ 100000) :
    Calls Tryd.prog 20 #[.string s] w fun e w' => ∃ v, e = .returned v ∧ Own w' w.heap.size 9 v (strs (wordsB s)) ∧ Kp (fun _ => False) w w' := by
  go_enter Tryd.func20, Tryd.ntmps20
  go_wp2_with fail
  go_loopw [3, 4, 5] (fun v f i wr => ∃ (k a : Nat) (L : List ByteArray), k ≤ s.size ∧ a ≤ k ∧ i = .int .i64 k ∧ f = .int .i64 a ∧ noBlank s a k ∧ L.length ≤ k ∧ L ++ mkW (s.data.toList.drop a) = wordsB s ∧ Own wr w.heap.size 9 v (strs L) ∧ Kp (fun _ => False) w wr) (fun _ _ i _ => s.size - (intOf i).toNat)
  case atStart => exact ⟨0, 0, [], Nat.zero_le _, Nat.le_refl _, rfl, rfl, fun j h1 h2 => by omega, Nat.le_refl _, rfl, own_strs (L := []) (Blk.new _ _ _) (Nat.le_refl _) (Nat.zero_le _), (Kp.refl _ _).alloc _⟩
  case round =>
    obtain ⟨k, a, L, hk, ha, rfl, rfl, hn, hL, hW, hO, hK⟩ := hrel
    have HN := Lib.hid hn; clear hn
    have HW := Lib.hid hW; clear hW
    have hLs : (strs L).length ≤ 100000 := by rw [strs_length]; omega
    have HLS := Lib.hid hLs; clear hLs
    by_cases hlt : k < s.size
    · have hd : decide ((k : Int) < (s.size : Int)) = true := by simp; omega
      have hC := bt_lt s k
      have hc0 := bt_eq (s := s) (i := k) hlt
      by_cases h32 : bt s k = 32
      · have HB := Lib.hid (words_blank ha hlt h32 HN.out)
        rw [h32] at hc0
        clear h32 hC
        go_wp2_with (at_builtin; refine wpList_append1 rfl _ _ 45 9 rfl Tryd.underlying45 strInfo rfl (hO.alloc _) rfl ⟨wr.heap.size, 0, none⟩ (.string (s.extract a k)) rfl ?c1 rfl ?c2 ?c3 ?c4 ?_)
        case c1 => exact World.cell?_alloc_at _ _ _ _ rfl
        case c2 => have := HLS.out; omega
        case c3 => have := HLS.out; unfold maxLen; omega
        case c4 => have := hK.size; simp; omega
        intro v' w1 hO1 hg1
        have hK1 : Kp (fun _ => False) w w1 := (hK.alloc _).grown hg1 (fun j hj hlt => by have := (hO.lt j hj).1; omega)
        have hO2 : Own w1 w.heap.size 9 v' (strs (L ++ [s.extract a k])) := by rw [strs_snoc]; exact hO1
        clear hO hg1 hO1
        go_wp2_with fail
        refine ⟨⟨k + 1, k + 1, L ++ [s.extract a k], by omega, Nat.le_refl _, by simp, by simp, fun j h1 h2 => by omega, by simp; omega, ?_, hO2, hK1⟩, ?_⟩
        · rw [← HW.out, HB.out]; simp
        · simp [intOf]; omega
      · have HX := Lib.hid (show noBlank s a (k + 1) from fun j h1 h2 => by
          by_cases e : j = k
          · subst e; exact h32
          · exact HN.out j h1 (by omega))
        obtain ⟨B, hB⟩ : ∃ B, bt s k = B := ⟨_, rfl⟩
        rw [hB] at hc0 hC h32
        clear hB
        have q : ((B : Int) == 32) = false := by rw [beq_eq_false_iff_ne]; omega
        clear h32
        go_wp2_with fail
        refine ⟨⟨k + 1, a, L, by omega, by omega, by simp, rfl, HX.out, by omega, HW.out, hO, hK⟩, ?_⟩
        simp [intOf]; omega
    · have hd : decide ((k : Int) < (s.size : Int)) = false := by simp; omega
      have ek : k = s.size := by omega
      have HB := Lib.hid (words_end (s := s) (a := a) (by rw [← ek]; exact HN.out))
      clear ek
      go_wp2_with (at_builtin; refine wpList_append1 rfl _ _ 45 9 rfl Tryd.underlying45 strInfo rfl (hO.alloc _) rfl ⟨wr.heap.size, 0, none⟩ (.string (s.extract a s.size)) rfl ?c1 rfl ?c2 ?c3 ?c4 ?_)
      case c1 => exact World.cell?_alloc_at _ _ _ _ rfl
      case c2 => have := HLS.out; omega
      case c3 => have := HLS.out; unfold maxLen; omega
      case c4 => have := hK.size; simp; omega
      intro v' w1 hO1 hg1
      have hK1 : Kp (fun _ => False) w w1 := (hK.alloc _).grown hg1 (fun j hj hlt => by have := (hO.lt j hj).1; omega)
      have hO2 : Own w1 w.heap.size 9 v' (strs (wordsB s)) := by rw [← HW.out, HB.out, strs_snoc]; exact hO1
      clear hO hg1 hO1
      go_wp2_with fail
      go_ret
      exact ⟨_, rfl, hO2, hK1⟩

end Go.Proofs.YtpihfgpgdjjfhaaDoor

/-
  What the words of an options' line tell.
-/
namespace Go.Proofs.YtpihfgpgdjjfhaaDoor
open Go.RowKit

theorem words_join : ∀ (ws : List (List UInt8)), ws ≠ [] → (∀ w ∈ ws, ∀ x ∈ w, x ≠ 32) → wordsF (Lib.join ws [32]) = ws
  | [], h, _ => absurd rfl h
  | [a], _, h => by rw [Lib.join_one]; exact words_none (h a (by simp))
  | a :: b :: r, _, h => by
    have e : Lib.join (a :: b :: r) [32] = a ++ 32 :: Lib.join (b :: r) [32] := by
      rw [Lib.join_cons, Lib.join_cons]
      simp [Lib.joinTail]
    rw [e, words_app _ (h a (by simp)), words_join (b :: r) (by simp) (fun w hw => h w (by simp at hw ⊢; right; exact hw))]

theorem itoa_no32 (n : Int) : ∀ x ∈ Lib.itoa n, x ≠ 32 := by
  have hd : ∀ u : Nat, ∀ x ∈ Lib.decDigits u, x ≠ 32 := by
    intro u x hx e
    have := dd_digit u x hx
    rw [e] at this
    exact absurd this.1 (by decide)
  intro x hx
  unfold Lib.itoa at hx
  split at hx
  · rcases List.mem_cons.1 hx with rfl | h
    · decide
    · exact hd _ x h
  · exact hd _ x hx

theorem hexD_no32 (d : Nat) (h : d < 16) : hexD d ≠ 32 := by
  intro e
  have := hexD_nat h
  rw [e] at this
  split at this
  · have h2 : (32 : UInt8).toNat = 32 := rfl
    omega
  · have h2 : (32 : UInt8).toNat = 32 := rfl
    omega

theorem hexN_no32 (k : Nat) : ∀ n, ∀ x ∈ hexN k n, x ≠ 32 := by
  induction k with
  | zero => intro n x hx; simp [hexN] at hx
  | succ k ih =>
    intro n x hx
    rw [hexN] at hx
    rcases List.mem_append.1 hx with h | h
    · exact ih _ x h
    · simp at h
      subst h
      exact hexD_no32 _ (Nat.mod_lt _ (by omega))

theorem optW_no32 (o : Opt) : ∀ w ∈ optW o, ∀ x ∈ w, x ≠ 32 := by
  intro w hw
  have hk : ∀ l ∈ [sEngine, sBound, sProp, sSeed, sFuel, sUnit, sKeep, sDecay, sBump], ∀ x ∈ l, x ≠ (32 : UInt8) := by decide
  unfold optW at hw
  simp only [List.mem_cons, List.not_mem_nil, or_false] at hw
  rcases hw with rfl | rfl | rfl | rfl | rfl | rfl | rfl | rfl | rfl | rfl | rfl | rfl | rfl | rfl | rfl | rfl | rfl | rfl
  · exact hk _ (by decide)
  · exact itoa_no32 _
  · exact hk _ (by decide)
  · exact itoa_no32 _
  · exact hk _ (by decide)
  · exact itoa_no32 _
  · exact hk _ (by decide)
  · exact hexN_no32 _ _
  · exact hk _ (by decide)
  · exact itoa_no32 _
  · exact hk _ (by decide)
  · exact itoa_no32 _
  · exact hk _ (by decide)
  · exact itoa_no32 _
  · exact hk _ (by decide)
  · exact hexN_no32 _ _
  · exact hk _ (by decide)
  · exact hexN_no32 _ _

/-- the words of an options' line -/
theorem words_opt {s : ByteArray} {o : Opt} (h : s.data.toList = optT o) : wordsB s = (optW o).map fun l => (⟨l.toArray⟩ : ByteArray) := by
  unfold wordsB mkW
  rw [h]
  unfold optT
  rw [words_join (optW o) (by unfold optW; simp) (optW_no32 o)]

/-- what a map of a text's words, two by two, tells -/
def putAll : List ByteArray → (ByteArray → ByteArray) → (ByteArray → ByteArray)
  | k :: v :: r, F => putAll r (fun x => if x = k then v else F x)
  | _, F => F

def mapOf (s : ByteArray) : ByteArray → ByteArray := putAll (wordsB s) (fun _ => ⟨#[]⟩)

theorem putAll_step {W : List ByteArray} {i : Nat} {k v : ByteArray} {F : ByteArray → ByteArray} (hk : W[i]? = some k) (hv : W[i + 1]? = some v) : putAll (W.drop i) F = putAll (W.drop (i + 2)) (fun x => if x = k then v else F x) := by
  have h1 : W.drop i = k :: v :: W.drop (i + 2) := by
    obtain ⟨a1, b1⟩ := List.getElem?_eq_some_iff.1 hk
    obtain ⟨a2, b2⟩ := List.getElem?_eq_some_iff.1 hv
    rw [List.drop_eq_getElem_cons a1, List.drop_eq_getElem_cons a2, b1, b2]
  rw [h1]
  rfl

theorem putAll_end {W : List ByteArray} {i : Nat} {F : ByteArray → ByteArray} (h : W.length ≤ i + 1) : putAll (W.drop i) F = F := by
  cases hd : W.drop i with
  | nil => rfl
  | cons a r =>
    cases r with
    | nil => rfl
    | cons b r =>
      have := congrArg List.length hd
      simp at this
      omega

theorem mapOf_opt {s : ByteArray} {o : Opt} (h : s.data.toList = optT o) :
    mapOf s ⟨sEngine.toArray⟩ = ⟨(Lib.itoa o.e).toArray⟩ ∧ mapOf s ⟨sBound.toArray⟩ = ⟨(Lib.itoa o.b).toArray⟩ ∧ mapOf s ⟨sProp.toArray⟩ = ⟨(Lib.itoa o.p).toArray⟩ ∧ mapOf s ⟨sFuel.toArray⟩ = ⟨(Lib.itoa o.f).toArray⟩ ∧
    mapOf s ⟨sUnit.toArray⟩ = ⟨(Lib.itoa o.u).toArray⟩ ∧ mapOf s ⟨sKeep.toArray⟩ = ⟨(Lib.itoa o.k).toArray⟩ ∧ mapOf s ⟨sSeed.toArray⟩ = ⟨(hexN 16 o.s).toArray⟩ ∧ mapOf s ⟨sDecay.toArray⟩ = ⟨(hexN 16 (canon o.d)).toArray⟩ ∧ mapOf s ⟨sBump.toArray⟩ = ⟨(hexN 16 (canon o.m)).toArray⟩ := by
  unfold mapOf
  rw [words_opt h]
  have key : ∀ a b : List UInt8, ((⟨a.toArray⟩ : ByteArray) = ⟨b.toArray⟩) ↔ a = b := fun a b => by simp
  simp only [optW, List.map_cons, List.map_nil, putAll, key]
  refine ⟨?_, ?_, ?_, ?_, ?_, ?_, ?_, ?_, ?_⟩ <;> simp [sEngine, sBound, sProp, sSeed, sFuel, sUnit, sKeep, sDecay, sBump]

end Go.Proofs.YtpihfgpgdjjfhaaDoor

/-
  Nine cells, set one by one. (Out of XAsciiRead.)
-/
namespace Go.Proofs.YtpihfgpgdjjfhaaDoor
open Go.RowKit

/-- nine cells, set one by one -/
def set9 (w : World) (b : Nat) (y0 y1 y2 y3 y4 y5 y6 y7 y8 : Value) : World :=
  ((((((((w.setCell ⟨b, 0, none⟩ y0).setCell ⟨b, 1, none⟩ y1).setCell ⟨b, 2, none⟩ y2).setCell ⟨b, 3, none⟩ y3).setCell ⟨b, 4, none⟩ y4).setCell ⟨b, 5, none⟩ y5).setCell ⟨b, 6, none⟩ y6).setCell ⟨b, 7, none⟩ y7).setCell ⟨b, 8, none⟩ y8

theorem Blk.set9 {w : World} {b : Nat} {x0 x1 x2 x3 x4 x5 x6 x7 x8 : Value} {t : TypeId} (h : Blk w b #[x0, x1, x2, x3, x4, x5, x6, x7, x8] t) (y0 y1 y2 y3 y4 y5 y6 y7 y8 : Value) :
    Blk (set9 w b y0 y1 y2 y3 y4 y5 y6 y7 y8) b #[y0, y1, y2, y3, y4, y5, y6, y7, y8] t := by
  have h7 := ((((((((h.set_same 0 y0).set_same 1 y1).set_same 2 y2).set_same 3 y3).set_same 4 y4).set_same 5 y5).set_same 6 y6).set_same 7 y7).set_same 8 y8
  unfold Go.Proofs.YtpihfgpgdjjfhaaDoor.set9
  simpa only [List.setIfInBounds_toArray, List.set_cons_zero, List.set_cons_succ] using h7

theorem Kp.set9 (w : World) (b : Nat) (y0 y1 y2 y3 y4 y5 y6 y7 y8 : Value) : Kp (fun j => j = b) w (set9 w b y0 y1 y2 y3 y4 y5 y6 y7 y8) :=
  (((((((((Kp.refl (fun j => j = b) w).setCell (p := ⟨b, 0, none⟩) (fun _ => rfl) y0).setCell (p := ⟨b, 1, none⟩) (fun _ => rfl) y1).setCell (p := ⟨b, 2, none⟩) (fun _ => rfl) y2).setCell (p := ⟨b, 3, none⟩) (fun _ => rfl) y3).setCell (p := ⟨b, 4, none⟩) (fun _ => rfl) y4).setCell (p := ⟨b, 5, none⟩) (fun _ => rfl) y5).setCell (p := ⟨b, 6, none⟩) (fun _ => rfl) y6).setCell (p := ⟨b, 7, none⟩) (fun _ => rfl) y7).setCell (p := ⟨b, 8, none⟩) (fun _ => rfl) y8


end Go.Proofs.YtpihfgpgdjjfhaaDoor

/-
  opts.Read. (Printed by mkoptread.py.)
-/
namespace Go.Proofs.YtpihfgpgdjjfhaaDoor
open Go.RowKit

theorem wordsF_le : ∀ (l : List UInt8), ∀ x ∈ wordsF l, x.length ≤ l.length
  | [], x, h => by simp [wordsF] at h; subst h; simp
  | b :: l, x, h => by
    have ih := wordsF_le l
    unfold wordsF at h
    split at h
    · rcases List.mem_cons.1 h with rfl | h
      · simp
      · have := ih x h; simp; omega
    · split at h
      · simp at h; subst h; simp
      · rename_i y r he
        rw [he] at ih
        rcases List.mem_cons.1 h with rfl | h
        · have := ih y (by simp); simp; omega
        · have := ih x (by simp [h]); simp; omega

theorem wordsF_count : ∀ (l : List UInt8), (wordsF l).length ≤ l.length + 1
  | [] => by simp [wordsF]
  | b :: l => by
    have ih := wordsF_count l
    unfold wordsF
    split
    · simp; omega
    · split
      · simp
      · rename_i y r he; rw [he] at ih; simp at ih ⊢; omega

theorem wordsB_le {s : ByteArray} : ∀ x ∈ wordsB s, x.size ≤ s.size := by
  intro x hx
  unfold wordsB mkW at hx
  obtain ⟨y, hy, rfl⟩ := List.mem_map.1 hx
  have := wordsF_le _ y hy
  rw [Lib.size_eq s]
  exact this

theorem wordsB_count (s : ByteArray) : (wordsB s).length ≤ s.size + 1 := by
  unfold wordsB mkW
  rw [List.length_map, Lib.size_eq s]
  exact wordsF_count _

theorem putAll_mem (k : ByteArray) : ∀ (W : List ByteArray) (F : ByteArray → ByteArray), putAll W F k ∈ W ∨ putAll W F k = F k
  | [], F => .inr rfl
  | [a], F => .inr rfl
  | a :: b :: r, F => by
    rw [putAll]
    rcases putAll_mem k r (fun x => if x = a then b else F x) with h | h
    · exact .inl (by simp [h])
    · rw [h]
      by_cases e : k = a
      · simp [e]
      · right; simp [e]

theorem mapOf_size (s k : ByteArray) : (mapOf s k).size ≤ s.size := by
  unfold mapOf
  rcases putAll_mem k (wordsB s) (fun _ => ⟨#[]⟩) with h | h
  · exact wordsB_le _ h
  · rw [h]; exact Nat.zero_le _

/-- options whose scores are as they are told -/
structure Opt.can (o : Opt) : Prop where
  ok : o.ok
  d : canon o.d = o.d
  m : canon o.m = o.m

def oz : Opt := ⟨0, 0, 0, 0, 0, 0, 0, 0, 0⟩
theorem oz_ok : oz.ok := ⟨⟨by decide, by decide⟩, ⟨by decide, by decide⟩, ⟨by decide, by decide⟩, ⟨by decide, by decide⟩, ⟨by decide, by decide⟩, ⟨by decide, by decide⟩, by decide, by decide, by decide⟩

def rowV (o : Opt) : Nat → Int
  | 0 => o.e | 1 => o.b | 2 => o.p | 3 => o.f | 4 => o.u | _ => o.k
def setR (o : Opt) (v : Int) : Nat → Opt
  | 0 => { o with e := v } | 1 => { o with b := v } | 2 => { o with p := v } | 3 => { o with f := v } | 4 => { o with u := v } | _ => { o with k := v }
def rowK : Nat → ByteArray
  | 0 => ⟨sEngine.toArray⟩ | 1 => ⟨sBound.toArray⟩ | 2 => ⟨sProp.toArray⟩ | 3 => ⟨sFuel.toArray⟩ | 4 => ⟨sUnit.toArray⟩ | _ => ⟨sKeep.toArray⟩
def rowO : Nat → Nat
  | 0 => 0 | 1 => 1 | 2 => 2 | 3 => 4 | 4 => 5 | _ => 6

/-- what a round of the second loop reads and sets -/
structure RowR (bo i : Nat) : Prop where
  x : (numC bo)[i * 2]? = some (.string (rowK i))
  y : (numC bo)[i * 2 + 1]? = some (.pointer (some ⟨bo, rowO i, none⟩))
  z : ∀ o, (optV o)[rowO i]? = some (.int .i64 (rowV o i))
  s : ∀ o v, (optV o).setIfInBounds (rowO i) (.int .i64 v) = optV (setR o v i)
  k : (rowK i).size ≤ 6
  ok : ∀ o v, o.ok → okN v → (setR o v i).ok
  g : ∀ o v r, r < 6 → rowV (setR o v i) r = if r = i then v else rowV o r
  c : ∀ s o, s.data.toList = optT o → (mapOf s (rowK i)).data.toList = Lib.itoa (rowV o i)
  q : ∀ o v, (setR o v i).s = o.s ∧ (setR o v i).d = o.d ∧ (setR o v i).m = o.m

theorem rowR (bo : Nat) : ∀ i, i < 6 → RowR bo i
  | 0, _ => ⟨rfl, rfl, fun _ => rfl, fun _ _ => rfl, by decide, fun o v h hv => ⟨hv, h.b, h.p, h.f, h.u, h.k, h.s, h.d, h.m⟩, fun o v r hr => by match r, hr with | 0, _ => rfl | 1, _ => rfl | 2, _ => rfl | 3, _ => rfl | 4, _ => rfl | 5, _ => rfl,
      fun s o h => congrArg (fun x : ByteArray => x.data.toList) ((mapOf_opt h).1), fun _ _ => ⟨rfl, rfl, rfl⟩⟩
  | 1, _ => ⟨rfl, rfl, fun _ => rfl, fun _ _ => rfl, by decide, fun o v h hv => ⟨h.e, hv, h.p, h.f, h.u, h.k, h.s, h.d, h.m⟩, fun o v r hr => by match r, hr with | 0, _ => rfl | 1, _ => rfl | 2, _ => rfl | 3, _ => rfl | 4, _ => rfl | 5, _ => rfl,
      fun s o h => congrArg (fun x : ByteArray => x.data.toList) ((mapOf_opt h).2.1), fun _ _ => ⟨rfl, rfl, rfl⟩⟩
  | 2, _ => ⟨rfl, rfl, fun _ => rfl, fun _ _ => rfl, by decide, fun o v h hv => ⟨h.e, h.b, hv, h.f, h.u, h.k, h.s, h.d, h.m⟩, fun o v r hr => by match r, hr with | 0, _ => rfl | 1, _ => rfl | 2, _ => rfl | 3, _ => rfl | 4, _ => rfl | 5, _ => rfl,
      fun s o h => congrArg (fun x : ByteArray => x.data.toList) ((mapOf_opt h).2.2.1), fun _ _ => ⟨rfl, rfl, rfl⟩⟩
  | 3, _ => ⟨rfl, rfl, fun _ => rfl, fun _ _ => rfl, by decide, fun o v h hv => ⟨h.e, h.b, h.p, hv, h.u, h.k, h.s, h.d, h.m⟩, fun o v r hr => by match r, hr with | 0, _ => rfl | 1, _ => rfl | 2, _ => rfl | 3, _ => rfl | 4, _ => rfl | 5, _ => rfl,
      fun s o h => congrArg (fun x : ByteArray => x.data.toList) ((mapOf_opt h).2.2.2.1), fun _ _ => ⟨rfl, rfl, rfl⟩⟩
  | 4, _ => ⟨rfl, rfl, fun _ => rfl, fun _ _ => rfl, by decide, fun o v h hv => ⟨h.e, h.b, h.p, h.f, hv, h.k, h.s, h.d, h.m⟩, fun o v r hr => by match r, hr with | 0, _ => rfl | 1, _ => rfl | 2, _ => rfl | 3, _ => rfl | 4, _ => rfl | 5, _ => rfl,
      fun s o h => congrArg (fun x : ByteArray => x.data.toList) ((mapOf_opt h).2.2.2.2.1), fun _ _ => ⟨rfl, rfl, rfl⟩⟩
  | 5, _ => ⟨rfl, rfl, fun _ => rfl, fun _ _ => rfl, by decide, fun o v h hv => ⟨h.e, h.b, h.p, h.f, h.u, hv, h.s, h.d, h.m⟩, fun o v r hr => by match r, hr with | 0, _ => rfl | 1, _ => rfl | 2, _ => rfl | 3, _ => rfl | 4, _ => rfl | 5, _ => rfl,
      fun s o h => congrArg (fun x : ByteArray => x.data.toList) ((mapOf_opt h).2.2.2.2.2.1), fun _ _ => ⟨rfl, rfl, rfl⟩⟩
  | n + 6, h => by omega

/-- what a call of Read holds -/
structure Rd (s : ByteArray) (w : World) (bo bm : Nat) (o1 : Opt) (wr : World) : Prop where
  r : Blk wr w.heap.size (optV oz) 25
  o : Blk wr bo (optV o1) 25
  m : ∃ n, SMap wr bm n (mapOf s)
  l1 : w.heap.size < bo
  l2 : w.heap.size < bm
  ne : bm ≠ bo
  k : Kp (fun _ => False) w wr

theorem Rd.kp {s : ByteArray} {w wr wr' : World} {bo bm : Nat} {o1 : Opt} (h : Rd s w bo bm o1 wr) (hK : Kp (fun _ => False) wr wr') : Rd s w bo bm o1 wr' :=
  ⟨h.r.kp hK (fun h => h), h.o.kp hK (fun h => h), by obtain ⟨n, hn⟩ := h.m; exact ⟨n, hn.kp hK (fun h => h)⟩, h.l1, h.l2, h.ne, h.k.trans hK (fun _ _ h => h)⟩

theorem Rd.set {s : ByteArray} {w wr : World} {bo bm off : Nat} {o1 o2 : Opt} {v : Value} (h : Rd s w bo bm o1 wr) (he : (optV o1).setIfInBounds off v = optV o2) : Rd s w bo bm o2 (wr.setCell ⟨bo, off, none⟩ v) := by
  have := h.l1
  have hk := Kp.set wr ⟨bo, off, none⟩ v
  refine ⟨h.r.kp hk (by simp; omega), he ▸ h.o.set_same off v, ?_, h.l1, h.l2, h.ne, h.k.setCell (p := ⟨bo, off, none⟩) (by simp; omega) v⟩
  obtain ⟨n, hn⟩ := h.m
  exact ⟨n, hn.kp hk h.ne⟩

theorem Rd.look {s : ByteArray} {w wr : World} {bo bm : Nat} {o1 : Opt} (h : Rd s w bo bm o1 wr) {k : ByteArray} (hk : k.size ≤ 6) : (Instr.lookup 44 (.map (some bm)) (.string k) false).run Tryd.prog wr = .ok (.string (mapOf s k)) wr := by
  obtain ⟨n, hn⟩ := h.m
  exact hn.look (by unfold maxLen; omega)

/-- what Read leaves -/
def OptReadP (s : ByteArray) (w : World) (e : Ending) (w' : World) : Prop :=
  ∃ o1 : Opt, o1.ok ∧ (∀ o : Opt, o.can → s.data.toList = optT o → o1 = o) ∧ ((s.data.toList = optT o1 ∧ e = .returned (.tuple #[.agg (optV o1), .int .i64 0])) ∨ (s.data.toList ≠ optT o1 ∧ e = .returned (.tuple #[.agg (optV oz), .int .i64 2]))) ∧ Kp (fun _ => False) w w'

def ML (w : World) : Prop := ∃ m, w.cell? ⟨4, 0, none⟩ = some (.int .i64 m)

theorem ML.kp {w w' : World} (h : ML w) (k : Kp (fun _ => False) w w') : ML w' := by
  obtain ⟨m, h⟩ := h
  exact ⟨m, (World.cell?_of_block (a := ⟨4, 0, none⟩) (k.block _ (World.block_lt_of_cell? w _ h) (fun h => h))).trans h⟩

set_option maxRecDepth 100000 in
set_option maxHeartbeats 8000000 in
theorem opts_Read (s : ByteArray) (w : World) (hs : s.size ≤ 2000) (ht : Tab w) (hz : Tz w) (he : Ev w) (hm : ML w) :
    Calls Tryd.prog 5 #[.string s] w (OptReadP s w) := by
  have HT := Lib.hid (And.intro ht (And.intro hz (And.intro he hm)))
  have HS := Lib.hid hs
  have hmm := @run_makeMap Tryd.prog
  obtain ⟨wz, hwz⟩ : ∃ wz : World, wz = ((w.alloc (.cells (optV oz) 25)).alloc (.cells (optV oz) 25)).alloc (.map #[] 0) := ⟨_, rfl⟩
  have HKz : Hid (Kp (fun _ => False) w wz) := Lib.hid (by rw [hwz]; exact (((Kp.refl _ w).alloc _).alloc _).alloc _)
  have HRz : Hid (Blk wz w.heap.size (optV oz) 25) := Lib.hid (by rw [hwz]; exact ((Blk.new w _ _).alloc _).alloc _)
  have HOz : Hid (Blk wz (w.heap.size + 1) (optV oz) 25) := Lib.hid (by
    rw [hwz]
    have := Blk.new (w.alloc (.cells (optV oz) 25)) (optV oz) 25
    rw [World.size_alloc] at this
    exact this.alloc _)
  have HMz : Hid (SMap wz (w.heap.size + 1 + 1) 0 (fun _ => ⟨#[]⟩)) := Lib.hid (by
    rw [hwz]
    have := SMap.made ((w.alloc (.cells (optV oz) 25)).alloc (.cells (optV oz) 25))
    simpa using this)
  have HFirst := Lib.hid (show ((w.alloc (.cells #[.int .i64 0, .int .i64 0, .int .i64 0, .int .u64 0, .int .i64 0, .int .i64 0, .int .i64 0, .float .f64 0, .float .f64 0] 25)).alloc (.cells #[.int .i64 0, .int .i64 0, .int .i64 0, .int .u64 0, .int .i64 0, .int .i64 0, .int .i64 0, .float .f64 0, .float .f64 0] 25)).alloc (.map #[] 0) = wz from hwz.symm)
  clear hwz ht hz he hm hs
  go_enter Tryd.func5, Tryd.ntmps5
  go_upto_region 3 with fail
  rw [HFirst.out]
  clear HFirst hmm
  obtain ⟨mx, hmx⟩ := HT.out.2.2.2.kp HKz.out
  have HWd := Lib.hid (octet_Words s mx wz (by have := HS.out; omega) hmx)
  clear hmx
  obtain ⟨bo, hbo⟩ : ∃ bo, bo = w.heap.size + 1 := ⟨_, rfl⟩
  obtain ⟨bm, hbm⟩ : ∃ bm, bm = w.heap.size + 1 + 1 := ⟨_, rfl⟩
  rw [← hbm] at HMz ⊢
  rw [← hbo] at HOz ⊢
  have HNe := Lib.hid (show w.heap.size < bo ∧ w.heap.size < bm ∧ bm ≠ bo by omega)
  clear hbo hbm
  go_wp2_with fail
  refine HWd.out.mono ?_
  rintro e w1 ⟨v, rfl, hO, hK⟩
  obtain ⟨aW, cW, hv, hcc, -⟩ := hO.form
  rw [strs_length] at hv
  subst hv
  have HW := Lib.hid hO
  have HR1 := Lib.hid (HRz.out.kp hK (fun h => h))
  have HO1 := Lib.hid (HOz.out.kp hK (fun h => h))
  have HM1 := Lib.hid (HMz.out.kp hK (fun h => h))
  have HK1 := Lib.hid (HKz.out.trans hK (fun _ _ h => h))
  have HBw := Lib.hid (show ∀ g, aW = some ⟨g, 0, none⟩ → g ≠ bm from fun g hg => by
    have h1 := (hO.lt g (by rw [hg]; rfl)).1
    have h2 := HMz.out.lt
    omega)
  obtain ⟨nW, hnW⟩ : ∃ nW, (wordsB s).length = nW := ⟨_, rfl⟩
  have hnW2 : nW ≤ 2001 := by have := wordsB_count s; have := HS.out; omega
  rw [hnW] at HW ⊢
  have HnW := Lib.hid hnW
  clear hO hK HRz HOz HMz HKz hcc hnW
  go_wp2_with fail
  go_loopw [7] (fun v7 wr => ∃ (i n : Nat) (F : ByteArray → ByteArray), v7 = .int .i64 (i : Int) ∧ i ≤ 4000 ∧ n ≤ i ∧ SMap wr bm n F ∧ putAll ((wordsB s).drop i) F = mapOf s ∧ Kp (fun j => j = bm) w1 wr) (fun v7 _ => 4001 - (intOf v7).toNat)
  case atStart => exact ⟨0, 0, _, rfl, by omega, by omega, HM1.out, rfl, Kp.refl _ _⟩
  case round =>
    obtain ⟨i, n, F, rfl, hi, hn, hM, hF, hK⟩ := hrel
    have HM := Lib.hid hM
    have HF := Lib.hid hF
    have HK := Lib.hid hK
    obtain ⟨wr0, rfl⟩ : ∃ wx : World, wx = wr := ⟨_, rfl⟩
    clear hM hF hK
    have i0 : (0 : Int) ≤ (i : Int) := by omega
    have i1 : (i : Int) ≤ 4000 := by omega
    by_cases hlt : i + 1 < nW
    · have hd : decide ((i : Int) + 1 < (nW : Int)) = true := by simp; omega
      have hj0 : i < (wordsB s).length := by have := HnW.out; omega
      have hj1 : i + 1 < (wordsB s).length := by have := HnW.out; omega
      obtain ⟨k, hk⟩ : ∃ k, (wordsB s)[i]? = some k := ⟨_, List.getElem?_eq_getElem hj0⟩
      obtain ⟨v, hv⟩ : ∃ v, (wordsB s)[i + 1]? = some v := ⟨_, List.getElem?_eq_getElem hj1⟩
      have hks : k.size ≤ 2000 := by have h1 := wordsB_le k (List.mem_of_getElem? hk); have := HS.out; omega
      have hvs : v.size ≤ 2000 := by have h1 := wordsB_le v (List.mem_of_getElem? hv); have := HS.out; omega
      obtain ⟨gW, cW', E, hg1, hg2⟩ := HW.out.leads (by rw [strs_length]; omega)
      simp only [Value.slice.injEq] at E
      obtain ⟨E, -, -⟩ := E
      subst E
      have hne := HBw.out gW rfl
      have x0 := (World.cell?_of_block (a := ⟨gW, i, none⟩) (HK.out.block gW hg2 hne)).trans (HW.out.cell (j := i) (u := .string k) (by simp [strs, hk]))
      have x1 := (World.cell?_of_block (a := ⟨gW, i + 1, none⟩) (HK.out.block gW hg2 hne)).trans (HW.out.cell (j := i + 1) (u := .string v) (by simp [strs, hv]))
      have HX := Lib.hid (And.intro x0 x1)
      obtain ⟨wp, hp, hSp, hKp⟩ := HM.out.put (by unfold maxLen; omega) (k := k) (v := v) (by unfold maxLen; omega) (by unfold maxLen; omega)
      obtain ⟨wq, hq, hSq, hKq⟩ := (show SMap wr0.drew bm n F from HM.out.kp ((Kp.refl (fun _ => False) wr0).drew) (fun h => h)).put (by unfold maxLen; omega) (k := k) (v := v) (by unfold maxLen; omega) (by unfold maxLen; omega)
      have HSp := Lib.hid (And.intro hSp hKp)
      have HSq := Lib.hid (And.intro hSq hKq)
      have HNx := Lib.hid (show putAll ((wordsB s).drop (i + 2)) (fun x => if x = k then v else F x) = mapOf s by rw [← HF.out, putAll_step hk hv])
      have j1 : (i : Int) < (nW : Int) := by omega
      have j2 : (i : Int) + 1 < (nW : Int) := by omega
      have j3 : (0 : Int) ≤ (i : Int) + 1 := by omega
      have j4 : IntKind.i64.wrap ((i : Int) + 1) = (i : Int) + 1 := by unfold IntKind.wrap; simp [IntKind.signed, IntKind.bits]; omega
      have j5 : ((i : Int) + 1).toNat = i + 1 := by omega
      have HXq := Lib.hid (show wq.cell? ⟨gW, i, none⟩ = some (.string k) ∧ wq.cell? ⟨gW, i + 1, none⟩ = some (.string v) from ⟨(World.cell?_of_block (a := ⟨gW, i, none⟩) (hKq.block gW (World.block_lt_of_cell? _ _ x0) hne)).trans x0, (World.cell?_of_block (a := ⟨gW, i + 1, none⟩) (hKq.block gW (World.block_lt_of_cell? _ _ x1) hne)).trans x1⟩)
      clear hSp hKp hSq hKq hj0 hj1 hk hv hg1 hg2 hne hks hvs
      go_upto_region 7 with fail
      go_region_held3 (fun u => u.cell? ⟨gW, i, none⟩ = some (.string k) ∧ u.cell? ⟨gW, i + 1, none⟩ = some (.string v)) (first | exact HXq.out | exact HX.out | exact ⟨(World.cell?_of_block (a := ⟨gW, i, none⟩) rfl).trans HX.out.1, (World.cell?_of_block (a := ⟨gW, i + 1, none⟩) rfl).trans HX.out.2⟩) (fail)
      all_goals go_wp2_with fail
      all_goals
        refine ⟨⟨i + 2, n + 1, _, by first | rfl | go_num, by omega, by omega, HSq.out.1, HNx.out, (HK.out.drew).trans HSq.out.2 (fun _ _ h => h)⟩, ?_⟩
        simp [intOf]; omega
    · have hd : decide ((i : Int) + 1 < (nW : Int)) = false := by simp; omega
      have hFe : F = mapOf s := by rw [← HF.out, putAll_end (by have := HnW.out; omega)]
      have HRd := Lib.hid (show Rd s w bo bm oz wr0 from ⟨HR1.out.kp HK.out (by have := HNe.out; omega), HO1.out.kp HK.out (by have := HNe.out; omega), ⟨n, hFe ▸ HM.out⟩, HNe.out.1, HNe.out.2.1, HNe.out.2.2, HK1.out.trans HK.out (fun j hj h => by have := HNe.out; omega)⟩)
      have HOlt := Lib.hid HRd.out.o.lt
      clear hFe HM HF HK HR1 HO1 HM1 HK1 HW HBw HnW hnW2 hn hi
      go_wp2_with fail
      refine (opts_numbers bo wr0 HRd.out.o.lt).mono ?_
      rintro e w2 ⟨g, rfl, hg, hN, hK⟩
      have HRd := Lib.hid (HRd.out.kp hK)
      have HN := Lib.hid hN
      have HGo := Lib.hid (show g ≠ bo by have := HOlt.out; omega)
      clear hg hN hK
      go_wp2_with fail
      go_loopw [32] (fun v32 wr => ∃ (i : Nat) (o1 : Opt), v32 = .int .i64 (i : Int) ∧ i ≤ 6 ∧ o1.ok ∧ (∀ o : Opt, o.can → s.data.toList = optT o → ∀ r, r < i → rowV o1 r = rowV o r) ∧ Rd s w bo bm o1 wr ∧ Blk wr g (numC bo) 51) (fun v32 _ => 6 - (intOf v32).toNat)
      case atStart => exact ⟨0, oz, rfl, by omega, oz_ok, fun o _ _ r hr => by omega, HRd.out, HN.out⟩
      case round =>
        obtain ⟨i, o1, rfl, hi, hok, hcan, hrd, hnb⟩ := hrel
        have HOk := Lib.hid hok
        have HCa := Lib.hid hcan
        have HRd := Lib.hid hrd
        have HNb := Lib.hid hnb
        obtain ⟨wi, rfl⟩ : ∃ wx : World, wx = wr := ⟨_, rfl⟩
        clear hok hcan hrd hnb HN
        by_cases hlt : i < 6
        · have HRw := Lib.hid (rowR bo i hlt)
          have x0 := HNb.out.cell HRw.out.x
          have x1 := HNb.out.cell HRw.out.y
          have lg := HNb.out.lt
          obtain ⟨X, hX⟩ : ∃ X, X = rowK i := ⟨_, rfl⟩
          obtain ⟨off, hoff⟩ : ∃ off, off = rowO i := ⟨_, rfl⟩
          rw [← hX] at x0
          rw [← hoff] at x1
          have HXo := Lib.hid (And.intro hX hoff)
          have i0 : (0 : Int) ≤ (i : Int) := by omega
          have i1 : (i : Int) < 6 := by omega
          have i2 : decide ((i : Int) < 6) = true := decide_eq_true i1
          have HLt := Lib.hid hlt
          clear hlt hX hoff hi
          go_upto_region 11 with fail
          obtain ⟨wx, hwx⟩ : ∃ wx : World, wx = wi.alloc (.cells #[.string X, .pointer (some ⟨bo, off, none⟩)] 51) := ⟨_, rfl⟩
          obtain ⟨bx, hbx⟩ : ∃ bx, bx = wi.heap.size := ⟨_, rfl⟩
          have HBx : Hid (Blk wx bx #[.string X, .pointer (some ⟨bo, off, none⟩)] 51) := Lib.hid (by rw [hwx, hbx]; exact Blk.new _ _ _)
          have HRx : Hid (Rd s w bo bm o1 wx) := Lib.hid (by rw [hwx]; exact HRd.out.kp ((Kp.refl _ _).alloc _))
          have HNx : Hid (Blk wx g (numC bo) 51) := Lib.hid (by rw [hwx]; exact HNb.out.alloc _)
          have HBo : Hid (bx ≠ bo) := Lib.hid (by have := HRd.out.o.lt; omega)
          rw [show wi.alloc (.cells #[.string X, .pointer (some ⟨bo, off, none⟩)] 51) = wx from hwx.symm, show wi.heap.size = bx from hbx.symm]
          clear hwx hbx HNb x0 x1 lg
          have hXs : X.size ≤ 6 := by rw [HXo.out.1]; exact HRw.out.k
          have lk1 := HRx.out.look hXs
          have lk2 := (HRx.out.kp ((Kp.refl (fun _ => False) wx).drew)).look hXs
          obtain ⟨V, hV⟩ : ∃ V, V = mapOf s X := ⟨_, rfl⟩
          rw [← hV] at lk1 lk2
          have HV := Lib.hid hV
          have HAt := Lib.hid (fun u (hu : Ev u) => Atoi_any V u (by rw [hV]; have := mapOf_size s X; have := HS.out; omega) hu)
          have HCe := Lib.hid (fun u (hK : Kp (fun _ => False) wx u) => show u.cell? ⟨bx, 0, none⟩ = some (.string X) ∧ u.cell? ⟨bx, 1, none⟩ = some (.pointer (some ⟨bo, off, none⟩)) from ⟨(HBx.out.kp hK (fun h => h)).cell rfl, (HBx.out.kp hK (fun h => h)).cell rfl⟩)
          clear hXs hV
          go_region_held3 (fun u => u.cell? ⟨bx, 0, none⟩ = some (.string X) ∧ u.cell? ⟨bx, 1, none⟩ = some (.pointer (some ⟨bo, off, none⟩))) (first | exact HCz.out | exact HCe.out _ (by repeat (first | (with_reducible exact Kp.refl _ _) | (with_reducible exact HKd.out) | (with_reducible apply Kp.alloc) | (with_reducible apply Kp.drew)))) ((first
            | ((with_reducible refine Calls.mono (HAt.out _ (((HT.out.2.2.1).kp HRx.out.k).kp (by repeat (first | (with_reducible exact Kp.refl _ _) | (with_reducible exact HKd.out) | (with_reducible apply Kp.alloc) | (with_reducible apply Kp.drew))))) ?_)
               rintro oo u1 ⟨v, E, rfl, hv, hc, hK⟩
               have HKd := Lib.hid (Kp.trans (a := wx) (by repeat (first | (with_reducible exact Kp.refl _ _) | (with_reducible exact HKd.out) | (with_reducible apply Kp.alloc) | (with_reducible apply Kp.drew))) hK (fun _ _ h => h))
               have HVv := Lib.hid (And.intro hv hc)
               have HRu := Lib.hid (HRx.out.kp HKd.out)
               have y0 : u1.cell? ⟨bo, off, none⟩ = some (.int .i64 (rowV o1 i)) := HRu.out.o.cell (by rw [HXo.out.2]; exact HRw.out.z o1)
               have y1 := HRu.out.o.free off
               have HCz := Lib.hid (show (u1.setCell ⟨bo, off, none⟩ (.int .i64 v)).cell? ⟨bx, 0, none⟩ = some (.string X) ∧ (u1.setCell ⟨bo, off, none⟩ (.int .i64 v)).cell? ⟨bx, 1, none⟩ = some (.pointer (some ⟨bo, off, none⟩)) from by
                 have hB := ((HBx.out.kp HKd.out (fun h => h)).set_other (p := ⟨bo, off, none⟩) HBo.out (.int .i64 v))
                 exact ⟨hB.cell rfl, hB.cell rfl⟩)
               clear lk1 lk2 hv hc hK)))
          all_goals go_wp2_with fail
          all_goals
            have HRel := Lib.hid (show Rd s w bo bm (setR o1 v i) (u1.setCell ⟨bo, off, none⟩ (.int .i64 v)) from HRu.out.set (by rw [HXo.out.2]; exact HRw.out.s o1 v))
            have HNr := Lib.hid ((HNx.out.kp HKd.out (fun h => h)).set_other (p := ⟨bo, off, none⟩) HGo.out (.int .i64 v))
            have HCc := Lib.hid (show ∀ o : Opt, o.can → s.data.toList = optT o → ∀ r, r < i + 1 → rowV (setR o1 v i) r = rowV o r from fun o hco ho r hr => by
              rw [HRw.out.g o1 v r (by have := HLt.out; omega)]
              by_cases e : r = i
              · rw [if_pos e, e]
                have h1 := HRw.out.c s o ho
                rw [← HXo.out.1, ← HV.out] at h1
                refine HVv.out.2 _ ?_ h1
                have hl := HLt.out
                match i, hl with
                | 0, _ => exact hco.ok.e
                | 1, _ => exact hco.ok.b
                | 2, _ => exact hco.ok.p
                | 3, _ => exact hco.ok.f
                | 4, _ => exact hco.ok.u
                | 5, _ => exact hco.ok.k
              · rw [if_neg e]; exact HCa.out o hco ho r (by omega))
          all_goals go_roundw
          all_goals first
            | (case rel => exact ⟨i + 1, setR o1 v i, by go_num, by have := HLt.out; omega, HRw.out.ok o1 v HOk.out HVv.out.1, HCc.out, HRel.out, HNr.out⟩)
            | (case rel => exact ⟨i + 1, setR o1 v i, by go_num, by have := HLt.out; omega, HRw.out.ok o1 v HOk.out HVv.out.1, HCc.out, HRel.out.kp ((Kp.refl _ _).drew), HNr.out⟩)
            | (case measure => have := HLt.out; simp [intOf]; omega)
        · have i2 : decide ((i : Int) < 6) = false := by simp; omega
          have h6 : i = 6 := by omega
          subst h6
          have l3 := HRd.out.o.lt
          have hst : ∀ (x : Nat) u a m, (store a (.float .f64 x) m).run Tryd.prog u = stored Tryd.prog u a (.float .f64 x) m := fun x u a m => run_store _ u a _ m rfl
          have lk := HRd.out.look (k := ⟨#[115, 101, 101, 100]⟩) (by decide)
          obtain ⟨VS, hVS⟩ : ∃ VS, VS = mapOf s ⟨#[115, 101, 101, 100]⟩ := ⟨_, rfl⟩
          rw [← hVS] at lk
          have HVS := Lib.hid hVS
          have HPa := Lib.hid (ParseUint_any VS wi (by rw [hVS]; have := mapOf_size s ⟨#[115, 101, 101, 100]⟩; have := HS.out; omega) (HT.out.2.2.1.kp HRd.out.k))
          clear hVS hi i0 i1 hd
          go_wp2_with fail
          refine HPa.out.mono ?_
          rintro e wA ⟨v1, E1, rfl, hv1, hc1, hK1⟩
          have HRdA := Lib.hid (HRd.out.kp hK1)
          have HV1 := Lib.hid (And.intro hv1 hc1)
          have y0 : wA.cell? ⟨bo, 3, none⟩ = some (.int .u64 (o1.s : Nat)) := HRdA.out.o.cell rfl
          have y1 := HRdA.out.o.free 3
          clear hv1 hc1 hK1 lk HPa HRd
          go_upto_region 14 with fail
          clear y0 y1
          obtain ⟨wB, hwB⟩ : ∃ wB : World, wB = wA.setCell ⟨bo, 3, none⟩ (.int .u64 (v1 : Int)) := ⟨_, rfl⟩
          have HRdB := Lib.hid (show Rd s w bo bm { o1 with s := v1 } wB from by rw [hwB]; exact HRdA.out.set rfl)
          rw [← hwB]
          clear hwB HRdA
          have lk := HRdB.out.look (k := ⟨#[100, 101, 99, 97, 121]⟩) (by decide)
          obtain ⟨VD, hVD⟩ : ∃ VD, VD = mapOf s ⟨#[100, 101, 99, 97, 121]⟩ := ⟨_, rfl⟩
          rw [← hVD] at lk
          have HVD := Lib.hid hVD
          have HSc := Lib.hid (score_Read VD wB)
          clear hVD
          go_wp2_with fail
          refine HSc.out.mono ?_
          rintro e wC ⟨b1, E2, rfl, hb1, hcb1, hK2⟩
          have HRdC := Lib.hid (HRdB.out.kp hK2)
          have HB1 := Lib.hid (And.intro hb1 hcb1)
          have y0 : wC.cell? ⟨bo, 7, none⟩ = some (.float .f64 o1.d) := HRdC.out.o.cell rfl
          have y1 := HRdC.out.o.free 7
          clear hb1 hcb1 hK2 lk HSc HRdB
          go_upto_region 15 with fail
          clear y0 y1
          obtain ⟨wD, hwD⟩ : ∃ wD : World, wD = wC.setCell ⟨bo, 7, none⟩ (.float .f64 b1) := ⟨_, rfl⟩
          have HRdD := Lib.hid (show Rd s w bo bm { o1 with s := v1, d := b1 } wD from by rw [hwD]; exact HRdC.out.set rfl)
          rw [← hwD]
          clear hwD HRdC
          have lk := HRdD.out.look (k := ⟨#[98, 117, 109, 112]⟩) (by decide)
          obtain ⟨VM, hVM⟩ : ∃ VM, VM = mapOf s ⟨#[98, 117, 109, 112]⟩ := ⟨_, rfl⟩
          rw [← hVM] at lk
          have HVM := Lib.hid hVM
          have HSm := Lib.hid (score_Read VM wD)
          clear hVM
          go_wp2_with fail
          refine HSm.out.mono ?_
          rintro e wE ⟨b2, E3, rfl, hb2, hcb2, hK3⟩
          have HRdE := Lib.hid (HRdD.out.kp hK3)
          have HB2 := Lib.hid (And.intro hb2 hcb2)
          have y0 : wE.cell? ⟨bo, 8, none⟩ = some (.float .f64 o1.m) := HRdE.out.o.cell rfl
          have y1 := HRdE.out.o.free 8
          clear hb2 hcb2 hK3 lk HSm HRdD
          go_upto_region 16 with fail
          clear y0 y1
          obtain ⟨wF, hwF⟩ : ∃ wF : World, wF = wE.setCell ⟨bo, 8, none⟩ (.float .f64 b2) := ⟨_, rfl⟩
          have hRF : Rd s w bo bm { o1 with s := v1, d := b1, m := b2 } wF := by rw [hwF]; exact HRdE.out.set rfl
          rw [← hwF]
          clear hwF HRdE
          have hok3 : ({ o1 with s := v1, d := b1, m := b2 } : Opt).ok := ⟨HOk.out.e, HOk.out.b, HOk.out.p, HOk.out.f, HOk.out.u, HOk.out.k, HV1.out.1, HB1.out.1, HB2.out.1⟩
          have hcan3 : ∀ o : Opt, o.can → s.data.toList = optT o → ({ o1 with s := v1, d := b1, m := b2 } : Opt) = o := fun o hco ho => by
            have r0 := HCa.out o hco ho
            obtain ⟨-, -, -, -, -, -, g7, g8, g9⟩ := mapOf_opt ho
            have e1 := HV1.out.2 o.s hco.ok.s (by rw [HVS.out]; exact congrArg (fun x : ByteArray => x.data.toList) g7)
            have e2 := HB1.out.2 o.d hco.ok.d hco.d (by rw [HVD.out]; have := congrArg (fun x : ByteArray => x.data.toList) g8; rw [hco.d] at this; exact this)
            have e3 := HB2.out.2 o.m hco.ok.m hco.m (by rw [HVM.out]; have := congrArg (fun x : ByteArray => x.data.toList) g9; rw [hco.m] at this; exact this)
            have a0 := r0 0 (by omega)
            have a1 := r0 1 (by omega)
            have a2 := r0 2 (by omega)
            have a3 := r0 3 (by omega)
            have a4 := r0 4 (by omega)
            have a5 := r0 5 (by omega)
            cases o
            simp only [rowV] at a0 a1 a2 a3 a4 a5
            simp only at e1 e2 e3
            simp only [Opt.mk.injEq]
            exact ⟨a0, a1, a2, a3, a4, a5, e1, e2, e3⟩
          obtain ⟨o3, ho3⟩ : ∃ o3 : Opt, o3 = { o1 with s := v1, d := b1, m := b2 } := ⟨_, rfl⟩
          rw [← ho3] at hRF hok3 hcan3
          have HRF := Lib.hid hRF
          have HO3 := Lib.hid (And.intro hok3 hcan3)
          have HWr := Lib.hid (opts_Write o3 wF hok3 (HT.out.1.kp hRF.k) (HT.out.2.1.kp hRF.k))
          clear hRF hok3 hcan3 ho3 HCa HV1 HB1 HB2 HVS HVD HVM HOk
          obtain ⟨z0, z1, z2, z3, z4, z5, z6, z7, z8⟩ := (show Blk wF bo #[.int .i64 o3.e, .int .i64 o3.b, .int .i64 o3.p, .int .u64 (o3.s : Nat), .int .i64 o3.f, .int .i64 o3.u, .int .i64 o3.k, .float .f64 o3.d, .float .f64 o3.m] 25 from HRF.out.o).cells9'
          unfold optV at HWr
          go_wp2_with fail
          refine HWr.out.mono ?_
          rintro e wG ⟨rfl, hK4⟩
          have HRG := Lib.hid (HRF.out.kp hK4)
          clear hK4 z0 z1 z2 z3 z4 z5 z6 z7 z8 HWr HRF
          obtain ⟨z0, z1, z2, z3, z4, z5, z6, z7, z8⟩ := (show Blk wG bo #[.int .i64 o3.e, .int .i64 o3.b, .int .i64 o3.p, .int .u64 (o3.s : Nat), .int .i64 o3.f, .int .i64 o3.u, .int .i64 o3.k, .float .f64 o3.d, .float .f64 o3.m] 25 from HRG.out.o).cells9'
          have hRb : Blk wG w.heap.size #[.int .i64 0, .int .i64 0, .int .i64 0, .int .u64 0, .int .i64 0, .int .i64 0, .int .i64 0, .float .f64 0, .float .f64 0] 25 := HRG.out.r
          obtain ⟨r0, r1, r2, r3, r4, r5, r6, r7, r8⟩ := hRb.cells9'
          have fr := hRb.free
          have fr0 := fr 0
          have fr1 := fr 1
          have fr2 := fr 2
          have fr3 := fr 3
          have fr4 := fr 4
          have fr5 := fr 5
          have fr6 := fr 6
          have fr7 := fr 7
          have fr8 := fr 8
          clear fr
          have n1 : bo ≠ w.heap.size := by have := HRG.out.l1; omega
          have n2 : w.heap.size ≠ bo := by have := HRG.out.l1; omega
          obtain ⟨T, hT⟩ : ∃ T : ByteArray, T = ⟨(optT o3).toArray⟩ := ⟨_, rfl⟩
          have hTl : T.toList = optT o3 := by rw [hT, Lib.toList_data]
          have hsl : s.toList = s.data.toList := Lib.toList_data s
          rw [← hT]
          clear hT
          by_cases hEq : s.data.toList = optT o3
          · have hq : (T.toList == s.toList) = true := by rw [hTl, hsl, hEq]; simp
            have HBe := Lib.hid (hRb.set9 (.int .i64 o3.e) (.int .i64 o3.b) (.int .i64 o3.p) (.int .u64 (o3.s : Nat)) (.int .i64 o3.f) (.int .i64 o3.u) (.int .i64 o3.k) (.float .f64 o3.d) (.float .f64 o3.m))
            have HKe := Lib.hid (Kp.set9 wG w.heap.size (.int .i64 o3.e) (.int .i64 o3.b) (.int .i64 o3.p) (.int .u64 (o3.s : Nat)) (.int .i64 o3.f) (.int .i64 o3.u) (.int .i64 o3.k) (.float .f64 o3.d) (.float .f64 o3.m))
            unfold Go.Proofs.YtpihfgpgdjjfhaaDoor.set9 at HBe HKe
            have HEq := Lib.hid hEq
            clear hEq hTl hsl hRb
            go_wp2_with fail
            obtain ⟨s0, s1, s2, s3, s4, s5, s6, s7, s8⟩ := HBe.out.cells9'
            exact bodyPost_ret (v := .tuple #[.agg (optV o3), .int .i64 0]) (by unfold optV; simp [results, Tryd.results5, go_sem, s0, s1, s2, s3, s4, s5, s6, s7, s8]) rfl
              ⟨o3, HO3.out.1, HO3.out.2, .inl ⟨HEq.out, rfl⟩, HRG.out.k.trans HKe.out (fun j hj h => by omega)⟩
          · have hq : (T.toList == s.toList) = false := by rw [hTl, hsl, beq_eq_false_iff_ne]; exact fun e => hEq e.symm
            have HBe := Lib.hid (hRb.set9 (.int .i64 0) (.int .i64 0) (.int .i64 0) (.int .u64 0) (.int .i64 0) (.int .i64 0) (.int .i64 0) (.float .f64 0) (.float .f64 0))
            have HKe := Lib.hid (Kp.set9 wG w.heap.size (.int .i64 0) (.int .i64 0) (.int .i64 0) (.int .u64 0) (.int .i64 0) (.int .i64 0) (.int .i64 0) (.float .f64 0) (.float .f64 0))
            unfold Go.Proofs.YtpihfgpgdjjfhaaDoor.set9 at HBe HKe
            have HEq := Lib.hid hEq
            clear hEq hTl hsl hRb
            go_wp2_with fail
            obtain ⟨s0, s1, s2, s3, s4, s5, s6, s7, s8⟩ := HBe.out.cells9'
            exact bodyPost_ret (v := .tuple #[.agg (optV oz), .int .i64 2]) (by unfold optV oz; simp [results, Tryd.results5, go_sem, s0, s1, s2, s3, s4, s5, s6, s7, s8]) rfl
              ⟨o3, HO3.out.1, HO3.out.2, .inr ⟨HEq.out, rfl⟩, HRG.out.k.trans HKe.out (fun j hj h => by omega)⟩

end Go.Proofs.YtpihfgpgdjjfhaaDoor

/-
  opts.Plain and latchetref39.Plain: options as engines take them.
-/
namespace Go.Proofs.YtpihfgpgdjjfhaaDoor
open Go.RowKit

def clampI (x lo hi : Int) : Int := if x < lo then lo else if hi < x then hi else x
def engI (x : Int) : Int := if x < 0 ∨ 2 < x then 0 else x
def plainO (o : Opt) : Opt := ⟨engI o.e, o.b, o.p, clampI o.f 0 1125899906842624, clampI o.u 1 1125899906842624, clampI o.k 0 1048576, o.s, o.d, o.m⟩

theorem clampI_idem {x lo hi : Int} (h : lo ≤ hi) : clampI (clampI x lo hi) lo hi = clampI x lo hi := by
  unfold clampI
  repeat' split
  all_goals omega
theorem clampI_ok {x lo hi : Int} (h : okN x) (h1 : okN lo) (h2 : okN hi) : okN (clampI x lo hi) := by
  unfold clampI
  repeat' split
  all_goals assumption
theorem engI_idem (x : Int) : engI (engI x) = engI x := by
  unfold engI
  repeat' split
  all_goals omega
theorem engI_ok {x : Int} (h : okN x) : okN (engI x) := by
  unfold engI
  split
  · exact ⟨by decide, by decide⟩
  · exact h
theorem plainO_ok {o : Opt} (h : o.ok) : (plainO o).ok :=
  ⟨engI_ok h.e, h.b, h.p, clampI_ok h.f ⟨by decide, by decide⟩ ⟨by decide, by decide⟩, clampI_ok h.u ⟨by decide, by decide⟩ ⟨by decide, by decide⟩, clampI_ok h.k ⟨by decide, by decide⟩ ⟨by decide, by decide⟩, h.s, h.d, h.m⟩
theorem plainO_idem (o : Opt) : plainO (plainO o) = plainO o := by
  unfold plainO
  simp only [engI_idem, Opt.mk.injEq]
  exact ⟨trivial, trivial, trivial, clampI_idem (by decide), clampI_idem (by decide), clampI_idem (by decide), trivial, trivial, trivial⟩

theorem ref39_within (x lo hi : Int) (w : World) :
    Calls Tryd.prog 34 #[.int .i64 x, .int .i64 lo, .int .i64 hi] w fun e w' => e = .returned (.int .i64 (clampI x lo hi)) ∧ w' = w := by
  by_cases h1 : x < lo
  · have t1 : decide (x < lo) = true := decide_eq_true h1
    have HX : Hid (clampI x lo hi = lo) := Lib.hid (by unfold clampI; rw [if_pos h1])
    rw [HX.out]
    clear h1
    go_enter Tryd.func34, Tryd.ntmps34
    go_wp2_with fail
    go_ret
    exact ⟨rfl, rfl⟩
  · have t1 : decide (x < lo) = false := decide_eq_false h1
    by_cases h2 : hi < x
    · have t2 : decide (hi < x) = true := decide_eq_true h2
      have HX : Hid (clampI x lo hi = hi) := Lib.hid (by unfold clampI; rw [if_neg h1, if_pos h2])
      rw [HX.out]
      clear h1 h2
      go_enter Tryd.func34, Tryd.ntmps34
      go_wp2_with fail
      go_ret
      exact ⟨rfl, rfl⟩
    · have t2 : decide (hi < x) = false := decide_eq_false h2
      have HX : Hid (clampI x lo hi = x) := Lib.hid (by unfold clampI; rw [if_neg h1, if_neg h2])
      rw [HX.out]
      clear h1 h2
      go_enter Tryd.func34, Tryd.ntmps34
      go_wp2_with fail
      go_ret
      exact ⟨rfl, rfl⟩

def PlainP (v : Value) (w : World) (e : Ending) (w' : World) : Prop := e = .returned v ∧ Kp (fun _ => False) w w'

theorem minmax (x lo hi : Int) (h : lo ≤ hi) : min (max x lo) hi = clampI x lo hi := by
  unfold clampI
  repeat' split
  all_goals omega

set_option maxRecDepth 100000 in
set_option maxHeartbeats 4000000 in
theorem opts_Plain (o : Opt) (w : World) :
    Calls Tryd.prog 13 #[.agg (optV o)] w (PlainP (.agg (optV (plainO o))) w) := by
  obtain ⟨e, b, p, f, u, k, s, d, m⟩ := o
  unfold optV
  obtain ⟨oB, hoB⟩ : ∃ o' : Opt, o' = plainO ⟨e, b, p, f, u, k, s, d, m⟩ := ⟨_, rfl⟩
  rw [← hoB]
  have HoB := Lib.hid hoB
  clear hoB
  obtain ⟨wA, hwA⟩ : ∃ wA, wA = (w.alloc (.cells #[.int .i64 e, .int .i64 b, .int .i64 p, .int .u64 (s : Nat), .int .i64 f, .int .i64 u, .int .i64 k, .float .f64 d, .float .f64 m] 25)).alloc (.cells #[.int .i64 0, .int .i64 0, .int .i64 0, .int .u64 0, .int .i64 0, .int .i64 0, .int .i64 0, .float .f64 0, .float .f64 0] 25) := ⟨_, rfl⟩
  have HA := Lib.hid hwA
  have HB0 : Hid (Blk wA w.heap.size #[.int .i64 e, .int .i64 b, .int .i64 p, .int .u64 (s : Nat), .int .i64 f, .int .i64 u, .int .i64 k, .float .f64 d, .float .f64 m] 25) := Lib.hid (by rw [hwA]; exact (Blk.new w _ _).alloc _)
  have HR0 : Hid (Blk wA (w.heap.size + 1) #[.int .i64 0, .int .i64 0, .int .i64 0, .int .u64 0, .int .i64 0, .int .i64 0, .int .i64 0, .float .f64 0, .float .f64 0] 25) := Lib.hid (by rw [hwA]; exact (World.size_alloc w _) ▸ Blk.new (w.alloc _) _ _)
  have HK0 : Hid (Kp (fun _ => False) w wA) := Lib.hid (by rw [hwA]; exact ((Kp.refl _ w).alloc _).alloc _)
  clear hwA
  go_enter Tryd.func13, Tryd.ntmps13
  go_upto_region 1 with fail
  rw [← HA.out]
  clear HA
  obtain ⟨rb, hrb⟩ : ∃ rb, rb = w.heap.size + 1 := ⟨_, rfl⟩
  rw [← hrb] at HR0 ⊢
  have n1 : rb ≠ w.heap.size := by omega
  have n2 : w.heap.size ≠ rb := by omega
  have HRb := Lib.hid hrb
  clear hrb
  have y0 : wA.cell? ⟨w.heap.size, 0, none⟩ = some (.int .i64 e) := HB0.out.cell rfl
  have f0 := HB0.out.free 0
  by_cases h1 : e < 0
  · have t1 : decide (e < 0) = true := decide_eq_true h1
    have HE := Lib.hid (show engI e = 0 from by unfold engI; rw [if_pos (.inl h1)])
    go_upto_region 3 with fail
    have HB1 := Lib.hid (HB0.out.set_same 0 (.int .i64 0))
    have HK1 := Lib.hid (HK0.out.setCell (p := ⟨w.heap.size, 0, none⟩) (fun h => absurd h (Nat.lt_irrefl _)) (.int .i64 0))
    obtain ⟨wB, hwB⟩ : ∃ x, x = wA.setCell ⟨w.heap.size, 0, none⟩ (.int .i64 0) := ⟨_, rfl⟩
    rw [← hwB] at HB1 HK1 ⊢
    have HRz : Hid (Blk wB rb #[.int .i64 0, .int .i64 0, .int .i64 0, .int .u64 0, .int .i64 0, .int .i64 0, .int .i64 0, .float .f64 0, .float .f64 0] 25) := Lib.hid (by rw [hwB]; exact HR0.out.set_other (p := ⟨w.heap.size, 0, none⟩) (by show rb ≠ w.heap.size; exact n1) _)
    clear hwB y0 f0
    have y4 : wB.cell? ⟨w.heap.size, 4, none⟩ = some (.int .i64 f) := HB1.out.cell rfl
    have f4 := HB1.out.free 4
    go_upto_region 4 with fail
    rw [show min (max f 0) 1125899906842624 = clampI f 0 1125899906842624 from minmax f 0 1125899906842624 (by decide)]
    have HB2 := Lib.hid (HB1.out.set_same 4 (.int .i64 (clampI f 0 1125899906842624)))
    have HK2 := Lib.hid (HK1.out.setCell (p := ⟨w.heap.size, 4, none⟩) (fun h => absurd h (Nat.lt_irrefl _)) (.int .i64 (clampI f 0 1125899906842624)))
    obtain ⟨wC, hwC⟩ : ∃ x, x = wB.setCell ⟨w.heap.size, 4, none⟩ (.int .i64 (clampI f 0 1125899906842624)) := ⟨_, rfl⟩
    rw [← hwC] at HB2 HK2 ⊢
    have HRr0 : Hid (Blk wC rb #[.int .i64 0, .int .i64 0, .int .i64 0, .int .u64 0, .int .i64 0, .int .i64 0, .int .i64 0, .float .f64 0, .float .f64 0] 25) := Lib.hid (by rw [hwC]; exact HRz.out.set_other (p := ⟨w.heap.size, 4, none⟩) (by show rb ≠ w.heap.size; exact n1) _)
    clear hwC y4 f4 HB1 HK1
    have y5 : wC.cell? ⟨w.heap.size, 5, none⟩ = some (.int .i64 u) := HB2.out.cell rfl
    have f5 := HB2.out.free 5
    go_upto_region 5 with fail
    rw [show min (max u 1) 1125899906842624 = clampI u 1 1125899906842624 from minmax u 1 1125899906842624 (by decide)]
    have HB3 := Lib.hid (HB2.out.set_same 5 (.int .i64 (clampI u 1 1125899906842624)))
    have HK3 := Lib.hid (HK2.out.setCell (p := ⟨w.heap.size, 5, none⟩) (fun h => absurd h (Nat.lt_irrefl _)) (.int .i64 (clampI u 1 1125899906842624)))
    obtain ⟨wD, hwD⟩ : ∃ x, x = wC.setCell ⟨w.heap.size, 5, none⟩ (.int .i64 (clampI u 1 1125899906842624)) := ⟨_, rfl⟩
    rw [← hwD] at HB3 HK3 ⊢
    have HRr1 : Hid (Blk wD rb #[.int .i64 0, .int .i64 0, .int .i64 0, .int .u64 0, .int .i64 0, .int .i64 0, .int .i64 0, .float .f64 0, .float .f64 0] 25) := Lib.hid (by rw [hwD]; exact HRr0.out.set_other (p := ⟨w.heap.size, 5, none⟩) (by show rb ≠ w.heap.size; exact n1) _)
    clear hwD y5 f5 HB2 HK2
    have y6 : wD.cell? ⟨w.heap.size, 6, none⟩ = some (.int .i64 k) := HB3.out.cell rfl
    have f6 := HB3.out.free 6
    go_upto_region 6 with fail
    rw [show min (max k 0) 1048576 = clampI k 0 1048576 from minmax k 0 1048576 (by decide)]
    have HB4 := Lib.hid (HB3.out.set_same 6 (.int .i64 (clampI k 0 1048576)))
    have HK4 := Lib.hid (HK3.out.setCell (p := ⟨w.heap.size, 6, none⟩) (fun h => absurd h (Nat.lt_irrefl _)) (.int .i64 (clampI k 0 1048576)))
    obtain ⟨wE, hwE⟩ : ∃ x, x = wD.setCell ⟨w.heap.size, 6, none⟩ (.int .i64 (clampI k 0 1048576)) := ⟨_, rfl⟩
    rw [← hwE] at HB4 HK4 ⊢
    have HRr2 : Hid (Blk wE rb #[.int .i64 0, .int .i64 0, .int .i64 0, .int .u64 0, .int .i64 0, .int .i64 0, .int .i64 0, .float .f64 0, .float .f64 0] 25) := Lib.hid (by rw [hwE]; exact HRr1.out.set_other (p := ⟨w.heap.size, 6, none⟩) (by show rb ≠ w.heap.size; exact n1) _)
    clear hwE y6 f6 HB3 HK3
    have HBf : Hid (Blk wE w.heap.size #[.int .i64 oB.e, .int .i64 oB.b, .int .i64 oB.p, .int .u64 (oB.s : Nat), .int .i64 oB.f, .int .i64 oB.u, .int .i64 oB.k, .float .f64 oB.d, .float .f64 oB.m] 25) := Lib.hid (by rw [HoB.out]; show Blk wE w.heap.size #[.int .i64 (engI e), .int .i64 b, .int .i64 p, .int .u64 (s : Nat), .int .i64 (clampI f 0 1125899906842624), .int .i64 (clampI u 1 1125899906842624), .int .i64 (clampI k 0 1048576), .float .f64 d, .float .f64 m] 25; rw [HE.out]; exact HB4.out)
    obtain ⟨z0, z1, z2, z3, z4, z5, z6, z7, z8⟩ := HBf.out.cells9'
    have hRb := HRr2.out
    obtain ⟨r0, r1, r2, r3, r4, r5, r6, r7, r8⟩ := hRb.cells9'
    have fr := hRb.free
    have fr0 := fr 0
    have fr1 := fr 1
    have fr2 := fr 2
    have fr3 := fr 3
    have fr4 := fr 4
    have fr5 := fr 5
    have fr6 := fr 6
    have fr7 := fr 7
    have fr8 := fr 8
    clear fr
    have HBe := Lib.hid (hRb.set9 (.int .i64 oB.e) (.int .i64 oB.b) (.int .i64 oB.p) (.int .u64 (oB.s : Nat)) (.int .i64 oB.f) (.int .i64 oB.u) (.int .i64 oB.k) (.float .f64 oB.d) (.float .f64 oB.m))
    have HKe := Lib.hid (Kp.set9 wE rb (.int .i64 oB.e) (.int .i64 oB.b) (.int .i64 oB.p) (.int .u64 (oB.s : Nat)) (.int .i64 oB.f) (.int .i64 oB.u) (.int .i64 oB.k) (.float .f64 oB.d) (.float .f64 oB.m))
    unfold Go.Proofs.YtpihfgpgdjjfhaaDoor.set9 at HBe HKe
    have hst : ∀ (x : Nat) u a m, (store a (.float .f64 x) m).run Tryd.prog u = stored Tryd.prog u a (.float .f64 x) m := fun x u a m => run_store _ u a _ m rfl
    clear hRb h1 t1
    go_wp2_with fail
    obtain ⟨s0, s1, s2, s3, s4, s5, s6, s7, s8⟩ := HBe.out.cells9'
    exact bodyPost_ret (v := .agg #[.int .i64 oB.e, .int .i64 oB.b, .int .i64 oB.p, .int .u64 (oB.s : Nat), .int .i64 oB.f, .int .i64 oB.u, .int .i64 oB.k, .float .f64 oB.d, .float .f64 oB.m]) (by simp [results, Tryd.results13, go_sem, s0, s1, s2, s3, s4, s5, s6, s7, s8]) rfl
      ⟨rfl, HK4.out.trans HKe.out (fun j hj h => by have := HRb.out; omega)⟩
  · have t1 : decide (e < 0) = false := decide_eq_false h1
    by_cases h2 : 2 < e
    · have t2 : decide (2 < e) = true := decide_eq_true h2
      have HE := Lib.hid (show engI e = 0 from by unfold engI; rw [if_pos (.inr h2)])
      go_upto_region 3 with fail
      have HB1 := Lib.hid (HB0.out.set_same 0 (.int .i64 0))
      have HK1 := Lib.hid (HK0.out.setCell (p := ⟨w.heap.size, 0, none⟩) (fun h => absurd h (Nat.lt_irrefl _)) (.int .i64 0))
      obtain ⟨wB, hwB⟩ : ∃ x, x = wA.setCell ⟨w.heap.size, 0, none⟩ (.int .i64 0) := ⟨_, rfl⟩
      rw [← hwB] at HB1 HK1 ⊢
      have HRz : Hid (Blk wB rb #[.int .i64 0, .int .i64 0, .int .i64 0, .int .u64 0, .int .i64 0, .int .i64 0, .int .i64 0, .float .f64 0, .float .f64 0] 25) := Lib.hid (by rw [hwB]; exact HR0.out.set_other (p := ⟨w.heap.size, 0, none⟩) (by show rb ≠ w.heap.size; exact n1) _)
      clear hwB y0 f0
      have y4 : wB.cell? ⟨w.heap.size, 4, none⟩ = some (.int .i64 f) := HB1.out.cell rfl
      have f4 := HB1.out.free 4
      go_upto_region 4 with fail
      rw [show min (max f 0) 1125899906842624 = clampI f 0 1125899906842624 from minmax f 0 1125899906842624 (by decide)]
      have HB2 := Lib.hid (HB1.out.set_same 4 (.int .i64 (clampI f 0 1125899906842624)))
      have HK2 := Lib.hid (HK1.out.setCell (p := ⟨w.heap.size, 4, none⟩) (fun h => absurd h (Nat.lt_irrefl _)) (.int .i64 (clampI f 0 1125899906842624)))
      obtain ⟨wC, hwC⟩ : ∃ x, x = wB.setCell ⟨w.heap.size, 4, none⟩ (.int .i64 (clampI f 0 1125899906842624)) := ⟨_, rfl⟩
      rw [← hwC] at HB2 HK2 ⊢
      have HRr0 : Hid (Blk wC rb #[.int .i64 0, .int .i64 0, .int .i64 0, .int .u64 0, .int .i64 0, .int .i64 0, .int .i64 0, .float .f64 0, .float .f64 0] 25) := Lib.hid (by rw [hwC]; exact HRz.out.set_other (p := ⟨w.heap.size, 4, none⟩) (by show rb ≠ w.heap.size; exact n1) _)
      clear hwC y4 f4 HB1 HK1
      have y5 : wC.cell? ⟨w.heap.size, 5, none⟩ = some (.int .i64 u) := HB2.out.cell rfl
      have f5 := HB2.out.free 5
      go_upto_region 5 with fail
      rw [show min (max u 1) 1125899906842624 = clampI u 1 1125899906842624 from minmax u 1 1125899906842624 (by decide)]
      have HB3 := Lib.hid (HB2.out.set_same 5 (.int .i64 (clampI u 1 1125899906842624)))
      have HK3 := Lib.hid (HK2.out.setCell (p := ⟨w.heap.size, 5, none⟩) (fun h => absurd h (Nat.lt_irrefl _)) (.int .i64 (clampI u 1 1125899906842624)))
      obtain ⟨wD, hwD⟩ : ∃ x, x = wC.setCell ⟨w.heap.size, 5, none⟩ (.int .i64 (clampI u 1 1125899906842624)) := ⟨_, rfl⟩
      rw [← hwD] at HB3 HK3 ⊢
      have HRr1 : Hid (Blk wD rb #[.int .i64 0, .int .i64 0, .int .i64 0, .int .u64 0, .int .i64 0, .int .i64 0, .int .i64 0, .float .f64 0, .float .f64 0] 25) := Lib.hid (by rw [hwD]; exact HRr0.out.set_other (p := ⟨w.heap.size, 5, none⟩) (by show rb ≠ w.heap.size; exact n1) _)
      clear hwD y5 f5 HB2 HK2
      have y6 : wD.cell? ⟨w.heap.size, 6, none⟩ = some (.int .i64 k) := HB3.out.cell rfl
      have f6 := HB3.out.free 6
      go_upto_region 6 with fail
      rw [show min (max k 0) 1048576 = clampI k 0 1048576 from minmax k 0 1048576 (by decide)]
      have HB4 := Lib.hid (HB3.out.set_same 6 (.int .i64 (clampI k 0 1048576)))
      have HK4 := Lib.hid (HK3.out.setCell (p := ⟨w.heap.size, 6, none⟩) (fun h => absurd h (Nat.lt_irrefl _)) (.int .i64 (clampI k 0 1048576)))
      obtain ⟨wE, hwE⟩ : ∃ x, x = wD.setCell ⟨w.heap.size, 6, none⟩ (.int .i64 (clampI k 0 1048576)) := ⟨_, rfl⟩
      rw [← hwE] at HB4 HK4 ⊢
      have HRr2 : Hid (Blk wE rb #[.int .i64 0, .int .i64 0, .int .i64 0, .int .u64 0, .int .i64 0, .int .i64 0, .int .i64 0, .float .f64 0, .float .f64 0] 25) := Lib.hid (by rw [hwE]; exact HRr1.out.set_other (p := ⟨w.heap.size, 6, none⟩) (by show rb ≠ w.heap.size; exact n1) _)
      clear hwE y6 f6 HB3 HK3
      have HBf : Hid (Blk wE w.heap.size #[.int .i64 oB.e, .int .i64 oB.b, .int .i64 oB.p, .int .u64 (oB.s : Nat), .int .i64 oB.f, .int .i64 oB.u, .int .i64 oB.k, .float .f64 oB.d, .float .f64 oB.m] 25) := Lib.hid (by rw [HoB.out]; show Blk wE w.heap.size #[.int .i64 (engI e), .int .i64 b, .int .i64 p, .int .u64 (s : Nat), .int .i64 (clampI f 0 1125899906842624), .int .i64 (clampI u 1 1125899906842624), .int .i64 (clampI k 0 1048576), .float .f64 d, .float .f64 m] 25; rw [HE.out]; exact HB4.out)
      obtain ⟨z0, z1, z2, z3, z4, z5, z6, z7, z8⟩ := HBf.out.cells9'
      have hRb := HRr2.out
      obtain ⟨r0, r1, r2, r3, r4, r5, r6, r7, r8⟩ := hRb.cells9'
      have fr := hRb.free
      have fr0 := fr 0
      have fr1 := fr 1
      have fr2 := fr 2
      have fr3 := fr 3
      have fr4 := fr 4
      have fr5 := fr 5
      have fr6 := fr 6
      have fr7 := fr 7
      have fr8 := fr 8
      clear fr
      have HBe := Lib.hid (hRb.set9 (.int .i64 oB.e) (.int .i64 oB.b) (.int .i64 oB.p) (.int .u64 (oB.s : Nat)) (.int .i64 oB.f) (.int .i64 oB.u) (.int .i64 oB.k) (.float .f64 oB.d) (.float .f64 oB.m))
      have HKe := Lib.hid (Kp.set9 wE rb (.int .i64 oB.e) (.int .i64 oB.b) (.int .i64 oB.p) (.int .u64 (oB.s : Nat)) (.int .i64 oB.f) (.int .i64 oB.u) (.int .i64 oB.k) (.float .f64 oB.d) (.float .f64 oB.m))
      unfold Go.Proofs.YtpihfgpgdjjfhaaDoor.set9 at HBe HKe
      have hst : ∀ (x : Nat) u a m, (store a (.float .f64 x) m).run Tryd.prog u = stored Tryd.prog u a (.float .f64 x) m := fun x u a m => run_store _ u a _ m rfl
      clear hRb h1 t1 h2 t2
      go_wp2_with fail
      obtain ⟨s0, s1, s2, s3, s4, s5, s6, s7, s8⟩ := HBe.out.cells9'
      exact bodyPost_ret (v := .agg #[.int .i64 oB.e, .int .i64 oB.b, .int .i64 oB.p, .int .u64 (oB.s : Nat), .int .i64 oB.f, .int .i64 oB.u, .int .i64 oB.k, .float .f64 oB.d, .float .f64 oB.m]) (by simp [results, Tryd.results13, go_sem, s0, s1, s2, s3, s4, s5, s6, s7, s8]) rfl
        ⟨rfl, HK4.out.trans HKe.out (fun j hj h => by have := HRb.out; omega)⟩
    · have t2 : decide (2 < e) = false := decide_eq_false h2
      have HE := Lib.hid (show engI e = e from by unfold engI; rw [if_neg (by omega)])
      go_upto_region 3 with fail
      have HB1 := HB0
      have HK1 := HK0
      have HRz := HR0
      obtain ⟨wB, hwB⟩ : ∃ x, x = wA := ⟨_, rfl⟩
      rw [← hwB] at HB1 HK1 HRz ⊢
      clear hwB y0 f0
      have y4 : wB.cell? ⟨w.heap.size, 4, none⟩ = some (.int .i64 f) := HB1.out.cell rfl
      have f4 := HB1.out.free 4
      go_upto_region 4 with fail
      rw [show min (max f 0) 1125899906842624 = clampI f 0 1125899906842624 from minmax f 0 1125899906842624 (by decide)]
      have HB2 := Lib.hid (HB1.out.set_same 4 (.int .i64 (clampI f 0 1125899906842624)))
      have HK2 := Lib.hid (HK1.out.setCell (p := ⟨w.heap.size, 4, none⟩) (fun h => absurd h (Nat.lt_irrefl _)) (.int .i64 (clampI f 0 1125899906842624)))
      obtain ⟨wC, hwC⟩ : ∃ x, x = wB.setCell ⟨w.heap.size, 4, none⟩ (.int .i64 (clampI f 0 1125899906842624)) := ⟨_, rfl⟩
      rw [← hwC] at HB2 HK2 ⊢
      have HRr0 : Hid (Blk wC rb #[.int .i64 0, .int .i64 0, .int .i64 0, .int .u64 0, .int .i64 0, .int .i64 0, .int .i64 0, .float .f64 0, .float .f64 0] 25) := Lib.hid (by rw [hwC]; exact HRz.out.set_other (p := ⟨w.heap.size, 4, none⟩) (by show rb ≠ w.heap.size; exact n1) _)
      clear hwC y4 f4 HB1 HK1
      have y5 : wC.cell? ⟨w.heap.size, 5, none⟩ = some (.int .i64 u) := HB2.out.cell rfl
      have f5 := HB2.out.free 5
      go_upto_region 5 with fail
      rw [show min (max u 1) 1125899906842624 = clampI u 1 1125899906842624 from minmax u 1 1125899906842624 (by decide)]
      have HB3 := Lib.hid (HB2.out.set_same 5 (.int .i64 (clampI u 1 1125899906842624)))
      have HK3 := Lib.hid (HK2.out.setCell (p := ⟨w.heap.size, 5, none⟩) (fun h => absurd h (Nat.lt_irrefl _)) (.int .i64 (clampI u 1 1125899906842624)))
      obtain ⟨wD, hwD⟩ : ∃ x, x = wC.setCell ⟨w.heap.size, 5, none⟩ (.int .i64 (clampI u 1 1125899906842624)) := ⟨_, rfl⟩
      rw [← hwD] at HB3 HK3 ⊢
      have HRr1 : Hid (Blk wD rb #[.int .i64 0, .int .i64 0, .int .i64 0, .int .u64 0, .int .i64 0, .int .i64 0, .int .i64 0, .float .f64 0, .float .f64 0] 25) := Lib.hid (by rw [hwD]; exact HRr0.out.set_other (p := ⟨w.heap.size, 5, none⟩) (by show rb ≠ w.heap.size; exact n1) _)
      clear hwD y5 f5 HB2 HK2
      have y6 : wD.cell? ⟨w.heap.size, 6, none⟩ = some (.int .i64 k) := HB3.out.cell rfl
      have f6 := HB3.out.free 6
      go_upto_region 6 with fail
      rw [show min (max k 0) 1048576 = clampI k 0 1048576 from minmax k 0 1048576 (by decide)]
      have HB4 := Lib.hid (HB3.out.set_same 6 (.int .i64 (clampI k 0 1048576)))
      have HK4 := Lib.hid (HK3.out.setCell (p := ⟨w.heap.size, 6, none⟩) (fun h => absurd h (Nat.lt_irrefl _)) (.int .i64 (clampI k 0 1048576)))
      obtain ⟨wE, hwE⟩ : ∃ x, x = wD.setCell ⟨w.heap.size, 6, none⟩ (.int .i64 (clampI k 0 1048576)) := ⟨_, rfl⟩
      rw [← hwE] at HB4 HK4 ⊢
      have HRr2 : Hid (Blk wE rb #[.int .i64 0, .int .i64 0, .int .i64 0, .int .u64 0, .int .i64 0, .int .i64 0, .int .i64 0, .float .f64 0, .float .f64 0] 25) := Lib.hid (by rw [hwE]; exact HRr1.out.set_other (p := ⟨w.heap.size, 6, none⟩) (by show rb ≠ w.heap.size; exact n1) _)
      clear hwE y6 f6 HB3 HK3
      have HBf : Hid (Blk wE w.heap.size #[.int .i64 oB.e, .int .i64 oB.b, .int .i64 oB.p, .int .u64 (oB.s : Nat), .int .i64 oB.f, .int .i64 oB.u, .int .i64 oB.k, .float .f64 oB.d, .float .f64 oB.m] 25) := Lib.hid (by rw [HoB.out]; show Blk wE w.heap.size #[.int .i64 (engI e), .int .i64 b, .int .i64 p, .int .u64 (s : Nat), .int .i64 (clampI f 0 1125899906842624), .int .i64 (clampI u 1 1125899906842624), .int .i64 (clampI k 0 1048576), .float .f64 d, .float .f64 m] 25; rw [HE.out]; exact HB4.out)
      obtain ⟨z0, z1, z2, z3, z4, z5, z6, z7, z8⟩ := HBf.out.cells9'
      have hRb := HRr2.out
      obtain ⟨r0, r1, r2, r3, r4, r5, r6, r7, r8⟩ := hRb.cells9'
      have fr := hRb.free
      have fr0 := fr 0
      have fr1 := fr 1
      have fr2 := fr 2
      have fr3 := fr 3
      have fr4 := fr 4
      have fr5 := fr 5
      have fr6 := fr 6
      have fr7 := fr 7
      have fr8 := fr 8
      clear fr
      have HBe := Lib.hid (hRb.set9 (.int .i64 oB.e) (.int .i64 oB.b) (.int .i64 oB.p) (.int .u64 (oB.s : Nat)) (.int .i64 oB.f) (.int .i64 oB.u) (.int .i64 oB.k) (.float .f64 oB.d) (.float .f64 oB.m))
      have HKe := Lib.hid (Kp.set9 wE rb (.int .i64 oB.e) (.int .i64 oB.b) (.int .i64 oB.p) (.int .u64 (oB.s : Nat)) (.int .i64 oB.f) (.int .i64 oB.u) (.int .i64 oB.k) (.float .f64 oB.d) (.float .f64 oB.m))
      unfold Go.Proofs.YtpihfgpgdjjfhaaDoor.set9 at HBe HKe
      have hst : ∀ (x : Nat) u a m, (store a (.float .f64 x) m).run Tryd.prog u = stored Tryd.prog u a (.float .f64 x) m := fun x u a m => run_store _ u a _ m rfl
      clear hRb h1 t1 h2 t2
      go_wp2_with fail
      obtain ⟨s0, s1, s2, s3, s4, s5, s6, s7, s8⟩ := HBe.out.cells9'
      exact bodyPost_ret (v := .agg #[.int .i64 oB.e, .int .i64 oB.b, .int .i64 oB.p, .int .u64 (oB.s : Nat), .int .i64 oB.f, .int .i64 oB.u, .int .i64 oB.k, .float .f64 oB.d, .float .f64 oB.m]) (by simp [results, Tryd.results13, go_sem, s0, s1, s2, s3, s4, s5, s6, s7, s8]) rfl
        ⟨rfl, HK4.out.trans HKe.out (fun j hj h => by have := HRb.out; omega)⟩

set_option maxRecDepth 100000 in
set_option maxHeartbeats 4000000 in
theorem ref39_Plain (o : Opt) (w : World) :
    Calls Tryd.prog 14 #[.agg (optC o)] w (PlainP (.agg (optC (plainO o))) w) := by
  obtain ⟨e, b, p, f, u, k, s, d, m⟩ := o
  unfold optC
  obtain ⟨oB, hoB⟩ : ∃ o' : Opt, o' = plainO ⟨e, b, p, f, u, k, s, d, m⟩ := ⟨_, rfl⟩
  rw [← hoB]
  have HoB := Lib.hid hoB
  clear hoB
  obtain ⟨wA, hwA⟩ : ∃ wA, wA = (w.alloc (.cells #[.int .i64 e, .int .i64 b, .int .i64 p, .int .i64 f, .int .i64 u, .int .i64 k, .int .u64 (s : Nat), .int .u64 (d : Nat), .int .u64 (m : Nat)] 31)).alloc (.cells #[.int .i64 0, .int .i64 0, .int .i64 0, .int .i64 0, .int .i64 0, .int .i64 0, .int .u64 0, .int .u64 0, .int .u64 0] 31) := ⟨_, rfl⟩
  have HA := Lib.hid hwA
  have HB0 : Hid (Blk wA w.heap.size #[.int .i64 e, .int .i64 b, .int .i64 p, .int .i64 f, .int .i64 u, .int .i64 k, .int .u64 (s : Nat), .int .u64 (d : Nat), .int .u64 (m : Nat)] 31) := Lib.hid (by rw [hwA]; exact (Blk.new w _ _).alloc _)
  have HR0 : Hid (Blk wA (w.heap.size + 1) #[.int .i64 0, .int .i64 0, .int .i64 0, .int .i64 0, .int .i64 0, .int .i64 0, .int .u64 0, .int .u64 0, .int .u64 0] 31) := Lib.hid (by rw [hwA]; exact (World.size_alloc w _) ▸ Blk.new (w.alloc _) _ _)
  have HK0 : Hid (Kp (fun _ => False) w wA) := Lib.hid (by rw [hwA]; exact ((Kp.refl _ w).alloc _).alloc _)
  clear hwA
  go_enter Tryd.func14, Tryd.ntmps14
  go_upto_region 1 with fail
  rw [← HA.out]
  clear HA
  obtain ⟨rb, hrb⟩ : ∃ rb, rb = w.heap.size + 1 := ⟨_, rfl⟩
  rw [← hrb] at HR0 ⊢
  have n1 : rb ≠ w.heap.size := by omega
  have n2 : w.heap.size ≠ rb := by omega
  have HRb := Lib.hid hrb
  clear hrb
  have y0 : wA.cell? ⟨w.heap.size, 0, none⟩ = some (.int .i64 e) := HB0.out.cell rfl
  have f0 := HB0.out.free 0
  by_cases h1 : e < 0
  · have t1 : decide (e < 0) = true := decide_eq_true h1
    have HE := Lib.hid (show engI e = 0 from by unfold engI; rw [if_pos (.inl h1)])
    go_upto_region 3 with fail
    have HB1 := Lib.hid (HB0.out.set_same 0 (.int .i64 0))
    have HK1 := Lib.hid (HK0.out.setCell (p := ⟨w.heap.size, 0, none⟩) (fun h => absurd h (Nat.lt_irrefl _)) (.int .i64 0))
    obtain ⟨wB, hwB⟩ : ∃ x, x = wA.setCell ⟨w.heap.size, 0, none⟩ (.int .i64 0) := ⟨_, rfl⟩
    rw [← hwB] at HB1 HK1 ⊢
    have HRz : Hid (Blk wB rb #[.int .i64 0, .int .i64 0, .int .i64 0, .int .i64 0, .int .i64 0, .int .i64 0, .int .u64 0, .int .u64 0, .int .u64 0] 31) := Lib.hid (by rw [hwB]; exact HR0.out.set_other (p := ⟨w.heap.size, 0, none⟩) (by show rb ≠ w.heap.size; exact n1) _)
    clear hwB y0 f0
    have y3 : wB.cell? ⟨w.heap.size, 3, none⟩ = some (.int .i64 f) := HB1.out.cell rfl
    have f3 := HB1.out.free 3
    have HW0 := Lib.hid (ref39_within f 0 1125899906842624 wB)
    obtain ⟨vf, hvf⟩ : ∃ v, v = (clampI f 0 1125899906842624) := ⟨_, rfl⟩
    rw [← hvf] at HW0
    have HVf := Lib.hid hvf
    clear hvf
    go_wp2_with fail
    refine HW0.out.mono ?_
    rintro _ wn0 ⟨rfl, hwn0⟩
    rw [hwn0]
    clear hwn0
    go_upto_region 4 with fail
    have HB2 := Lib.hid (HB1.out.set_same 3 (.int .i64 vf))
    have HK2 := Lib.hid (HK1.out.setCell (p := ⟨w.heap.size, 3, none⟩) (fun h => absurd h (Nat.lt_irrefl _)) (.int .i64 vf))
    obtain ⟨wC, hwC⟩ : ∃ x, x = wB.setCell ⟨w.heap.size, 3, none⟩ (.int .i64 vf) := ⟨_, rfl⟩
    rw [← hwC] at HB2 HK2 ⊢
    have HRr0 : Hid (Blk wC rb #[.int .i64 0, .int .i64 0, .int .i64 0, .int .i64 0, .int .i64 0, .int .i64 0, .int .u64 0, .int .u64 0, .int .u64 0] 31) := Lib.hid (by rw [hwC]; exact HRz.out.set_other (p := ⟨w.heap.size, 3, none⟩) (by show rb ≠ w.heap.size; exact n1) _)
    clear hwC y3 f3 HB1 HK1
    have y4 : wC.cell? ⟨w.heap.size, 4, none⟩ = some (.int .i64 u) := HB2.out.cell rfl
    have f4 := HB2.out.free 4
    have HW1 := Lib.hid (ref39_within u 1 1125899906842624 wC)
    obtain ⟨vu, hvu⟩ : ∃ v, v = (clampI u 1 1125899906842624) := ⟨_, rfl⟩
    rw [← hvu] at HW1
    have HVu := Lib.hid hvu
    clear hvu
    go_wp2_with fail
    refine HW1.out.mono ?_
    rintro _ wn1 ⟨rfl, hwn1⟩
    rw [hwn1]
    clear hwn1
    go_upto_region 5 with fail
    have HB3 := Lib.hid (HB2.out.set_same 4 (.int .i64 vu))
    have HK3 := Lib.hid (HK2.out.setCell (p := ⟨w.heap.size, 4, none⟩) (fun h => absurd h (Nat.lt_irrefl _)) (.int .i64 vu))
    obtain ⟨wD, hwD⟩ : ∃ x, x = wC.setCell ⟨w.heap.size, 4, none⟩ (.int .i64 vu) := ⟨_, rfl⟩
    rw [← hwD] at HB3 HK3 ⊢
    have HRr1 : Hid (Blk wD rb #[.int .i64 0, .int .i64 0, .int .i64 0, .int .i64 0, .int .i64 0, .int .i64 0, .int .u64 0, .int .u64 0, .int .u64 0] 31) := Lib.hid (by rw [hwD]; exact HRr0.out.set_other (p := ⟨w.heap.size, 4, none⟩) (by show rb ≠ w.heap.size; exact n1) _)
    clear hwD y4 f4 HB2 HK2
    have y5 : wD.cell? ⟨w.heap.size, 5, none⟩ = some (.int .i64 k) := HB3.out.cell rfl
    have f5 := HB3.out.free 5
    have HW2 := Lib.hid (ref39_within k 0 1048576 wD)
    obtain ⟨vk, hvk⟩ : ∃ v, v = (clampI k 0 1048576) := ⟨_, rfl⟩
    rw [← hvk] at HW2
    have HVk := Lib.hid hvk
    clear hvk
    go_wp2_with fail
    refine HW2.out.mono ?_
    rintro _ wn2 ⟨rfl, hwn2⟩
    rw [hwn2]
    clear hwn2
    go_upto_region 6 with fail
    have HB4 := Lib.hid (HB3.out.set_same 5 (.int .i64 vk))
    have HK4 := Lib.hid (HK3.out.setCell (p := ⟨w.heap.size, 5, none⟩) (fun h => absurd h (Nat.lt_irrefl _)) (.int .i64 vk))
    obtain ⟨wE, hwE⟩ : ∃ x, x = wD.setCell ⟨w.heap.size, 5, none⟩ (.int .i64 vk) := ⟨_, rfl⟩
    rw [← hwE] at HB4 HK4 ⊢
    have HRr2 : Hid (Blk wE rb #[.int .i64 0, .int .i64 0, .int .i64 0, .int .i64 0, .int .i64 0, .int .i64 0, .int .u64 0, .int .u64 0, .int .u64 0] 31) := Lib.hid (by rw [hwE]; exact HRr1.out.set_other (p := ⟨w.heap.size, 5, none⟩) (by show rb ≠ w.heap.size; exact n1) _)
    clear hwE y5 f5 HB3 HK3
    have HBf : Hid (Blk wE w.heap.size #[.int .i64 oB.e, .int .i64 oB.b, .int .i64 oB.p, .int .i64 oB.f, .int .i64 oB.u, .int .i64 oB.k, .int .u64 (oB.s : Nat), .int .u64 (oB.d : Nat), .int .u64 (oB.m : Nat)] 31) := Lib.hid (by rw [HoB.out]; show Blk wE w.heap.size #[.int .i64 (engI e), .int .i64 b, .int .i64 p, .int .i64 (clampI f 0 1125899906842624), .int .i64 (clampI u 1 1125899906842624), .int .i64 (clampI k 0 1048576), .int .u64 (s : Nat), .int .u64 (d : Nat), .int .u64 (m : Nat)] 31; rw [HE.out, ← HVf.out, ← HVu.out, ← HVk.out]; exact HB4.out)
    obtain ⟨z0, z1, z2, z3, z4, z5, z6, z7, z8⟩ := HBf.out.cells9'
    have hRb := HRr2.out
    obtain ⟨r0, r1, r2, r3, r4, r5, r6, r7, r8⟩ := hRb.cells9'
    have fr := hRb.free
    have fr0 := fr 0
    have fr1 := fr 1
    have fr2 := fr 2
    have fr3 := fr 3
    have fr4 := fr 4
    have fr5 := fr 5
    have fr6 := fr 6
    have fr7 := fr 7
    have fr8 := fr 8
    clear fr
    have HBe := Lib.hid (hRb.set9 (.int .i64 oB.e) (.int .i64 oB.b) (.int .i64 oB.p) (.int .i64 oB.f) (.int .i64 oB.u) (.int .i64 oB.k) (.int .u64 (oB.s : Nat)) (.int .u64 (oB.d : Nat)) (.int .u64 (oB.m : Nat)))
    have HKe := Lib.hid (Kp.set9 wE rb (.int .i64 oB.e) (.int .i64 oB.b) (.int .i64 oB.p) (.int .i64 oB.f) (.int .i64 oB.u) (.int .i64 oB.k) (.int .u64 (oB.s : Nat)) (.int .u64 (oB.d : Nat)) (.int .u64 (oB.m : Nat)))
    unfold Go.Proofs.YtpihfgpgdjjfhaaDoor.set9 at HBe HKe
    clear hRb h1 t1
    go_wp2_with fail
    obtain ⟨s0, s1, s2, s3, s4, s5, s6, s7, s8⟩ := HBe.out.cells9'
    exact bodyPost_ret (v := .agg #[.int .i64 oB.e, .int .i64 oB.b, .int .i64 oB.p, .int .i64 oB.f, .int .i64 oB.u, .int .i64 oB.k, .int .u64 (oB.s : Nat), .int .u64 (oB.d : Nat), .int .u64 (oB.m : Nat)]) (by simp [results, Tryd.results14, go_sem, s0, s1, s2, s3, s4, s5, s6, s7, s8]) rfl
      ⟨rfl, HK4.out.trans HKe.out (fun j hj h => by have := HRb.out; omega)⟩
  · have t1 : decide (e < 0) = false := decide_eq_false h1
    by_cases h2 : 2 < e
    · have t2 : decide (2 < e) = true := decide_eq_true h2
      have HE := Lib.hid (show engI e = 0 from by unfold engI; rw [if_pos (.inr h2)])
      go_upto_region 3 with fail
      have HB1 := Lib.hid (HB0.out.set_same 0 (.int .i64 0))
      have HK1 := Lib.hid (HK0.out.setCell (p := ⟨w.heap.size, 0, none⟩) (fun h => absurd h (Nat.lt_irrefl _)) (.int .i64 0))
      obtain ⟨wB, hwB⟩ : ∃ x, x = wA.setCell ⟨w.heap.size, 0, none⟩ (.int .i64 0) := ⟨_, rfl⟩
      rw [← hwB] at HB1 HK1 ⊢
      have HRz : Hid (Blk wB rb #[.int .i64 0, .int .i64 0, .int .i64 0, .int .i64 0, .int .i64 0, .int .i64 0, .int .u64 0, .int .u64 0, .int .u64 0] 31) := Lib.hid (by rw [hwB]; exact HR0.out.set_other (p := ⟨w.heap.size, 0, none⟩) (by show rb ≠ w.heap.size; exact n1) _)
      clear hwB y0 f0
      have y3 : wB.cell? ⟨w.heap.size, 3, none⟩ = some (.int .i64 f) := HB1.out.cell rfl
      have f3 := HB1.out.free 3
      have HW0 := Lib.hid (ref39_within f 0 1125899906842624 wB)
      obtain ⟨vf, hvf⟩ : ∃ v, v = (clampI f 0 1125899906842624) := ⟨_, rfl⟩
      rw [← hvf] at HW0
      have HVf := Lib.hid hvf
      clear hvf
      go_wp2_with fail
      refine HW0.out.mono ?_
      rintro _ wn0 ⟨rfl, hwn0⟩
      rw [hwn0]
      clear hwn0
      go_upto_region 4 with fail
      have HB2 := Lib.hid (HB1.out.set_same 3 (.int .i64 vf))
      have HK2 := Lib.hid (HK1.out.setCell (p := ⟨w.heap.size, 3, none⟩) (fun h => absurd h (Nat.lt_irrefl _)) (.int .i64 vf))
      obtain ⟨wC, hwC⟩ : ∃ x, x = wB.setCell ⟨w.heap.size, 3, none⟩ (.int .i64 vf) := ⟨_, rfl⟩
      rw [← hwC] at HB2 HK2 ⊢
      have HRr0 : Hid (Blk wC rb #[.int .i64 0, .int .i64 0, .int .i64 0, .int .i64 0, .int .i64 0, .int .i64 0, .int .u64 0, .int .u64 0, .int .u64 0] 31) := Lib.hid (by rw [hwC]; exact HRz.out.set_other (p := ⟨w.heap.size, 3, none⟩) (by show rb ≠ w.heap.size; exact n1) _)
      clear hwC y3 f3 HB1 HK1
      have y4 : wC.cell? ⟨w.heap.size, 4, none⟩ = some (.int .i64 u) := HB2.out.cell rfl
      have f4 := HB2.out.free 4
      have HW1 := Lib.hid (ref39_within u 1 1125899906842624 wC)
      obtain ⟨vu, hvu⟩ : ∃ v, v = (clampI u 1 1125899906842624) := ⟨_, rfl⟩
      rw [← hvu] at HW1
      have HVu := Lib.hid hvu
      clear hvu
      go_wp2_with fail
      refine HW1.out.mono ?_
      rintro _ wn1 ⟨rfl, hwn1⟩
      rw [hwn1]
      clear hwn1
      go_upto_region 5 with fail
      have HB3 := Lib.hid (HB2.out.set_same 4 (.int .i64 vu))
      have HK3 := Lib.hid (HK2.out.setCell (p := ⟨w.heap.size, 4, none⟩) (fun h => absurd h (Nat.lt_irrefl _)) (.int .i64 vu))
      obtain ⟨wD, hwD⟩ : ∃ x, x = wC.setCell ⟨w.heap.size, 4, none⟩ (.int .i64 vu) := ⟨_, rfl⟩
      rw [← hwD] at HB3 HK3 ⊢
      have HRr1 : Hid (Blk wD rb #[.int .i64 0, .int .i64 0, .int .i64 0, .int .i64 0, .int .i64 0, .int .i64 0, .int .u64 0, .int .u64 0, .int .u64 0] 31) := Lib.hid (by rw [hwD]; exact HRr0.out.set_other (p := ⟨w.heap.size, 4, none⟩) (by show rb ≠ w.heap.size; exact n1) _)
      clear hwD y4 f4 HB2 HK2
      have y5 : wD.cell? ⟨w.heap.size, 5, none⟩ = some (.int .i64 k) := HB3.out.cell rfl
      have f5 := HB3.out.free 5
      have HW2 := Lib.hid (ref39_within k 0 1048576 wD)
      obtain ⟨vk, hvk⟩ : ∃ v, v = (clampI k 0 1048576) := ⟨_, rfl⟩
      rw [← hvk] at HW2
      have HVk := Lib.hid hvk
      clear hvk
      go_wp2_with fail
      refine HW2.out.mono ?_
      rintro _ wn2 ⟨rfl, hwn2⟩
      rw [hwn2]
      clear hwn2
      go_upto_region 6 with fail
      have HB4 := Lib.hid (HB3.out.set_same 5 (.int .i64 vk))
      have HK4 := Lib.hid (HK3.out.setCell (p := ⟨w.heap.size, 5, none⟩) (fun h => absurd h (Nat.lt_irrefl _)) (.int .i64 vk))
      obtain ⟨wE, hwE⟩ : ∃ x, x = wD.setCell ⟨w.heap.size, 5, none⟩ (.int .i64 vk) := ⟨_, rfl⟩
      rw [← hwE] at HB4 HK4 ⊢
      have HRr2 : Hid (Blk wE rb #[.int .i64 0, .int .i64 0, .int .i64 0, .int .i64 0, .int .i64 0, .int .i64 0, .int .u64 0, .int .u64 0, .int .u64 0] 31) := Lib.hid (by rw [hwE]; exact HRr1.out.set_other (p := ⟨w.heap.size, 5, none⟩) (by show rb ≠ w.heap.size; exact n1) _)
      clear hwE y5 f5 HB3 HK3
      have HBf : Hid (Blk wE w.heap.size #[.int .i64 oB.e, .int .i64 oB.b, .int .i64 oB.p, .int .i64 oB.f, .int .i64 oB.u, .int .i64 oB.k, .int .u64 (oB.s : Nat), .int .u64 (oB.d : Nat), .int .u64 (oB.m : Nat)] 31) := Lib.hid (by rw [HoB.out]; show Blk wE w.heap.size #[.int .i64 (engI e), .int .i64 b, .int .i64 p, .int .i64 (clampI f 0 1125899906842624), .int .i64 (clampI u 1 1125899906842624), .int .i64 (clampI k 0 1048576), .int .u64 (s : Nat), .int .u64 (d : Nat), .int .u64 (m : Nat)] 31; rw [HE.out, ← HVf.out, ← HVu.out, ← HVk.out]; exact HB4.out)
      obtain ⟨z0, z1, z2, z3, z4, z5, z6, z7, z8⟩ := HBf.out.cells9'
      have hRb := HRr2.out
      obtain ⟨r0, r1, r2, r3, r4, r5, r6, r7, r8⟩ := hRb.cells9'
      have fr := hRb.free
      have fr0 := fr 0
      have fr1 := fr 1
      have fr2 := fr 2
      have fr3 := fr 3
      have fr4 := fr 4
      have fr5 := fr 5
      have fr6 := fr 6
      have fr7 := fr 7
      have fr8 := fr 8
      clear fr
      have HBe := Lib.hid (hRb.set9 (.int .i64 oB.e) (.int .i64 oB.b) (.int .i64 oB.p) (.int .i64 oB.f) (.int .i64 oB.u) (.int .i64 oB.k) (.int .u64 (oB.s : Nat)) (.int .u64 (oB.d : Nat)) (.int .u64 (oB.m : Nat)))
      have HKe := Lib.hid (Kp.set9 wE rb (.int .i64 oB.e) (.int .i64 oB.b) (.int .i64 oB.p) (.int .i64 oB.f) (.int .i64 oB.u) (.int .i64 oB.k) (.int .u64 (oB.s : Nat)) (.int .u64 (oB.d : Nat)) (.int .u64 (oB.m : Nat)))
      unfold Go.Proofs.YtpihfgpgdjjfhaaDoor.set9 at HBe HKe
      clear hRb h1 t1 h2 t2
      go_wp2_with fail
      obtain ⟨s0, s1, s2, s3, s4, s5, s6, s7, s8⟩ := HBe.out.cells9'
      exact bodyPost_ret (v := .agg #[.int .i64 oB.e, .int .i64 oB.b, .int .i64 oB.p, .int .i64 oB.f, .int .i64 oB.u, .int .i64 oB.k, .int .u64 (oB.s : Nat), .int .u64 (oB.d : Nat), .int .u64 (oB.m : Nat)]) (by simp [results, Tryd.results14, go_sem, s0, s1, s2, s3, s4, s5, s6, s7, s8]) rfl
        ⟨rfl, HK4.out.trans HKe.out (fun j hj h => by have := HRb.out; omega)⟩
    · have t2 : decide (2 < e) = false := decide_eq_false h2
      have HE := Lib.hid (show engI e = e from by unfold engI; rw [if_neg (by omega)])
      go_upto_region 3 with fail
      have HB1 := HB0
      have HK1 := HK0
      have HRz := HR0
      obtain ⟨wB, hwB⟩ : ∃ x, x = wA := ⟨_, rfl⟩
      rw [← hwB] at HB1 HK1 HRz ⊢
      clear hwB y0 f0
      have y3 : wB.cell? ⟨w.heap.size, 3, none⟩ = some (.int .i64 f) := HB1.out.cell rfl
      have f3 := HB1.out.free 3
      have HW0 := Lib.hid (ref39_within f 0 1125899906842624 wB)
      obtain ⟨vf, hvf⟩ : ∃ v, v = (clampI f 0 1125899906842624) := ⟨_, rfl⟩
      rw [← hvf] at HW0
      have HVf := Lib.hid hvf
      clear hvf
      go_wp2_with fail
      refine HW0.out.mono ?_
      rintro _ wn0 ⟨rfl, hwn0⟩
      rw [hwn0]
      clear hwn0
      go_upto_region 4 with fail
      have HB2 := Lib.hid (HB1.out.set_same 3 (.int .i64 vf))
      have HK2 := Lib.hid (HK1.out.setCell (p := ⟨w.heap.size, 3, none⟩) (fun h => absurd h (Nat.lt_irrefl _)) (.int .i64 vf))
      obtain ⟨wC, hwC⟩ : ∃ x, x = wB.setCell ⟨w.heap.size, 3, none⟩ (.int .i64 vf) := ⟨_, rfl⟩
      rw [← hwC] at HB2 HK2 ⊢
      have HRr0 : Hid (Blk wC rb #[.int .i64 0, .int .i64 0, .int .i64 0, .int .i64 0, .int .i64 0, .int .i64 0, .int .u64 0, .int .u64 0, .int .u64 0] 31) := Lib.hid (by rw [hwC]; exact HRz.out.set_other (p := ⟨w.heap.size, 3, none⟩) (by show rb ≠ w.heap.size; exact n1) _)
      clear hwC y3 f3 HB1 HK1
      have y4 : wC.cell? ⟨w.heap.size, 4, none⟩ = some (.int .i64 u) := HB2.out.cell rfl
      have f4 := HB2.out.free 4
      have HW1 := Lib.hid (ref39_within u 1 1125899906842624 wC)
      obtain ⟨vu, hvu⟩ : ∃ v, v = (clampI u 1 1125899906842624) := ⟨_, rfl⟩
      rw [← hvu] at HW1
      have HVu := Lib.hid hvu
      clear hvu
      go_wp2_with fail
      refine HW1.out.mono ?_
      rintro _ wn1 ⟨rfl, hwn1⟩
      rw [hwn1]
      clear hwn1
      go_upto_region 5 with fail
      have HB3 := Lib.hid (HB2.out.set_same 4 (.int .i64 vu))
      have HK3 := Lib.hid (HK2.out.setCell (p := ⟨w.heap.size, 4, none⟩) (fun h => absurd h (Nat.lt_irrefl _)) (.int .i64 vu))
      obtain ⟨wD, hwD⟩ : ∃ x, x = wC.setCell ⟨w.heap.size, 4, none⟩ (.int .i64 vu) := ⟨_, rfl⟩
      rw [← hwD] at HB3 HK3 ⊢
      have HRr1 : Hid (Blk wD rb #[.int .i64 0, .int .i64 0, .int .i64 0, .int .i64 0, .int .i64 0, .int .i64 0, .int .u64 0, .int .u64 0, .int .u64 0] 31) := Lib.hid (by rw [hwD]; exact HRr0.out.set_other (p := ⟨w.heap.size, 4, none⟩) (by show rb ≠ w.heap.size; exact n1) _)
      clear hwD y4 f4 HB2 HK2
      have y5 : wD.cell? ⟨w.heap.size, 5, none⟩ = some (.int .i64 k) := HB3.out.cell rfl
      have f5 := HB3.out.free 5
      have HW2 := Lib.hid (ref39_within k 0 1048576 wD)
      obtain ⟨vk, hvk⟩ : ∃ v, v = (clampI k 0 1048576) := ⟨_, rfl⟩
      rw [← hvk] at HW2
      have HVk := Lib.hid hvk
      clear hvk
      go_wp2_with fail
      refine HW2.out.mono ?_
      rintro _ wn2 ⟨rfl, hwn2⟩
      rw [hwn2]
      clear hwn2
      go_upto_region 6 with fail
      have HB4 := Lib.hid (HB3.out.set_same 5 (.int .i64 vk))
      have HK4 := Lib.hid (HK3.out.setCell (p := ⟨w.heap.size, 5, none⟩) (fun h => absurd h (Nat.lt_irrefl _)) (.int .i64 vk))
      obtain ⟨wE, hwE⟩ : ∃ x, x = wD.setCell ⟨w.heap.size, 5, none⟩ (.int .i64 vk) := ⟨_, rfl⟩
      rw [← hwE] at HB4 HK4 ⊢
      have HRr2 : Hid (Blk wE rb #[.int .i64 0, .int .i64 0, .int .i64 0, .int .i64 0, .int .i64 0, .int .i64 0, .int .u64 0, .int .u64 0, .int .u64 0] 31) := Lib.hid (by rw [hwE]; exact HRr1.out.set_other (p := ⟨w.heap.size, 5, none⟩) (by show rb ≠ w.heap.size; exact n1) _)
      clear hwE y5 f5 HB3 HK3
      have HBf : Hid (Blk wE w.heap.size #[.int .i64 oB.e, .int .i64 oB.b, .int .i64 oB.p, .int .i64 oB.f, .int .i64 oB.u, .int .i64 oB.k, .int .u64 (oB.s : Nat), .int .u64 (oB.d : Nat), .int .u64 (oB.m : Nat)] 31) := Lib.hid (by rw [HoB.out]; show Blk wE w.heap.size #[.int .i64 (engI e), .int .i64 b, .int .i64 p, .int .i64 (clampI f 0 1125899906842624), .int .i64 (clampI u 1 1125899906842624), .int .i64 (clampI k 0 1048576), .int .u64 (s : Nat), .int .u64 (d : Nat), .int .u64 (m : Nat)] 31; rw [HE.out, ← HVf.out, ← HVu.out, ← HVk.out]; exact HB4.out)
      obtain ⟨z0, z1, z2, z3, z4, z5, z6, z7, z8⟩ := HBf.out.cells9'
      have hRb := HRr2.out
      obtain ⟨r0, r1, r2, r3, r4, r5, r6, r7, r8⟩ := hRb.cells9'
      have fr := hRb.free
      have fr0 := fr 0
      have fr1 := fr 1
      have fr2 := fr 2
      have fr3 := fr 3
      have fr4 := fr 4
      have fr5 := fr 5
      have fr6 := fr 6
      have fr7 := fr 7
      have fr8 := fr 8
      clear fr
      have HBe := Lib.hid (hRb.set9 (.int .i64 oB.e) (.int .i64 oB.b) (.int .i64 oB.p) (.int .i64 oB.f) (.int .i64 oB.u) (.int .i64 oB.k) (.int .u64 (oB.s : Nat)) (.int .u64 (oB.d : Nat)) (.int .u64 (oB.m : Nat)))
      have HKe := Lib.hid (Kp.set9 wE rb (.int .i64 oB.e) (.int .i64 oB.b) (.int .i64 oB.p) (.int .i64 oB.f) (.int .i64 oB.u) (.int .i64 oB.k) (.int .u64 (oB.s : Nat)) (.int .u64 (oB.d : Nat)) (.int .u64 (oB.m : Nat)))
      unfold Go.Proofs.YtpihfgpgdjjfhaaDoor.set9 at HBe HKe
      clear hRb h1 t1 h2 t2
      go_wp2_with fail
      obtain ⟨s0, s1, s2, s3, s4, s5, s6, s7, s8⟩ := HBe.out.cells9'
      exact bodyPost_ret (v := .agg #[.int .i64 oB.e, .int .i64 oB.b, .int .i64 oB.p, .int .i64 oB.f, .int .i64 oB.u, .int .i64 oB.k, .int .u64 (oB.s : Nat), .int .u64 (oB.d : Nat), .int .u64 (oB.m : Nat)]) (by simp [results, Tryd.results14, go_sem, s0, s1, s2, s3, s4, s5, s6, s7, s8]) rfl
        ⟨rfl, HK4.out.trans HKe.out (fun j hj h => by have := HRb.out; omega)⟩

end Go.Proofs.YtpihfgpgdjjfhaaDoor

/-
  latchetref39's number and unhex, latchetref05's Read: of any text.
-/
namespace Go.Proofs.YtpihfgpgdjjfhaaDoor
open Go.RowKit

/-- a function over a text's first bytes -/
def foldB {α : Type} (f : α → Nat → α) (a : α) (s : ByteArray) : Nat → α
  | 0 => a
  | i + 1 => f (foldB f a s i) (bt s i)

theorem foldB_list {α : Type} (f : α → Nat → α) (a : α) (s : ByteArray) : ∀ i, i ≤ s.size → foldB f a s i = (s.data.toList.take i).foldl (fun x (c : UInt8) => f x c.toNat) a
  | 0, _ => by simp [foldB]
  | i + 1, h => by
    obtain ⟨b, hb, hb2⟩ := byte_at (s := s) (i := i) (by omega)
    rw [foldB, foldB_list f a s i (by omega), List.take_add_one, hb, List.foldl_append, ← hb2]
    rfl

theorem foldB_all {α : Type} (f : α → Nat → α) (a : α) (s : ByteArray) : foldB f a s s.size = s.data.toList.foldl (fun x (c : UInt8) => f x c.toNat) a := by
  rw [foldB_list f a s s.size (Nat.le_refl _), List.take_of_length_le (by rw [← Lib.size_eq]; exact Nat.le_refl _)]

def numStep (n : Int) (c : Nat) : Int := if 48 ≤ c ∧ c ≤ 57 then IntKind.i64.wrap (IntKind.i64.wrap (10 * n) - ((c : Int) - 48)) else n

theorem wrap_in (x : Int) : okN (IntKind.i64.wrap x) := by
  unfold okN IntKind.wrap
  simp [IntKind.signed, IntKind.bits]
  split <;> omega
theorem wrap_id {x : Int} (h : okN x) : IntKind.i64.wrap x = x := by
  obtain ⟨h1, h2⟩ := h
  unfold IntKind.wrap
  simp [IntKind.signed, IntKind.bits]
  split <;> omega

theorem numStep_ok {n : Int} {c : Nat} (h : okN n) : okN (numStep n c) := by
  unfold numStep
  split
  · exact wrap_in _
  · exact h

def numA (s : ByteArray) (i : Nat) : Int := foldB numStep 0 s i
theorem numA_ok (s : ByteArray) : ∀ i, okN (numA s i)
  | 0 => show okN 0 from ⟨by decide, by decide⟩
  | i + 1 => numStep_ok (numA_ok s i)
theorem numA_succ (s : ByteArray) (i : Nat) : numA s (i + 1) = numStep (numA s i) (bt s i) := rfl

def numV (s : ByteArray) : Int := if 0 < s.size ∧ bt s 0 = 45 then numA s s.size else IntKind.i64.wrap (-(numA s s.size))

theorem numV_ok (s : ByteArray) : okN (numV s) := by
  unfold numV
  split
  · exact numA_ok s _
  · exact wrap_in _

theorem num_digits : ∀ (l : List UInt8) (acc u : Nat), Lib.decFrom acc l = some u → u ≤ 9223372036854775808 → l.foldl (fun x (c : UInt8) => numStep x c.toNat) (-(acc : Int)) = -(u : Int)
  | [], acc, u, h, _ => by simp only [Lib.decFrom, Option.some.injEq] at h; subst h; rfl
  | c :: r, acc, u, h, hu => by
    simp only [Lib.decFrom] at h
    unfold Lib.digitVal at h
    by_cases hc : 48 ≤ c.toNat ∧ c.toNat ≤ 57
    · rw [if_pos hc] at h
      simp only at h
      have h1 := decFrom_ge r _ u h
      have h2 := num_digits r _ u h hu
      rw [List.foldl_cons]
      have e : numStep (-(acc : Int)) c.toNat = -((acc * 10 + (c.toNat - 48) : Nat) : Int) := by
        unfold numStep
        rw [if_pos hc, wrap_id (x := 10 * -(acc : Int)) ⟨by omega, by omega⟩, wrap_id ⟨by omega, by omega⟩]
        omega
      rw [e]
      exact h2
    · rw [if_neg hc] at h; cases h

theorem numV_itoa {s : ByteArray} {n : Int} (hn : okN n) (h : s.data.toList = Lib.itoa n) : numV s = n := by
  obtain ⟨h1, h2⟩ := hn
  have hsz : s.size = (Lib.itoa n).length := by rw [Lib.size_eq, h]
  by_cases hneg : n < 0
  · obtain ⟨k, rfl⟩ : ∃ k : Nat, n = -(k : Int) := ⟨(-n).toNat, by omega⟩
    have e : Lib.itoa (-(k : Int)) = 45 :: Lib.decDigits k := by unfold Lib.itoa; rw [if_pos hneg]; congr 2; omega
    rw [e] at h hsz
    have h0 : 0 < s.size := by rw [hsz]; simp
    obtain ⟨b, hb, hb2⟩ := byte_at h0
    rw [h] at hb
    have hbe : bt s 0 = 45 := by
      rw [← hb2]
      have := Option.some.inj (show some (45 : UInt8) = some b from hb)
      rw [← this]; rfl
    unfold numV
    rw [if_pos ⟨h0, hbe⟩]
    unfold numA
    rw [foldB_all, h, List.foldl_cons]
    have e2 : numStep 0 (45 : UInt8).toNat = -((0 : Nat) : Int) := by decide
    rw [e2]
    exact num_digits _ 0 k (dd_from k) (by omega)
  · obtain ⟨k, rfl⟩ : ∃ k : Nat, n = (k : Int) := ⟨n.toNat, by omega⟩
    rw [itoa_nat] at h hsz
    have h0 : 0 < s.size := by rw [hsz]; exact dd_pos k
    obtain ⟨b, hb, hb2⟩ := byte_at h0
    rw [h] at hb
    have hbe : bt s 0 ≠ 45 := by
      rw [← hb2]
      have := dd_digit k b (List.mem_of_getElem? hb)
      omega
    unfold numV
    rw [if_neg (fun h => hbe h.2)]
    unfold numA
    have e2 : (0 : Int) = -((0 : Nat) : Int) := by decide
    rw [foldB_all, h, e2, num_digits _ 0 k (dd_from k) (by omega), wrap_id ⟨by omega, by omega⟩]
    omega

set_option maxRecDepth 100000 in
set_option maxHeartbeats 2000000 in
theorem ref39_number (s : ByteArray) (hs : s.size ≤ 100000) (w : World) :
    Calls Tryd.prog 21 #[.string s] w fun e w' => e = .returned (.int .i64 (numV s)) ∧ ∃ n, w' = w.drewN n := by
  have H0 : ∃ M : Bool, (decide (0 < s.size ∧ bt s 0 = 45) = M) := ⟨_, rfl⟩
  obtain ⟨M, hM⟩ := H0
  have HRet : Hid (numV s = if M = true then numA s s.size else IntKind.i64.wrap (-(numA s s.size))) := Lib.hid (by
    unfold numV
    rw [← hM]
    simp only [decide_eq_true_eq])
  obtain ⟨nv, hnv⟩ : ∃ nv, nv = numV s := ⟨_, rfl⟩
  rw [← hnv] at HRet ⊢
  have HS := Lib.hid hs
  have HA : Hid (∃ A, A = numA s) := Lib.hid ⟨_, rfl⟩
  obtain ⟨A, hA⟩ := HA.out
  rw [← hA] at HRet
  have HA0 : Hid (A 0 = 0) := Lib.hid (by rw [hA]; rfl)
  have HAs : Hid (∀ i, A (i + 1) = numStep (A i) (bt s i)) := Lib.hid (by intro i; rw [hA]; rfl)
  clear HA hA hnv
  have HPre : Hid ((0 < s.size ∧ ((bt s 0 : Int) == 45) = M) ∨ (¬ 0 < s.size ∧ M = false)) := Lib.hid (by
    by_cases h0 : 0 < s.size
    · refine .inl ⟨h0, ?_⟩
      rw [← hM, Bool.eq_iff_iff, beq_iff_eq, decide_eq_true_eq]
      constructor
      · intro h; exact ⟨h0, by omega⟩
      · intro h; omega
    · refine .inr ⟨h0, ?_⟩
      rw [← hM]
      simp [h0])
  clear hM hs
  go_enter Tryd.func21, Tryd.ntmps21
  go_upto_region 1 with fail
  go_cut [2, 3, 4] from 6 to 13 (fun v2 v3 v4 wx => v2 = .int .i64 0 ∧ v3 = .int .i64 0 ∧ v4 = .bool M ∧ ∃ n, wx = w.drewN n)
  case first =>
    rcases HPre.out with ⟨h0, hM⟩ | ⟨h0, hM⟩
    · have d0 : decide ((0 : Int) < (s.size : Int)) = true := decide_eq_true (by omega)
      have hb0 := bt_eq h0
      obtain ⟨B0, hB0⟩ : ∃ B, B = bt s 0 := ⟨_, rfl⟩
      rw [← hB0] at hb0 hM
      clear hB0
      go_wp2_with fail
      go_quiet (fail)
      go_wp2_with fail
      go_meet
      exact ⟨rfl, rfl, rfl, _, rfl⟩
    · have d0 : decide ((0 : Int) < (s.size : Int)) = false := decide_eq_false (by omega)
      subst hM
      go_wp2_with fail
      go_quiet (fail)
      go_wp2_with fail
      go_meet
      exact ⟨rfl, rfl, rfl, _, rfl⟩
  case rest =>
    obtain ⟨rfl, rfl, rfl, n, rfl⟩ := hcut
    clear HPre
    go_wp2_with fail
    go_loopw [3, 5] (fun v3 v5 wr => ∃ i : Nat, v5 = .int .i64 (i : Int) ∧ v3 = .int .i64 (A i) ∧ i ≤ s.size ∧ wr = w.drewN n) (fun _ v5 _ => s.size - (intOf v5).toNat)
    case atStart => exact ⟨0, rfl, by rw [HA0.out], Nat.zero_le _, rfl⟩
    case round =>
      obtain ⟨i, rfl, rfl, hi, rfl⟩ := hrel
      have h100 : (i : Int) ≤ 100000 := by have := HS.out; omega
      by_cases hlt : i < s.size
      · have hd : decide ((i : Int) < (s.size : Int)) = true := by simp; omega
        have hB := bt_eq hlt
        have hc256 := bt_lt s i
        have hnx := HAs.out i
        obtain ⟨C, hC⟩ : ∃ C, C = bt s i := ⟨_, rfl⟩
        rw [← hC] at hB hc256 hnx
        obtain ⟨x, hx⟩ : ∃ x, x = A i := ⟨_, rfl⟩
        rw [← hx] at hnx ⊢
        have HLt := Lib.hid hlt
        clear hC hx
        by_cases hdig : 48 ≤ C ∧ C ≤ 57
        · obtain ⟨d, hdd⟩ : ∃ d : Nat, d = C - 48 := ⟨_, rfl⟩
          have t1 : decide ((48 : Int) ≤ (C : Int)) = true := by simp; omega
          have t2 : decide ((C : Int) ≤ 57) = true := by simp; omega
          have e0 : IntKind.u8.wrap ((C : Int) - 48) = (d : Int) := by unfold IntKind.wrap; simp [IntKind.signed, IntKind.bits]; omega
          have e1 : IntKind.i64.wrap (d : Int) = (d : Int) := by unfold IntKind.wrap; simp [IntKind.signed, IntKind.bits]; omega
          obtain ⟨T, hT⟩ : ∃ T, IntKind.i64.wrap (10 * x) = T := ⟨_, rfl⟩
          obtain ⟨Z, hZ⟩ : ∃ Z, IntKind.i64.wrap (T - (d : Int)) = Z := ⟨_, rfl⟩
          have HZ : Hid (A (i + 1) = Z) := Lib.hid (by
            rw [hnx]
            unfold numStep
            rw [if_pos hdig, hT, ← hZ, hdd]
            congr 1
            omega)
          clear hnx hdig hdd
          go_wp2_with fail
          go_roundw
          case rel => exact ⟨i + 1, by go_num, by rw [HZ.out], HLt.out, by first | rfl | trivial⟩
          case measure => have := HLt.out; simp [intOf]; omega
        · have HZ : Hid (A (i + 1) = x) := Lib.hid (by
            rw [hnx]
            unfold numStep
            rw [if_neg hdig])
          clear hnx
          by_cases hlow : 48 ≤ C
          · have t1 : decide ((48 : Int) ≤ (C : Int)) = true := by simp; omega
            have t2 : decide ((C : Int) ≤ 57) = false := by simp; omega
            clear hdig
            go_wp2_with fail
            go_roundw
            case rel => exact ⟨i + 1, by go_num, by rw [HZ.out], HLt.out, by first | rfl | trivial⟩
            case measure => have := HLt.out; simp [intOf]; omega
          · have t1 : decide ((48 : Int) ≤ (C : Int)) = false := by simp; omega
            clear hdig
            go_wp2_with fail
            go_roundw
            case rel => exact ⟨i + 1, by go_num, by rw [HZ.out], HLt.out, by first | rfl | trivial⟩
            case measure => have := HLt.out; simp [intOf]; omega
      · have hd : decide ((i : Int) < (s.size : Int)) = false := by simp; omega
        have hie : s.size = i := by omega
        rw [hie] at HRet
        clear hi hie
        cases M with
        | true =>
          have HR2 : Hid (nv = A i) := Lib.hid (by rw [HRet.out, if_pos rfl])
          clear HRet
          go_wp2_with fail
          go_ret
          exact ⟨by rw [HR2.out]; rfl, n, rfl⟩
        | false =>
          obtain ⟨Z, hZ⟩ : ∃ Z, IntKind.i64.wrap (-(A i)) = Z := ⟨_, rfl⟩
          have HR2 : Hid (nv = Z) := Lib.hid (by rw [HRet.out, if_neg (by decide), hZ])
          clear HRet
          go_wp2_with fail
          go_ret
          exact ⟨by rw [HR2.out]; rfl, n, rfl⟩

end Go.Proofs.YtpihfgpgdjjfhaaDoor

/-
  latchetref39.unhex, latchetref05.Read: of any text.
-/
namespace Go.Proofs.YtpihfgpgdjjfhaaDoor
open Go.RowKit

/-- which digit of sixteen a byte is; 16: none -/
def hv (c : Nat) : Nat := if 48 ≤ c ∧ c ≤ 57 then c - 48 else if 97 ≤ c ∧ c ≤ 102 then c - 87 else 16

def digs16 : ByteArray := ⟨#[48, 49, 50, 51, 52, 53, 54, 55, 56, 57, 97, 98, 99, 100, 101, 102]⟩

set_option maxRecDepth 100000 in
theorem hv_digs : ∀ c : Fin 256, ∀ j : Fin 16, ((c.val : Int) == (bt digs16 j.val : Int)) = decide (hv c.val = j.val) := by decide +kernel

theorem hv_le (c : Nat) : hv c ≤ 16 := by
  unfold hv
  split
  · omega
  · split <;> omega

def unStep (n : Nat) (c : Nat) : Nat := if hv c < 16 then (16 * n + hv c) % 18446744073709551616 else n
def unA (s : ByteArray) (i : Nat) : Nat := foldB unStep 0 s i
theorem unA_lt (s : ByteArray) : ∀ i, unA s i < 18446744073709551616
  | 0 => by show 0 < 18446744073709551616; omega
  | i + 1 => by
    show unStep (unA s i) (bt s i) < _
    unfold unStep
    split
    · exact Nat.mod_lt _ (by omega)
    · exact unA_lt s i

theorem hv_hex {s : ByteArray} {N i : Nat} (h : s.data.toList = hexN 16 N) (hi : i < s.size) : hv (bt s i) = N / 16 ^ (15 - i) % 16 := by
  obtain ⟨q1, q2, q3, q4⟩ := hex_here h hi
  have hlt16 : N / 16 ^ (15 - i) % 16 < 16 := Nat.mod_lt _ (by omega)
  unfold hv
  split at q2
  · rw [if_pos (by omega)]; omega
  · rw [if_neg (by omega), if_pos (by omega)]; omega

theorem unA_hex {s : ByteArray} {N : Nat} (hN : N < 18446744073709551616) (h : s.data.toList = hexN 16 N) : ∀ i, i ≤ s.size → unA s i = N / 16 ^ (16 - i)
  | 0, _ => by
    show 0 = _
    rw [Nat.div_eq_of_lt (by omega)]
  | i + 1, hi => by
    obtain ⟨q1, q2, q3, q4⟩ := hex_here h (show i < s.size by omega)
    show unStep (unA s i) (bt s i) = _
    rw [unA_hex hN h i (by omega), q3]
    unfold unStep
    rw [hv_hex h (by omega), if_pos (Nat.mod_lt _ (by omega)), show 16 - (i + 1) = 15 - i by omega]
    have : N / 16 ^ (15 - i) ≤ N := Nat.div_le_self _ _
    generalize N / 16 ^ (15 - i) = Y at *
    omega

def unV (s : ByteArray) : Nat := unA s s.size
theorem unV_hex {s : ByteArray} {N : Nat} (hN : N < 18446744073709551616) (h : s.data.toList = hexN 16 N) : unV s = N := by
  unfold unV
  rw [unA_hex hN h _ (Nat.le_refl _), show s.size = 16 by rw [Lib.size_eq, h, hexN_length]]
  simp

set_option maxRecDepth 100000 in
set_option maxHeartbeats 2000000 in
theorem ref39_unhex (s : ByteArray) (hs : s.size ≤ 100000) (w : World) :
    Calls Tryd.prog 22 #[.string s] w fun e w' => e = .returned (.int .u64 (unV s : Nat)) ∧ ∃ n, w' = w.drewN n := by
  obtain ⟨nv, hnv⟩ : ∃ nv, nv = unV s := ⟨_, rfl⟩
  obtain ⟨A, hA⟩ : ∃ A, A = unA s := ⟨_, rfl⟩
  have HRet : Hid (nv = A s.size) := Lib.hid (by rw [hnv, hA]; rfl)
  have HA0 : Hid (A 0 = 0) := Lib.hid (by rw [hA]; rfl)
  have HAs : Hid (∀ i, A (i + 1) = unStep (A i) (bt s i)) := Lib.hid (by intro i; rw [hA]; rfl)
  have HAl : Hid (∀ i, A i < 18446744073709551616) := Lib.hid (by intro i; rw [hA]; exact unA_lt s i)
  rw [← hnv]
  have HS := Lib.hid hs
  clear hnv hA hs
  go_enter Tryd.func22, Tryd.ntmps22
  go_wp2_with fail
  go_loopw [3, 4] (fun v3 v4 wr => ∃ i n : Nat, v4 = .int .i64 (i : Int) ∧ v3 = .int .u64 (A i : Nat) ∧ i ≤ s.size ∧ wr = w.drewN n) (fun _ v4 _ => s.size - (intOf v4).toNat)
  case atStart => exact ⟨0, 0, rfl, by rw [HA0.out]; rfl, Nat.zero_le _, rfl⟩
  case round =>
    obtain ⟨i, n, rfl, rfl, hi, rfl⟩ := hrel
    have h100 : (i : Int) ≤ 100000 := by have := HS.out; omega
    by_cases hlt : i < s.size
    · have hd : decide ((i : Int) < (s.size : Int)) = true := by simp; omega
      have hB := bt_eq hlt
      have hc256 := bt_lt s i
      have hnx := HAs.out i
      have hxl := HAl.out i
      obtain ⟨C, hC⟩ : ∃ C, C = bt s i := ⟨_, rfl⟩
      rw [← hC] at hB hc256 hnx
      obtain ⟨x, hx⟩ : ∃ x, x = A i := ⟨_, rfl⟩
      rw [← hx] at hnx hxl ⊢
      have HLt := Lib.hid hlt
      obtain ⟨Y, hY⟩ : ∃ Y, Y = (16 * x + hv C) % 18446744073709551616 := ⟨_, rfl⟩
      have HNx : Hid (A (i + 1) = if hv C < 16 then Y else x) := Lib.hid (by rw [hnx, hY]; rfl)
      have HYl : Hid (Y < 18446744073709551616) := Lib.hid (by rw [hY]; exact Nat.mod_lt _ (by omega))
      obtain ⟨T, hT⟩ : ∃ T, IntKind.u64.wrap (16 * (x : Int)) = T := ⟨_, rfl⟩
      have HTY : Hid (IntKind.u64.wrap (T + (hv C : Int)) = (Y : Int)) := Lib.hid (by
        rw [← hT, hY]
        unfold IntKind.wrap
        simp [IntKind.signed, IntKind.bits])
      have HDg : Hid (∀ j : Nat, j < 16 → ((C : Int) == (bt digs16 j : Int)) = decide (hv C = j)) := Lib.hid (fun j hj => hv_digs ⟨C, hc256⟩ ⟨j, hj⟩)
      clear hC hx hnx hY hc256
      go_wp2_with fail
      go_loopw [3, 5] (fun v3 v5 wr => ∃ j n2 : Nat, v5 = .int .i64 (j : Int) ∧ v3 = .int .u64 ((if hv C < j then Y else x : Nat) : Nat) ∧ j ≤ 16 ∧ wr = w.drewN n2) (fun _ v5 _ => 16 - (intOf v5).toNat)
      case atStart => exact ⟨0, n, rfl, by rw [if_neg (by omega)], by omega, rfl⟩
      case round =>
        obtain ⟨j, n2, rfl, rfl, hj, rfl⟩ := hrel
        by_cases hjl : j < 16
        · have hdj : decide ((j : Int) < 16) = true := decide_eq_true (by omega)
          have hDsz : j < digs16.size := hjl
          have q16 : (j : Int) < 16 := by omega
          have hBj := bt_eq hDsz
          have hT1 := HDg.out j hjl
          obtain ⟨G, hG⟩ : ∃ G, G = bt digs16 j := ⟨_, rfl⟩
          rw [← hG] at hBj hT1
          unfold digs16 at hBj hDsz
          clear hG
          by_cases hh : hv C = j
          · rw [hh] at HTY
            rw [decide_eq_true hh] at hT1
            have h1 := HTY.out
            have e2 : IntKind.u64.wrap (j : Int) = (j : Int) := by unfold IntKind.wrap; simp [IntKind.signed, IntKind.bits]; omega
            have HX : Hid ((if hv C < j then Y else x) = x ∧ (if hv C < j + 1 then Y else x) = Y) := Lib.hid ⟨if_neg (by omega), if_pos (by omega)⟩
            rw [HX.out.1]
            have HJ := Lib.hid hjl
            clear hh hjl
            go_wp2_with fail
            go_quiet (fail)
            go_wp2_with fail
            go_roundw
            case rel => exact ⟨j + 1, _, by go_num, by rw [HX.out.2], HJ.out, by first | rfl | (simp; rfl)⟩
            case measure => have := HJ.out; simp [intOf]; omega
          · rw [decide_eq_false hh] at hT1
            have HX : Hid ((if hv C < j + 1 then Y else x) = if hv C < j then Y else x) := Lib.hid (by
              by_cases h : hv C < j
              · rw [if_pos h, if_pos (by omega)]
              · rw [if_neg h, if_neg (by omega)])
            obtain ⟨z, hz⟩ : ∃ z, z = if hv C < j then Y else x := ⟨_, rfl⟩
            rw [← hz] at HX ⊢
            have HJ := Lib.hid hjl
            clear hh hjl hz
            go_wp2_with fail
            go_quiet (fail)
            go_wp2_with fail
            go_roundw
            case rel => exact ⟨j + 1, _, by go_num, by rw [HX.out], HJ.out, by first | rfl | (simp; rfl)⟩
            case measure => have := HJ.out; simp [intOf]; omega
        · have hdj : decide ((j : Int) < 16) = false := decide_eq_false (by omega)
          have HX : Hid (A (i + 1) = if hv C < j then Y else x) := Lib.hid (by rw [HNx.out, show j = 16 by omega])
          obtain ⟨z, hz⟩ : ∃ z, z = if hv C < j then Y else x := ⟨_, rfl⟩
          rw [← hz] at HX ⊢
          clear hz hjl
          go_wp2_with fail
          go_roundw
          case rel => exact ⟨i + 1, _, by go_num, by rw [HX.out], HLt.out, by first | rfl | trivial⟩
          case measure => have := HLt.out; simp [intOf]; omega
    · have hd : decide ((i : Int) < (s.size : Int)) = false := by simp; omega
      have hie : s.size = i := by omega
      rw [hie] at HRet
      clear hi hie
      go_wp2_with fail
      go_ret
      exact ⟨by rw [HRet.out]; rfl, n, rfl⟩

end Go.Proofs.YtpihfgpgdjjfhaaDoor

/-
  latchetref05.Read: of any text.
-/
namespace Go.Proofs.YtpihfgpgdjjfhaaDoor
open Go.RowKit

/-- what the page's Read leaves -/
def Score05 (s : ByteArray) (w : World) (e : Ending) (w' : World) : Prop :=
  ∃ (b : Nat) (E : Int), e = .returned (.tuple #[.int .u64 (b : Int), .int .i64 E]) ∧ b < 18446744073709551616 ∧ (∀ N, N < 18446744073709551616 → canon N = N → s.data.toList = hexN 16 N → b = N) ∧ Kp (fun _ => False) w w'

set_option maxRecDepth 100000 in
set_option maxHeartbeats 4000000 in
theorem ref05_Read (s : ByteArray) (w : World) :
    Calls Tryd.prog 23 #[.string s] w (Score05 s w) := by
  by_cases h16 : s.size = 16
  · go_enter Tryd.func23, Tryd.ntmps23
    go_wp2_with fail
    go_loopw [4, 5] (fun v4 v5 wr => ∃ i m n : Nat, v4 = .int .u64 (m : Int) ∧ v5 = .int .i64 (i : Int) ∧ i ≤ 16 ∧ m < 16 ^ i ∧ (∀ N, N < 18446744073709551616 → s.data.toList = hexN 16 N → m = N / 16 ^ (16 - i)) ∧ wr = w.drewN n) (fun _ v5 _ => 16 - (intOf v5).toNat)
    case atStart => exact ⟨0, 0, 0, rfl, rfl, by omega, by simp, fun N hN _ => by rw [Nat.div_eq_of_lt (by omega)], rfl⟩
    case round =>
      obtain ⟨i, m, n, rfl, rfl, hi, hm, hr, rfl⟩ := hrel
      have HRn := Lib.hid hr
      have HMl := Lib.hid hm
      have hm64 : m < 18446744073709551616 := Nat.lt_of_lt_of_le hm (Nat.pow_le_pow_right (show 16 > 0 by omega) hi)
      clear hr hm
      by_cases hlt : i < 16
      · have hd : decide ((i : Int) < 16) = true := decide_eq_true (by omega)
        have q16 : (i : Int) < 16 := by omega
        have hlt2 : i < s.size := by omega
        have hB := bt_eq hlt2
        have hc256 := bt_lt s i
        obtain ⟨C, hC⟩ : ∃ C, C = bt s i := ⟨_, rfl⟩
        rw [← hC] at hB hc256
        have HC := Lib.hid hC
        have HIl := Lib.hid hlt2
        have HLt := Lib.hid hlt
        have hm15 : m < 1152921504606846976 := Nat.lt_of_lt_of_le HMl.out (by have := Nat.pow_le_pow_right (show 16 > 0 by omega) (show i ≤ 15 by omega); omega)
        have HNd := Lib.hid (fun N (hN : N < 18446744073709551616) (e : s.data.toList = hexN 16 N) => show hv C = N / 16 ^ (15 - i) % 16 by
          rw [HC.out]; exact hv_hex e HIl.out)
        have HDg : Hid (∀ j : Nat, j < 16 → ((C : Int) == (bt digs16 j : Int)) = decide (hv C = j)) := Lib.hid (fun j hj => hv_digs ⟨C, hc256⟩ ⟨j, hj⟩)
        clear hC hc256
        go_wp2_with fail
        go_loopw [6, 7] (fun v6 v7 wr => ∃ j n2 : Nat, v7 = .int .i64 (j : Int) ∧ v6 = .int .i64 ((if hv C < j then hv C else 16 : Nat) : Nat) ∧ j ≤ 16 ∧ wr = w.drewN n2) (fun _ v7 _ => 16 - (intOf v7).toNat)
        case atStart => exact ⟨0, n, rfl, by rw [if_neg (by omega)]; rfl, by omega, rfl⟩
        case round =>
          obtain ⟨j, n2, rfl, rfl, hj, rfl⟩ := hrel
          by_cases hjl : j < 16
          · have hdj : decide ((j : Int) < 16) = true := decide_eq_true (by omega)
            have hDsz : j < digs16.size := hjl
            have p16 : (j : Int) < 16 := by omega
            have hBj := bt_eq hDsz
            have hT1 := HDg.out j hjl
            obtain ⟨G, hG⟩ : ∃ G, G = bt digs16 j := ⟨_, rfl⟩
            rw [← hG] at hBj hT1
            unfold digs16 at hBj hDsz
            clear hG
            by_cases hh : hv C = j
            · rw [decide_eq_true hh] at hT1
              have HX : Hid ((if hv C < j + 1 then hv C else 16) = j) := Lib.hid (by rw [if_pos (by omega)]; exact hh)
              obtain ⟨z, hz⟩ : ∃ z, z = if hv C < j then hv C else 16 := ⟨_, rfl⟩
              rw [← hz]
              have HJ := Lib.hid hjl
              clear hh hjl hz
              go_wp2_with fail
              go_quiet (fail)
              go_wp2_with fail
              go_roundw
              case rel => exact ⟨j + 1, _, by go_num, by rw [HX.out], HJ.out, by first | rfl | (simp; rfl)⟩
              case measure => have := HJ.out; simp [intOf]; omega
            · rw [decide_eq_false hh] at hT1
              have HX : Hid ((if hv C < j + 1 then hv C else 16) = if hv C < j then hv C else 16) := Lib.hid (by
                by_cases h : hv C < j
                · rw [if_pos h, if_pos (by omega)]
                · rw [if_neg h, if_neg (by omega)])
              obtain ⟨z, hz⟩ : ∃ z, z = if hv C < j then hv C else 16 := ⟨_, rfl⟩
              rw [← hz] at HX ⊢
              have HJ := Lib.hid hjl
              clear hh hjl hz
              go_wp2_with fail
              go_quiet (fail)
              go_wp2_with fail
              go_roundw
              case rel => exact ⟨j + 1, _, by go_num, by rw [HX.out], HJ.out, by first | rfl | (simp; rfl)⟩
              case measure => have := HJ.out; simp [intOf]; omega
          · have hdj : decide ((j : Int) < 16) = false := decide_eq_false (by omega)
            have HX : Hid ((if hv C < j then hv C else 16) = hv C) := Lib.hid (by
              have := hv_le C
              by_cases h : hv C < j
              · rw [if_pos h]
              · rw [if_neg h]; omega)
            rw [HX.out]
            clear hj
            by_cases hbad : 15 < hv C
            · have t1 : decide ((15 : Int) < ((hv C : Nat) : Int)) = true := decide_eq_true (by omega)
              have HBad := Lib.hid (fun N (hN : N < 18446744073709551616) (e : s.data.toList = hexN 16 N) => show False by
                have := HNd.out N hN e
                have h2 : N / 16 ^ (15 - i) % 16 < 16 := Nat.mod_lt _ (by omega)
                omega)
              obtain ⟨D, hD⟩ : ∃ D, D = hv C := ⟨_, rfl⟩
              rw [← hD] at t1 ⊢
              clear hbad hD
              go_wp2_with fail
              go_ret2
              exact ⟨0, 2, rfl, by omega, fun N hN _ e => absurd e (HBad.out N hN), (Kp.refl _ _).drewN _⟩
            · have t1 : decide ((15 : Int) < ((hv C : Nat) : Int)) = false := decide_eq_false (by omega)
              obtain ⟨D, hD⟩ : ∃ D, D = hv C := ⟨_, rfl⟩
              rw [← hD] at t1 HNd hbad ⊢
              obtain ⟨M, hM⟩ : ∃ M, M = 16 * m := ⟨_, rfl⟩
              obtain ⟨Z, hZ⟩ : ∃ Z, Z = M + D := ⟨_, rfl⟩
              have e1 : IntKind.u64.wrap (16 * (m : Int)) = (M : Int) := by unfold IntKind.wrap; simp [IntKind.signed, IntKind.bits]; omega
              have e2 : IntKind.u64.wrap (D : Int) = (D : Int) := by unfold IntKind.wrap; simp [IntKind.signed, IntKind.bits]; omega
              have e3 : IntKind.u64.wrap ((M : Int) + (D : Int)) = (Z : Int) := by unfold IntKind.wrap; simp [IntKind.signed, IntKind.bits]; omega
              have HRel := Lib.hid (show Z < 16 ^ (i + 1) ∧ ∀ N, N < 18446744073709551616 → s.data.toList = hexN 16 N → Z = N / 16 ^ (16 - (i + 1)) from ⟨by rw [Nat.pow_succ]; have := HMl.out; omega, fun N hN e => by
                obtain ⟨q1, q2, q3, q4⟩ := hex_here e HIl.out
                have q5 := HRn.out N hN e
                have q6 := HNd.out N hN e
                rw [show 16 - (i + 1) = 15 - i by omega]
                generalize N / 16 ^ (15 - i) = Y at *
                omega⟩)
              clear hbad hD hM hZ hm64 hm15
              go_wp2_with fail
              go_roundw
              case rel => exact ⟨i + 1, Z, _, rfl, by go_num, HLt.out, HRel.out.1, HRel.out.2, by first | rfl | trivial⟩
              case measure => have := HLt.out; simp [intOf]; omega
      · have hd : decide ((i : Int) < 16) = false := decide_eq_false (by omega)
        have HEnd := Lib.hid (fun N (hN : N < 18446744073709551616) (e : s.data.toList = hexN 16 N) => show m = N by
          have h2 := HRn.out N hN e
          rw [show 16 - i = 0 by omega, Nat.pow_zero, Nat.div_one] at h2
          exact h2)
        have HM6 := Lib.hid hm64
        obtain ⟨K, hK⟩ : ∃ K, canon m = K := ⟨_, rfl⟩
        have HSb := Lib.hid (fun u => ref05_Plain m u)
        rw [hK] at HSb
        have HKn := Lib.hid hK
        clear hm64 hK
        by_cases hk : K = m
        · have hb : ((K : Int) != (m : Int)) = false := by rw [hk]; simp
          clear hk
          go_wp2_with fail
          refine (HSb.out _).mono ?_
          rintro e w' ⟨rfl, rfl⟩
          go_wp2_with fail
          go_ret2
          exact ⟨m, 0, rfl, HM6.out, fun N hN _ e => HEnd.out N hN e, (Kp.refl _ _).drewN _⟩
        · have hb : ((K : Int) != (m : Int)) = true := by rw [bne_iff_ne]; omega
          have HBad := Lib.hid (fun N (hN : N < 18446744073709551616) (hc : canon N = N) (e : s.data.toList = hexN 16 N) => show False by
            have h1 := HEnd.out N hN e
            rw [← h1, HKn.out] at hc
            exact hk hc)
          clear hk
          go_wp2_with fail
          refine (HSb.out _).mono ?_
          rintro e w' ⟨rfl, rfl⟩
          go_wp2_with fail
          go_ret2
          exact ⟨0, 2, rfl, by omega, fun N hN hc e => absurd e (HBad.out N hN hc), (Kp.refl _ _).drewN _⟩
  · have hne : ((s.size : Int) != 16) = true := by rw [bne_iff_ne]; omega
    have HE := Lib.hid (show Score05 s w (.returned (.tuple #[.int .u64 0, .int .i64 2])) w from ⟨0, 2, rfl, by omega, fun N hN _ e => absurd (by rw [Lib.size_eq, e, hexN_length]) h16, Kp.refl _ _⟩)
    clear h16
    go_enter Tryd.func23, Tryd.ntmps23
    go_wp2_with fail
    go_ret2
    exact HE.out

end Go.Proofs.YtpihfgpgdjjfhaaDoor

/-
  A region that draws its order, of many quiet operations (calls that only read, too) and one that makes a block: the quiet ones are
  taken first, in the order of the text, each shown quiet in every world of a row U of worlds; what makes worlds anew is carried out at the end.
-/
namespace Go.Proofs.YtpihfgpgdjjfhaaDoor
open Go

section
variable {P : Program} {md : Region.Mode} {ops : Array Oper}

/-- the worlds that come out of u by draws alone -/
abbrev Drw (u w : World) : Prop := ∃ n, w = u.drewN n

/-- the operation yields v, and leaves a world out of u' by draws -/
def upTo (P : Program) (u' : World) (v : Value) : Result Next → Prop
  | .ok (.value x) w' => x = v ∧ Drw u' w'
  | .ok .skip w' => v = undef ∧ Drw u' w'
  | .ok (.enter f args) w' => Calls P f args w' (fun e w'' => e = .returned v ∧ Drw u' w'')
  | _ => False

/-- of every world out of u by draws it makes one out of u' by draws, and yields v -/
def Moves (P : Program) (o : Oper) (a : Act) (u : World) (v : Value) (u' : World) : Prop := ∀ n, upTo P u' v ((execOp a.eval o).run P (u.drewN n))

theorem moves_of_quiet {o : Oper} {a : Act} {u : World} {v : Value} (h : ∀ n, o.quietAt P a (Drw u) (u.drewN n) v) : Moves P o a u v u := by
  intro n
  have h1 := h n
  unfold Oper.quietAt at h1
  generalize (execOp a.eval o).run P (u.drewN n) = r at *
  cases r with
  | ok x w' =>
    cases x <;> simp only [Oper.quietUpon] at h1 <;> simp only [upTo]
    case value => exact ⟨h1.2, n, h1.1⟩
    case skip => exact ⟨h1.2, n, h1.1⟩
    case enter => obtain ⟨rfl, h2⟩ := h1; exact h2
  | halt => simp only [Oper.quietUpon] at h1

/-- operation number i comes up in the state a, u -/
def mOp (P : Program) (ops : Array Oper) (i : Nat) (K : Act → World → Prop) (a : Act) (u : World) : Prop :=
  match ops[i]? with
  | none => K a u
  | some o => if Region.wanted o (yielded ops a.tmps) then ∃ v u', Moves P o a u v u' ∧ K (a.put o.dst v) u' else K (a.put o.dst undef) u

theorem mOp_mono {i : Nat} {a : Act} {u : World} {K K' : Act → World → Prop} (h : ∀ a u, K a u → K' a u) (hh : mOp P ops i K a u) : mOp P ops i K' a u := by
  unfold mOp at *
  split
  · exact h _ _ (by simpa [*] using hh)
  · rename_i o ho
    simp only [ho] at hh
    split
    · rename_i hw
      simp only [hw, if_true] at hh
      obtain ⟨v, u', h1, h2⟩ := hh
      exact ⟨v, u', h1, h _ _ h2⟩
    · rename_i hw
      simp only [hw] at hh
      exact h _ _ hh

/-- whatever order is picked -/
def wpM (P : Program) (md : Region.Mode) (ops : Array Oper) (S : World → Prop) (R : Act → World → Prop) : Nat → Array Bool → Act → World → Prop
  | 0, listed, a, u => Region.ready md ops listed = [] ∧ R a u
  | fuel + 1, listed, a, u => (Region.ready md ops listed = [] → R a u) ∧ ∀ i ∈ Region.ready md ops listed, mOp P ops i (fun a' u' => S u' ∧ wpM P md ops S R fuel (listed.setIfInBounds i true) a' u') a u

theorem wpOp_of_mOp {i : Nat} {a : Act} {u w : World} {K : Act → World → Prop} {K' : Act → World → Prop} {Q : Exit → Act → World → Prop} (hw : Drw u w) (h : ∀ a u w, Drw u w → K a u → K' a w) (hh : mOp P ops i K a u) : wpOp P ops Q i K' a w := by
  unfold mOp at hh
  unfold wpOp
  split
  · rename_i ho
    simp only [ho] at hh
    exact h _ _ _ hw hh
  · rename_i o ho
    simp only [ho] at hh
    split
    · rename_i hwa
      simp only [hwa, if_true] at hh
      refine .inl ?_
      obtain ⟨v, u', h1, h2⟩ := hh
      obtain ⟨n, rfl⟩ := hw
      have h3 := h1 n
      unfold Oper.wp
      generalize (execOp a.eval o).run P (u.drewN n) = r at *
      cases r with
      | ok x w' =>
        cases x <;> simp only [upTo] at h3 <;> simp only [Oper.upon]
        case value =>
          obtain ⟨e1, e2⟩ := h3
          rw [e1]
          exact h _ _ _ e2 h2
        case skip =>
          obtain ⟨e1, e2⟩ := h3
          rw [← e1]
          exact h _ _ _ e2 h2
        case enter => exact h3.mono fun e w'' ⟨he, hd⟩ => by subst he; exact h _ _ _ hd h2
      | halt => simp only [upTo] at h3
    · rename_i hwa
      simp only [hwa] at hh
      exact h _ _ _ hw hh

theorem wpAny_of_M {S : World → Prop} {R : Act → World → Prop} {Q : Exit → Act → World → Prop} (hR : ∀ a u w, Drw u w → R a u → Q .normal a w) :
    ∀ (fuel : Nat) (listed : Array Bool) (a : Act) (u w : World), Drw u w → wpM P md ops S R fuel listed a u → wpAny P md ops Q fuel listed a w
  | 0, _, _, _, _, hw, h => ⟨h.1, hR _ _ _ hw h.2⟩
  | fuel + 1, _, _, _, _, hw, h => ⟨fun h0 => hR _ _ _ hw (h.1 h0), fun i hi => wpOp_of_mOp hw (fun _ _ _ hw' hk => wpAny_of_M hR fuel _ _ _ _ hw' hk.2) (h.2 i hi)⟩

/-- in every world of S it yields v and turns nothing -/
def StillM (P : Program) (ops : Array Oper) (S : World → Prop) (o : Oper) (v : Value) (a : Act) : Prop :=
  (Region.wanted o (yielded ops a.tmps) = true ∧ ∀ u, S u → Moves P o a u v u) ∨ (Region.wanted o (yielded ops a.tmps) = false ∧ v = undef)

theorem StillM.of_same {S : World → Prop} {o : Oper} {v : Value} {a a' : Act} (hy : StillM P ops S o v a) (he : execOp a'.eval o = execOp a.eval o)
    (hw : Region.wanted o (yielded ops a'.tmps) = Region.wanted o (yielded ops a.tmps)) : StillM P ops S o v a' := by
  unfold StillM Moves at *
  rw [he, hw]
  exact hy

theorem mOp_swap {S : World → Prop} {j : Nat} {oi oj : Oper} {v : Value} (hj : ops[j]? = some oj) (hap : oi.apart ops oj = true)
    (hsi : ∀ cs b, oi.op ≠ .select cs b) (hsj : ∀ cs b, oj.op ≠ .select cs b) {K : Act → World → Prop} {a : Act} {u : World}
    (hy : StillM P ops S oi v a) (h : mOp P ops j K (a.put oi.dst v) u) : mOp P ops j (fun a' u' => StillM P ops S oi v a' ∧ K (a'.put oi.dst v) u') a u := by
  obtain ⟨h1, h2, h3⟩ := Oper.apart_spec hap
  have keep : ∀ x, StillM P ops S oi v (a.put oj.dst x) := fun x => hy.of_same (execOp_put oi hsi a oj.dst x h3) (wanted_put oi a oj.dst x h3)
  unfold mOp at *
  simp only [hj] at *
  rw [wanted_put oj a oi.dst v h1] at h
  split
  · rename_i hw
    simp only [hw, if_true] at h
    obtain ⟨x, u', hm, hn⟩ := h
    refine ⟨x, u', fun n => ?_, keep x, by rw [← Act.put_comm a v x h2]; exact hn⟩
    have := hm n
    rwa [execOp_put oj hsj a oi.dst v h1] at this
  · rename_i hw
    simp only [hw] at h
    exact ⟨keep _, by rw [← Act.put_comm a v undef h2]; exact h⟩

/-- a still operation that may come up now, and from which all others are apart or behind, may be taken first -/
theorem wpM_first {S : World → Prop} {R : Act → World → Prop} {i : Nat} {oi : Oper} {v : Value} (hi : ops[i]? = some oi) (hsel : ∀ (j : Nat) (o : Oper) cs b, ops[j]? = some o → o.op ≠ .select cs b) :
    ∀ (fuel : Nat) (listed : Array Bool) (a : Act) (u : World), S u →
      (∀ j oj, ops[j]? = some oj → j ≠ i → listed.getD j true = false → (∀ e ∈ oj.after, Region.binds md e = true → e.on ≠ i) → oi.apart ops oj = true) →
      i ∈ Region.ready md ops listed → StillM P ops S oi v a →
      wpM P md ops S R fuel (listed.setIfInBounds i true) (a.put oi.dst v) u → wpM P md ops S R (fuel + 1) listed a u := by
  have own : ∀ (K : Act → World → Prop) (a : Act) (u : World), S u → StillM P ops S oi v a → K (a.put oi.dst v) u → mOp P ops i K a u := fun K a u hS hy hk => by
    unfold mOp
    simp only [hi]
    rcases hy with ⟨hw, hv⟩ | ⟨hw, rfl⟩
    · simp only [hw, if_true]; exact ⟨v, u, hv u hS, hk⟩
    · simp only [hw, Bool.false_eq_true, if_false]; exact hk
  intro fuel
  induction fuel with
  | zero =>
    intro listed a u hS _ hr hy H
    refine ⟨fun h => (by rw [h] at hr; cases hr), fun j hj => ?_⟩
    by_cases hji : j = i
    · subst hji
      exact own _ _ _ hS hy ⟨hS, H⟩
    · have := ready_mono hj hji
      rw [H.1] at this
      cases this
  | succ fuel ih =>
    intro listed a u hS hfree hr hy H
    refine ⟨fun h => (by rw [h] at hr; cases hr), fun j hj => ?_⟩
    by_cases hji : j = i
    · subst hji
      exact own _ _ _ hS hy ⟨hS, H⟩
    · have h2 := H.2 j (ready_mono hj hji)
      obtain ⟨hjun, oj, hoj, hall⟩ := mem_ready.1 hj
      have hnot : ∀ e ∈ oj.after, Region.binds md e = true → e.on ≠ i := fun e he hb heq => by
        have h1 := hall e he hb
        have h0 := (mem_ready.1 hr).1
        rw [heq] at h1
        rcases Nat.lt_or_ge i listed.size with h' | h'
        · simp [h'] at h0 h1; rw [h0] at h1; cases h1
        · simp [Array.getElem?_eq_none h'] at h1
      have hfree' : ∀ k ok, ops[k]? = some ok → k ≠ i → (listed.setIfInBounds j true).getD k true = false →
          (∀ e ∈ ok.after, Region.binds md e = true → e.on ≠ i) → oi.apart ops ok = true := fun k ok hk hki hun hno => by
        refine hfree k ok hk hki ?_ hno
        by_cases hjk : j = k
        · subst hjk; exact hjun
        · rw [getD_set_ne true hjk] at hun; exact hun
      refine mOp_mono (fun a' u' h3 => ⟨h3.2.1, ih (listed.setIfInBounds j true) a' u' h3.2.1 hfree' (ready_mono hr (Ne.symm hji)) h3.1 ?_⟩) (mOp_swap hoj (hfree j oj hoj hji hjun hnot) (fun cs b => hsel i oi cs b hi) (fun cs b => hsel j oj cs b hoj) hy h2)
      rw [Array.setIfInBounds_comm _ _ hji]
      exact h3.2.2

/-- the first n operations, in the order of the text, may each be taken first -/
def lexPre (md : Region.Mode) (ops : Array Oper) : Nat → Nat → Array Bool → Bool
  | 0, _, _ => true
  | n + 1, k, listed => (Region.ready md ops listed).contains k && Region.free md ops listed k && lexPre md ops n (k + 1) (listed.setIfInBounds k true)

/-- .. and which have come up behind them -/
def listedN : Nat → Nat → Array Bool → Array Bool
  | 0, _, l => l
  | n + 1, k, l => listedN n (k + 1) (l.setIfInBounds k true)

/-- the walk of the first n operations, each quiet in every world of the row U -/
def walkM (P : Program) (ops : Array Oper) (U : Nat → World) (K : Act → Prop) : Nat → List Oper → Act → Prop
  | 0, _, a => K a
  | _ + 1, [], _ => False
  | n + 1, o :: rest, a => if Region.wanted o (yielded ops a.tmps) then ∃ v, (∀ k m, o.quietAt P a (Drw (U k)) ((U k).drewN m) v) ∧ walkM P ops U K n rest (a.put o.dst v) else walkM P ops U K n rest (a.put o.dst undef)

theorem walkM_zero {U : Nat → World} {K : Act → Prop} {l : List Oper} {a : Act} (h : K a) : walkM P ops U K 0 l a := h
theorem walkM_step {U : Nat → World} {K : Act → Prop} {n : Nat} {o : Oper} {rest : List Oper} {a : Act}
    (h : ∀ J : Act → Prop, (∀ a, walkM P ops U K n rest a → J a) → if Region.wanted o (yielded ops a.tmps) then ∃ v, (∀ k m, o.quietAt P a (Drw (U k)) ((U k).drewN m) v) ∧ J (a.put o.dst v) else J (a.put o.dst undef)) : walkM P ops U K (n + 1) (o :: rest) a :=
  h _ (fun _ h => h)

theorem wpM_walk {U : Nat → World} {R : Act → World → Prop} (hs : Region.noSelect ops = true) {u : World} (hu : ∃ k, u = U k) (f : Nat) : ∀ (n : Nat) (l : List Oper) (k : Nat) (listed : Array Bool) (a : Act), (∀ j, l[j]? = ops[k + j]?) →
    lexPre md ops n k listed = true → walkM P ops U (fun a' => wpM P md ops (fun u => ∃ k, u = U k) R f (listedN n k listed) a' u) n l a → wpM P md ops (fun u => ∃ k, u = U k) R (f + n) listed a u
  | 0, _, _, _, _, _, _, h => h
  | _ + 1, [], _, _, _, _, _, h => h.elim
  | n + 1, o :: l, k, listed, a, hl, hB, h => by
    have h0 : ops[k]? = some o := by simpa using (hl 0).symm
    simp only [lexPre, Bool.and_eq_true] at hB
    obtain ⟨⟨hr, hf⟩, hB'⟩ := hB
    have next : ∀ j, l[j]? = ops[k + 1 + j]? := fun j => by have := hl (j + 1); simpa [Nat.add_assoc, Nat.add_comm 1 j] using this
    simp only [walkM] at h
    by_cases hw : Region.wanted o (yielded ops a.tmps) = true
    · simp only [hw, if_true] at h
      obtain ⟨v, hq, hn⟩ := h
      exact wpM_first h0 (Region.noSelect_spec hs) (f + n) listed a u hu (Region.free_spec h0 hf) (by simpa using hr) (.inl ⟨hw, fun x hx => by obtain ⟨i, rfl⟩ := hx; exact moves_of_quiet (hq i)⟩)
        (wpM_walk hs hu f n l (k + 1) _ _ next hB' hn)
    · simp only [hw] at h
      exact wpM_first h0 (Region.noSelect_spec hs) (f + n) listed a u hu (Region.free_spec h0 hf) (by simpa using hr) (.inr ⟨by simpa using hw, rfl⟩)
        (wpM_walk hs hu f n l (k + 1) _ _ next hB' h)

/-- the region: the first n operations are quiet in every world of the row, the others are carried out behind them -/
theorem wp_region_moves {id : Nat} {Q : Exit → Act → World → Prop} {a : Act} {w : World} {l : List Oper} (hm : P.follows .mixedOrders = true) (U : Nat → World) (hU : U 0 = w) (n f : Nat) (hn : f + n = l.length)
    (hs : Region.noSelect l.toArray = true) (hB : lexPre .any l.toArray n 0 (Array.replicate l.length false) = true)
    (h : walkM P l.toArray U (fun a' => wpM P .any l.toArray (fun u => ∃ k, u = U k) (fun a u => ∀ w', Drw u w' → Q .normal a w') f (listedN n 0 (Array.replicate l.length false)) a' w) n l a) : (Code.region id l.toArray true).wp P Q a w := by
  refine wp_region_any hm ?_
  have h1 := wpM_walk (md := .any) (P := P) (ops := l.toArray) hs ⟨0, hU.symm⟩ f n l 0 (Array.replicate l.length false) a (by simp) hB h
  rw [hn] at h1
  refine wpAny_of_M (S := fun u => ∃ k, u = U k) (R := fun a u => ∀ w', Drw u w' → Q .normal a w') (fun _ _ _ hd hq => hq _ hd) _ _ _ _ _ ⟨1, rfl⟩ ?_
  simpa using h1

/-- one operation alone may come up -/
theorem wpM_one {S : World → Prop} {R : Act → World → Prop} {i : Nat} {o : Oper} {f : Nat} {listed : Array Bool} {a : Act} {u : World} (hr : Region.ready md ops listed = [i]) (ho : ops[i]? = some o)
    (hw : Region.wanted o (yielded ops a.tmps) = true) (v : Value) (u' : World) (hm : Moves P o a u v u') (hS : S u') (h : wpM P md ops S R f (listed.setIfInBounds i true) (a.put o.dst v) u') : wpM P md ops S R (f + 1) listed a u := by
  refine ⟨fun h0 => (by rw [hr] at h0; cases h0), fun j hj => ?_⟩
  rw [hr] at hj
  simp only [List.mem_singleton] at hj
  subst hj
  unfold mOp
  simp only [ho, hw, if_true]
  exact ⟨v, u', hm, hS, h⟩

theorem wpM_done {S : World → Prop} {R : Act → World → Prop} {listed : Array Bool} {a : Act} {u : World} (hr : Region.ready md ops listed = []) (h : R a u) : wpM P md ops S R 0 listed a u := ⟨hr, h⟩

end

end Go.Proofs.YtpihfgpgdjjfhaaDoor

/-
  latchetref39.Read: of any text.
-/
namespace Go.Proofs.YtpihfgpgdjjfhaaDoor
open Go.RowKit

/-- what the page's Read leaves -/
def RefReadP (s : ByteArray) (w : World) (e : Ending) (w' : World) : Prop :=
  ∃ o1 : Opt, o1.ok ∧ (∀ o : Opt, o.can → s.data.toList = optT o → o1 = o) ∧ ((s.data.toList = optT o1 ∧ e = .returned (.tuple #[.agg (optC o1), .int .i64 0])) ∨ (s.data.toList ≠ optT o1 ∧ e = .returned (.tuple #[.agg (optC oz), .int .i64 2]))) ∧ Kp (fun _ => False) w w'

theorem eighteen {α : Type} : ∀ (l : List α), l.length = 18 → ∃ a b c d e f g h i j k m n o p q r s, l = [a, b, c, d, e, f, g, h, i, j, k, m, n, o, p, q, r, s]
  | [a, b, c, d, e, f, g, h, i, j, k, m, n, o, p, q, r, s], _ => ⟨a, b, c, d, e, f, g, h, i, j, k, m, n, o, p, q, r, s, rfl⟩

theorem set_drewN (w : World) (n : Nat) (p : Addr) (v : Value) : (w.drewN n).setCell p v = (w.setCell p v).drewN n := rfl
theorem set9_drewN (w : World) (n b : Nat) (y0 y1 y2 y3 y4 y5 y6 y7 y8 : Value) : set9 (w.drewN n) b y0 y1 y2 y3 y4 y5 y6 y7 y8 = (set9 w b y0 y1 y2 y3 y4 y5 y6 y7 y8).drewN n := by
  unfold Go.Proofs.YtpihfgpgdjjfhaaDoor.set9
  simp only [set_drewN]

set_option maxRecDepth 100000 in
set_option maxHeartbeats 8000000 in
theorem ref39_Read (s : ByteArray) (w : World) (hs : s.size ≤ 2000) :
    Calls Tryd.prog 6 #[.string s] w (RefReadP s w) := by
  have HS := Lib.hid hs
  obtain ⟨wz, hwz⟩ : ∃ wz : World, wz = w.alloc (.cells (optC oz) 31) := ⟨_, rfl⟩
  have HKz : Hid (Kp (fun _ => False) w wz) := Lib.hid (by rw [hwz]; exact (Kp.refl _ w).alloc _)
  have HRz : Hid (Blk wz w.heap.size (optC oz) 31) := Lib.hid (by rw [hwz]; exact Blk.new _ _ _)
  have HFirst := Lib.hid (show w.alloc (.cells #[.int .i64 0, .int .i64 0, .int .i64 0, .int .i64 0, .int .i64 0, .int .i64 0, .int .u64 0, .int .u64 0, .int .u64 0] 31) = wz from hwz.symm)
  have HWd := Lib.hid (ref_Words s wz (by omega))
  clear hwz hs
  go_enter Tryd.func6, Tryd.ntmps6
  go_upto_region 1 with fail
  rw [HFirst.out]
  clear HFirst
  go_wp2_with fail
  refine HWd.out.mono ?_
  rintro e w1 ⟨v, rfl, hO, hK⟩
  obtain ⟨aW, cW, hv, hcc, -⟩ := hO.form
  rw [strs_length] at hv
  subst hv
  have HW := Lib.hid hO
  have HR1 := Lib.hid (HRz.out.kp hK (fun h => h))
  have HK1 := Lib.hid (HKz.out.trans hK (fun _ _ h => h))
  obtain ⟨nW, hnW⟩ : ∃ nW, (wordsB s).length = nW := ⟨_, rfl⟩
  rw [hnW] at HW ⊢
  have HnW := Lib.hid hnW
  clear hO hK HRz HKz hcc hnW HWd
  by_cases h18 : nW = 18
  · subst h18
    obtain ⟨x0, x1, x2, x3, x4, x5, x6, x7, x8, x9, x10, x11, x12, x13, x14, x15, x16, x17, hl⟩ := eighteen _ HnW.out
    have HL := Lib.hid hl
    have hsz : ∀ x ∈ wordsB s, x.size ≤ 100000 := fun x hx => by have := wordsB_le x hx; have := HS.out; omega
    rw [hl] at hsz HW
    obtain ⟨gW, cW', E, hg1, hg2⟩ := HW.out.leads (by simp [strs])
    simp only [Value.slice.injEq] at E
    obtain ⟨E, -, -⟩ := E
    subst E
    have z1 : x1.size ≤ 100000 := hsz x1 (by simp)
    have z3 : x3.size ≤ 100000 := hsz x3 (by simp)
    have z5 : x5.size ≤ 100000 := hsz x5 (by simp)
    have z7 : x7.size ≤ 100000 := hsz x7 (by simp)
    have z9 : x9.size ≤ 100000 := hsz x9 (by simp)
    have z11 : x11.size ≤ 100000 := hsz x11 (by simp)
    have z13 : x13.size ≤ 100000 := hsz x13 (by simp)
    clear hsz hl hg1
    obtain ⟨N1, hN1⟩ : ∃ n, n = numV x1 := ⟨_, rfl⟩
    obtain ⟨N3, hN3⟩ : ∃ n, n = numV x3 := ⟨_, rfl⟩
    obtain ⟨N5, hN5⟩ : ∃ n, n = numV x5 := ⟨_, rfl⟩
    obtain ⟨N9, hN9⟩ : ∃ n, n = numV x9 := ⟨_, rfl⟩
    obtain ⟨N11, hN11⟩ : ∃ n, n = numV x11 := ⟨_, rfl⟩
    obtain ⟨N13, hN13⟩ : ∃ n, n = numV x13 := ⟨_, rfl⟩
    obtain ⟨N7, hN7⟩ : ∃ n, n = unV x7 := ⟨_, rfl⟩
    have H1 := Lib.hid (fun u => ref39_number x1 z1 u)
    have H3 := Lib.hid (fun u => ref39_number x3 z3 u)
    have H5 := Lib.hid (fun u => ref39_number x5 z5 u)
    have H9 := Lib.hid (fun u => ref39_number x9 z9 u)
    have H11 := Lib.hid (fun u => ref39_number x11 z11 u)
    have H13 := Lib.hid (fun u => ref39_number x13 z13 u)
    have H7 := Lib.hid (fun u => ref39_unhex x7 z7 u)
    rw [← hN1] at H1
    rw [← hN3] at H3
    rw [← hN5] at H5
    rw [← hN9] at H9
    rw [← hN11] at H11
    rw [← hN13] at H13
    rw [← hN7] at H7
    have HNs := Lib.hid (And.intro hN1 (And.intro hN3 (And.intro hN5 (And.intro hN9 (And.intro hN11 (And.intro hN13 hN7))))))
    clear hN1 hN3 hN5 hN9 hN11 hN13 hN7 z1 z3 z5 z7 z9 z11 z13
    obtain ⟨o2, ho2⟩ : ∃ o2 : Opt, o2 = ⟨N1, N3, N5, N9, N11, N13, N7, 0, 0⟩ := ⟨_, rfl⟩
    obtain ⟨U, hU0, hU1, hU2⟩ : ∃ U : Nat → World, U 0 = w1 ∧ U 1 = w1.alloc (.cells (optC oz) 31) ∧ ∀ k, U (k + 2) = set9 (w1.alloc (.cells (optC oz) 31)) w1.heap.size (.int .i64 N1) (.int .i64 N3) (.int .i64 N5) (.int .i64 N9) (.int .i64 N11) (.int .i64 N13) (.int .u64 (N7 : Nat)) (.int .u64 0) (.int .u64 0) :=
      ⟨fun k => match k with | 0 => _ | 1 => _ | _ + 2 => _, rfl, rfl, fun _ => rfl⟩
    have HKU : Hid (∀ k, Kp (fun _ => False) w1 (U k)) := Lib.hid (by
      intro k
      match k with
      | 0 => rw [hU0]; exact Kp.refl _ _
      | 1 => rw [hU1]; exact (Kp.refl _ _).alloc _
      | k + 2 => rw [hU2]; exact ((Kp.refl _ w1).alloc _).trans (Kp.set9 _ _ _ _ _ _ _ _ _ _ _) (fun j hj h => by omega))
    have f1 : ∀ k, (U k).cell? ⟨gW, 1, none⟩ = some (.string x1) := fun k => (World.cell?_of_block (a := ⟨gW, 1, none⟩) ((HKU.out k).block gW hg2 (fun h => h))).trans (HW.out.cell (j := 1) rfl)
    have f3 : ∀ k, (U k).cell? ⟨gW, 3, none⟩ = some (.string x3) := fun k => (World.cell?_of_block (a := ⟨gW, 3, none⟩) ((HKU.out k).block gW hg2 (fun h => h))).trans (HW.out.cell (j := 3) rfl)
    have f5 : ∀ k, (U k).cell? ⟨gW, 5, none⟩ = some (.string x5) := fun k => (World.cell?_of_block (a := ⟨gW, 5, none⟩) ((HKU.out k).block gW hg2 (fun h => h))).trans (HW.out.cell (j := 5) rfl)
    have f7 : ∀ k, (U k).cell? ⟨gW, 7, none⟩ = some (.string x7) := fun k => (World.cell?_of_block (a := ⟨gW, 7, none⟩) ((HKU.out k).block gW hg2 (fun h => h))).trans (HW.out.cell (j := 7) rfl)
    have f9 : ∀ k, (U k).cell? ⟨gW, 9, none⟩ = some (.string x9) := fun k => (World.cell?_of_block (a := ⟨gW, 9, none⟩) ((HKU.out k).block gW hg2 (fun h => h))).trans (HW.out.cell (j := 9) rfl)
    have f11 : ∀ k, (U k).cell? ⟨gW, 11, none⟩ = some (.string x11) := fun k => (World.cell?_of_block (a := ⟨gW, 11, none⟩) ((HKU.out k).block gW hg2 (fun h => h))).trans (HW.out.cell (j := 11) rfl)
    have f13 : ∀ k, (U k).cell? ⟨gW, 13, none⟩ = some (.string x13) := fun k => (World.cell?_of_block (a := ⟨gW, 13, none⟩) ((HKU.out k).block gW hg2 (fun h => h))).trans (HW.out.cell (j := 13) rfl)
    go_wp2_with fail
    refine wp_region_moves (by kernel_rfl) U hU0 30 2 (by rfl) (by kernel_rfl) (by kernel_rfl) ?_
    iterate 4 (refine walkM_step (fun J hJ => ?_); go_simp; first | (refine hJ _ ?_; clear hJ J) | (apply Exists.intro; refine ⟨fun _ _ => ?_, hJ _ ?_⟩; (exact Calls.quiet_of (H1.out _)); clear hJ J))
    iterate 4 (refine walkM_step (fun J hJ => ?_); go_simp; first | (refine hJ _ ?_; clear hJ J) | (apply Exists.intro; refine ⟨fun _ _ => ?_, hJ _ ?_⟩; (exact Calls.quiet_of (H3.out _)); clear hJ J))
    iterate 4 (refine walkM_step (fun J hJ => ?_); go_simp; first | (refine hJ _ ?_; clear hJ J) | (apply Exists.intro; refine ⟨fun _ _ => ?_, hJ _ ?_⟩; (exact Calls.quiet_of (H5.out _)); clear hJ J))
    iterate 4 (refine walkM_step (fun J hJ => ?_); go_simp; first | (refine hJ _ ?_; clear hJ J) | (apply Exists.intro; refine ⟨fun _ _ => ?_, hJ _ ?_⟩; (exact Calls.quiet_of (H9.out _)); clear hJ J))
    iterate 4 (refine walkM_step (fun J hJ => ?_); go_simp; first | (refine hJ _ ?_; clear hJ J) | (apply Exists.intro; refine ⟨fun _ _ => ?_, hJ _ ?_⟩; (exact Calls.quiet_of (H11.out _)); clear hJ J))
    iterate 4 (refine walkM_step (fun J hJ => ?_); go_simp; first | (refine hJ _ ?_; clear hJ J) | (apply Exists.intro; refine ⟨fun _ _ => ?_, hJ _ ?_⟩; (exact Calls.quiet_of (H13.out _)); clear hJ J))
    (refine walkM_step (fun J hJ => ?_); go_simp; first | (refine hJ _ ?_; clear hJ J) | (apply Exists.intro; refine ⟨fun _ _ => ?_, hJ _ ?_⟩; (fail); clear hJ J))
    iterate 4 (refine walkM_step (fun J hJ => ?_); go_simp; first | (refine hJ _ ?_; clear hJ J) | (apply Exists.intro; refine ⟨fun _ _ => ?_, hJ _ ?_⟩; (exact Calls.quiet_of (H7.out _)); clear hJ J))
    (refine walkM_step (fun J hJ => ?_); go_simp; first | (refine hJ _ ?_; clear hJ J) | (apply Exists.intro; refine ⟨fun _ _ => ?_, hJ _ ?_⟩; (fail); clear hJ J))
    refine walkM_zero ?_
    clear f1 f3 f5 f7 f9 f11 f13 H1 H3 H5 H7 H9 H11 H13
    obtain ⟨bo, hbo⟩ : ∃ bo, bo = w1.heap.size := ⟨_, rfl⟩
    have HBo := Lib.hid hbo
    refine wpM_one (i := 30) (by kernel_rfl) rfl (by rfl) (.pointer (some ⟨bo, 0, none⟩)) (U 1) ?_ ⟨1, rfl⟩ ?_
    · intro n
      rw [hU1, hbo]
      unfold upTo
      go_simp
      exact ⟨n, rfl⟩
    have hBU : Blk (U 1) bo #[.int .i64 0, .int .i64 0, .int .i64 0, .int .i64 0, .int .i64 0, .int .i64 0, .int .u64 0, .int .u64 0, .int .u64 0] 31 := by rw [hU1, hbo]; exact Blk.new w1 (optC oz) 31
    have HU2 := Lib.hid (show U 2 = set9 (U 1) bo (.int .i64 N1) (.int .i64 N3) (.int .i64 N5) (.int .i64 N9) (.int .i64 N11) (.int .i64 N13) (.int .u64 (N7 : Nat)) (.int .u64 0) (.int .u64 0) by rw [hU2 0, hU1, hbo])
    refine wpM_one (i := 31) (by kernel_rfl) rfl (by rfl) undef (U 2) ?_ ⟨2, rfl⟩ ?_
    · intro n
      rw [HU2.out]
      clear HU2 hU0 hU1 hU2 HKU hbo
      obtain ⟨uA, huA⟩ : ∃ uA, uA = (U 1).drewN n := ⟨_, rfl⟩
      have hBA : Blk uA bo #[.int .i64 0, .int .i64 0, .int .i64 0, .int .i64 0, .int .i64 0, .int .i64 0, .int .u64 0, .int .u64 0, .int .u64 0] 31 := by rw [huA]; exact hBU.drewN n
      obtain ⟨z0, z1, z2, z3, z4, z5, z6, z7, z8⟩ := hBA.cells9'
      have fr := hBA.free
      have fr0 := fr 0
      have fr1 := fr 1
      have fr2 := fr 2
      have fr3 := fr 3
      have fr4 := fr 4
      have fr5 := fr 5
      have fr6 := fr 6
      have fr7 := fr 7
      have fr8 := fr 8
      have hX : Drw (set9 (U 1) bo (.int .i64 N1) (.int .i64 N3) (.int .i64 N5) (.int .i64 N9) (.int .i64 N11) (.int .i64 N13) (.int .u64 (N7 : Nat)) (.int .u64 0) (.int .u64 0)) (set9 uA bo (.int .i64 N1) (.int .i64 N3) (.int .i64 N5) (.int .i64 N9) (.int .i64 N11) (.int .i64 N13) (.int .u64 (N7 : Nat)) (.int .u64 0) (.int .u64 0)) := ⟨n, by
        rw [huA, set9_drewN]⟩
      rw [← huA]
      obtain ⟨uB, huB⟩ : ∃ uB, uB = set9 (U 1) bo (.int .i64 N1) (.int .i64 N3) (.int .i64 N5) (.int .i64 N9) (.int .i64 N11) (.int .i64 N13) (.int .u64 (N7 : Nat)) (.int .u64 0) (.int .u64 0) := ⟨_, rfl⟩
      rw [← huB] at hX ⊢
      unfold Go.Proofs.YtpihfgpgdjjfhaaDoor.set9 at hX
      clear fr huB huA hBA hBU
      unfold upTo
      go_simp
    refine wpM_done (by kernel_rfl) ?_
    rintro wB ⟨mB, hwB⟩
    have HB0 : Hid (Blk wB bo #[.int .i64 N1, .int .i64 N3, .int .i64 N5, .int .i64 N9, .int .i64 N11, .int .i64 N13, .int .u64 (N7 : Nat), .int .u64 0, .int .u64 0] 31) := Lib.hid (by
      rw [hwB, HU2.out]
      exact (hBU.set9 _ _ _ _ _ _ _ _ _).drewN _)
    have HKB : Hid (Kp (fun _ => False) w1 wB) := Lib.hid (by rw [hwB]; exact (HKU.out 2).drewN _)
    clear hwB hbo hU0 hU1 hU2 HKU HU2 hBU
    have f15 : wB.cell? ⟨gW, 15, none⟩ = some (.string x15) := (World.cell?_of_block (a := ⟨gW, 15, none⟩) (HKB.out.block gW hg2 (fun h => h))).trans (HW.out.cell (j := 15) rfl)
    have HS5 := Lib.hid (ref05_Read x15 wB)
    go_wp2_with fail
    refine HS5.out.mono ?_
    rintro e wC ⟨b1, E1, rfl, hb1, hc1, hK2⟩
    have HKC := Lib.hid (HKB.out.trans hK2 (fun _ _ h => h))
    have HB1 := Lib.hid (HB0.out.kp hK2 (fun h => h))
    have HC1 := Lib.hid (And.intro hb1 hc1)
    clear hb1 hc1 hK2 HS5 HKB HB0 f15
    have f17 : wC.cell? ⟨gW, 17, none⟩ = some (.string x17) := (World.cell?_of_block (a := ⟨gW, 17, none⟩) (HKC.out.block gW hg2 (fun h => h))).trans (HW.out.cell (j := 17) rfl)
    have HS5 := Lib.hid (ref05_Read x17 wC)
    go_wp2_with fail
    refine HS5.out.mono ?_
    rintro e wD ⟨b2, E2, rfl, hb2, hc2, hK2⟩
    have HKD := Lib.hid (HKC.out.trans hK2 (fun _ _ h => h))
    have HB2 := Lib.hid (HB1.out.kp hK2 (fun h => h))
    have HC2 := Lib.hid (And.intro hb2 hc2)
    clear hb2 hc2 hK2 HS5 HKC HB1 f17
    have y7 : wD.cell? ⟨bo, 7, none⟩ = some (.int .u64 0) := HB2.out.cell rfl
    have y8 : wD.cell? ⟨bo, 8, none⟩ = some (.int .u64 0) := HB2.out.cell rfl
    have y17 := HB2.out.free 7
    have y18 := HB2.out.free 8
    go_upto_region 8 with fail
    clear y7 y8 y17 y18
    obtain ⟨wE, hwE⟩ : ∃ wE : World, wE = (wD.setCell ⟨bo, 7, none⟩ (.int .u64 (b1 : Int))).setCell ⟨bo, 8, none⟩ (.int .u64 (b2 : Int)) := ⟨_, rfl⟩
    rw [← hwE]
    have hBE : Blk wE bo #[.int .i64 N1, .int .i64 N3, .int .i64 N5, .int .i64 N9, .int .i64 N11, .int .i64 N13, .int .u64 (N7 : Nat), .int .u64 (b1 : Nat), .int .u64 (b2 : Nat)] 31 := by
      rw [hwE]
      exact (HB2.out.set_same 7 _).set_same 8 _
    have hKE : Kp (fun _ => False) w1 wE := by
      rw [hwE]
      exact (HKD.out.setCell (p := ⟨bo, 7, none⟩) (fun h => absurd h (by show ¬ bo < w1.heap.size; rw [HBo.out]; omega)) _).setCell (p := ⟨bo, 8, none⟩) (fun h => absurd h (by show ¬ bo < w1.heap.size; rw [HBo.out]; omega)) _
    clear hwE HB2 HKD
    obtain ⟨o3, ho3⟩ : ∃ o3 : Opt, o3 = ⟨N1, N3, N5, N9, N11, N13, N7, b1, b2⟩ := ⟨_, rfl⟩
    have hok3 : o3.ok := by
      obtain ⟨e1, e3, e5, e9, e11, e13, e7⟩ := HNs.out
      rw [ho3, e1, e3, e5, e9, e11, e13, e7]
      exact ⟨numV_ok _, numV_ok _, numV_ok _, numV_ok _, numV_ok _, numV_ok _, unA_lt _ _, HC1.out.1, HC2.out.1⟩
    have hcan3 : ∀ o : Opt, o.can → s.data.toList = optT o → o3 = o := fun o hco ho => by
      have hw := words_opt ho
      rw [HL.out] at hw
      simp only [optW, List.map_cons, List.map_nil, List.cons.injEq] at hw
      obtain ⟨-, q1, -, q3, -, q5, -, q7, -, q9, -, q11, -, q13, -, q15, -, q17, -⟩ := hw
      obtain ⟨e1, e3, e5, e9, e11, e13, e7⟩ := HNs.out
      have dd : ∀ (x : ByteArray) (l : List UInt8), x = ⟨l.toArray⟩ → x.data.toList = l := fun x l h => by rw [h]
      have g1 := numV_itoa hco.ok.e (dd _ _ q1)
      have g3 := numV_itoa hco.ok.b (dd _ _ q3)
      have g5 := numV_itoa hco.ok.p (dd _ _ q5)
      have g9 := numV_itoa hco.ok.f (dd _ _ q9)
      have g11 := numV_itoa hco.ok.u (dd _ _ q11)
      have g13 := numV_itoa hco.ok.k (dd _ _ q13)
      have g7 := unV_hex hco.ok.s (dd _ _ q7)
      have g15 := HC1.out.2 o.d hco.ok.d hco.d (by rw [dd _ _ q15, hco.d])
      have g17 := HC2.out.2 o.m hco.ok.m hco.m (by rw [dd _ _ q17, hco.m])
      rw [ho3, e1, e3, e5, e9, e11, e13, e7, g1, g3, g5, g9, g11, g13, g7, g15, g17]
    have HBE : Hid (Blk wE bo #[.int .i64 o3.e, .int .i64 o3.b, .int .i64 o3.p, .int .i64 o3.f, .int .i64 o3.u, .int .i64 o3.k, .int .u64 (o3.s : Nat), .int .u64 (o3.d : Nat), .int .u64 (o3.m : Nat)] 31) := Lib.hid (by rw [ho3]; exact hBE)
    have HO3 := Lib.hid (And.intro hok3 hcan3)
    have HKE := Lib.hid hKE
    have HWr := Lib.hid (ref39_Write o3 wE hok3)
    clear hBE hKE hok3 hcan3 ho3 HC1 HC2 HNs HL HW HnW ho2
    obtain ⟨z0, z1, z2, z3, z4, z5, z6, z7, z8⟩ := HBE.out.cells9'
    unfold optC at HWr
    go_wp2_with fail
    refine HWr.out.mono ?_
    rintro e wG ⟨rfl, hK4⟩
    have HBG := Lib.hid (HBE.out.kp hK4 (fun h => h))
    have HKG := Lib.hid (HKE.out.trans hK4 (fun _ _ h => h))
    clear hK4 z0 z1 z2 z3 z4 z5 z6 z7 z8 HWr HBE HKE
    obtain ⟨z0, z1, z2, z3, z4, z5, z6, z7, z8⟩ := HBG.out.cells9'
    have hRb : Blk wG w.heap.size #[.int .i64 0, .int .i64 0, .int .i64 0, .int .i64 0, .int .i64 0, .int .i64 0, .int .u64 0, .int .u64 0, .int .u64 0] 31 := HR1.out.kp HKG.out (fun h => h)
    obtain ⟨r0, r1, r2, r3, r4, r5, r6, r7, r8⟩ := hRb.cells9'
    have fr := hRb.free
    have fr0 := fr 0
    have fr1 := fr 1
    have fr2 := fr 2
    have fr3 := fr 3
    have fr4 := fr 4
    have fr5 := fr 5
    have fr6 := fr 6
    have fr7 := fr 7
    have fr8 := fr 8
    clear fr
    have n0 : w.heap.size < w1.heap.size := by have := HR1.out.lt; exact this
    have n1 : bo ≠ w.heap.size := by rw [HBo.out]; omega
    have n2 : w.heap.size ≠ bo := fun h => n1 h.symm
    clear n0
    have HKw := Lib.hid (HK1.out.trans HKG.out (fun _ _ h => h))
    obtain ⟨T, hT⟩ : ∃ T : ByteArray, T = ⟨(optT o3).toArray⟩ := ⟨_, rfl⟩
    have hTl : T.toList = optT o3 := by rw [hT, Lib.toList_data]
    have hsl : s.toList = s.data.toList := Lib.toList_data s
    rw [← hT]
    clear hT
    by_cases hEq : s.data.toList = optT o3
    · have hq : (T.toList == s.toList) = true := by rw [hTl, hsl, hEq]; simp
      have HBe := Lib.hid (hRb.set9 (.int .i64 o3.e) (.int .i64 o3.b) (.int .i64 o3.p) (.int .i64 o3.f) (.int .i64 o3.u) (.int .i64 o3.k) (.int .u64 (o3.s : Nat)) (.int .u64 (o3.d : Nat)) (.int .u64 (o3.m : Nat)))
      have HKe := Lib.hid (Kp.set9 wG w.heap.size (.int .i64 o3.e) (.int .i64 o3.b) (.int .i64 o3.p) (.int .i64 o3.f) (.int .i64 o3.u) (.int .i64 o3.k) (.int .u64 (o3.s : Nat)) (.int .u64 (o3.d : Nat)) (.int .u64 (o3.m : Nat)))
      unfold Go.Proofs.YtpihfgpgdjjfhaaDoor.set9 at HBe HKe
      have HEq := Lib.hid hEq
      clear hEq hTl hsl hRb
      go_wp2_with fail
      obtain ⟨s0, s1, s2, s3, s4, s5, s6, s7, s8⟩ := HBe.out.cells9'
      exact bodyPost_ret (v := .tuple #[.agg (optC o3), .int .i64 0]) (by unfold optC; simp [results, Tryd.results6, go_sem, s0, s1, s2, s3, s4, s5, s6, s7, s8]) rfl
        ⟨o3, HO3.out.1, HO3.out.2, .inl ⟨HEq.out, rfl⟩, HKw.out.trans HKe.out (fun j hj h => by omega)⟩
    · have hq : (T.toList == s.toList) = false := by rw [hTl, hsl, beq_eq_false_iff_ne]; exact fun e => hEq e.symm
      have HBe := Lib.hid (hRb.set9 (.int .i64 0) (.int .i64 0) (.int .i64 0) (.int .i64 0) (.int .i64 0) (.int .i64 0) (.int .u64 0) (.int .u64 0) (.int .u64 0))
      have HKe := Lib.hid (Kp.set9 wG w.heap.size (.int .i64 0) (.int .i64 0) (.int .i64 0) (.int .i64 0) (.int .i64 0) (.int .i64 0) (.int .u64 0) (.int .u64 0) (.int .u64 0))
      unfold Go.Proofs.YtpihfgpgdjjfhaaDoor.set9 at HBe HKe
      have HEq := Lib.hid hEq
      clear hEq hTl hsl hRb
      go_wp2_with fail
      obtain ⟨s0, s1, s2, s3, s4, s5, s6, s7, s8⟩ := HBe.out.cells9'
      exact bodyPost_ret (v := .tuple #[.agg (optC oz), .int .i64 2]) (by unfold optC oz; simp [results, Tryd.results6, go_sem, s0, s1, s2, s3, s4, s5, s6, s7, s8]) rfl
        ⟨o3, HO3.out.1, HO3.out.2, .inr ⟨HEq.out, rfl⟩, HKw.out.trans HKe.out (fun j hj h => by omega)⟩
  · have hno : ∀ o : Opt, s.data.toList ≠ optT o := fun o ho => h18 (by
      have := congrArg List.length (words_opt ho)
      rw [HnW.out] at this
      simpa [optW] using this)
    have t18 : decide ((nW : Int) = 18) = false := decide_eq_false (by omega)
    have t19 : ¬ (nW : Int) = 18 := by omega
    have HNo := Lib.hid hno
    clear hno h18
    go_upto_region 3 with fail
    clear t18 t19
    have hRb : Blk w1 w.heap.size #[.int .i64 0, .int .i64 0, .int .i64 0, .int .i64 0, .int .i64 0, .int .i64 0, .int .u64 0, .int .u64 0, .int .u64 0] 31 := HR1.out
    obtain ⟨r0, r1, r2, r3, r4, r5, r6, r7, r8⟩ := hRb.cells9'
    have fr := hRb.free
    have fr0 := fr 0
    have fr1 := fr 1
    have fr2 := fr 2
    have fr3 := fr 3
    have fr4 := fr 4
    have fr5 := fr 5
    have fr6 := fr 6
    have fr7 := fr 7
    have fr8 := fr 8
    clear fr
    have HBe := Lib.hid (hRb.set9 (.int .i64 0) (.int .i64 0) (.int .i64 0) (.int .i64 0) (.int .i64 0) (.int .i64 0) (.int .u64 0) (.int .u64 0) (.int .u64 0))
    have HKe := Lib.hid (Kp.set9 w1 w.heap.size (.int .i64 0) (.int .i64 0) (.int .i64 0) (.int .i64 0) (.int .i64 0) (.int .i64 0) (.int .u64 0) (.int .u64 0) (.int .u64 0))
    unfold Go.Proofs.YtpihfgpgdjjfhaaDoor.set9 at HBe HKe
    clear hRb
    go_wp2_with fail
    obtain ⟨s0, s1, s2, s3, s4, s5, s6, s7, s8⟩ := HBe.out.cells9'
    exact bodyPost_ret (v := .tuple #[.agg (optC oz), .int .i64 2]) (by unfold optC oz; simp [results, Tryd.results6, go_sem, s0, s1, s2, s3, s4, s5, s6, s7, s8]) rfl
      ⟨oz, oz_ok, fun o _ ho => absurd ho (HNo.out o), .inr ⟨HNo.out oz, rfl⟩, HK1.out.trans HKe.out (fun j hj h => by omega)⟩

end Go.Proofs.YtpihfgpgdjjfhaaDoor
