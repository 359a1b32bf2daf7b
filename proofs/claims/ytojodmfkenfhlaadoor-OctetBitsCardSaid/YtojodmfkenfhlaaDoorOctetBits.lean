/-
  latchetlaw01.OctetBits: its walk.
-/
import Derived.Test.YtojodmfkenfhlaaDoorOctSame
import Derived.Test.YtojodmfkenfhlaaDoorOctLives
import Derived.Test.YtojodmfkenfhlaaDoorOpenBools
namespace Go.Proofs.YtojodmfkenfhlaaDoor
open Go.RowKit

theorem bt_signs {l : List Bool} {i : Nat} (h : i < l.length) : bt ⟨(signs l).toArray⟩ i = if tb l i then 49 else 48 := by
  have hs : i < (⟨(signs l).toArray⟩ : ByteArray).size := by show i < (signs l).toArray.size; simp [signs_length]; exact h
  have : bt ⟨(signs l).toArray⟩ i = ((⟨(signs l).toArray⟩ : ByteArray)[i]).toNat := by have := bt_eq hs; omega
  rw [this]
  show ((signs l).toArray[i]'hs).toNat = _
  simp only [signs, List.getElem_toArray, List.getElem_map, tb, List.getElem?_eq_getElem h, Option.getD_some, sign]
  split <;> rfl

theorem good_signs (l : List Bool) : allGood ⟨(signs l).toArray⟩ := by
  intro i hi
  have hi' : i < l.length := by have : i < (signs l).toArray.size := hi; simpa [signs_length] using this
  unfold goodAt
  rw [bt_signs hi']
  split <;> simp

theorem bits_signs (l : List Bool) : bitsR ⟨(signs l).toArray⟩ = l := by
  rw [(isGood (good_signs l)).1]
  have hsz : (⟨(signs l).toArray⟩ : ByteArray).size = l.length := by show (signs l).toArray.size = _; simp [signs_length]
  rw [hsz]
  refine bools_ext (bitsL_length _ _) (fun j hj => ?_)
  rw [bitsL_length] at hj
  simp only [tb, bitsL, List.getElem?_map, List.getElem?_range hj, Option.map_some, Option.getD_some, bitAt, bt_signs hj]
  by_cases h : l[j]?.getD false = true <;> simp [h]

theorem bits_signsC (l : List Bool) : bitsC ⟨(signs l).toArray⟩ = 0 := (isGood (good_signs l)).2

theorem signs_bits {s : ByteArray} (h : allGood s) : (⟨(signs (bitsR s)).toArray⟩ : ByteArray) = s := by
  rw [(isGood h).1]
  apply ByteArray.ext
  apply Array.ext
  · simp [signs_length, bitsL_length]
  · intro i h1 h2
    have hi : i < s.size := h2
    have hb : (s.data[i]'h2).toNat = bt s i := bt_eq hi
    simp only [signs, bitsL, List.getElem_toArray, List.getElem_map, List.getElem_range, bitAt, sign]
    rcases h i hi with e | e
    · rw [e] at hb ⊢
      apply UInt8.toNat_inj.1
      simpa using hb.symm
    · rw [e] at hb ⊢
      apply UInt8.toNat_inj.1
      simpa using hb.symm

set_option maxRecDepth 100000 in
set_option maxHeartbeats 1000000 in
theorem octetBits_good (s : ByteArray) (w : World) (a : Option Addr) (l : List Bool) (cap : Nat) (ht : Tab w) (hnil : a = none → cap = 0) (hr : RowAt w a (l.map Value.bool)) (h1 : s.size ≤ 2000) (h2 : l.length ≤ 2000) (hg : allGood s) :
    Calls Tryd.prog 5 #[.string s, .slice a l.length cap] w fun e w' => e = .returned (.bool true) ∧ Below w.heap.size w w' := by
  have HT := Lib.hid ht; clear ht
  have c1 : decide ((2000 : Int) < (s.size : Int)) = false := by simp; omega
  have c2 : decide ((2000 : Int) < (l.length : Int)) = false := by simp; omega
  obtain ⟨T, hT⟩ : ∃ T : ByteArray, (⟨(signs l).toArray⟩ : ByteArray) = T := ⟨_, rfl⟩
  have HBS := Lib.hid (bits_signs l)
  have HBC := Lib.hid (bits_signsC l)
  have hTs : T.size ≤ 100000 := by rw [← hT]; show (signs l).toArray.size ≤ _; simp [signs_length]; omega
  rw [hT] at HBS HBC
  have HTT := Lib.hid hT; clear hT
  have HCS := Lib.hid (show bitsC s = 0 by unfold bitsC; simp [hg])
  have hRl : (bitsR s).length ≤ 2000 := by unfold bitsR; split <;> simp [bitsL_length] <;> exact h1
  have HG := Lib.hid hg; clear hg
  have hone : ∀ u ∈ l.map Value.bool, u.oneCell' = true := by intro u hu; rw [List.mem_map] at hu; obtain ⟨x, _, rfl⟩ := hu; rfl
  have HON := Lib.hid hone; clear hone
  have HRR := Lib.hid (show (bitsR s == bitsR s) = true by simp)
  have HLL := Lib.hid (show (l == l) = true by simp)
  go_enter Tryd.func5, Tryd.ntmps5
  go_wp2_with fail
  refine (octet_Bits s _ (by omega)).mono ?_
  rintro e wa ⟨va, rfl, hOa, hKa⟩
  rw [HCS.out]
  go_wp2_with fail
  refine (ref_Bits s _ (by omega)).mono ?_
  rintro e wb ⟨vb, rfl, hOb, hKb⟩
  rw [HCS.out]
  have hrb : RowAt (wb.alloc (.cells #[] 4)) a (l.map Value.bool) := (hr.kp (((hKa.trans hKb (fun _ _ h => h))).alloc _) (fun _ _ h => h))
  go_wp2_with (at_builtin; refine wpList_appendAll rfl _ _ 37 4 rfl Tryd.underlying37 boolInfo rfl (base := wb.heap.size) (own_bools (l := []) (Blk.new _ _ _) (Nat.le_refl _) (Nat.zero_le _)) rfl a l.length cap (l.map Value.bool) rfl ?c0 hrb hnil HON.out ?c2 ?c3 ?c4 ?_)
  case c0 => simp
  case c2 => simp; omega
  case c3 => simp; unfold maxLen; omega
  case c4 => simp
  intro v' w1 hO1 hg1
  have hK1 : Kp (fun _ => False) wb w1 := ((Kp.refl _ _).alloc _).grown hg1 (fun j hj hlt => by simp [Value.ownBlock] at hj; omega)
  clear hg1 hrb
  obtain ⟨pt, ct, rfl, _, _, _, hrt⟩ := hO1.form
  clear hO1
  rw [List.length_map]
  go_wp2_with fail
  refine (octet_Text pt l ct _ (by simpa using hrt) (by omega)).mono ?_
  rintro e w2 ⟨rfl, hK2⟩
  rw [HTT.out]
  clear hrt
  go_wp2_with fail
  refine (octet_Bits T _ hTs).mono ?_
  rintro e w3 ⟨vc, rfl, hOc, hKc⟩
  rw [HBC.out]
  rw [HBS.out] at hOc
  have hKb3 : Kp (fun _ => False) wb w3 := (hK1.trans hK2 (fun _ _ h => h)).trans hKc (fun _ _ h => h)
  have hKw3 : Kp (fun _ => False) w w3 := (hKa.trans hKb (fun _ _ h => h)).trans hKb3 (fun _ _ h => h)
  have hOa3 := hOa.kp (hKb.trans hKb3 (fun _ _ h => h)) (fun _ _ h => h)
  have hOb3 := hOb.kp hKb3 (fun _ _ h => h)
  have hr3 := hr.kp hKw3 (fun _ _ h => h)
  clear hOa hOb hK1 hK2 hKc hKb3 hr hKa hKb
  obtain ⟨pa, ca, rfl, _, _, _, hra⟩ := hOa3.form
  obtain ⟨pb, cb, rfl, _, _, _, hrb⟩ := hOb3.form
  obtain ⟨pc, cc, rfl, _, _, _, hrc⟩ := hOc.form
  clear hOa3 hOb3 hOc
  rw [List.length_map, List.length_map]
  go_wp2_with fail
  refine (ref_Same pa pb _ _ ca cb (bitsR s) (bitsR s) _ hra hrb rfl rfl (by omega)).mono ?_
  rintro e w4 ⟨rfl, n4, hw4⟩
  rw [HRR.out]
  have hKw4 : Kp (fun _ => False) w w4 := by rw [hw4]; exact hKw3.drewN _
  have hr4 : RowAt w4 a (l.map Value.bool) := by rw [hw4]; exact hr3.drewN _
  have hra4 : RowAt w4 pa ((bitsR s).map Value.bool) := by rw [hw4]; exact hra.drewN _
  have hrc4 : RowAt w4 pc (l.map Value.bool) := by rw [hw4]; exact hrc.drewN _
  clear hw4 hra hrb hrc hr3 hKw3
  go_wp2_with fail
  refine (ref_Text a l cap _ hr4 (by omega)).mono ?_
  rintro e w5 ⟨rfl, rfl⟩
  rw [HTT.out]
  go_wp2_with fail
  refine (ref_Same pc a _ _ cc cap l l _ hrc4 hr4 rfl rfl (by omega)).mono ?_
  rintro e w6 ⟨rfl, n6, hw6⟩
  rw [HLL.out]
  have hKw6 : Kp (fun _ => False) w w6 := by rw [hw6]; exact hKw4.drewN _
  have hra6 : RowAt w6 pa ((bitsR s).map Value.bool) := by rw [hw6]; exact hra4.drewN _
  clear hw6 hra4 hrc4 hr4 hKw4
  go_wp2_with fail
  refine (octet_Text pa (bitsR s) ca _ hra6 (by omega)).mono ?_
  rintro e w7 ⟨rfl, hK7⟩
  rw [signs_bits HG.out]
  replace hKw6 := hKw6.trans hK7 (fun _ _ h => h)
  go_wp2_with fail
  refine (oct_lives _ (HT.out.kp hKw6)).mono ?_
  rintro e w8 ⟨rfl, hK8⟩
  go_wp2_with fail
  go_ret
  exact ⟨rfl, Kp.below (hKw6.trans hK8 (fun _ _ h => h)) (Nat.le_refl _) (fun _ _ h => h)⟩

set_option maxRecDepth 100000 in
set_option maxHeartbeats 1000000 in
theorem octetBits_bad (s : ByteArray) (w : World) (a : Option Addr) (l : List Bool) (cap : Nat) (ht : Tab w) (hnil : a = none → cap = 0) (hr : RowAt w a (l.map Value.bool)) (h1 : s.size ≤ 2000) (h2 : l.length ≤ 2000) (hg : ¬ allGood s) :
    Calls Tryd.prog 5 #[.string s, .slice a l.length cap] w fun e w' => e = .returned (.bool true) ∧ Below w.heap.size w w' := by
  have HT := Lib.hid ht; clear ht
  have c1 : decide ((2000 : Int) < (s.size : Int)) = false := by simp; omega
  have c2 : decide ((2000 : Int) < (l.length : Int)) = false := by simp; omega
  obtain ⟨T, hT⟩ : ∃ T : ByteArray, (⟨(signs l).toArray⟩ : ByteArray) = T := ⟨_, rfl⟩
  have HBS := Lib.hid (bits_signs l)
  have HBC := Lib.hid (bits_signsC l)
  have hTs : T.size ≤ 100000 := by rw [← hT]; show (signs l).toArray.size ≤ _; simp [signs_length]; omega
  rw [hT] at HBS HBC
  have HTT := Lib.hid hT; clear hT
  have HCS := Lib.hid (show bitsC s = 2 by unfold bitsC; simp [hg])
  have hRl : (bitsR s).length ≤ 2000 := by unfold bitsR; split <;> simp [bitsL_length] <;> exact h1
  have HG := Lib.hid hg; clear hg
  have hone : ∀ u ∈ l.map Value.bool, u.oneCell' = true := by intro u hu; rw [List.mem_map] at hu; obtain ⟨x, _, rfl⟩ := hu; rfl
  have HON := Lib.hid hone; clear hone
  have HRR := Lib.hid (show (bitsR s == bitsR s) = true by simp)
  have HLL := Lib.hid (show (l == l) = true by simp)
  go_enter Tryd.func5, Tryd.ntmps5
  go_wp2_with fail
  refine (octet_Bits s _ (by omega)).mono ?_
  rintro e wa ⟨va, rfl, hOa, hKa⟩
  rw [HCS.out]
  go_wp2_with fail
  refine (ref_Bits s _ (by omega)).mono ?_
  rintro e wb ⟨vb, rfl, hOb, hKb⟩
  rw [HCS.out]
  have hrb : RowAt (wb.alloc (.cells #[] 4)) a (l.map Value.bool) := (hr.kp (((hKa.trans hKb (fun _ _ h => h))).alloc _) (fun _ _ h => h))
  go_wp2_with (at_builtin; refine wpList_appendAll rfl _ _ 37 4 rfl Tryd.underlying37 boolInfo rfl (base := wb.heap.size) (own_bools (l := []) (Blk.new _ _ _) (Nat.le_refl _) (Nat.zero_le _)) rfl a l.length cap (l.map Value.bool) rfl ?c0 hrb hnil HON.out ?c2 ?c3 ?c4 ?_)
  case c0 => simp
  case c2 => simp; omega
  case c3 => simp; unfold maxLen; omega
  case c4 => simp
  intro v' w1 hO1 hg1
  have hK1 : Kp (fun _ => False) wb w1 := ((Kp.refl _ _).alloc _).grown hg1 (fun j hj hlt => by simp [Value.ownBlock] at hj; omega)
  clear hg1 hrb
  obtain ⟨pt, ct, rfl, _, _, _, hrt⟩ := hO1.form
  clear hO1
  rw [List.length_map]
  go_wp2_with fail
  refine (octet_Text pt l ct _ (by simpa using hrt) (by omega)).mono ?_
  rintro e w2 ⟨rfl, hK2⟩
  rw [HTT.out]
  clear hrt
  go_wp2_with fail
  refine (octet_Bits T _ hTs).mono ?_
  rintro e w3 ⟨vc, rfl, hOc, hKc⟩
  rw [HBC.out]
  rw [HBS.out] at hOc
  have hKb3 : Kp (fun _ => False) wb w3 := (hK1.trans hK2 (fun _ _ h => h)).trans hKc (fun _ _ h => h)
  have hKw3 : Kp (fun _ => False) w w3 := (hKa.trans hKb (fun _ _ h => h)).trans hKb3 (fun _ _ h => h)
  have hOa3 := hOa.kp (hKb.trans hKb3 (fun _ _ h => h)) (fun _ _ h => h)
  have hOb3 := hOb.kp hKb3 (fun _ _ h => h)
  have hr3 := hr.kp hKw3 (fun _ _ h => h)
  clear hOa hOb hK1 hK2 hKc hKb3 hr hKa hKb
  obtain ⟨pa, ca, rfl, _, _, _, hra⟩ := hOa3.form
  obtain ⟨pb, cb, rfl, _, _, _, hrb⟩ := hOb3.form
  obtain ⟨pc, cc, rfl, _, _, _, hrc⟩ := hOc.form
  clear hOa3 hOb3 hOc
  rw [List.length_map, List.length_map]
  go_wp2_with fail
  refine (ref_Same pa pb _ _ ca cb (bitsR s) (bitsR s) _ hra hrb rfl rfl (by omega)).mono ?_
  rintro e w4 ⟨rfl, n4, hw4⟩
  rw [HRR.out]
  have hKw4 : Kp (fun _ => False) w w4 := by rw [hw4]; exact hKw3.drewN _
  have hr4 : RowAt w4 a (l.map Value.bool) := by rw [hw4]; exact hr3.drewN _
  have hra4 : RowAt w4 pa ((bitsR s).map Value.bool) := by rw [hw4]; exact hra.drewN _
  have hrc4 : RowAt w4 pc (l.map Value.bool) := by rw [hw4]; exact hrc.drewN _
  clear hw4 hra hrb hrc hr3 hKw3
  go_wp2_with fail
  refine (ref_Text a l cap _ hr4 (by omega)).mono ?_
  rintro e w5 ⟨rfl, rfl⟩
  rw [HTT.out]
  go_wp2_with fail
  refine (ref_Same pc a _ _ cc cap l l _ hrc4 hr4 rfl rfl (by omega)).mono ?_
  rintro e w6 ⟨rfl, n6, hw6⟩
  rw [HLL.out]
  have hKw6 : Kp (fun _ => False) w w6 := by rw [hw6]; exact hKw4.drewN _
  have hra6 : RowAt w6 pa ((bitsR s).map Value.bool) := by rw [hw6]; exact hra4.drewN _
  clear hw6 hra4 hrc4 hr4 hKw4
  go_wp2_with fail
  clear hra6
  refine (oct_lives _ (HT.out.kp hKw6)).mono ?_
  rintro e w8 ⟨rfl, hK8⟩
  go_wp2_with fail
  go_ret
  exact ⟨rfl, Kp.below (hKw6.trans hK8 (fun _ _ h => h)) (Nat.le_refl _) (fun _ _ h => h)⟩

set_option maxRecDepth 100000 in
set_option maxHeartbeats 1000000 in
theorem octetBits_out (s : ByteArray) (w : World) (a : Option Addr) (n : Nat) (cap : Nat) (ht : Tab w) (h : 2000 < s.size ∨ s.size ≤ 2000 ∧ 2000 < n) :
    Calls Tryd.prog 5 #[.string s, .slice a n cap] w fun e w' => e = .returned (.bool true) ∧ Below w.heap.size w w' := by
  have HT := Lib.hid ht; clear ht
  rcases h with h | ⟨h, h'⟩
  · have c1 : decide ((2000 : Int) < (s.size : Int)) = true := by simp; omega
    go_enter Tryd.func5, Tryd.ntmps5
    go_wp2_with fail
    refine (oct_lives _ HT.out).mono ?_
    rintro e w8 ⟨rfl, hK8⟩
    go_wp2_with fail
    go_ret
    exact ⟨rfl, Kp.below hK8 (Nat.le_refl _) (fun _ _ h => h)⟩
  · have c1 : decide ((2000 : Int) < (s.size : Int)) = false := by simp; omega
    have c2 : decide ((2000 : Int) < (n : Int)) = true := by simp; omega
    go_enter Tryd.func5, Tryd.ntmps5
    go_wp2_with fail
    refine (oct_lives _ HT.out).mono ?_
    rintro e w8 ⟨rfl, hK8⟩
    go_wp2_with fail
    go_ret
    exact ⟨rfl, Kp.below hK8 (Nat.le_refl _) (fun _ _ h => h)⟩

theorem octetBits_walk (w : World) (s : ByteArray) (_hs : s.size ≤ maxLen) (v : Value) (hv : BoolsArg w v) (ht : Tab w) :
    Calls Tryd.prog 5 #[.string s, v] w fun e w' => e = .returned (.bool true) ∧ Below w.heap.size w w' := by
  obtain ⟨a, len, cap, l, rfl, rfl, _, _, hnil, hr⟩ := hv
  by_cases h : s.size ≤ 2000 ∧ l.length ≤ 2000
  · by_cases hg : allGood s
    · exact octetBits_good s w a l cap ht hnil hr h.1 h.2 hg
    · exact octetBits_bad s w a l cap ht hnil hr h.1 h.2 hg
  · exact octetBits_out s w a _ cap ht (by omega)

end Go.Proofs.YtojodmfkenfhlaaDoor
