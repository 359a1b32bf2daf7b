/-
  Numerals: a number's digits, and the number that digits stand for, there and back. No program in sight.
-/
import Derived.Test.YtghlklcolepfmaaGreatDoorM6
import Derived.Lib.ItoaNum
import Derived.Lib.ConvBytes
import Derived.WalkSmall
import Derived.Deep.RegionWith
import Derived.Test.YtghlklcolepfmaaGreatDoorM4
import Derived.Lib.Join
import Derived.Test.YtghlklcolepfmaaGreatDoorM1
import Derived.Test.YtghlklcolepfmaaGreatDoorM2
import Derived.Test.YtghlklcolepfmaaGreatDoorM3
set_option linter.unusedVariables false
set_option linter.unusedSimpArgs false
namespace Go.Proofs.YtghlklcolepfmaaGreatDoor
open Go.RowKit

theorem dd_one {u : Nat} (h : u < 10) : Lib.decDigits u = [UInt8.ofNat (48 + u)] := Lib.decDigits_one h
theorem dd_more {u : Nat} (h : ¬ u < 10) : Lib.decDigits u = Lib.decDigits (u / 10) ++ [UInt8.ofNat (48 + u % 10)] := by
 conv => lhs; rw [Lib.decDigits, dif_neg h]

theorem dd_byte {d : Nat} (h : d < 10) : (UInt8.ofNat (48 + d)).toNat = 48 + d := by
 rw [UInt8.toNat_ofNat']; omega

theorem dd_digit : ∀ (u : Nat), ∀ b ∈ Lib.decDigits u, 48 ≤ b.toNat ∧ b.toNat ≤ 57 := by
 intro u
 induction u using Nat.strongRecOn with
 |_ u ih =>
  intro b hb
  by_cases h : u < 10
  ·rw [dd_one h] at hb
   simp only [List.mem_singleton] at hb
   subst hb
   rw [dd_byte h]; omega
  ·rw [dd_more h] at hb
   rcases List.mem_append.1 hb with hb | hb
   ·exact ih (u / 10) (by omega) b hb
   ·simp only [List.mem_singleton] at hb
    subst hb
    rw [dd_byte (by omega)]; omega

theorem dd_pos (u : Nat) : 0 < (Lib.decDigits u).length := by
 by_cases h : u < 10
 ·rw [dd_one h]; simp
 ·rw [dd_more h]; simp

theorem dd_head : ∀ (u : Nat), 0 < u → ∃ b r, Lib.decDigits u = b :: r ∧ b.toNat ≠ 48 := by
 intro u
 induction u using Nat.strongRecOn with
 |_ u ih =>
  intro h0
  by_cases h : u < 10
  ·exact ⟨_, [], dd_one h, by rw [dd_byte h]; omega⟩
  ·obtain ⟨b, r, e, hb⟩ := ih (u / 10) (by omega) (by omega)
   exact ⟨b, r ++ [UInt8.ofNat (48 + u % 10)], by rw [dd_more h, e]; rfl, hb⟩

theorem dd_len : ∀ (k u : Nat), u < 10 ^ (k + 1) → (Lib.decDigits u).length ≤ k + 1
 |0, u, h => by rw [dd_one (by simpa using h)]; simp
 |k + 1, u, h => by
  by_cases hu : u < 10
  ·rw [dd_one hu]; simp
  ·rw [dd_more hu]
   have := dd_len k (u / 10) (by rw [Nat.pow_succ] at h; omega)
   simp; omega

theorem decFrom_snoc : ∀ (l : List UInt8) (acc : Nat) (b : UInt8), Lib.decFrom acc (l ++ [b]) = match Lib.decFrom acc l with
  |some n => match Lib.digitVal b with
   |some d => some (n * 10 + d)
   |none => none
  |none => none
 |[], acc, b => by
  simp only [List.nil_append, Lib.decFrom]
  cases Lib.digitVal b <;> rfl
 |c :: l, acc, b => by
  rw [List.cons_append]
  simp only [Lib.decFrom]
  cases Lib.digitVal c with
  |none => rfl
  |some d => exact decFrom_snoc l _ b

theorem digitVal_of {d : Nat} (h : d < 10) : Lib.digitVal (UInt8.ofNat (48 + d)) = some d := by
 unfold Lib.digitVal
 rw [dd_byte h, if_pos ⟨by omega, by omega⟩, show 48 + d - 48 = d by omega]

theorem dd_from : ∀ (u : Nat), Lib.decFrom 0 (Lib.decDigits u) = some u := by
 intro u
 induction u using Nat.strongRecOn with
 |_ u ih =>
  by_cases h : u < 10
  ·rw [dd_one h]
   simp only [Lib.decFrom, digitVal_of h]
   simp
  ·rw [dd_more h, decFrom_snoc, ih (u / 10) (by omega), digitVal_of (by omega)]
   simp only [Option.some.injEq]; omega

theorem natN_dec {s : ByteArray} {p u : Nat} (hu : u < 1000000000) (hp : p + (Lib.decDigits u).length ≤ s.size)
  (hs : (s.data.toList.drop p).take (Lib.decDigits u).length = Lib.decDigits u) (he : p + (Lib.decDigits u).length = s.size ∨ ¬ isDig s (p + (Lib.decDigits u).length)) :
  natN s p = (u, p + (Lib.decDigits u).length, 0) := by
 have hpos := dd_pos u
 have hlen : (Lib.decDigits u).length ≤ 9 := dd_len 8 u (by omega)
 obtain ⟨n, hn⟩ : ∃ n, (Lib.decDigits u).length = n := ⟨_, rfl⟩
 rw [hn] at hpos hlen hp hs he ⊢
 have hbyte : ∀ j b, (Lib.decDigits u)[j]? = some b → bt s (p + j) = b.toNat := by
  intro j b hb
  have hj : j < n := by rw [← hn]; exact (List.getElem?_eq_some_iff.1 hb).1
  rw [← hs, List.getElem?_take, if_pos hj, List.getElem?_drop] at hb
  obtain ⟨c, hc, hc2⟩ := byte_at (s := s) (i := p + j) (by omega)
  rw [hb] at hc
  rw [← hc2, Option.some.inj hc]
 have hd : ∀ j, j < n → isDig s (p + j) := by
  intro j hj
  have hj' : j < (Lib.decDigits u).length := by omega
  have := dd_digit u _ (List.getElem_mem hj')
  have hb := hbyte j _ (List.getElem?_eq_getElem hj')
  unfold isDig
  rw [hb]; exact this
 have hend : endOf s p = p + n := endOf_is (by omega) hp (fun k h1 h2 => by have := hd (k - p) (by omega); rwa [show p + (k - p) = k by omega] at this) he
 unfold natN
 rw [if_neg (by omega), hend, if_neg ?_, if_neg (by omega), show p + n - p = n by omega]
 ·have h1 := word_dec (s := s) (i := p) n hp hd
  rw [hs, dd_from] at h1
  rw [← Option.some.inj h1]
 ·rintro (h | ⟨h1, h2⟩)
  ·omega
  ·have hu10 : ¬ u < 10 := by intro h; rw [dd_one h] at hn; simp at hn; omega
   obtain ⟨b, r, e, hb⟩ := dd_head u (by omega)
   have := hbyte 0 b (by rw [e]; rfl)
   rw [Nat.add_zero] at this
   omega

theorem itoa_nat (u : Nat) : Lib.itoa (u : Int) = Lib.decDigits u := by unfold Lib.itoa; rw [if_neg (by omega), Int.toNat_natCast]

end Go.Proofs.YtghlklcolepfmaaGreatDoor

/-
  A derivation's lines and their text, there and back. No program in sight.
-/
namespace Go.Proofs.YtghlklcolepfmaaGreatDoor
open Go.RowKit

def lt (x : Nat) : List UInt8 := if x % 2 = 1 then 33 :: Lib.decDigits (x / 2) else Lib.decDigits (x / 2)

theorem list_size (s : ByteArray) : s.data.toList.length = s.size := by simp

theorem ba_ext {a b : ByteArray} (h : a.data.toList = b.data.toList) : a = b := by
 apply ByteArray.ext; apply Array.ext'; exact h

theorem lineT_text {s : ByteArray} {p : Nat} {a r : List UInt8} (hp : p ≤ s.size) (ha : ∀ b ∈ a, b ≠ 10) (h : s.data.toList.drop p = a ++ 10 :: r) :
  lineT s (p : Nat) = (⟨a.toArray⟩, p + a.length + 1, 0) := by
 have hl : (s.data.toList.drop p).length = s.size - p := by rw [List.length_drop, list_size]
 have hlen : a.length + 1 + r.length = s.size - p := by rw [← hl, h]; simp; omega
 have hb : ∀ j, j < a.length → bt s (p + j) ≠ 10 := by
  intro j hj e
  have h1 : s.data.toList[p + j]? = some a[j] := by rw [← List.getElem?_drop, h, List.getElem?_append_left hj, List.getElem?_eq_getElem hj]
  have h2 := (bt_is.1 h1).2
  have h3 := ha a[j] (List.getElem_mem hj)
  exact h3 (UInt8.toNat_inj.1 (by rw [← h2, e]; rfl))
 have h10 : bt s (p + a.length) = 10 := by
  have h1 : s.data.toList[p + a.length]? = some 10 := by rw [← List.getElem?_drop, h, List.getElem?_append_right (Nat.le_refl _), Nat.sub_self]; rfl
  exact (bt_is.1 h1).2
 unfold lineT
 rw [if_neg (by omega), Int.toNat_natCast, feed_some (i := p + a.length) (by omega) (by omega) h10 (fun j h1 h2 => by have := hb (j - p) (by omega); rwa [show p + (j - p) = j by omega] at this)]
 simp only [Prod.mk.injEq, and_true]
 apply ba_ext
 rw [Lib.extract_data, h, show p + a.length - p = a.length by omega, List.take_left]

end Go.Proofs.YtghlklcolepfmaaGreatDoor

/-
  octet.Nat and its reference: what they compute.
-/
namespace Go.Proofs.YtghlklcolepfmaaGreatDoor
open Go.RowKit

end Go.Proofs.YtghlklcolepfmaaGreatDoor

/-
  octet.Num and its reference; octet.Dec: what they compute.
-/
namespace Go.Proofs.YtghlklcolepfmaaGreatDoor
open Go.RowKit

end Go.Proofs.YtghlklcolepfmaaGreatDoor

/-
  latchetlaw01: lives; the table that strconv.Itoa reads.
-/
namespace Go.Proofs.YtghlklcolepfmaaGreatDoor
open Go.RowKit

def Tab (w : World) : Prop := Lib.TabIs Tryz.prog w "internal/strconv.uint64pow10" .u64 Lib.pow10Tab

theorem gPow : Tryz.prog.globalNamed "internal/strconv.uint64pow10" = some 1 := by kernel_rfl

theorem Tab.lt {w : World} (h : Tab w) : 1 < w.heap.size :=
 World.block_lt_of_cell? w _ (Lib.TabIs.cell h gPow 0 (by decide))

theorem Tab.kp {w w' : World} (h : Tab w) (k : Kp (fun _ => False) w w') : Tab w' :=
 var?_below (k.below (Nat.le_refl _) (fun _ _ h => h)) gPow h.lt h

theorem kp_grow (w : World) (k : Nat) (os : Array Obj) : Kp (fun _ => False) w (Sort.grow (w.drewN k) os) := by
 refine ⟨rfl, rfl, rfl, ?_, fun i hi _ => ?_⟩
 ·show w.heap.size ≤ (w.heap ++ os).size
  simp
 ·show (w.heap ++ os)[i]? = _
  rw [Array.getElem?_append_left hi]

theorem octet_Dec (n : Int) (w : World) (h0 : -9223372036854775808 ≤ n) (h1 : n ≤ 9223372036854775807) (ht : Tab w) :
  Calls Tryz.prog 30 #[.int .i64 n] w fun e w' => e = .returned (.string ⟨(Lib.itoa n).toArray⟩) ∧ Kp (fun _ => False) w w' := by
 have HT := Lib.hid ht; clear ht
 go_enter Tryz.func30, Tryz.ntmps30
 go_wp2_with fail
 refine (Tryz.strconv_Itoa n h0 h1 _ HT.out).mono ?_
 rintro e w' ⟨rfl, k, os, rfl⟩
 go_wp2_with fail
 go_ret
 exact ⟨rfl, kp_grow _ _ _⟩

end Go.Proofs.YtghlklcolepfmaaGreatDoor

/-
  A number by digits of seven bits is got again.
-/
namespace Go.Proofs.YtghlklcolepfmaaGreatDoor
open Go.RowKit

theorem ofNat_toNat {m : Nat} (h : m < 256) : (UInt8.ofNat m).toNat = m := by
 simp only [UInt8.toNat_ofNat']; omega

end Go.Proofs.YtghlklcolepfmaaGreatDoor

/-
  latchetref01.Num and Dec: what they compute.
-/
namespace Go.Proofs.YtghlklcolepfmaaGreatDoor
open Go.RowKit

theorem one_string (E : Nat) (hE : E < 256) (u : World) :
  (convert 57 9 (.slice (some ⟨u.heap.size, 0, none⟩) 1 1)).run Tryz.prog (u.alloc (.cells #[.int .u8 (E : Int)] 5)) = .ok (.string ⟨#[UInt8.ofNat E]⟩) (u.alloc (.cells #[.int .u8 (E : Int)] 5)) := by
 have h := run_convert_bytes_back (P := Tryz.prog) (u.alloc (.cells #[.int .u8 (E : Int)] 5)) 57 9 5 ⟨u.heap.size, 0, none⟩ 1 [UInt8.ofNat E] Tryz.underlying57 Tryz.underlying5 Tryz.underlying9 (fun j hj => by
  have hj0 : j = 0 := by simpa using hj
  subst hj0
  rw [add_plain', Nat.zero_add]
  refine (World.cell?_alloc_at _ _ _ _ rfl).trans ?_
  simp [ofNat_toNat hE])
 exact h

theorem cat_bytes (a b : List UInt8) : (⟨a.toArray⟩ : ByteArray) ++ ⟨b.toArray⟩ = ⟨(a ++ b).toArray⟩ := by
 apply ByteArray.ext; simp

end Go.Proofs.YtghlklcolepfmaaGreatDoor

/-
  latchetref01.Dec: what it computes: strconv.Itoa's numeral.
-/
namespace Go.Proofs.YtghlklcolepfmaaGreatDoor
open Go.RowKit

theorem decLen : ∀ (k u : Nat), u < 10 ^ (k + 1) → (Lib.decDigits u).length ≤ k + 1
 |0, u, h => by rw [Lib.decDigits, dif_pos (by simpa using h)]; simp
 |k + 1, u, h => by
  by_cases hu : u < 10
  ·rw [Lib.decDigits, dif_pos hu]; simp
  ·rw [Lib.decDigits, dif_neg hu]
   have := decLen k (u / 10) (by rw [Nat.pow_succ] at h; omega)
   simp; omega

theorem itoaLen {n : Int} (h1 : -9223372036854775808 ≤ n) (h2 : n ≤ 9223372036854775807) : (Lib.itoa n).length ≤ 21 := by
 have h := decLen 19 n.natAbs (by omega)
 unfold Lib.itoa
 split
 ·simp; omega
 ·have e : n.toNat = n.natAbs := by omega
  rw [e]; omega

theorem itoa_one {n : Int} (h0 : ¬ n < 0) (h : n < 10) : Lib.itoa n = [UInt8.ofNat (48 + n.toNat)] := by
 unfold Lib.itoa; rw [if_neg h0, Lib.decDigits, dif_pos (by omega)]

theorem itoa_more {n : Int} (h : ¬ n < 10) : Lib.itoa n = Lib.itoa (n / 10) ++ [UInt8.ofNat (48 + (n % 10).toNat)] := by
 unfold Lib.itoa
 rw [if_neg (by omega), if_neg (by omega)]
 conv => lhs; rw [Lib.decDigits, dif_neg (by omega)]
 rw [show (n / 10).toNat = n.toNat / 10 from by omega, show (n % 10).toNat = n.toNat % 10 from by omega]

theorem itoa_neg1 {n : Int} (h : n < 0) (h1 : -10 < n) : Lib.itoa n = 45 :: [UInt8.ofNat (48 - n).toNat] := by
 unfold Lib.itoa
 rw [if_pos h, Lib.decDigits, dif_pos (by omega), show (48 - n).toNat = 48 + n.natAbs from by omega]

theorem itoa_negm {n : Int} (h1 : n ≤ -10) : Lib.itoa n = Lib.itoa (n.tdiv 10) ++ [UInt8.ofNat (48 - n.tmod 10).toNat] := by
 obtain ⟨m, rfl⟩ : ∃ m : Nat, n = -(m : Int) := ⟨n.natAbs, by omega⟩
 rw [Int.neg_tdiv, Int.neg_tmod, Int.tdiv_eq_ediv_of_nonneg (by omega), Int.tmod_eq_emod_of_nonneg (by omega)]
 unfold Lib.itoa
 rw [if_pos (by omega), if_pos (by omega)]
 conv => lhs; rw [Lib.decDigits, dif_neg (by omega)]
 rw [show (-((m : Int) / 10)).natAbs = (-(m : Int)).natAbs / 10 from by omega, show (48 - -((m : Int) % 10)).toNat = 48 + (-(m : Int)).natAbs % 10 from by omega]
 rfl

theorem one_string_at {E : Nat} (hE : E < 256) {k : Nat} {u : World} (h : u.cell? ⟨k, 0, none⟩ = some (.int .u8 (E : Int))) :
  (convert 57 9 (.slice (some ⟨k, 0, none⟩) 1 1)).run Tryz.prog u = .ok (.string ⟨#[UInt8.ofNat E]⟩) u := by
 have h := run_convert_bytes_back (P := Tryz.prog) u 57 9 5 ⟨k, 0, none⟩ 1 [UInt8.ofNat E] Tryz.underlying57 Tryz.underlying5 Tryz.underlying9 (fun j hj => by
  have hj0 : j = 0 := by simpa using hj
  subst hj0
  rw [add_plain', Nat.zero_add]
  refine h.trans ?_
  simp [ofNat_toNat hE])
 exact h

theorem one_string_v {V : Int} {E : Nat} (hE : E < 256) (hV : V = E) (u : World) :
  (convert 57 9 (.slice (some ⟨u.heap.size, 0, none⟩) 1 1)).run Tryz.prog (u.alloc (.cells #[.int .u8 V] 5)) = .ok (.string ⟨#[UInt8.ofNat E]⟩) (u.alloc (.cells #[.int .u8 V] 5)) := by
 subst hV; exact one_string E hE u

theorem one_kept {V : Int} {E : Nat} (hE : E < 256) (hV : V = E) {u w1 : World} (hK : Kp (fun _ => False) (u.alloc (.cells #[.int .u8 V] 5)).drew w1) :
  (convert 57 9 (.slice (some ⟨u.heap.size, 0, none⟩) 1 1)).run Tryz.prog w1 = .ok (.string ⟨#[UInt8.ofNat E]⟩) w1 := by
 subst hV
 refine one_string_at hE ?_
 have hb : w1.heap[u.heap.size]? = (u.alloc (.cells #[.int .u8 (E : Int)] 5)).heap[u.heap.size]? := Kp.block hK u.heap.size (by simp) (fun h => h)
 exact (World.cell?_of_block (a := ⟨u.heap.size, 0, none⟩) hb).trans (World.cell?_alloc_at _ _ _ _ rfl)

set_option maxHeartbeats 2000000 in
set_option maxRecDepth 100000 in
theorem ref_Dec_any (k : Nat) : ∀ (n : Int) (w : World), n.natAbs ≤ k → -9223372036854775808 ≤ n → n ≤ 9223372036854775807 →
  Calls Tryz.prog 35 #[.int .i64 n] w fun e w' => e = .returned (.string ⟨(Lib.itoa n).toArray⟩) ∧ Kp (fun _ => False) w w' := by
 induction k using Nat.strongRecOn with
 |_ k ih =>
  intro n w hk h1 h2
  by_cases hneg : n < 0
  ·by_cases hs : -10 < n
   ·have HI := Lib.hid (itoa_neg1 hneg hs)
    have hq : n.tdiv 10 = 0 := by
     obtain ⟨m, rfl⟩ : ∃ m : Nat, n = -(m : Int) := ⟨n.natAbs, by omega⟩
     rw [Int.neg_tdiv, Int.tdiv_eq_ediv_of_nonneg (by omega)]; omega
    obtain ⟨E, hE, hE2⟩ : ∃ E : Nat, 48 - n = (E : Int) ∧ E = (48 - n).toNat := ⟨(48 - n).toNat, by omega, rfl⟩
    have hE3 : E < 256 := by omega
    have HE2 := Lib.hid hE2; clear hE2
    have hcv := one_string E hE3
    clear ih
    go_enter Tryz.func35, Tryz.ntmps35
    go_wp2_with fail
    go_ret
    refine ⟨congrArg (fun x => Ending.returned (Value.string x)) ((cat_bytes [45] [UInt8.ofNat E]).trans ?_), (Kp.refl _ w).alloc _⟩
    rw [HI.out, HE2.out]; rfl
   ·have HI := Lib.hid (itoa_negm (n := n) (by omega))
    obtain ⟨q, r, hq, hr, h10⟩ : ∃ q r : Int, n.tdiv 10 = q ∧ n.tmod 10 = r ∧ (q ≤ -1 ∧ n ≤ q ∧ n < q ∧ -9 ≤ r ∧ r ≤ 0) := by
     refine ⟨_, _, rfl, rfl, ?_⟩
     obtain ⟨m, rfl⟩ : ∃ m : Nat, n = -(m : Int) := ⟨n.natAbs, by omega⟩
     rw [Int.neg_tdiv, Int.neg_tmod, Int.tdiv_eq_ediv_of_nonneg (by omega), Int.tmod_eq_emod_of_nonneg (by omega)]; omega
    obtain ⟨E, hE2⟩ : ∃ E : Nat, E = (48 - r).toNat := ⟨_, rfl⟩
    have hE3 : E < 256 := by omega
    have hV : IntKind.wrap .u8 (IntKind.wrap .i64 (48 - r)) = (E : Int) := by
     rw [wrap_small _ (by omega) (by omega)]; unfold IntKind.wrap; simp [IntKind.bits, IntKind.signed]; omega
    have HE2 := Lib.hid hE2; clear hE2
    have HV := Lib.hid hV; clear hV
    have hcv := one_string_v hE3 HV.out
    have hcd := one_kept hE3 HV.out (Kp.refl _ (w.alloc (.cells #[.int .u8 (IntKind.wrap .u8 (IntKind.wrap .i64 (48 - r)))] 5)).drew)
    have hlen : ¬ 9223372036854775807 < (Lib.itoa q).length + 1 := by have := itoaLen (n := q) (by omega) (by omega); omega
    have hwq : IntKind.wrap .i64 q = q := hq ▸ wrap_i64_tdiv n 10 h1 h2 (by omega)
    have hrec : ∀ u : World, Calls Tryz.prog 35 #[.int .i64 q] u fun e w' => e = .returned (.string ⟨(Lib.itoa q).toArray⟩) ∧ Kp (fun _ => False) u w' :=
     fun u => ih q.natAbs (by omega) _ u (Nat.le_refl _) (by omega) (by omega)
    have hfin : ∀ w1, Kp (fun _ => False) w w1 → Ending.returned (Value.string ((⟨(Lib.itoa q).toArray⟩ : ByteArray) ++ ⟨#[UInt8.ofNat E]⟩)) = Ending.returned (.string ⟨(Lib.itoa n).toArray⟩) ∧ Kp (fun _ => False) w w1 :=
     fun w1 h => ⟨congrArg (fun x => Ending.returned (Value.string x)) ((cat_bytes _ [UInt8.ofNat E]).trans (by rw [HI.out, HE2.out, hq, hr])), h⟩
    have h0 : ¬ q = 0 := by omega
    clear ih
    go_enter Tryz.func35, Tryz.ntmps35
    go_wp2_with fail
    go_region_with (go_at_call 35; refine (hrec _).mono ?_; rintro e w1 ⟨rfl, hK1⟩; try have hcw : (convert 57 9 (.slice (some ⟨w.heap.size, 0, none⟩) 1 1)).run Tryz.prog w1 = _ := one_kept hE3 HV.out hK1)
    all_goals (go_wp2_with fail)
    all_goals go_ret
    ·exact hfin _ ((Kp.trans (Kp.drew (Kp.refl _ w)) hK1 (fun _ _ h => h)).alloc _)
    ·exact hfin _ (Kp.trans (Kp.drew (Kp.alloc (Kp.refl _ w) _)) hK1 (fun _ _ h => h))
    ·exact hfin _ (Kp.trans (Kp.drew (Kp.alloc (Kp.refl _ w) _)) hK1 (fun _ _ h => h))
  by_cases hs : n < 10
  ·have HI := Lib.hid (itoa_one hneg hs)
   obtain ⟨m, rfl⟩ : ∃ m : Nat, n = m := ⟨n.toNat, by omega⟩
   have hm : m < 10 := by omega
   obtain ⟨E, hE, hE2⟩ : ∃ E : Nat, 48 + (m : Int) = (E : Int) ∧ E = 48 + m := ⟨48 + m, by omega, rfl⟩
   have hE3 : E < 256 := by omega
   have HE2 := Lib.hid hE2; clear hE2
   have hcv := one_string E hE3
   go_enter Tryz.func35, Tryz.ntmps35
   go_wp2_with fail
   go_ret
   refine ⟨?_, (Kp.refl _ w).alloc _⟩
   rw [HI.out, HE2.out]; rfl
  ·have HI := Lib.hid (itoa_more hs)
   obtain ⟨m, rfl⟩ : ∃ m : Nat, n = m := ⟨n.toNat, by omega⟩
   have hm : ¬ m < 10 := by omega
   obtain ⟨E, hE2⟩ : ∃ E : Nat, E = 48 + m % 10 := ⟨_, rfl⟩
   have hE3 : E < 256 := by omega
   have hV : IntKind.wrap .u8 (IntKind.wrap .i64 (48 + (m : Int).tmod 10)) = (E : Int) := by
    rw [Int.tmod_eq_emod_of_nonneg (by omega), wrap_small _ (by omega) (by omega)]; unfold IntKind.wrap; simp [IntKind.bits, IntKind.signed]; omega
   have HE2 := Lib.hid hE2; clear hE2
   have HV := Lib.hid hV; clear hV
   have hcv := one_string_v hE3 HV.out
   have hcd := one_kept hE3 HV.out (Kp.refl _ (w.alloc (.cells #[.int .u8 (IntKind.wrap .u8 (IntKind.wrap .i64 (48 + (m : Int).tmod 10)))] 5)).drew)
   have hlen : ¬ 9223372036854775807 < (Lib.itoa ((m : Int) / 10)).length + 1 := by have := itoaLen (n := (m : Int) / 10) (by omega) (by omega); omega
   have hwq : IntKind.wrap .i64 ((m : Int) / 10) = (m : Int) / 10 := wrap_small _ (by omega) (by omega)
   have hrec : ∀ u : World, Calls Tryz.prog 35 #[.int .i64 (IntKind.wrap .i64 ((m : Int) / 10))] u fun e w' => e = .returned (.string ⟨(Lib.itoa ((m : Int) / 10)).toArray⟩) ∧ Kp (fun _ => False) u w' :=
    fun u => by rw [hwq]; exact ih ((m : Int) / 10).natAbs (by omega) _ u (Nat.le_refl _) (by omega) (by omega)
   have hfin : ∀ w1, Kp (fun _ => False) w w1 → Ending.returned (Value.string ((⟨(Lib.itoa ((m : Int) / 10)).toArray⟩ : ByteArray) ++ ⟨#[UInt8.ofNat E]⟩)) = Ending.returned (.string ⟨(Lib.itoa (m : Int)).toArray⟩) ∧ Kp (fun _ => False) w w1 :=
    fun w1 h => ⟨congrArg (fun x => Ending.returned (Value.string x)) ((cat_bytes _ [UInt8.ofNat E]).trans (by rw [HI.out, HE2.out, show ((m : Int) % 10).toNat = m % 10 from by omega])), h⟩
   clear ih hwq
   go_enter Tryz.func35, Tryz.ntmps35
   go_wp2_with fail
   go_region_with (go_at_call 35; refine (hrec _).mono ?_; rintro e w1 ⟨rfl, hK1⟩; try have hcw : (convert 57 9 (.slice (some ⟨w.heap.size, 0, none⟩) 1 1)).run Tryz.prog w1 = _ := one_kept hE3 HV.out hK1)
   all_goals (go_wp2_with fail)
   all_goals go_ret
   ·exact hfin _ ((Kp.trans (Kp.drew (Kp.refl _ w)) hK1 (fun _ _ h => h)).alloc _)
   ·exact hfin _ (Kp.trans (Kp.drew (Kp.alloc (Kp.refl _ w) _)) hK1 (fun _ _ h => h))
   ·exact hfin _ (Kp.trans (Kp.drew (Kp.alloc (Kp.refl _ w) _)) hK1 (fun _ _ h => h))

theorem ref_Dec (n : Int) (w : World) (h1 : -9223372036854775808 ≤ n) (h2 : n ≤ 9223372036854775807) :
  Calls Tryz.prog 35 #[.int .i64 n] w fun e w' => e = .returned (.string ⟨(Lib.itoa n).toArray⟩) ∧ Kp (fun _ => False) w w' :=
 ref_Dec_any n.natAbs n w (Nat.le_refl _) h1 h2

end Go.Proofs.YtghlklcolepfmaaGreatDoor

/-
  A run's table, plainly.
-/
namespace Go.Proofs.YtghlklcolepfmaaGreatDoor
open Go.RowKit

def trcW (C : Circ) (k : Nat) (st ip : List Bool) : List (List UInt8) :=
  [Lib.itoa (k : Int), 115 :: 61 :: signs st, 105 :: 61 :: signs (brought ip C.ins.length), 111 :: 61 :: signs (C.outs.map (litM C st ip)), 98 :: 61 :: signs (C.bads.map (litM C st ip)), 99 :: 61 :: signs (C.cons.map (litM C st ip))]
def trcL (C : Circ) (k : Nat) (st ip : List Bool) : List UInt8 := jn (trcW C k st ip)
def trcB (C : Circ) (st : List Bool) (rows : List (List Bool)) (k : Nat) : List UInt8 := (List.range k).flatMap (fun j => trcL C j (stateM C st rows j) (rows[j]?.getD []) ++ [10])

theorem trcB_succ (C : Circ) (st : List Bool) (rows : List (List Bool)) (k : Nat) : trcB C st rows (k + 1) = trcB C st rows k ++ (trcL C k (stateM C st rows k) (rows[k]?.getD []) ++ [10]) := by
 unfold trcB
 rw [List.range_succ, List.flatMap_append]
 simp

theorem brought_self {l : List Bool} {n : Nat} (h : l.length = n) : brought l n = l := by
 apply List.ext_getElem
 ·rw [brought_len, h]
 ·intro i _ h2
  simp only [brought, vb, List.getElem_map, List.getElem_range, List.getElem?_eq_getElem h2, Option.getD_some]
theorem brought_twice (l : List Bool) (n : Nat) : brought (brought l n) n = brought l n := brought_self (brought_len _ _)

theorem litM_brought (C : Circ) (st ip : List Bool) : litM C st (brought ip C.ins.length) = litM C st ip := by
 funext l
 unfold litM valsM insOf
 rw [brought_twice]
theorem trcW_brought (C : Circ) (k : Nat) (st ip : List Bool) : trcW C k st (brought ip C.ins.length) = trcW C k st ip := by
 unfold trcW
 rw [litM_brought, brought_twice]
theorem nextM_brought (C : Circ) (st ip : List Bool) : nextM C st (brought ip C.ins.length) = nextM C st ip := by
 unfold nextM
 rw [litM_brought]

theorem sign_ne (b : Bool) : sign b ≠ 32 ∧ sign b ≠ 10 := by cases b <;> exact ⟨by decide, by decide⟩
theorem signs_ne (l : List Bool) : ∀ x ∈ signs l, x ≠ 32 ∧ x ≠ 10 := by
 intro x hx
 unfold signs at hx
 obtain ⟨b, _, rfl⟩ := List.mem_map.1 hx
 exact sign_ne b
theorem digs_ne (n : Nat) : ∀ x ∈ Lib.itoa (n : Int), x ≠ 32 ∧ x ≠ 10 := by
 intro x hx
 rw [itoa_nat] at hx
 have := dd_digit n x hx
 refine ⟨?_, ?_⟩ <;> (rintro rfl; simp at this)
theorem trcW_ne (C : Circ) (k : Nat) (st ip : List Bool) : ∀ l ∈ trcW C k st ip, ∀ x ∈ l, x ≠ 32 ∧ x ≠ 10 := by
 intro l hl x hx
 unfold trcW at hl
 simp only [List.mem_cons, List.not_mem_nil, or_false] at hl
 rcases hl with rfl | rfl | rfl | rfl | rfl | rfl
 ·exact digs_ne k x hx
 all_goals
  rcases List.mem_cons.1 hx with rfl | hx
  ·exact ⟨by decide, by decide⟩
  rcases List.mem_cons.1 hx with rfl | hx
  ·exact ⟨by decide, by decide⟩
  exact signs_ne _ x hx
theorem jn_ne10 : ∀ (L : List (List UInt8)), (∀ l ∈ L, ∀ x ∈ l, x ≠ 32 ∧ x ≠ 10) → ∀ x ∈ jn L, x ≠ 10
 |[], _, x, hx => by simp [jn] at hx
 |[a], h, x, hx => (h a (by simp) x (by simpa [jn] using hx)).2
 |a :: b :: r, h, x, hx => by
  rw [jn] at hx
  rcases List.mem_append.1 hx with hx | hx
  ·exact (h a (by simp) x hx).2
  ·rcases List.mem_cons.1 hx with rfl | hx
   ·decide
   ·exact jn_ne10 (b :: r) (fun l hl => h l (by simp only [List.mem_cons] at hl ⊢; exact .inr hl)) x hx
theorem trcL_ne (C : Circ) (k : Nat) (st ip : List Bool) : ∀ x ∈ trcL C k st ip, x ≠ 10 := jn_ne10 _ (trcW_ne C k st ip)
theorem words_jn : ∀ (L : List (List UInt8)), L ≠ [] → (∀ l ∈ L, ∀ x ∈ l, x ≠ 32 ∧ x ≠ 10) → wordsF (jn L) = L
 |[], h, _ => absurd rfl h
 |[a], _, h => by rw [jn]; exact words_none (fun x hx => (h a (by simp) x hx).1)
 |a :: b :: r, _, h => by
  rw [jn, words_app _ (fun x hx => (h a (by simp) x hx).1), words_jn (b :: r) (by simp) (fun l hl => h l (by simp only [List.mem_cons] at hl ⊢; exact .inr hl))]
theorem trcL_words (C : Circ) (k : Nat) (st ip : List Bool) : wordsF (trcL C k st ip) = trcW C k st ip := words_jn _ (by simp [trcW]) (trcW_ne C k st ip)

theorem jn_join : ∀ (L : List (List UInt8)), Lib.join L [32] = jn L
 |[] => rfl
 |[a] => by simp [jn, Lib.join]
 |a :: b :: r => by
  have := jn_join (b :: r)
  rw [jn, ← this]
  simp [Lib.join]

theorem trcL_len {C : Circ} {k : Nat} {st ip : List Bool} (hf : CFew C 1000) (hk : k ≤ 100000) (hs : st.length ≤ 1000) : (trcL C k st ip).length ≤ 6000 := by
 have h1 := itoaLen (n := (k : Int)) (by omega) (by omega)
 have h2 := hf.i
 have h3 := hf.o
 have h4 := hf.b
 have h5 := hf.c
 unfold trcL trcW
 simp only [jn, List.length_append, List.length_cons, signs_length, brought_len, List.length_map]
 omega
theorem trcB_len {C : Circ} {st : List Bool} {rows : List (List Bool)} (hf : CFew C 1000) : ∀ k, k ≤ 1000 → (trcB C st rows k).length ≤ 6001 * k
 |0, _ => by simp [trcB]
 |k + 1, h => by
  have := trcB_len (st := st) (rows := rows) hf k (by omega)
  have h2 := trcL_len (k := k) (st := stateM C st rows k) (ip := rows[k]?.getD []) hf (by omega) (by rw [stateM_len]; exact hf.l)
  rw [trcB_succ, List.length_append, List.length_append, List.length_singleton]
  omega

theorem trcB_from (C : Circ) (st : List Bool) (rows : List (List Bool)) {k n : Nat} (h : k < n) : ∃ r, trcB C st rows n = trcB C st rows k ++ (trcL C k (stateM C st rows k) (rows[k]?.getD []) ++ 10 :: r) := by
 obtain ⟨m, rfl⟩ : ∃ m, n = k + 1 + m := ⟨n - (k + 1), by omega⟩
 clear h
 induction m with
 |zero => exact ⟨[], by rw [Nat.add_zero, trcB_succ]⟩
 |succ m ih =>
  obtain ⟨r, hr⟩ := ih
  refine ⟨r ++ (trcL C (k + 1 + m) (stateM C st rows (k + 1 + m)) (rows[k + 1 + m]?.getD []) ++ [10]), ?_⟩
  rw [← Nat.add_assoc, trcB_succ, hr]
  simp

end Go.Proofs.YtghlklcolepfmaaGreatDoor

/-
  A number read from a place of a text is the number read from the rest of it. No program in sight.
-/
namespace Go.Proofs.YtghlklcolepfmaaGreatDoor
open Go.RowKit

end Go.Proofs.YtghlklcolepfmaaGreatDoor

/-
  Circuits in the short form: what is written, and what stands where. No program in sight.
-/
namespace Go.Proofs.YtghlklcolepfmaaGreatDoor
open Go.RowKit

def Here (s : ByteArray) (p : Nat) (l : List UInt8) : Prop := ∃ more, s.data.toList.drop p = l ++ more

section
variable {s : ByteArray} {p : Nat}
theorem Here.right {a b : List UInt8} (h : Here s p (a ++ b)) : Here s (p + a.length) b := by
 obtain ⟨m, h⟩ := h
 refine ⟨m, ?_⟩
 rw [← List.drop_drop, h, List.append_assoc, List.drop_left]
theorem Here.size {l : List UInt8} (h : Here s p l) (hl : l ≠ []) : p + l.length ≤ s.size := by
 obtain ⟨m, h⟩ := h
 have h1 : (s.data.toList.drop p).length = l.length + m.length := by rw [h, List.length_append]
 rw [List.length_drop] at h1
 have h2 : 0 < l.length := List.length_pos_iff.2 hl
 have h3 : s.data.toList.length = s.size := by simp
 omega
theorem Here.at {l : List UInt8} (h : Here s p l) {j : Nat} {b : UInt8} (hj : l[j]? = some b) : bt s (p + j) = b.toNat ∧ p + j < s.size := by
 obtain ⟨m, h⟩ := h
 have hj2 : (l ++ m)[j]? = some b := by rw [List.getElem?_append_left (List.getElem?_eq_some_iff.1 hj).1]; exact hj
 rw [← h, List.getElem?_drop] at hj2
 obtain ⟨h1, h2⟩ := List.getElem?_eq_some_iff.1 hj2
 have h3 : s.data.toList.length = s.size := by simp
 rw [h3] at h1
 obtain ⟨c, hc, hc2⟩ := byte_at (s := s) (i := p + j) h1
 rw [hj2] at hc
 exact ⟨by rw [← hc2, Option.some.inj hc], h1⟩
theorem Here.byte {c : UInt8} {r : List UInt8} (h : Here s p (c :: r)) : bt s p = c.toNat ∧ p < s.size := by
 have := h.at (j := 0) (b := c) rfl
 simpa using this

theorem Here.nat {u : Nat} {c : UInt8} {r : List UInt8} (h : Here s p (Lib.itoa (u : Int) ++ c :: r)) (hc : ¬ (48 ≤ c.toNat ∧ c.toNat ≤ 57)) (hu : u < 1000000000) : natN s p = (u, p + (Lib.itoa (u : Int)).length, 0) := by
 have h0 := h
 rw [itoa_nat] at h ⊢
 have hs := h.size (by simp)
 rw [List.length_append, List.length_cons] at hs
 refine natN_dec hu (by omega) ?_ (.inr ?_)
 ·obtain ⟨m, h⟩ := h
  rw [h, List.append_assoc, List.take_left]
 ·have := (h.right).byte
  unfold isDig
  rw [this.1]
  exact hc

end

theorem g3_some {L : List (Int × Int × Int)} {k : Nat} (h : k < L.length) : L[k]? = some (g3 L k) := by unfold g3; rw [List.getElem?_eq_getElem h]; rfl
structure NormC (C : Circ) : Prop where
  good : GoodC C
  max : C.max = (C.owned.length : Int)
  own : ∀ i, i < C.owned.length → gi C.owned i = 2 * (i : Int) + 2
  gate : ∀ g, g ∈ C.gates → g.2.2 ≤ g.2.1 ∧ g.2.1 < g.1

section
variable {C : Circ} (h : NormC C)
include h
theorem NormC.i {k : Nat} (hk : k < C.ins.length) : gi C.ins k = 2 * (k : Int) + 2 := by
 have h1 := h.own k (by unfold Circ.owned; simp only [List.length_append]; omega)
 unfold Circ.owned gi at h1
 rw [List.append_assoc, List.getElem?_append_left hk] at h1
 exact h1
theorem NormC.l {k : Nat} (hk : k < C.lats.length) : (g3 C.lats k).1 = 2 * ((C.ins.length + k : Nat) : Int) + 2 := by
 have h1 := h.own (C.ins.length + k) (by unfold Circ.owned; simp only [List.length_append, List.length_map]; omega)
 unfold Circ.owned gi at h1
 rw [List.append_assoc, List.getElem?_append_right (by omega), Nat.add_sub_cancel_left, List.getElem?_append_left (by simpa using hk), List.getElem?_map, g3_some hk] at h1
 exact h1
theorem NormC.g {k : Nat} (hk : k < C.gates.length) : (g3 C.gates k).1 = 2 * ((C.ins.length + C.lats.length + k : Nat) : Int) + 2 := by
 have h1 := h.own (C.ins.length + C.lats.length + k) (by unfold Circ.owned; simp only [List.length_append, List.length_map]; omega)
 unfold Circ.owned gi at h1
 rw [List.getElem?_append_right (by simp)] at h1
 simp only [List.length_append, List.length_map, Nat.add_sub_cancel_left, List.getElem?_map, g3_some hk] at h1
 exact h1
end

end Go.Proofs.YtghlklcolepfmaaGreatDoor

/-
  binary's reader of a text: step, digits, sign, delta, ended. (Printed by mkbintext.py.)
-/
namespace Go.Proofs.YtghlklcolepfmaaGreatDoor
open Go.RowKit Go.Shelf

end Go.Proofs.YtghlklcolepfmaaGreatDoor

/-
  latchetref47.Line. (Printed by mkrefline.py.)
-/
namespace Go.Proofs.YtghlklcolepfmaaGreatDoor
open Go.RowKit

theorem out_used {C : Circ} {l : Int} (h : l ∈ C.outs) : l ∈ C.used := by unfold Circ.used; simp only [List.mem_append]; simp [h]
theorem bads_used {C : Circ} {l : Int} (h : l ∈ C.bads) : l ∈ C.used := by unfold Circ.used; simp only [List.mem_append]; simp [h]
theorem cons_used {C : Circ} {l : Int} (h : l ∈ C.cons) : l ∈ C.used := by unfold Circ.used; simp only [List.mem_append]; simp [h]

theorem ba_list (l : List UInt8) : (⟨l.toArray⟩ : ByteArray).size = l.length := by show l.toArray.size = _; simp

theorem trcL_pieces (C : Circ) (k : Nat) (st ip : List Bool) :
  ((((((((((⟨(Lib.itoa (k : Int)).toArray⟩ : ByteArray) ++ ⟨#[32, 115, 61]⟩) ++ ⟨(signs st).toArray⟩) ++ ⟨#[32, 105, 61]⟩) ++ ⟨(signs (brought ip C.ins.length)).toArray⟩) ++ ⟨#[32, 111, 61]⟩) ++ ⟨(signs (C.outs.map (litM C st ip))).toArray⟩) ++ ⟨#[32, 98, 61]⟩) ++ ⟨(signs (C.bads.map (litM C st ip))).toArray⟩) ++ ⟨#[32, 99, 61]⟩) ++ ⟨(signs (C.cons.map (litM C st ip))).toArray⟩ = ⟨(trcL C k st ip).toArray⟩ := by
 rw [show (⟨#[32, 115, 61]⟩ : ByteArray) = ⟨([32, 115, 61] : List UInt8).toArray⟩ from rfl, show (⟨#[32, 105, 61]⟩ : ByteArray) = ⟨([32, 105, 61] : List UInt8).toArray⟩ from rfl, show (⟨#[32, 111, 61]⟩ : ByteArray) = ⟨([32, 111, 61] : List UInt8).toArray⟩ from rfl, show (⟨#[32, 98, 61]⟩ : ByteArray) = ⟨([32, 98, 61] : List UInt8).toArray⟩ from rfl, show (⟨#[32, 99, 61]⟩ : ByteArray) = ⟨([32, 99, 61] : List UInt8).toArray⟩ from rfl]
 rw [cat_bytes, cat_bytes, cat_bytes, cat_bytes, cat_bytes, cat_bytes, cat_bytes, cat_bytes, cat_bytes, cat_bytes]
 unfold trcL trcW
 simp [jn]

set_option maxRecDepth 100000 in
set_option maxHeartbeats 8000000 in
theorem ref47_Line (V : CV) (C : Circ) (p : Nat) (a4 a5 : Option Addr) (c4 c5 : Nat) (k : Nat) (sa : Option Addr) (sn sc : Nat) (ia : Option Addr) (in_ ic : Nat) (st ip : List Bool) (w : World) (hM : MAt w 101 V C p a4 c4 a5 c5) (hf : CFew C 1000) (hg : GoodC C) (hs : BS w sa sn st) (hs1 : sn ≤ 1000) (hi : BS w ia in_ ip) (hk : k ≤ 100000) :
  Calls Tryz.prog 26 #[.pointer (some ⟨p, 0, none⟩), .int .i64 k, .slice sa sn sc, .slice ia in_ ic] w fun e w' => e = .returned (.string ⟨(trcL C k st ip).toArray⟩) ∧ Kp (fun _ => False) w w' := by
 have HPc := Lib.hid (trcL_pieces C k st ip)
 have hf1 : CFew C 1000000 := ⟨Nat.le_trans hf.i (by decide), Nat.le_trans hf.l (by decide), Nat.le_trans hf.o (by decide), Nat.le_trans hf.b (by decide), Nat.le_trans hf.c (by decide), Nat.le_trans hf.g (by decide)⟩
 obtain ⟨D, hD⟩ : ∃ D : ByteArray, (⟨(trcL C k st ip).toArray⟩ : ByteArray) = D := ⟨_, rfl⟩
 rw [hD] at HPc ⊢
 have HDc0 := Lib.hid (fun u => ref_Dec (k : Int) u (by omega) (by omega))
 have hl0 := itoaLen (n := (k : Int)) (by omega) (by omega)
 rw [← ba_list] at hl0
 obtain ⟨S0, hS0⟩ : ∃ S : ByteArray, (⟨(Lib.itoa (k : Int)).toArray⟩ : ByteArray) = S := ⟨_, rfl⟩
 have hl1 : (⟨(signs st).toArray⟩ : ByteArray).size ≤ 1000 := by rw [ba_list, signs_length, hs.len]; exact hs1
 have HT10 := Lib.hid (fun u (hu : Kp (fun _ => False) w u) => ref_Text sa st sc u (hs.kp hu).row (by rw [hs.len]; omega))
 obtain ⟨S1, hS1⟩ : ∃ S : ByteArray, (⟨(signs st).toArray⟩ : ByteArray) = S := ⟨_, rfl⟩
 have hl2 : (⟨(signs (brought ip C.ins.length)).toArray⟩ : ByteArray).size ≤ 1000 := by rw [ba_list, signs_length, brought_len]; exact hf.i
 obtain ⟨S2, hS2⟩ : ∃ S : ByteArray, (⟨(signs (brought ip C.ins.length)).toArray⟩ : ByteArray) = S := ⟨_, rfl⟩
 have hl3 : (⟨(signs (C.outs.map (litM C st ip))).toArray⟩ : ByteArray).size ≤ 1000 := by rw [ba_list, signs_length, List.length_map]; exact hf.o
 obtain ⟨S3, hS3⟩ : ∃ S : ByteArray, (⟨(signs (C.outs.map (litM C st ip))).toArray⟩ : ByteArray) = S := ⟨_, rfl⟩
 have hl4 : (⟨(signs (C.bads.map (litM C st ip))).toArray⟩ : ByteArray).size ≤ 1000 := by rw [ba_list, signs_length, List.length_map]; exact hf.b
 obtain ⟨S4, hS4⟩ : ∃ S : ByteArray, (⟨(signs (C.bads.map (litM C st ip))).toArray⟩ : ByteArray) = S := ⟨_, rfl⟩
 have hl5 : (⟨(signs (C.cons.map (litM C st ip))).toArray⟩ : ByteArray).size ≤ 1000 := by rw [ba_list, signs_length, List.length_map]; exact hf.c
 obtain ⟨S5, hS5⟩ : ∃ S : ByteArray, (⟨(signs (C.cons.map (litM C st ip))).toArray⟩ : ByteArray) = S := ⟨_, rfl⟩
 rw [hS0] at HDc0 hl0
 rw [hS1, hs.len] at HT10
 rw [hS1] at hl1
 rw [hS2] at hl2
 rw [hS3] at hl3
 rw [hS4] at hl4
 rw [hS5] at hl5
 rw [hS0, hS1, hS2, hS3, hS4, hS5] at HPc
 have HS2 := Lib.hid hS2
 have HS3 := Lib.hid hS3
 have HS4 := Lib.hid hS4
 have HS5 := Lib.hid hS5
 have HM := Lib.hid hM
 have HF := Lib.hid hf
 have HF1 := Lib.hid hf1
 have HG := Lib.hid hg
 have HS := Lib.hid hs
 obtain ⟨ni, hni⟩ : ∃ n, C.ins.length = n := ⟨_, rfl⟩
 obtain ⟨no, hno⟩ : ∃ n, C.outs.length = n := ⟨_, rfl⟩
 obtain ⟨nb, hnb⟩ : ∃ n, C.bads.length = n := ⟨_, rfl⟩
 obtain ⟨nc, hnc⟩ : ∃ n, C.cons.length = n := ⟨_, rfl⟩
 have HNi := Lib.hid hni
 have HNo := Lib.hid hno
 have HNb := Lib.hid hnb
 have HNc := Lib.hid hnc
 have hni1 : ni ≤ 1000 := by rw [← hni]; exact hf.i
 have HBr := Lib.hid (ref17_Brought ia in_ ic ip ni w hi.row hi.len hi.most (by omega))
 have HC1 := Lib.hid (show w.cell? ⟨p, 1, none⟩ = some (.slice V.ai ni V.ci) from hM.blk.cell (i := 1) (by rw [← hni]; rfl))
 have HC3 := Lib.hid (fun u (hu : Kp (fun _ => False) w u) => show u.cell? ⟨p, 3, none⟩ = some (.slice V.ao no V.co) from (hM.blk.kp hu (fun h => h)).cell (i := 3) (by rw [← hno]; rfl))
 have HC4 := Lib.hid (fun u (hu : Kp (fun _ => False) w u) => show u.cell? ⟨p, 4, none⟩ = some (.slice V.ab nb V.cb) from (hM.blk.kp hu (fun h => h)).cell (i := 4) (by rw [← hnb]; rfl))
 have HC5 := Lib.hid (fun u (hu : Kp (fun _ => False) w u) => show u.cell? ⟨p, 5, none⟩ = some (.slice V.ac nc V.cc) from (hM.blk.kp hu (fun h => h)).cell (i := 5) (by rw [← hnc]; rfl))
 have c1 := HC1.out
 have zA0 : S0.size ≤ 21 := hl0
 obtain ⟨A1, hA1⟩ : ∃ A : ByteArray, S0 ++ ⟨#[32, 115, 61]⟩ = A := ⟨_, rfl⟩
 have zA1 : A1.size ≤ 24 := by rw [← hA1, ByteArray.size_append]; have := (by decide : (⟨#[32, 115, 61]⟩ : ByteArray).size ≤ 3); omega
 have HA1 := Lib.hid (fun (u : World) => show (Op.stringOp .add S0 ⟨#[32, 115, 61]⟩).run Tryz.prog u = .ok (.string A1) u by
  rw [← hA1]
  exact run_string_add_sum _ _ _ (by have := (by decide : (⟨#[32, 115, 61]⟩ : ByteArray).size ≤ 3); omega))
 rw [hA1] at HPc
 obtain ⟨A2, hA2⟩ : ∃ A : ByteArray, A1 ++ S1 = A := ⟨_, rfl⟩
 have zA2 : A2.size ≤ 1024 := by rw [← hA2, ByteArray.size_append]; have := hl1; omega
 have HA2 := Lib.hid (fun (u : World) => show (Op.stringOp .add A1 S1).run Tryz.prog u = .ok (.string A2) u by
  rw [← hA2]
  exact run_string_add_sum _ _ _ (by have := hl1; omega))
 rw [hA2] at HPc
 obtain ⟨A3, hA3⟩ : ∃ A : ByteArray, A2 ++ ⟨#[32, 105, 61]⟩ = A := ⟨_, rfl⟩
 have zA3 : A3.size ≤ 1027 := by rw [← hA3, ByteArray.size_append]; have := (by decide : (⟨#[32, 105, 61]⟩ : ByteArray).size ≤ 3); omega
 have HA3 := Lib.hid (fun (u : World) => show (Op.stringOp .add A2 ⟨#[32, 105, 61]⟩).run Tryz.prog u = .ok (.string A3) u by
  rw [← hA3]
  exact run_string_add_sum _ _ _ (by have := (by decide : (⟨#[32, 105, 61]⟩ : ByteArray).size ≤ 3); omega))
 rw [hA3] at HPc
 obtain ⟨A4, hA4⟩ : ∃ A : ByteArray, A3 ++ S2 = A := ⟨_, rfl⟩
 have zA4 : A4.size ≤ 2027 := by rw [← hA4, ByteArray.size_append]; have := hl2; omega
 have HA4 := Lib.hid (fun (u : World) => show (Op.stringOp .add A3 S2).run Tryz.prog u = .ok (.string A4) u by
  rw [← hA4]
  exact run_string_add_sum _ _ _ (by have := hl2; omega))
 rw [hA4] at HPc
 obtain ⟨A5, hA5⟩ : ∃ A : ByteArray, A4 ++ ⟨#[32, 111, 61]⟩ = A := ⟨_, rfl⟩
 have zA5 : A5.size ≤ 2030 := by rw [← hA5, ByteArray.size_append]; have := (by decide : (⟨#[32, 111, 61]⟩ : ByteArray).size ≤ 3); omega
 have HA5 := Lib.hid (fun (u : World) => show (Op.stringOp .add A4 ⟨#[32, 111, 61]⟩).run Tryz.prog u = .ok (.string A5) u by
  rw [← hA5]
  exact run_string_add_sum _ _ _ (by have := (by decide : (⟨#[32, 111, 61]⟩ : ByteArray).size ≤ 3); omega))
 rw [hA5] at HPc
 obtain ⟨A6, hA6⟩ : ∃ A : ByteArray, A5 ++ S3 = A := ⟨_, rfl⟩
 have zA6 : A6.size ≤ 3030 := by rw [← hA6, ByteArray.size_append]; have := hl3; omega
 have HA6 := Lib.hid (fun (u : World) => show (Op.stringOp .add A5 S3).run Tryz.prog u = .ok (.string A6) u by
  rw [← hA6]
  exact run_string_add_sum _ _ _ (by have := hl3; omega))
 rw [hA6] at HPc
 obtain ⟨A7, hA7⟩ : ∃ A : ByteArray, A6 ++ ⟨#[32, 98, 61]⟩ = A := ⟨_, rfl⟩
 have zA7 : A7.size ≤ 3033 := by rw [← hA7, ByteArray.size_append]; have := (by decide : (⟨#[32, 98, 61]⟩ : ByteArray).size ≤ 3); omega
 have HA7 := Lib.hid (fun (u : World) => show (Op.stringOp .add A6 ⟨#[32, 98, 61]⟩).run Tryz.prog u = .ok (.string A7) u by
  rw [← hA7]
  exact run_string_add_sum _ _ _ (by have := (by decide : (⟨#[32, 98, 61]⟩ : ByteArray).size ≤ 3); omega))
 rw [hA7] at HPc
 obtain ⟨A8, hA8⟩ : ∃ A : ByteArray, A7 ++ S4 = A := ⟨_, rfl⟩
 have zA8 : A8.size ≤ 4033 := by rw [← hA8, ByteArray.size_append]; have := hl4; omega
 have HA8 := Lib.hid (fun (u : World) => show (Op.stringOp .add A7 S4).run Tryz.prog u = .ok (.string A8) u by
  rw [← hA8]
  exact run_string_add_sum _ _ _ (by have := hl4; omega))
 rw [hA8] at HPc
 obtain ⟨A9, hA9⟩ : ∃ A : ByteArray, A8 ++ ⟨#[32, 99, 61]⟩ = A := ⟨_, rfl⟩
 have zA9 : A9.size ≤ 4036 := by rw [← hA9, ByteArray.size_append]; have := (by decide : (⟨#[32, 99, 61]⟩ : ByteArray).size ≤ 3); omega
 have HA9 := Lib.hid (fun (u : World) => show (Op.stringOp .add A8 ⟨#[32, 99, 61]⟩).run Tryz.prog u = .ok (.string A9) u by
  rw [← hA9]
  exact run_string_add_sum _ _ _ (by have := (by decide : (⟨#[32, 99, 61]⟩ : ByteArray).size ≤ 3); omega))
 rw [hA9] at HPc
 obtain ⟨A10, hA10⟩ : ∃ A : ByteArray, A9 ++ S5 = A := ⟨_, rfl⟩
 have zA10 : A10.size ≤ 5036 := by rw [← hA10, ByteArray.size_append]; have := hl5; omega
 have HA10 := Lib.hid (fun (u : World) => show (Op.stringOp .add A9 S5).run Tryz.prog u = .ok (.string A10) u by
  rw [← hA10]
  exact run_string_add_sum _ _ _ (by have := hl5; omega))
 rw [hA10] at HPc
 clear zA0 zA1 zA2 zA3 zA4 zA5 zA6 zA7 zA8 zA9 zA10 hA1 hA2 hA3 hA4 hA5 hA6 hA7 hA8 hA9 hA10
 clear hM hf hf1 hg hs hi hni hno hnb hnc hD hS0 hS1 hS2 hS3 hS4 hS5
 go_enter Tryz.func26, Tryz.ntmps26
 go_upto_region 2 with (go_at_call 59; with_reducible refine Calls.mono HBr.out ?_; rintro e w1 ⟨v, rfl, hO, hK1⟩; have HO := Lib.hid hO; have HK1 := Lib.hid hK1; clear hO hK1; obtain ⟨bA, bC, ev, -, -, -, hr⟩ := HO.out.form; rw [bv_length, brought_len] at ev; subst ev; have HR := Lib.hid hr; clear hr)
 have hB : BS w1 bA ni (brought ip ni) := ⟨HR.out, brought_len _ _, by omega⟩
 have hM1 := HM.out.kp HK1.out
 have hs2 := HS.out.kp HK1.out
 have HDc := Lib.hid (fun u (hu : Kp (fun _ => False) w1 u) => HDc0.out u)
 have HT1 := Lib.hid (fun u (hu : Kp (fun _ => False) w1 u) => show Calls Tryz.prog 61 #[.slice sa sn sc] u fun e w' => e = .returned (.string S1) ∧ Kp (fun _ => False) u w' from by
  refine (HT10.out u (HK1.out.trans hu (fun _ _ h => h))).mono ?_
  rintro e w' ⟨rfl, rfl⟩
  exact ⟨rfl, Kp.refl _ _⟩)
 have HT2 := Lib.hid (fun u (hu : Kp (fun _ => False) w1 u) => show Calls Tryz.prog 61 #[.slice bA ni bC] u fun e w' => e = .returned (.string S2) ∧ Kp (fun _ => False) u w' from by
  have h := ref_Text bA (brought ip ni) bC u (hB.kp hu).row (by rw [brought_len]; omega)
  rw [brought_len] at h
  refine h.mono ?_
  rintro e w' ⟨rfl, rfl⟩
  exact ⟨by rw [← HS2.out, HNi.out], Kp.refl _ _⟩)
 have hbr : ∀ L : List Int, L.map (litM C st (brought ip ni)) = L.map (litM C st ip) := fun L => by rw [← HNi.out, litM_brought]
 have HG3 := Lib.hid (fun u (hu : Kp (fun _ => False) w1 u) => show Calls Tryz.prog 62 #[.pointer (some ⟨p, 0, none⟩), .slice sa sn sc, .slice bA ni bC, .slice V.ao no V.co] u fun e w' => e = .returned (.string S3) ∧ Kp (fun _ => False) u w' from by
  have h := ref47_signs V C p a4 a5 c4 c5 sa sn sc bA ni bC V.ao no V.co C.outs st (brought ip ni) u (hM1.kp hu) HF1.out HG.out (hs2.kp hu) (hB.kp hu) (hM1.kp hu).circ.o HNo.out (by have := HF.out.o; have := HNo.out; omega) (fun l h => out_used h)
  rw [hbr, HS3.out] at h
  exact h)
 have HG4 := Lib.hid (fun u (hu : Kp (fun _ => False) w1 u) => show Calls Tryz.prog 62 #[.pointer (some ⟨p, 0, none⟩), .slice sa sn sc, .slice bA ni bC, .slice V.ab nb V.cb] u fun e w' => e = .returned (.string S4) ∧ Kp (fun _ => False) u w' from by
  have h := ref47_signs V C p a4 a5 c4 c5 sa sn sc bA ni bC V.ab nb V.cb C.bads st (brought ip ni) u (hM1.kp hu) HF1.out HG.out (hs2.kp hu) (hB.kp hu) (hM1.kp hu).circ.b HNb.out (by have := HF.out.b; have := HNb.out; omega) (fun l h => bads_used h)
  rw [hbr, HS4.out] at h
  exact h)
 have HG5 := Lib.hid (fun u (hu : Kp (fun _ => False) w1 u) => show Calls Tryz.prog 62 #[.pointer (some ⟨p, 0, none⟩), .slice sa sn sc, .slice bA ni bC, .slice V.ac nc V.cc] u fun e w' => e = .returned (.string S5) ∧ Kp (fun _ => False) u w' from by
  have h := ref47_signs V C p a4 a5 c4 c5 sa sn sc bA ni bC V.ac nc V.cc C.cons st (brought ip ni) u (hM1.kp hu) HF1.out HG.out (hs2.kp hu) (hB.kp hu) (hM1.kp hu).circ.c HNc.out (by have := HF.out.c; have := HNc.out; omega) (fun l h => cons_used h)
  rw [hbr, HS5.out] at h
  exact h)
 have HC3' := Lib.hid (fun u (hu : Kp (fun _ => False) w1 u) => HC3.out u (HK1.out.trans hu (fun _ _ h => h)))
 have HC4' := Lib.hid (fun u (hu : Kp (fun _ => False) w1 u) => HC4.out u (HK1.out.trans hu (fun _ _ h => h)))
 have HC5' := Lib.hid (fun u (hu : Kp (fun _ => False) w1 u) => HC5.out u (HK1.out.trans hu (fun _ _ h => h)))
 clear HC3 HC4 HC5 hB hM1 hs2 hbr c1
 have HC3 := HC3'
 have HC4 := HC4'
 have HC5 := HC5'
 clear HC3' HC4' HC5'
 refine wp_region_loose (p := upTo 43) (V := atV [EqV ((.int .i64 (k : Int))), EqV (.string S0), EqV (.string A1), EqV ((.slice sa sn sc)), EqV (.string S1), EqV (.string A2), EqV (.string A3), EqV ((.slice bA ni bC)), EqV (.string S2), EqV (.string A4), EqV (.string A5), EqV ((.pointer (some ⟨p, 0, none⟩))), EqV ((.slice sa sn sc)), EqV ((.slice bA ni bC)), EqV ((.pointer (some ⟨p, 0, none⟩))), EqV (.pointer (some ⟨p, 0, none⟩)), EqV (.pointer (some ⟨p, 0, none⟩)), EqV (.pointer (some ⟨p, 3, none⟩)), EqV (.slice V.ao no V.co), EqV (.string S3), EqV (.string A6), EqV (.string A7), EqV ((.pointer (some ⟨p, 0, none⟩))), EqV ((.slice sa sn sc)), EqV ((.slice bA ni bC)), EqV ((.pointer (some ⟨p, 0, none⟩))), EqV (.pointer (some ⟨p, 0, none⟩)), EqV (.pointer (some ⟨p, 0, none⟩)), EqV (.pointer (some ⟨p, 4, none⟩)), EqV (.slice V.ab nb V.cb), EqV (.string S4), EqV (.string A8), EqV (.string A9), EqV ((.pointer (some ⟨p, 0, none⟩))), EqV ((.slice sa sn sc)), EqV ((.slice bA ni bC)), EqV ((.pointer (some ⟨p, 0, none⟩))), EqV (.pointer (some ⟨p, 0, none⟩)), EqV (.pointer (some ⟨p, 0, none⟩)), EqV (.pointer (some ⟨p, 5, none⟩)), EqV (.slice V.ac nc V.cc), EqV (.string S5), EqV (.string A10)]) (LP := #[true, true, true, true, true, true, true, true, true, true, true, true, true, true, true, true, true, true, true, true, true, true, true, true, true, true, true, true, true, true, true, true, true, true, true, true, true, true, true, true, true, true, true, false]) (K := 1) (by kernel_rfl) (by kernel_rfl) (atV_st ?hstLL) ?hstepLL (by kernel_rfl) ?hLPLL (by kernel_rfl) ?hendLL
 case hstLL =>
  intro W h
  simp only [List.mem_cons, List.not_mem_nil, or_false] at h
  rcases h with rfl | rfl | rfl | rfl | rfl | rfl | rfl | rfl | rfl | rfl | rfl | rfl | rfl | rfl | rfl | rfl | rfl | rfl | rfl | rfl | rfl | rfl | rfl | rfl | rfl | rfl | rfl | rfl | rfl | rfl | rfl | rfl | rfl | rfl | rfl | rfl | rfl | rfl | rfl | rfl | rfl | rfl | rfl <;> first | exact EqV.st _ | exact EqV.st _
 case hLPLL => exact upTo_spec (by kernel_rfl)
 case hstepLL =>
  intro i o ho hp a u hk hoff hdep
  have e0 : a.tmps[0]?.getD undef = (.pointer (some ⟨p, 0, none⟩)) := slot_at (hoff 0 (noDst_spec (by kernel_rfl)))
  have e1 : a.tmps[1]?.getD undef = (.int .i64 (k : Int)) := slot_at (hoff 1 (noDst_spec (by kernel_rfl)))
  have e2 : a.tmps[2]?.getD undef = (.slice sa sn sc) := slot_at (hoff 2 (noDst_spec (by kernel_rfl)))
  have e3 : a.tmps[3]?.getD undef = (.slice bA ni bC) := slot_at (hoff 3 (noDst_spec (by kernel_rfl)))
  clear hoff
  match i, ho with
  |0, ho =>
   obtain rfl := Option.some.inj ho
   refine lw_value (v := (.int .i64 (k : Int))) (u' := u) ?_ (Kp.refl _ _) rfl
   go_simp
  |1, ho =>
   obtain rfl := Option.some.inj ho
   have e17 : a.tmps[17]?.getD undef = (.int .i64 (k : Int)) := slot_at (hdep ⟨0, .data⟩ (by simp) rfl _ 17 rfl rfl)
   refine lw_call (f := 35) (args := #[.int .i64 (k : Int)]) ?_ ?_
   ·go_simp
   ·exact (HDc.out u (hk)).mono (by
     rintro e u' ⟨rfl, hK⟩
     exact ⟨_, rfl, hK, rfl⟩)
  |2, ho =>
   obtain rfl := Option.some.inj ho
   have e18 : a.tmps[18]?.getD undef = .string S0 := slot_at (hdep ⟨1, .data⟩ (by simp) rfl _ 18 rfl rfl)
   have h1 := HA1.out u
   refine lw_value (v := .string A1) (u' := u) ?_ (Kp.refl _ _) rfl
   go_simp
  |3, ho =>
   obtain rfl := Option.some.inj ho
   refine lw_value (v := (.slice sa sn sc)) (u' := u) ?_ (Kp.refl _ _) rfl
   go_simp
  |4, ho =>
   obtain rfl := Option.some.inj ho
   have e20 : a.tmps[20]?.getD undef = (.slice sa sn sc) := slot_at (hdep ⟨3, .data⟩ (by simp) rfl _ 20 rfl rfl)
   refine lw_call (f := 61) (args := #[.slice sa sn sc]) ?_ ?_
   ·go_simp
   ·exact (HT1.out u (hk)).mono (by
     rintro e u' ⟨rfl, hK⟩
     exact ⟨_, rfl, hK, rfl⟩)
  |5, ho =>
   obtain rfl := Option.some.inj ho
   have e19 : a.tmps[19]?.getD undef = .string A1 := slot_at (hdep ⟨2, .data⟩ (by simp) rfl _ 19 rfl rfl)
   have e21 : a.tmps[21]?.getD undef = .string S1 := slot_at (hdep ⟨4, .data⟩ (by simp) rfl _ 21 rfl rfl)
   have h1 := HA2.out u
   refine lw_value (v := .string A2) (u' := u) ?_ (Kp.refl _ _) rfl
   go_simp
  |6, ho =>
   obtain rfl := Option.some.inj ho
   have e22 : a.tmps[22]?.getD undef = .string A2 := slot_at (hdep ⟨5, .data⟩ (by simp) rfl _ 22 rfl rfl)
   have h1 := HA3.out u
   refine lw_value (v := .string A3) (u' := u) ?_ (Kp.refl _ _) rfl
   go_simp
  |7, ho =>
   obtain rfl := Option.some.inj ho
   refine lw_value (v := (.slice bA ni bC)) (u' := u) ?_ (Kp.refl _ _) rfl
   go_simp
  |8, ho =>
   obtain rfl := Option.some.inj ho
   have e24 : a.tmps[24]?.getD undef = (.slice bA ni bC) := slot_at (hdep ⟨7, .data⟩ (by simp) rfl _ 24 rfl rfl)
   refine lw_call (f := 61) (args := #[.slice bA ni bC]) ?_ ?_
   ·go_simp
   ·exact (HT2.out u (hk)).mono (by
     rintro e u' ⟨rfl, hK⟩
     exact ⟨_, rfl, hK, rfl⟩)
  |9, ho =>
   obtain rfl := Option.some.inj ho
   have e23 : a.tmps[23]?.getD undef = .string A3 := slot_at (hdep ⟨6, .data⟩ (by simp) rfl _ 23 rfl rfl)
   have e25 : a.tmps[25]?.getD undef = .string S2 := slot_at (hdep ⟨8, .data⟩ (by simp) rfl _ 25 rfl rfl)
   have h1 := HA4.out u
   refine lw_value (v := .string A4) (u' := u) ?_ (Kp.refl _ _) rfl
   go_simp
  |10, ho =>
   obtain rfl := Option.some.inj ho
   have e26 : a.tmps[26]?.getD undef = .string A4 := slot_at (hdep ⟨9, .data⟩ (by simp) rfl _ 26 rfl rfl)
   have h1 := HA5.out u
   refine lw_value (v := .string A5) (u' := u) ?_ (Kp.refl _ _) rfl
   go_simp
  |11, ho =>
   obtain rfl := Option.some.inj ho
   refine lw_value (v := (.pointer (some ⟨p, 0, none⟩))) (u' := u) ?_ (Kp.refl _ _) rfl
   go_simp
  |12, ho =>
   obtain rfl := Option.some.inj ho
   refine lw_value (v := (.slice sa sn sc)) (u' := u) ?_ (Kp.refl _ _) rfl
   go_simp
  |13, ho =>
   obtain rfl := Option.some.inj ho
   refine lw_value (v := (.slice bA ni bC)) (u' := u) ?_ (Kp.refl _ _) rfl
   go_simp
  |14, ho =>
   obtain rfl := Option.some.inj ho
   refine lw_value (v := (.pointer (some ⟨p, 0, none⟩))) (u' := u) ?_ (Kp.refl _ _) rfl
   go_simp
  |15, ho =>
   obtain rfl := Option.some.inj ho
   have e31 : a.tmps[31]?.getD undef = (.pointer (some ⟨p, 0, none⟩)) := slot_at (hdep ⟨14, .data⟩ (by simp) rfl _ 31 rfl rfl)
   refine lw_value (v := .pointer (some ⟨p, 0, none⟩)) (u' := u) ?_ (Kp.refl _ _) rfl
   go_simp
  |16, ho =>
   obtain rfl := Option.some.inj ho
   have e32 : a.tmps[32]?.getD undef = .pointer (some ⟨p, 0, none⟩) := slot_at (hdep ⟨15, .data⟩ (by simp) rfl _ 32 rfl rfl)
   refine lw_value (v := .pointer (some ⟨p, 0, none⟩)) (u' := u) ?_ (Kp.refl _ _) rfl
   go_simp
  |17, ho =>
   obtain rfl := Option.some.inj ho
   have e33 : a.tmps[33]?.getD undef = .pointer (some ⟨p, 0, none⟩) := slot_at (hdep ⟨16, .data⟩ (by simp) rfl _ 33 rfl rfl)
   refine lw_value (v := .pointer (some ⟨p, 3, none⟩)) (u' := u) ?_ (Kp.refl _ _) rfl
   go_simp
  |18, ho =>
   obtain rfl := Option.some.inj ho
   have e34 : a.tmps[34]?.getD undef = .pointer (some ⟨p, 3, none⟩) := slot_at (hdep ⟨17, .data⟩ (by simp) rfl _ 34 rfl rfl)
   have c1 := HC3.out u hk
   refine lw_value (v := .slice V.ao no V.co) (u' := u) ?_ (Kp.refl _ _) rfl
   go_simp
  |19, ho =>
   obtain rfl := Option.some.inj ho
   have e28 : a.tmps[28]?.getD undef = (.pointer (some ⟨p, 0, none⟩)) := slot_at (hdep ⟨11, .data⟩ (by simp) rfl _ 28 rfl rfl)
   have e29 : a.tmps[29]?.getD undef = (.slice sa sn sc) := slot_at (hdep ⟨12, .data⟩ (by simp) rfl _ 29 rfl rfl)
   have e30 : a.tmps[30]?.getD undef = (.slice bA ni bC) := slot_at (hdep ⟨13, .data⟩ (by simp) rfl _ 30 rfl rfl)
   have e35 : a.tmps[35]?.getD undef = .slice V.ao no V.co := slot_at (hdep ⟨18, .data⟩ (by simp) rfl _ 35 rfl rfl)
   refine lw_call (f := 62) (args := #[.pointer (some ⟨p, 0, none⟩), .slice sa sn sc, .slice bA ni bC, .slice V.ao no V.co]) ?_ ?_
   ·go_simp
   ·exact (HG3.out u (hk)).mono (by
     rintro e u' ⟨rfl, hK⟩
     exact ⟨_, rfl, hK, rfl⟩)
  |20, ho =>
   obtain rfl := Option.some.inj ho
   have e27 : a.tmps[27]?.getD undef = .string A5 := slot_at (hdep ⟨10, .data⟩ (by simp) rfl _ 27 rfl rfl)
   have e36 : a.tmps[36]?.getD undef = .string S3 := slot_at (hdep ⟨19, .data⟩ (by simp) rfl _ 36 rfl rfl)
   have h1 := HA6.out u
   refine lw_value (v := .string A6) (u' := u) ?_ (Kp.refl _ _) rfl
   go_simp
  |21, ho =>
   obtain rfl := Option.some.inj ho
   have e37 : a.tmps[37]?.getD undef = .string A6 := slot_at (hdep ⟨20, .data⟩ (by simp) rfl _ 37 rfl rfl)
   have h1 := HA7.out u
   refine lw_value (v := .string A7) (u' := u) ?_ (Kp.refl _ _) rfl
   go_simp
  |22, ho =>
   obtain rfl := Option.some.inj ho
   refine lw_value (v := (.pointer (some ⟨p, 0, none⟩))) (u' := u) ?_ (Kp.refl _ _) rfl
   go_simp
  |23, ho =>
   obtain rfl := Option.some.inj ho
   refine lw_value (v := (.slice sa sn sc)) (u' := u) ?_ (Kp.refl _ _) rfl
   go_simp
  |24, ho =>
   obtain rfl := Option.some.inj ho
   refine lw_value (v := (.slice bA ni bC)) (u' := u) ?_ (Kp.refl _ _) rfl
   go_simp
  |25, ho =>
   obtain rfl := Option.some.inj ho
   refine lw_value (v := (.pointer (some ⟨p, 0, none⟩))) (u' := u) ?_ (Kp.refl _ _) rfl
   go_simp
  |26, ho =>
   obtain rfl := Option.some.inj ho
   have e42 : a.tmps[42]?.getD undef = (.pointer (some ⟨p, 0, none⟩)) := slot_at (hdep ⟨25, .data⟩ (by simp) rfl _ 42 rfl rfl)
   refine lw_value (v := .pointer (some ⟨p, 0, none⟩)) (u' := u) ?_ (Kp.refl _ _) rfl
   go_simp
  |27, ho =>
   obtain rfl := Option.some.inj ho
   have e43 : a.tmps[43]?.getD undef = .pointer (some ⟨p, 0, none⟩) := slot_at (hdep ⟨26, .data⟩ (by simp) rfl _ 43 rfl rfl)
   refine lw_value (v := .pointer (some ⟨p, 0, none⟩)) (u' := u) ?_ (Kp.refl _ _) rfl
   go_simp
  |28, ho =>
   obtain rfl := Option.some.inj ho
   have e44 : a.tmps[44]?.getD undef = .pointer (some ⟨p, 0, none⟩) := slot_at (hdep ⟨27, .data⟩ (by simp) rfl _ 44 rfl rfl)
   refine lw_value (v := .pointer (some ⟨p, 4, none⟩)) (u' := u) ?_ (Kp.refl _ _) rfl
   go_simp
  |29, ho =>
   obtain rfl := Option.some.inj ho
   have e45 : a.tmps[45]?.getD undef = .pointer (some ⟨p, 4, none⟩) := slot_at (hdep ⟨28, .data⟩ (by simp) rfl _ 45 rfl rfl)
   have c1 := HC4.out u hk
   refine lw_value (v := .slice V.ab nb V.cb) (u' := u) ?_ (Kp.refl _ _) rfl
   go_simp
  |30, ho =>
   obtain rfl := Option.some.inj ho
   have e39 : a.tmps[39]?.getD undef = (.pointer (some ⟨p, 0, none⟩)) := slot_at (hdep ⟨22, .data⟩ (by simp) rfl _ 39 rfl rfl)
   have e40 : a.tmps[40]?.getD undef = (.slice sa sn sc) := slot_at (hdep ⟨23, .data⟩ (by simp) rfl _ 40 rfl rfl)
   have e41 : a.tmps[41]?.getD undef = (.slice bA ni bC) := slot_at (hdep ⟨24, .data⟩ (by simp) rfl _ 41 rfl rfl)
   have e46 : a.tmps[46]?.getD undef = .slice V.ab nb V.cb := slot_at (hdep ⟨29, .data⟩ (by simp) rfl _ 46 rfl rfl)
   refine lw_call (f := 62) (args := #[.pointer (some ⟨p, 0, none⟩), .slice sa sn sc, .slice bA ni bC, .slice V.ab nb V.cb]) ?_ ?_
   ·go_simp
   ·exact (HG4.out u (hk)).mono (by
     rintro e u' ⟨rfl, hK⟩
     exact ⟨_, rfl, hK, rfl⟩)
  |31, ho =>
   obtain rfl := Option.some.inj ho
   have e38 : a.tmps[38]?.getD undef = .string A7 := slot_at (hdep ⟨21, .data⟩ (by simp) rfl _ 38 rfl rfl)
   have e47 : a.tmps[47]?.getD undef = .string S4 := slot_at (hdep ⟨30, .data⟩ (by simp) rfl _ 47 rfl rfl)
   have h1 := HA8.out u
   refine lw_value (v := .string A8) (u' := u) ?_ (Kp.refl _ _) rfl
   go_simp
  |32, ho =>
   obtain rfl := Option.some.inj ho
   have e48 : a.tmps[48]?.getD undef = .string A8 := slot_at (hdep ⟨31, .data⟩ (by simp) rfl _ 48 rfl rfl)
   have h1 := HA9.out u
   refine lw_value (v := .string A9) (u' := u) ?_ (Kp.refl _ _) rfl
   go_simp
  |33, ho =>
   obtain rfl := Option.some.inj ho
   refine lw_value (v := (.pointer (some ⟨p, 0, none⟩))) (u' := u) ?_ (Kp.refl _ _) rfl
   go_simp
  |34, ho =>
   obtain rfl := Option.some.inj ho
   refine lw_value (v := (.slice sa sn sc)) (u' := u) ?_ (Kp.refl _ _) rfl
   go_simp
  |35, ho =>
   obtain rfl := Option.some.inj ho
   refine lw_value (v := (.slice bA ni bC)) (u' := u) ?_ (Kp.refl _ _) rfl
   go_simp
  |36, ho =>
   obtain rfl := Option.some.inj ho
   refine lw_value (v := (.pointer (some ⟨p, 0, none⟩))) (u' := u) ?_ (Kp.refl _ _) rfl
   go_simp
  |37, ho =>
   obtain rfl := Option.some.inj ho
   have e53 : a.tmps[53]?.getD undef = (.pointer (some ⟨p, 0, none⟩)) := slot_at (hdep ⟨36, .data⟩ (by simp) rfl _ 53 rfl rfl)
   refine lw_value (v := .pointer (some ⟨p, 0, none⟩)) (u' := u) ?_ (Kp.refl _ _) rfl
   go_simp
  |38, ho =>
   obtain rfl := Option.some.inj ho
   have e54 : a.tmps[54]?.getD undef = .pointer (some ⟨p, 0, none⟩) := slot_at (hdep ⟨37, .data⟩ (by simp) rfl _ 54 rfl rfl)
   refine lw_value (v := .pointer (some ⟨p, 0, none⟩)) (u' := u) ?_ (Kp.refl _ _) rfl
   go_simp
  |39, ho =>
   obtain rfl := Option.some.inj ho
   have e55 : a.tmps[55]?.getD undef = .pointer (some ⟨p, 0, none⟩) := slot_at (hdep ⟨38, .data⟩ (by simp) rfl _ 55 rfl rfl)
   refine lw_value (v := .pointer (some ⟨p, 5, none⟩)) (u' := u) ?_ (Kp.refl _ _) rfl
   go_simp
  |40, ho =>
   obtain rfl := Option.some.inj ho
   have e56 : a.tmps[56]?.getD undef = .pointer (some ⟨p, 5, none⟩) := slot_at (hdep ⟨39, .data⟩ (by simp) rfl _ 56 rfl rfl)
   have c1 := HC5.out u hk
   refine lw_value (v := .slice V.ac nc V.cc) (u' := u) ?_ (Kp.refl _ _) rfl
   go_simp
  |41, ho =>
   obtain rfl := Option.some.inj ho
   have e50 : a.tmps[50]?.getD undef = (.pointer (some ⟨p, 0, none⟩)) := slot_at (hdep ⟨33, .data⟩ (by simp) rfl _ 50 rfl rfl)
   have e51 : a.tmps[51]?.getD undef = (.slice sa sn sc) := slot_at (hdep ⟨34, .data⟩ (by simp) rfl _ 51 rfl rfl)
   have e52 : a.tmps[52]?.getD undef = (.slice bA ni bC) := slot_at (hdep ⟨35, .data⟩ (by simp) rfl _ 52 rfl rfl)
   have e57 : a.tmps[57]?.getD undef = .slice V.ac nc V.cc := slot_at (hdep ⟨40, .data⟩ (by simp) rfl _ 57 rfl rfl)
   refine lw_call (f := 62) (args := #[.pointer (some ⟨p, 0, none⟩), .slice sa sn sc, .slice bA ni bC, .slice V.ac nc V.cc]) ?_ ?_
   ·go_simp
   ·exact (HG5.out u (hk)).mono (by
     rintro e u' ⟨rfl, hK⟩
     exact ⟨_, rfl, hK, rfl⟩)
  |42, ho =>
   obtain rfl := Option.some.inj ho
   have e49 : a.tmps[49]?.getD undef = .string A9 := slot_at (hdep ⟨32, .data⟩ (by simp) rfl _ 49 rfl rfl)
   have e58 : a.tmps[58]?.getD undef = .string S5 := slot_at (hdep ⟨41, .data⟩ (by simp) rfl _ 58 rfl rfl)
   have h1 := HA10.out u
   refine lw_value (v := .string A10) (u' := u) ?_ (Kp.refl _ _) rfl
   go_simp
  |n + 43, _ => exact absurd hp (by simp [upTo])
 case hendLL =>
  intro a u hI
  have hsz : a.tmps.size = 60 := hI.size
  have hdf : a.defers = [] := hI.defers
  have f0 : a.tmps.getD 0 undef = _ := hI.off 0 (noDst_spec (p := upTo 43) (by kernel_rfl))
  have f1 : a.tmps.getD 1 undef = _ := hI.off 1 (noDst_spec (p := upTo 43) (by kernel_rfl))
  have f2 : a.tmps.getD 2 undef = _ := hI.off 2 (noDst_spec (p := upTo 43) (by kernel_rfl))
  have f3 : a.tmps.getD 3 undef = _ := hI.off 3 (noDst_spec (p := upTo 43) (by kernel_rfl))
  have f4 : a.tmps.getD 4 undef = _ := hI.off 4 (noDst_spec (p := upTo 43) (by kernel_rfl))
  have f5 : a.tmps.getD 5 undef = _ := hI.off 5 (noDst_spec (p := upTo 43) (by kernel_rfl))
  have f6 : a.tmps.getD 6 undef = _ := hI.off 6 (noDst_spec (p := upTo 43) (by kernel_rfl))
  have f7 : a.tmps.getD 7 undef = _ := hI.off 7 (noDst_spec (p := upTo 43) (by kernel_rfl))
  have f8 : a.tmps.getD 8 undef = _ := hI.off 8 (noDst_spec (p := upTo 43) (by kernel_rfl))
  have f9 : a.tmps.getD 9 undef = _ := hI.off 9 (noDst_spec (p := upTo 43) (by kernel_rfl))
  have f10 : a.tmps.getD 10 undef = _ := hI.off 10 (noDst_spec (p := upTo 43) (by kernel_rfl))
  have f11 : a.tmps.getD 11 undef = _ := hI.off 11 (noDst_spec (p := upTo 43) (by kernel_rfl))
  have f12 : a.tmps.getD 12 undef = _ := hI.off 12 (noDst_spec (p := upTo 43) (by kernel_rfl))
  have f13 : a.tmps.getD 13 undef = _ := hI.off 13 (noDst_spec (p := upTo 43) (by kernel_rfl))
  have f14 : a.tmps.getD 14 undef = _ := hI.off 14 (noDst_spec (p := upTo 43) (by kernel_rfl))
  have f15 : a.tmps.getD 15 undef = _ := hI.off 15 (noDst_spec (p := upTo 43) (by kernel_rfl))
  have f16 : a.tmps.getD 16 undef = _ := hI.off 16 (noDst_spec (p := upTo 43) (by kernel_rfl))
  have f17 : a.tmps.getD 17 undef = (.int .i64 (k : Int)) := hI.val 0 _ 17 rfl rfl rfl
  have f18 : a.tmps.getD 18 undef = .string S0 := hI.val 1 _ 18 rfl rfl rfl
  have f19 : a.tmps.getD 19 undef = .string A1 := hI.val 2 _ 19 rfl rfl rfl
  have f20 : a.tmps.getD 20 undef = (.slice sa sn sc) := hI.val 3 _ 20 rfl rfl rfl
  have f21 : a.tmps.getD 21 undef = .string S1 := hI.val 4 _ 21 rfl rfl rfl
  have f22 : a.tmps.getD 22 undef = .string A2 := hI.val 5 _ 22 rfl rfl rfl
  have f23 : a.tmps.getD 23 undef = .string A3 := hI.val 6 _ 23 rfl rfl rfl
  have f24 : a.tmps.getD 24 undef = (.slice bA ni bC) := hI.val 7 _ 24 rfl rfl rfl
  have f25 : a.tmps.getD 25 undef = .string S2 := hI.val 8 _ 25 rfl rfl rfl
  have f26 : a.tmps.getD 26 undef = .string A4 := hI.val 9 _ 26 rfl rfl rfl
  have f27 : a.tmps.getD 27 undef = .string A5 := hI.val 10 _ 27 rfl rfl rfl
  have f28 : a.tmps.getD 28 undef = (.pointer (some ⟨p, 0, none⟩)) := hI.val 11 _ 28 rfl rfl rfl
  have f29 : a.tmps.getD 29 undef = (.slice sa sn sc) := hI.val 12 _ 29 rfl rfl rfl
  have f30 : a.tmps.getD 30 undef = (.slice bA ni bC) := hI.val 13 _ 30 rfl rfl rfl
  have f31 : a.tmps.getD 31 undef = (.pointer (some ⟨p, 0, none⟩)) := hI.val 14 _ 31 rfl rfl rfl
  have f32 : a.tmps.getD 32 undef = .pointer (some ⟨p, 0, none⟩) := hI.val 15 _ 32 rfl rfl rfl
  have f33 : a.tmps.getD 33 undef = .pointer (some ⟨p, 0, none⟩) := hI.val 16 _ 33 rfl rfl rfl
  have f34 : a.tmps.getD 34 undef = .pointer (some ⟨p, 3, none⟩) := hI.val 17 _ 34 rfl rfl rfl
  have f35 : a.tmps.getD 35 undef = .slice V.ao no V.co := hI.val 18 _ 35 rfl rfl rfl
  have f36 : a.tmps.getD 36 undef = .string S3 := hI.val 19 _ 36 rfl rfl rfl
  have f37 : a.tmps.getD 37 undef = .string A6 := hI.val 20 _ 37 rfl rfl rfl
  have f38 : a.tmps.getD 38 undef = .string A7 := hI.val 21 _ 38 rfl rfl rfl
  have f39 : a.tmps.getD 39 undef = (.pointer (some ⟨p, 0, none⟩)) := hI.val 22 _ 39 rfl rfl rfl
  have f40 : a.tmps.getD 40 undef = (.slice sa sn sc) := hI.val 23 _ 40 rfl rfl rfl
  have f41 : a.tmps.getD 41 undef = (.slice bA ni bC) := hI.val 24 _ 41 rfl rfl rfl
  have f42 : a.tmps.getD 42 undef = (.pointer (some ⟨p, 0, none⟩)) := hI.val 25 _ 42 rfl rfl rfl
  have f43 : a.tmps.getD 43 undef = .pointer (some ⟨p, 0, none⟩) := hI.val 26 _ 43 rfl rfl rfl
  have f44 : a.tmps.getD 44 undef = .pointer (some ⟨p, 0, none⟩) := hI.val 27 _ 44 rfl rfl rfl
  have f45 : a.tmps.getD 45 undef = .pointer (some ⟨p, 4, none⟩) := hI.val 28 _ 45 rfl rfl rfl
  have f46 : a.tmps.getD 46 undef = .slice V.ab nb V.cb := hI.val 29 _ 46 rfl rfl rfl
  have f47 : a.tmps.getD 47 undef = .string S4 := hI.val 30 _ 47 rfl rfl rfl
  have f48 : a.tmps.getD 48 undef = .string A8 := hI.val 31 _ 48 rfl rfl rfl
  have f49 : a.tmps.getD 49 undef = .string A9 := hI.val 32 _ 49 rfl rfl rfl
  have f50 : a.tmps.getD 50 undef = (.pointer (some ⟨p, 0, none⟩)) := hI.val 33 _ 50 rfl rfl rfl
  have f51 : a.tmps.getD 51 undef = (.slice sa sn sc) := hI.val 34 _ 51 rfl rfl rfl
  have f52 : a.tmps.getD 52 undef = (.slice bA ni bC) := hI.val 35 _ 52 rfl rfl rfl
  have f53 : a.tmps.getD 53 undef = (.pointer (some ⟨p, 0, none⟩)) := hI.val 36 _ 53 rfl rfl rfl
  have f54 : a.tmps.getD 54 undef = .pointer (some ⟨p, 0, none⟩) := hI.val 37 _ 54 rfl rfl rfl
  have f55 : a.tmps.getD 55 undef = .pointer (some ⟨p, 0, none⟩) := hI.val 38 _ 55 rfl rfl rfl
  have f56 : a.tmps.getD 56 undef = .pointer (some ⟨p, 5, none⟩) := hI.val 39 _ 56 rfl rfl rfl
  have f57 : a.tmps.getD 57 undef = .slice V.ac nc V.cc := hI.val 40 _ 57 rfl rfl rfl
  have f58 : a.tmps.getD 58 undef = .string S5 := hI.val 41 _ 58 rfl rfl rfl
  have f59 : a.tmps.getD 59 undef = .string A10 := hI.val 42 _ 59 rfl rfl rfl
  have ha : a = ⟨#[a.tmps.getD 0 undef, a.tmps.getD 1 undef, a.tmps.getD 2 undef, a.tmps.getD 3 undef, a.tmps.getD 4 undef, a.tmps.getD 5 undef, a.tmps.getD 6 undef, a.tmps.getD 7 undef, a.tmps.getD 8 undef, a.tmps.getD 9 undef, a.tmps.getD 10 undef, a.tmps.getD 11 undef, a.tmps.getD 12 undef, a.tmps.getD 13 undef, a.tmps.getD 14 undef, a.tmps.getD 15 undef, a.tmps.getD 16 undef, a.tmps.getD 17 undef, a.tmps.getD 18 undef, a.tmps.getD 19 undef, a.tmps.getD 20 undef, a.tmps.getD 21 undef, a.tmps.getD 22 undef, a.tmps.getD 23 undef, a.tmps.getD 24 undef, a.tmps.getD 25 undef, a.tmps.getD 26 undef, a.tmps.getD 27 undef, a.tmps.getD 28 undef, a.tmps.getD 29 undef, a.tmps.getD 30 undef, a.tmps.getD 31 undef, a.tmps.getD 32 undef, a.tmps.getD 33 undef, a.tmps.getD 34 undef, a.tmps.getD 35 undef, a.tmps.getD 36 undef, a.tmps.getD 37 undef, a.tmps.getD 38 undef, a.tmps.getD 39 undef, a.tmps.getD 40 undef, a.tmps.getD 41 undef, a.tmps.getD 42 undef, a.tmps.getD 43 undef, a.tmps.getD 44 undef, a.tmps.getD 45 undef, a.tmps.getD 46 undef, a.tmps.getD 47 undef, a.tmps.getD 48 undef, a.tmps.getD 49 undef, a.tmps.getD 50 undef, a.tmps.getD 51 undef, a.tmps.getD 52 undef, a.tmps.getD 53 undef, a.tmps.getD 54 undef, a.tmps.getD 55 undef, a.tmps.getD 56 undef, a.tmps.getD 57 undef, a.tmps.getD 58 undef, a.tmps.getD 59 undef], a.defers⟩ := act_list a 60 hsz
  rw [hdf, f0, f1, f2, f3, f4, f5, f6, f7, f8, f9, f10, f11, f12, f13, f14, f15, f16, f17, f18, f19, f20, f21, f22, f23, f24, f25, f26, f27, f28, f29, f30, f31, f32, f33, f34, f35, f36, f37, f38, f39, f40, f41, f42, f43, f44, f45, f46, f47, f48, f49, f50, f51, f52, f53, f54, f55, f56, f57, f58, f59] at ha
  have hku := hI.kp
  clear hI hsz hdf f0 f1 f2 f3 f4 f5 f6 f7 f8 f9 f10 f11 f12 f13 f14 f15 f16 f17 f18 f19 f20 f21 f22 f23 f24 f25 f26 f27 f28 f29 f30 f31 f32 f33 f34 f35 f36 f37 f38 f39 f40 f41 f42 f43 f44 f45 f46 f47 f48 f49 f50 f51 f52 f53 f54 f55 f56 f57 f58 f59 
  subst ha
  refine wpAny_tail 43 rfl (by kernel_rfl) ?_
  simp only [List.drop_succ_cons, List.drop_zero]
  have HE := Lib.hid (show Kp (fun _ => False) w u from HK1.out.trans hku (fun _ _ h => h))
  clear hku
  go_wp2_with fail
  go_ret
  exact ⟨congrArg (fun x => Ending.returned (Value.string x)) HPc.out, HE.out⟩

end Go.Proofs.YtghlklcolepfmaaGreatDoor

/-
  trace's line.
-/
namespace Go.Proofs.YtghlklcolepfmaaGreatDoor
open Go.RowKit

theorem trcL_words6 (C : Circ) (k : Nat) (st ip : List Bool) :
  ([⟨(Lib.itoa (k : Int)).toArray⟩, ⟨#[115, 61]⟩ ++ ⟨(signs st).toArray⟩, ⟨#[105, 61]⟩ ++ ⟨(signs (brought ip C.ins.length)).toArray⟩, ⟨#[111, 61]⟩ ++ ⟨(signs (C.outs.map (litM C st ip))).toArray⟩, ⟨#[98, 61]⟩ ++ ⟨(signs (C.bads.map (litM C st ip))).toArray⟩, ⟨#[99, 61]⟩ ++ ⟨(signs (C.cons.map (litM C st ip))).toArray⟩] : List ByteArray).map (·.data.toList) = trcW C k st ip := by
 unfold trcW
 simp

theorem store_end {w1 u : World} {g : Nat} {a8 : Option Addr} {cs : List Value} {x v : Value} (hK : Kp (fun _ => False) w1 u) (hg : w1.heap.size ≤ g) (hc : u.cell? ⟨g, 0, none⟩ = some x) (hR : RowAt u a8 cs) (hne : ∀ p, a8 = some p → p.block ≠ g) :
  (u.setCell ⟨g, 0, none⟩ v).cell? ⟨g, 0, none⟩ = some v ∧ RowAt (u.setCell ⟨g, 0, none⟩ v) a8 cs ∧ Kp (fun _ => False) w1 (u.setCell ⟨g, 0, none⟩ v) :=
 ⟨World.cell?_setCell_same u _ _ hc, hR.kp (Kp.set u ⟨g, 0, none⟩ v) (fun p hp e => hne p hp e), hK.setCell (p := ⟨g, 0, none⟩) (fun hl => by have h2 : g < w1.heap.size := hl; omega) v⟩

set_option maxRecDepth 100000 in
set_option maxHeartbeats 8000000 in
theorem trace_line (V : CV) (C : Circ) (p : Nat) (b4 : Option Addr) (d4 : Nat) (b5 : Option Addr) (d5 : Nat) (k : Nat) (sa : Option Addr) (sn sc : Nat) (ia : Option Addr) (in_ ic : Nat) (st ip : List Bool) (w : World)
    (hT : TAt w C p b4 b5) (hA : CAt w V C) (hf : CFew C 1000) (hg : GoodC C) (hs : BS w sa sn st) (hsl : st.length = C.lats.length) (hsn : sa = none → sc = 0) (hi : BS w ia in_ ip) (hk : k ≤ 100000) (htb : Tab w) :
    Calls Tryz.prog 22 #[.agg (tvals V C p b4 d4 b5 d5), .int .i64 k, .slice sa sn sc, .slice ia in_ ic] w fun e w' => e = .returned (.string ⟨(trcL C k st ip ++ [10]).toArray⟩) ∧ Kp (fun _ => False) w w' := by
  have HIb := Lib.hid (show (Tryz.prog.info? 4).map (fun i => (i.zero, i.size, i.bytes)) = some (some (.bool false), 1, 1) by kernel_rfl)
  have hf6 : CFew C 1000000 := ⟨Nat.le_trans hf.i (by decide), Nat.le_trans hf.l (by decide), Nat.le_trans hf.o (by decide), Nat.le_trans hf.b (by decide), Nat.le_trans hf.c (by decide), Nat.le_trans hf.g (by decide)⟩
  obtain ⟨wz, hwz⟩ : ∃ wz : World, wz = w.alloc (.cells (tvals V C p b4 d4 b5 d5) 54) := ⟨_, rfl⟩
  have HK0 := Lib.hid (show Kp (fun _ => False) w wz by rw [hwz]; exact (Kp.refl _ w).alloc _)
  have HB0 := Lib.hid (show Blk wz w.heap.size (tvals V C p b4 d4 b5 d5) 54 by rw [hwz]; exact Blk.new w _ _)
  have HZ := Lib.hid hwz
  have HT0 := Lib.hid (hT.kp HK0.out)
  have HA0 := Lib.hid (hA.kp HK0.out)
  have HTb := Lib.hid (htb.kp HK0.out)
  have HF := Lib.hid hf
  have HF6 := Lib.hid hf6
  have HG := Lib.hid hg
  have HS0 := Lib.hid (hs.kp HK0.out)
  have HSl := Lib.hid hsl
  have HSn := Lib.hid hsn
  have HI0 := Lib.hid (hi.kp HK0.out)
  obtain ⟨ni, hni⟩ : ∃ n, C.ins.length = n := ⟨_, rfl⟩
  have HNi := Lib.hid hni
  have hni1 : ni ≤ 1000 := by rw [← hni]; exact hf.i
  have t9 : wz.cell? ⟨w.heap.size, 9, none⟩ = some (.pointer (some ⟨p, 0, none⟩)) := HB0.out.cell rfl
  obtain ⟨Vm, am4, cm4, am5, cm5, hM⟩ := hT.mach
  have HIn := Lib.hid (step_Inputs Vm C p am4 am5 cm4 cm5 wz (hM.kp HK0.out) hf6)
  rw [hni] at HIn
  have HBr := Lib.hid (trace_brought ia in_ ic ip ni wz HI0.out.row HI0.out.len HI0.out.most (by omega))
  clear hwz hT hA htb hf hf6 hg hs hsl hsn hi hni hM
  unfold tvals at HZ HB0 ⊢
  go_enter Tryz.func22, Tryz.ntmps22
  go_upto_region 1 with fail
  rw [← HZ.out]
  clear HZ
  go_upto_region 2 with (first
    | (go_at_call 42; with_reducible refine Calls.mono HIn.out ?_; rintro e w1 ⟨rfl, rfl⟩)
    | (go_at_call 39; with_reducible refine Calls.mono HBr.out ?_; rintro e w1 ⟨v, rfl, hO, hK1⟩; obtain ⟨bA, bC, ev, ble, bm, bnil, -, hr⟩ := ownForm hO; rw [bv_length, brought_len] at ev ble; subst ev; have HR := Lib.hid hr; have HK1 := Lib.hid hK1; have HOk := Lib.hid (show SlOK bA ni bC from ⟨ble, bm, bnil⟩); clear hO hr hK1 ble bm bnil))
  clear t9 HIn HBr
  have HB1 := Lib.hid (HB0.out.kp HK1.out (fun h => h))
  have t10 : w1.cell? ⟨w.heap.size, 10, none⟩ = some (.slice b4 (netOf C).1.length d4) := HB1.out.cell rfl
  have HCl := Lib.hid (fun u (hu : Kp (fun _ => False) w1 u) => clone_bools bA ni bC (brought ip ni) u (HR.out.kp hu (fun _ _ h => h)) (brought_len _ _) HOk.out (by omega))
  have HCell := Lib.hid (fun u (hu : Kp (fun _ => False) w1 u) => show u.cell? ⟨w.heap.size, 10, none⟩ = some (.slice b4 (netOf C).1.length d4) from (HB1.out.kp hu (fun h => h)).cell rfl)
  have HSr := Lib.hid (fun u (hu : Kp (fun _ => False) w1 u) => (HS0.out.kp (HK1.out.trans hu (fun _ _ h => h))).row)
  have HSnn := Lib.hid HS0.out.len
  have HEv := Lib.hid (fun u a9 c9 (hu : Kp (fun _ => False) w1 u) (hr : RowAt u a9 (bv (brought ip ni ++ st))) => sim_Eval b4 (netOf C).1.length d4 (netOf C).1 a9 (ni + sn) c9 (brought ip ni ++ st) u ((HT0.out.kp (HK1.out.trans hu (fun _ _ h => h))).net) rfl (by have := (net_few HF6.out HG.out).1; omega) HG.out.net hr (by rw [List.length_append, brought_len, HSnn.out]) (by have := HS0.out.most; have := HSl.out; have := HSnn.out; have := HF.out.l; omega))
  have HVM : Hid (valsOf (netOf C).1 (brought ip ni ++ st) = valsM C st ip) := Lib.hid (by unfold valsM insOf; rw [HNi.out, brought_self HSl.out])
  go_cut [9] from 16 to 23 (fun s9 wx => ∃ g, s9 = .pointer (some ⟨g, 0, none⟩) ∧ ∃ va vc, wx.cell? ⟨g, 0, none⟩ = some (.slice va ((netOf C).1.length + 1) vc) ∧ RowAt wx va (bv (valsM C st ip)) ∧ Kp (fun _ => False) w1 wx)
  case first =>
    go_region_held3 (fun u => u.cell? ⟨w.heap.size, 10, none⟩ = some (.slice b4 (netOf C).1.length d4)) (exact HCell.out _ (by repeat (first | (with_reducible first | exact Kp.refl _ _ | exact HKA.out | exact HKB.out | exact HKC.out | apply Kp.alloc | apply Kp.drew | apply Kp.setCell) | (intro hlt; have := HKA.out.size; have := HKB.out.size; have := HKC.out.size; first | (simp at hlt; done) | (simp at hlt; omega) | omega)))) ((first
      | (go_at_call 54
         (with_reducible refine Calls.mono (HCl.out _ (by repeat (with_reducible first | exact Kp.refl _ _ | apply Kp.alloc | apply Kp.drew))) ?_)
         rintro e wA ⟨vA, rfl, hOA, hKA⟩
         have HOA := Lib.hid hOA
         have HKA := Lib.hid (show Kp (fun _ => False) w1 wA from Kp.trans (by repeat (with_reducible first | exact Kp.refl _ _ | apply Kp.alloc | apply Kp.drew)) hKA (fun _ _ h => h))
         try have HNa := Lib.hid (Blk.kp (Blk.drew (Blk.new w1 #[.slice none 0 0] 28)) hKA (fun h => h))
         try have HNl := Lib.hid (show ∀ j, vA.ownBlock = some j → w1.heap.size < j from fun j hj => by have := (hOA.lt j hj).1; simp at this; omega)
         clear hOA hKA)
      | (refine step_append1s (by rfl) _ _ 28 4 (by rfl) Tryz.underlying28 HIb.out rfl (base := w1.heap.size) (cs := bv (brought ip ni)) (v := vA) (by first | exact HOA.out.mono (by simp) | exact (HOA.out.mono (by simp)).alloc _) (by rfl) sa sn sc (bv st) (by rfl) (by rw [bv_length]; exact HSnn.out) (HSr.out _ (by repeat (with_reducible first | exact HKA.out | apply Kp.alloc))) HSn.out (bv_one _) (by rw [bv_length, brought_len]; have := HS0.out.most; omega) (by rw [bv_length, brought_len]; have := HS0.out.most; unfold maxLen; omega) (by have := HKA.out.size; first | exact this | (simp; omega)) ?_
         intro vB wB hOB hgB hatB
         have HKB := Lib.hid (show Kp (fun _ => False) w1 wB from by first | exact HKA.out.grown hgB (fun j hj hl => by have := (HOA.out.lt j hj).1; simp at this; omega) | exact (HKA.out.alloc _).grown hgB (fun j hj hl => by have := (HOA.out.lt j hj).1; simp at this; omega))
         try have HNb := Lib.hid (HNa.out.kp ((Kp.refl (fun j => vA.ownBlock = some j) _).grown hgB (fun j hj hl => hj)) (fun h => by have := HNl.out _ h; omega))
         try have HNb := Lib.hid (Blk.kp (Blk.new wA #[.slice none 0 0] 28) ((Kp.refl (fun j => vA.ownBlock = some j) _).grown hgB (fun j hj hl => hj)) (fun h => by have := (HOA.out.lt _ h).2; omega))
         have HAB := Lib.hid (show wA.heap.size ≤ wB.heap.size from by have := hgB.size; first | exact this | (simp at this; omega))
         try have HAB2 := Lib.hid (show (wA.alloc (.cells #[.slice none 0 0] 28)).heap.size ≤ wB.heap.size from hgB.size)
         have hOB2 : Own wB w1.heap.size 4 vB (bv (brought ip ni ++ st)) := by rw [bv_append]; exact hOB
         obtain ⟨a9, c9, ev9, -, -, -, hr9⟩ := hOB2.form
         rw [bv_length, List.length_append, brought_len, HSnn.out] at ev9
         subst ev9
         have HR9 := Lib.hid hr9
         clear hOB hgB hatB hOB2 hr9)
      | (go_at_call 53
         (with_reducible refine Calls.mono (HEv.out _ a9 c9 (by repeat (with_reducible first | exact HKB.out | apply Kp.alloc)) (by first | exact HR9.out | exact HR9.out.kp ((Kp.refl (fun _ => False) wB).alloc _) (fun _ _ h => h))) ?_)
         rintro e wC ⟨vC, rfl, hOC, hKC⟩
         obtain ⟨a8, c8, ev8, -, -, hp8, hr8⟩ := hOC.form
         rw [bv_length, show (valsOf (netOf C).1 (brought ip ni ++ st)).length = (netOf C).1.length + 1 from valsOf_len _ _] at ev8
         subst ev8
         have HR8 := Lib.hid hr8
         have HP8 := Lib.hid hp8
         have HKC := Lib.hid (show Kp (fun _ => False) w1 wC from by first | exact HKB.out.trans hKC (fun _ _ h => h) | exact (HKB.out.alloc _).trans hKC (fun _ _ h => h))
         try have nb := HNb.out.kp hKC (fun h => h)
         try have nb := Blk.kp (Blk.new wB #[.slice none 0 0] 28) hKC (fun h => h)
         try have n1 := nb.cell (i := 0) (v := .slice none 0 0) rfl
         try have n2 := nb.free 0
         clear hOC hr8 hKC hp8)))
    all_goals go_wp2_with fail
    all_goals go_meet
    · exact ⟨_, rfl, a8, c8, World.cell?_alloc_at _ _ _ _ rfl, by rw [← HVM.out]; exact HR8.out.kp ((Kp.refl (fun _ => False) wC).alloc _) (fun _ _ h => h), HKC.out.alloc _⟩
    · have hs9 := store_end (v := .slice a8 ((netOf C).1.length + 1) c8) HKC.out HKB.out.size n1 HR8.out (fun p hp e => by obtain ⟨g', rfl, h1, -⟩ := HP8.out p hp; have e2 : g' = wB.heap.size := e; rw [e2, World.size_alloc] at h1; omega)
      exact ⟨_, rfl, a8, c8, hs9.1, by rw [← HVM.out]; exact hs9.2.1, hs9.2.2⟩
    · have hs9 := store_end (v := .slice a8 ((netOf C).1.length + 1) c8) HKC.out HKA.out.size n1 HR8.out (fun p hp e => by obtain ⟨g', rfl, h1, -⟩ := HP8.out p hp; have e2 : g' = wA.heap.size := e; have h5 := HAB2.out; rw [World.size_alloc] at h5; omega)
      exact ⟨_, rfl, a8, c8, hs9.1, by rw [← HVM.out]; exact hs9.2.1, hs9.2.2⟩
    · have hs9 := store_end (v := .slice a8 ((netOf C).1.length + 1) c8) HKC.out (Nat.le_refl _) n1 HR8.out (fun p hp e => by obtain ⟨g', rfl, h1, -⟩ := HP8.out p hp; have e2 : g' = w1.heap.size := e; have := HNa.out.lt; have := HAB.out; omega)
      exact ⟨_, rfl, a8, c8, hs9.1, by rw [← HVM.out]; exact hs9.2.1, hs9.2.2⟩
  case rest =>
    obtain ⟨g9, rfl, va, vc, hcv, hvr, hKc⟩ := hcut
    have hKc0 := HK1.out.trans hKc (fun _ _ h => h)
    have hB2 := HB1.out.kp hKc (fun h => h)
    have HCv := Lib.hid hcv
    have HVr := Lib.hid hvr
    have HKc := Lib.hid hKc
    have HKc0 := Lib.hid hKc0
    have HB2 := Lib.hid hB2
    have hlo := HF.out.o
    have hlb := HF.out.b
    have hlc := HF.out.c
    have hll := HF.out.l
    have HPc := Lib.hid (trcL_words6 C k st ip)
    have hl0 := itoaLen (n := (k : Int)) (by omega) (by omega)
    rw [← ba_list] at hl0
    obtain ⟨S0, hS0⟩ : ∃ S : ByteArray, (⟨(Lib.itoa (k : Int)).toArray⟩ : ByteArray) = S := ⟨_, rfl⟩
    have hl1 : (⟨(signs st).toArray⟩ : ByteArray).size ≤ 1000 := by rw [ba_list, signs_length, HSl.out]; exact hll
    obtain ⟨S1, hS1⟩ : ∃ S : ByteArray, (⟨(signs st).toArray⟩ : ByteArray) = S := ⟨_, rfl⟩
    have hl2 : (⟨(signs (brought ip C.ins.length)).toArray⟩ : ByteArray).size ≤ 1000 := by rw [ba_list, signs_length, brought_len]; exact HF.out.i
    obtain ⟨S2, hS2⟩ : ∃ S : ByteArray, (⟨(signs (brought ip C.ins.length)).toArray⟩ : ByteArray) = S := ⟨_, rfl⟩
    have hl3 : (⟨(signs (C.outs.map (litM C st ip))).toArray⟩ : ByteArray).size ≤ 1000 := by rw [ba_list, signs_length, List.length_map]; exact hlo
    obtain ⟨S3, hS3⟩ : ∃ S : ByteArray, (⟨(signs (C.outs.map (litM C st ip))).toArray⟩ : ByteArray) = S := ⟨_, rfl⟩
    have hl4 : (⟨(signs (C.bads.map (litM C st ip))).toArray⟩ : ByteArray).size ≤ 1000 := by rw [ba_list, signs_length, List.length_map]; exact hlb
    obtain ⟨S4, hS4⟩ : ∃ S : ByteArray, (⟨(signs (C.bads.map (litM C st ip))).toArray⟩ : ByteArray) = S := ⟨_, rfl⟩
    have hl5 : (⟨(signs (C.cons.map (litM C st ip))).toArray⟩ : ByteArray).size ≤ 1000 := by rw [ba_list, signs_length, List.length_map]; exact hlc
    obtain ⟨S5, hS5⟩ : ∃ S : ByteArray, (⟨(signs (C.cons.map (litM C st ip))).toArray⟩ : ByteArray) = S := ⟨_, rfl⟩
    rw [hS0] at hl0
    rw [hS1] at hl1
    rw [hS2] at hl2
    rw [hS3] at hl3
    rw [hS4] at hl4
    rw [hS5] at hl5
    rw [hS0, hS1, hS2, hS3, hS4, hS5] at HPc
    obtain ⟨W1, hW1⟩ : ∃ A : ByteArray, ⟨#[115, 61]⟩ ++ S1 = A := ⟨_, rfl⟩
    have HA1 := Lib.hid (fun (u : World) => show (Op.stringOp .add ⟨#[115, 61]⟩ S1).run Tryz.prog u = .ok (.string W1) u by
      rw [← hW1]
      exact run_string_add_sum _ _ _ (by have := (by decide : (⟨#[115, 61]⟩ : ByteArray).size ≤ 2); omega))
    rw [hW1] at HPc
    obtain ⟨W2, hW2⟩ : ∃ A : ByteArray, ⟨#[105, 61]⟩ ++ S2 = A := ⟨_, rfl⟩
    have HA2 := Lib.hid (fun (u : World) => show (Op.stringOp .add ⟨#[105, 61]⟩ S2).run Tryz.prog u = .ok (.string W2) u by
      rw [← hW2]
      exact run_string_add_sum _ _ _ (by have := (by decide : (⟨#[105, 61]⟩ : ByteArray).size ≤ 2); omega))
    rw [hW2] at HPc
    obtain ⟨W3, hW3⟩ : ∃ A : ByteArray, ⟨#[111, 61]⟩ ++ S3 = A := ⟨_, rfl⟩
    have HA3 := Lib.hid (fun (u : World) => show (Op.stringOp .add ⟨#[111, 61]⟩ S3).run Tryz.prog u = .ok (.string W3) u by
      rw [← hW3]
      exact run_string_add_sum _ _ _ (by have := (by decide : (⟨#[111, 61]⟩ : ByteArray).size ≤ 2); omega))
    rw [hW3] at HPc
    obtain ⟨W4, hW4⟩ : ∃ A : ByteArray, ⟨#[98, 61]⟩ ++ S4 = A := ⟨_, rfl⟩
    have HA4 := Lib.hid (fun (u : World) => show (Op.stringOp .add ⟨#[98, 61]⟩ S4).run Tryz.prog u = .ok (.string W4) u by
      rw [← hW4]
      exact run_string_add_sum _ _ _ (by have := (by decide : (⟨#[98, 61]⟩ : ByteArray).size ≤ 2); omega))
    rw [hW4] at HPc
    obtain ⟨W5, hW5⟩ : ∃ A : ByteArray, ⟨#[99, 61]⟩ ++ S5 = A := ⟨_, rfl⟩
    have HA5 := Lib.hid (fun (u : World) => show (Op.stringOp .add ⟨#[99, 61]⟩ S5).run Tryz.prog u = .ok (.string W5) u by
      rw [← hW5]
      exact run_string_add_sum _ _ _ (by have := (by decide : (⟨#[99, 61]⟩ : ByteArray).size ≤ 2); omega))
    rw [hW5] at HPc
    obtain ⟨JN, hJN⟩ : ∃ A : ByteArray, (⟨(trcL C k st ip).toArray⟩ : ByteArray) = A := ⟨_, rfl⟩
    obtain ⟨D, hD⟩ : ∃ A : ByteArray, JN ++ ⟨#[10]⟩ = A := ⟨_, rfl⟩
    have hlj := trcL_len (k := k) (st := st) (ip := ip) HF.out hk (by rw [HSl.out]; exact hll)
    have hzj : JN.size ≤ 6000 := by rw [← hJN, ba_list]; exact hlj
    have HAD := Lib.hid (fun (u : World) => show (Op.stringOp .add JN ⟨#[10]⟩).run Tryz.prog u = .ok (.string D) u by
      rw [← hD]
      exact run_string_add_sum _ _ _ (by have := (by decide : (⟨#[10]⟩ : ByteArray).size ≤ 1); omega))
    have HD : Hid ((⟨(trcL C k st ip ++ [10]).toArray⟩ : ByteArray) = D) := Lib.hid (by rw [← hD, ← hJN]; exact (cat_bytes (trcL C k st ip) [10]).symm)
    have HJn := Lib.hid (fun u g (hB : Blk u g #[.string S0, .string W1, .string W2, .string W3, .string W4, .string W5] 9) => show Calls Tryz.prog 36 #[.slice (some ⟨g, 0, none⟩) 6 6, .string ⟨#[32]⟩] u fun e w' => e = .returned (.string JN) ∧ Kp (fun _ => False) u w' from by
      have h := Tryz.strings_Join g 0 6 [S0, W1, W2, W3, W4, W5] ⟨#[32]⟩ u (fun j x hx => by
        rw [Nat.zero_add]
        have e : (#[.string S0, .string W1, .string W2, .string W3, .string W4, .string W5] : Array Value) = (strs [S0, W1, W2, W3, W4, W5]).toArray := rfl
        rw [e] at hB
        exact hB.cell (by simp only [strs, List.getElem?_toArray, List.getElem?_map, hx]; rfl)) hB.lt (show 6 ≤ 140737488355328 by decide) (Nat.le_refl 6) (by
          rw [HPc.out, jn_join]
          exact Nat.le_trans hlj (by decide))
      rw [HPc.out, jn_join] at h
      refine h.mono ?_
      rintro e w' ⟨rfl, hb⟩
      exact ⟨congrArg (fun x => Ending.returned (Value.string x)) hJN, Kp.of_below hb _⟩)
    have HDc := Lib.hid (fun u (hu : Kp (fun _ => False) wc u) => show Calls Tryz.prog 30 #[.int .i64 (k : Int)] u fun e w' => e = .returned (.string S0) ∧ Kp (fun _ => False) u w' from by
      have h := octet_Dec (k : Int) u (by omega) (by omega) (HTb.out.kp (HKc0.out.trans hu (fun _ _ h => h)))
      rw [hS0] at h
      exact h)
    have HT1 := Lib.hid (fun u (hu : Kp (fun _ => False) wc u) => show Calls Tryz.prog 57 #[.slice sa sn sc] u fun e w' => e = .returned (.string S1) ∧ Kp (fun _ => False) u w' from by
      have h := octet_Text sa st sc u (HS0.out.kp (HKc0.out.trans hu (fun _ _ h => h))).row (by rw [HSl.out]; omega)
      rw [hS1, HSnn.out] at h
      exact h)
    have HT2 := Lib.hid (fun u (hu : Kp (fun _ => False) wc u) => show Calls Tryz.prog 57 #[.slice bA ni bC] u fun e w' => e = .returned (.string S2) ∧ Kp (fun _ => False) u w' from by
      have h := octet_Text bA (brought ip ni) bC u (HR.out.kp (HKc.out.trans hu (fun _ _ h => h)) (fun _ _ h => h)) (by rw [brought_len]; omega)
      rw [brought_len, ← HNi.out, hS2, HNi.out] at h
      exact h)
    obtain ⟨no, hno⟩ : ∃ n, C.outs.length = n := ⟨_, rfl⟩
    obtain ⟨nb, hnb⟩ : ∃ n, C.bads.length = n := ⟨_, rfl⟩
    obtain ⟨nc, hnc⟩ : ∃ n, C.cons.length = n := ⟨_, rfl⟩
    have HG3 := Lib.hid (fun u (hu : Kp (fun _ => False) wc u) => show Calls Tryz.prog 55 #[.slice V.ao no V.co, .pointer (some ⟨g9, 0, none⟩), .pointer (some ⟨w.heap.size, 0, none⟩)] u fun e w' => e = .returned (.string S3) ∧ Kp (fun _ => False) u w' from by
      have h := trace_all g9 w.heap.size V C p b4 d4 b5 d5 va vc st ip V.ao no V.co C.outs u HF6.out HG.out (hu.cellK HCv.out) ((HB2.out.kp hu (fun h => h)).cell rfl) (HVr.out.kp hu (fun _ _ h => h)) ((HT0.out.kp (HKc0.out.trans hu (fun _ _ h => h))).ats) ((HA0.out.kp (HKc0.out.trans hu (fun _ _ h => h))).o) hno (by omega) (fun l h => out_used h)
      rw [hS3] at h
      exact h)
    have HC3 := Lib.hid (fun u (hu : Kp (fun _ => False) wc u) => show u.cell? ⟨w.heap.size, 3, none⟩ = some (.slice V.ao no V.co) from (HB2.out.kp hu (fun h => h)).cell (i := 3) (by rw [← hno]; rfl))
    have HG4 := Lib.hid (fun u (hu : Kp (fun _ => False) wc u) => show Calls Tryz.prog 55 #[.slice V.ab nb V.cb, .pointer (some ⟨g9, 0, none⟩), .pointer (some ⟨w.heap.size, 0, none⟩)] u fun e w' => e = .returned (.string S4) ∧ Kp (fun _ => False) u w' from by
      have h := trace_all g9 w.heap.size V C p b4 d4 b5 d5 va vc st ip V.ab nb V.cb C.bads u HF6.out HG.out (hu.cellK HCv.out) ((HB2.out.kp hu (fun h => h)).cell rfl) (HVr.out.kp hu (fun _ _ h => h)) ((HT0.out.kp (HKc0.out.trans hu (fun _ _ h => h))).ats) ((HA0.out.kp (HKc0.out.trans hu (fun _ _ h => h))).b) hnb (by omega) (fun l h => bads_used h)
      rw [hS4] at h
      exact h)
    have HC4 := Lib.hid (fun u (hu : Kp (fun _ => False) wc u) => show u.cell? ⟨w.heap.size, 4, none⟩ = some (.slice V.ab nb V.cb) from (HB2.out.kp hu (fun h => h)).cell (i := 4) (by rw [← hnb]; rfl))
    have HG5 := Lib.hid (fun u (hu : Kp (fun _ => False) wc u) => show Calls Tryz.prog 55 #[.slice V.ac nc V.cc, .pointer (some ⟨g9, 0, none⟩), .pointer (some ⟨w.heap.size, 0, none⟩)] u fun e w' => e = .returned (.string S5) ∧ Kp (fun _ => False) u w' from by
      have h := trace_all g9 w.heap.size V C p b4 d4 b5 d5 va vc st ip V.ac nc V.cc C.cons u HF6.out HG.out (hu.cellK HCv.out) ((HB2.out.kp hu (fun h => h)).cell rfl) (HVr.out.kp hu (fun _ _ h => h)) ((HT0.out.kp (HKc0.out.trans hu (fun _ _ h => h))).ats) ((HA0.out.kp (HKc0.out.trans hu (fun _ _ h => h))).c) hnc (by omega) (fun l h => cons_used h)
      rw [hS5] at h
      exact h)
    have HC5 := Lib.hid (fun u (hu : Kp (fun _ => False) wc u) => show u.cell? ⟨w.heap.size, 5, none⟩ = some (.slice V.ac nc V.cc) from (HB2.out.kp hu (fun h => h)).cell (i := 5) (by rw [← hnc]; rfl))
    have HKf := Lib.hid (HK0.out.trans HKc0.out (fun _ _ h => h))
    clear hKc0 hB2 hcv hvr hKc hlo hlb hlc hll hl0 hl1 hl2 hl3 hl4 hl5 hS0 hS1 hS2 hS3 hS4 hS5 hW1 hW2 hW3 hW4 hW5 hJN hD hlj hzj hno hnb hnc t10 HCl HCell HSr HEv
    go_upto_region 4 with fail
    refine wp_region_loose (p := upTo 29) (V := atV [EqV ((.int .i64 (k : Int))), EqV (.string S0), EqV ((.slice sa sn sc)), EqV (.string S1), EqV (.string W1), EqV ((.slice bA ni bC)), EqV (.string S2), EqV (.string W2), EqV (.func (.func 55) #[] #[.pointer (some ⟨g9, 0, none⟩), .pointer (some ⟨w.heap.size, 0, none⟩)]), EqV (.pointer (some ⟨w.heap.size, 0, none⟩)), EqV (.pointer (some ⟨w.heap.size, 3, none⟩)), EqV (.slice V.ao no V.co), EqV (.string S3), EqV (.string W3), EqV (.func (.func 55) #[] #[.pointer (some ⟨g9, 0, none⟩), .pointer (some ⟨w.heap.size, 0, none⟩)]), EqV (.pointer (some ⟨w.heap.size, 0, none⟩)), EqV (.pointer (some ⟨w.heap.size, 4, none⟩)), EqV (.slice V.ab nb V.cb), EqV (.string S4), EqV (.string W4), EqV (.func (.func 55) #[] #[.pointer (some ⟨g9, 0, none⟩), .pointer (some ⟨w.heap.size, 0, none⟩)]), EqV (.pointer (some ⟨w.heap.size, 0, none⟩)), EqV (.pointer (some ⟨w.heap.size, 5, none⟩)), EqV (.slice V.ac nc V.cc), EqV (.string S5), EqV (.string W5), (fun u v => ∃ g, v = .slice (some ⟨g, 0, none⟩) 6 6 ∧ Blk u g #[.string S0, .string W1, .string W2, .string W3, .string W4, .string W5] 9), EqV (.string JN), EqV (.string D)]) (LP := #[true, true, true, true, true, true, true, true, true, true, true, true, true, true, true, true, true, true, true, true, true, true, true, true, true, true, true, true, true, false]) (K := 1) (by kernel_rfl) (by kernel_rfl) (atV_st ?hstL4) ?hstepL4 (by kernel_rfl) ?hLPL4 (by kernel_rfl) ?hendL4
    case hstL4 =>
      intro W h
      simp only [List.mem_cons, List.not_mem_nil, or_false] at h
      rcases h with rfl | rfl | rfl | rfl | rfl | rfl | rfl | rfl | rfl | rfl | rfl | rfl | rfl | rfl | rfl | rfl | rfl | rfl | rfl | rfl | rfl | rfl | rfl | rfl | rfl | rfl | rfl | rfl | rfl <;> first | exact EqV.st _ | exact fun _ _ _ k ⟨g, h1, h2⟩ => ⟨g, h1, h2.kp k (fun h => h)⟩
    case hLPL4 => exact upTo_spec (by kernel_rfl)
    case hstepL4 =>
      intro i o ho hp a u hk hoff hdep
      have e1 : a.tmps[1]?.getD undef = (.int .i64 (k : Int)) := slot_at (hoff 1 (noDst_spec (by kernel_rfl)))
      have e2 : a.tmps[2]?.getD undef = (.slice sa sn sc) := slot_at (hoff 2 (noDst_spec (by kernel_rfl)))
      have e3 : a.tmps[3]?.getD undef = (.slice bA ni bC) := slot_at (hoff 3 (noDst_spec (by kernel_rfl)))
      have e4 : a.tmps[4]?.getD undef = (.pointer (some ⟨w.heap.size, 0, none⟩)) := slot_at (hoff 4 (noDst_spec (by kernel_rfl)))
      have e10 : a.tmps[10]?.getD undef = (.func (.func 55) #[] #[.pointer (some ⟨g9, 0, none⟩), .pointer (some ⟨w.heap.size, 0, none⟩)]) := slot_at (hoff 10 (noDst_spec (by kernel_rfl)))
      clear hoff
      match i, ho with
      | 0, ho =>
        obtain rfl := Option.some.inj ho
        refine lw_value (v := (.int .i64 (k : Int))) (u' := u) ?_ (Kp.refl _ _) rfl
        go_simp
      | 1, ho =>
        obtain rfl := Option.some.inj ho
        have e24 : a.tmps[24]?.getD undef = (.int .i64 (k : Int)) := slot_at (hdep ⟨0, .data⟩ (by simp) rfl _ 24 rfl rfl)
        refine lw_call (f := 30) (args := #[.int .i64 (k : Int)]) ?_ ?_
        · go_simp
        · exact (HDc.out u hk).mono (by
            rintro e u' ⟨rfl, hK⟩
            exact ⟨_, rfl, hK, rfl⟩)
      | 2, ho =>
        obtain rfl := Option.some.inj ho
        refine lw_value (v := (.slice sa sn sc)) (u' := u) ?_ (Kp.refl _ _) rfl
        go_simp
      | 3, ho =>
        obtain rfl := Option.some.inj ho
        have e26 : a.tmps[26]?.getD undef = (.slice sa sn sc) := slot_at (hdep ⟨2, .data⟩ (by simp) rfl _ 26 rfl rfl)
        refine lw_call (f := 57) (args := #[.slice sa sn sc]) ?_ ?_
        · go_simp
        · exact (HT1.out u hk).mono (by
            rintro e u' ⟨rfl, hK⟩
            exact ⟨_, rfl, hK, rfl⟩)
      | 4, ho =>
        obtain rfl := Option.some.inj ho
        have e27 : a.tmps[27]?.getD undef = .string S1 := slot_at (hdep ⟨3, .data⟩ (by simp) rfl _ 27 rfl rfl)
        have h1 := HA1.out u
        refine lw_value (v := .string W1) (u' := u) ?_ (Kp.refl _ _) rfl
        go_simp
      | 5, ho =>
        obtain rfl := Option.some.inj ho
        refine lw_value (v := (.slice bA ni bC)) (u' := u) ?_ (Kp.refl _ _) rfl
        go_simp
      | 6, ho =>
        obtain rfl := Option.some.inj ho
        have e29 : a.tmps[29]?.getD undef = (.slice bA ni bC) := slot_at (hdep ⟨5, .data⟩ (by simp) rfl _ 29 rfl rfl)
        refine lw_call (f := 57) (args := #[.slice bA ni bC]) ?_ ?_
        · go_simp
        · exact (HT2.out u hk).mono (by
            rintro e u' ⟨rfl, hK⟩
            exact ⟨_, rfl, hK, rfl⟩)
      | 7, ho =>
        obtain rfl := Option.some.inj ho
        have e30 : a.tmps[30]?.getD undef = .string S2 := slot_at (hdep ⟨6, .data⟩ (by simp) rfl _ 30 rfl rfl)
        have h1 := HA2.out u
        refine lw_value (v := .string W2) (u' := u) ?_ (Kp.refl _ _) rfl
        go_simp
      | 8, ho =>
        obtain rfl := Option.some.inj ho
        refine lw_value (v := .func (.func 55) #[] #[.pointer (some ⟨g9, 0, none⟩), .pointer (some ⟨w.heap.size, 0, none⟩)]) (u' := u) ?_ (Kp.refl _ _) rfl
        go_simp
      | 9, ho =>
        obtain rfl := Option.some.inj ho
        refine lw_value (v := .pointer (some ⟨w.heap.size, 0, none⟩)) (u' := u) ?_ (Kp.refl _ _) rfl
        go_simp
      | 10, ho =>
        obtain rfl := Option.some.inj ho
        have e33 : a.tmps[33]?.getD undef = .pointer (some ⟨w.heap.size, 0, none⟩) := slot_at (hdep ⟨9, .data⟩ (by simp) rfl _ 33 rfl rfl)
        refine lw_value (v := .pointer (some ⟨w.heap.size, 3, none⟩)) (u' := u) ?_ (Kp.refl _ _) rfl
        go_simp
      | 11, ho =>
        obtain rfl := Option.some.inj ho
        have e34 : a.tmps[34]?.getD undef = .pointer (some ⟨w.heap.size, 3, none⟩) := slot_at (hdep ⟨10, .data⟩ (by simp) rfl _ 34 rfl rfl)
        have c1 := HC3.out u hk
        refine lw_value (v := .slice V.ao no V.co) (u' := u) ?_ (Kp.refl _ _) rfl
        go_simp
      | 12, ho =>
        obtain rfl := Option.some.inj ho
        have e32 : a.tmps[32]?.getD undef = .func (.func 55) #[] #[.pointer (some ⟨g9, 0, none⟩), .pointer (some ⟨w.heap.size, 0, none⟩)] := slot_at (hdep ⟨8, .data⟩ (by simp) rfl _ 32 rfl rfl)
        have e35 : a.tmps[35]?.getD undef = .slice V.ao no V.co := slot_at (hdep ⟨11, .data⟩ (by simp) rfl _ 35 rfl rfl)
        refine lw_call (f := 55) (args := #[.slice V.ao no V.co, .pointer (some ⟨g9, 0, none⟩), .pointer (some ⟨w.heap.size, 0, none⟩)]) ?_ ?_
        · go_simp
        · exact (HG3.out u hk).mono (by
            rintro e u' ⟨rfl, hK⟩
            exact ⟨_, rfl, hK, rfl⟩)
      | 13, ho =>
        obtain rfl := Option.some.inj ho
        have e36 : a.tmps[36]?.getD undef = .string S3 := slot_at (hdep ⟨12, .data⟩ (by simp) rfl _ 36 rfl rfl)
        have h1 := HA3.out u
        refine lw_value (v := .string W3) (u' := u) ?_ (Kp.refl _ _) rfl
        go_simp
      | 14, ho =>
        obtain rfl := Option.some.inj ho
        refine lw_value (v := .func (.func 55) #[] #[.pointer (some ⟨g9, 0, none⟩), .pointer (some ⟨w.heap.size, 0, none⟩)]) (u' := u) ?_ (Kp.refl _ _) rfl
        go_simp
      | 15, ho =>
        obtain rfl := Option.some.inj ho
        refine lw_value (v := .pointer (some ⟨w.heap.size, 0, none⟩)) (u' := u) ?_ (Kp.refl _ _) rfl
        go_simp
      | 16, ho =>
        obtain rfl := Option.some.inj ho
        have e39 : a.tmps[39]?.getD undef = .pointer (some ⟨w.heap.size, 0, none⟩) := slot_at (hdep ⟨15, .data⟩ (by simp) rfl _ 39 rfl rfl)
        refine lw_value (v := .pointer (some ⟨w.heap.size, 4, none⟩)) (u' := u) ?_ (Kp.refl _ _) rfl
        go_simp
      | 17, ho =>
        obtain rfl := Option.some.inj ho
        have e40 : a.tmps[40]?.getD undef = .pointer (some ⟨w.heap.size, 4, none⟩) := slot_at (hdep ⟨16, .data⟩ (by simp) rfl _ 40 rfl rfl)
        have c1 := HC4.out u hk
        refine lw_value (v := .slice V.ab nb V.cb) (u' := u) ?_ (Kp.refl _ _) rfl
        go_simp
      | 18, ho =>
        obtain rfl := Option.some.inj ho
        have e38 : a.tmps[38]?.getD undef = .func (.func 55) #[] #[.pointer (some ⟨g9, 0, none⟩), .pointer (some ⟨w.heap.size, 0, none⟩)] := slot_at (hdep ⟨14, .data⟩ (by simp) rfl _ 38 rfl rfl)
        have e41 : a.tmps[41]?.getD undef = .slice V.ab nb V.cb := slot_at (hdep ⟨17, .data⟩ (by simp) rfl _ 41 rfl rfl)
        refine lw_call (f := 55) (args := #[.slice V.ab nb V.cb, .pointer (some ⟨g9, 0, none⟩), .pointer (some ⟨w.heap.size, 0, none⟩)]) ?_ ?_
        · go_simp
        · exact (HG4.out u hk).mono (by
            rintro e u' ⟨rfl, hK⟩
            exact ⟨_, rfl, hK, rfl⟩)
      | 19, ho =>
        obtain rfl := Option.some.inj ho
        have e42 : a.tmps[42]?.getD undef = .string S4 := slot_at (hdep ⟨18, .data⟩ (by simp) rfl _ 42 rfl rfl)
        have h1 := HA4.out u
        refine lw_value (v := .string W4) (u' := u) ?_ (Kp.refl _ _) rfl
        go_simp
      | 20, ho =>
        obtain rfl := Option.some.inj ho
        refine lw_value (v := .func (.func 55) #[] #[.pointer (some ⟨g9, 0, none⟩), .pointer (some ⟨w.heap.size, 0, none⟩)]) (u' := u) ?_ (Kp.refl _ _) rfl
        go_simp
      | 21, ho =>
        obtain rfl := Option.some.inj ho
        refine lw_value (v := .pointer (some ⟨w.heap.size, 0, none⟩)) (u' := u) ?_ (Kp.refl _ _) rfl
        go_simp
      | 22, ho =>
        obtain rfl := Option.some.inj ho
        have e45 : a.tmps[45]?.getD undef = .pointer (some ⟨w.heap.size, 0, none⟩) := slot_at (hdep ⟨21, .data⟩ (by simp) rfl _ 45 rfl rfl)
        refine lw_value (v := .pointer (some ⟨w.heap.size, 5, none⟩)) (u' := u) ?_ (Kp.refl _ _) rfl
        go_simp
      | 23, ho =>
        obtain rfl := Option.some.inj ho
        have e46 : a.tmps[46]?.getD undef = .pointer (some ⟨w.heap.size, 5, none⟩) := slot_at (hdep ⟨22, .data⟩ (by simp) rfl _ 46 rfl rfl)
        have c1 := HC5.out u hk
        refine lw_value (v := .slice V.ac nc V.cc) (u' := u) ?_ (Kp.refl _ _) rfl
        go_simp
      | 24, ho =>
        obtain rfl := Option.some.inj ho
        have e44 : a.tmps[44]?.getD undef = .func (.func 55) #[] #[.pointer (some ⟨g9, 0, none⟩), .pointer (some ⟨w.heap.size, 0, none⟩)] := slot_at (hdep ⟨20, .data⟩ (by simp) rfl _ 44 rfl rfl)
        have e47 : a.tmps[47]?.getD undef = .slice V.ac nc V.cc := slot_at (hdep ⟨23, .data⟩ (by simp) rfl _ 47 rfl rfl)
        refine lw_call (f := 55) (args := #[.slice V.ac nc V.cc, .pointer (some ⟨g9, 0, none⟩), .pointer (some ⟨w.heap.size, 0, none⟩)]) ?_ ?_
        · go_simp
        · exact (HG5.out u hk).mono (by
            rintro e u' ⟨rfl, hK⟩
            exact ⟨_, rfl, hK, rfl⟩)
      | 25, ho =>
        obtain rfl := Option.some.inj ho
        have e48 : a.tmps[48]?.getD undef = .string S5 := slot_at (hdep ⟨24, .data⟩ (by simp) rfl _ 48 rfl rfl)
        have h1 := HA5.out u
        refine lw_value (v := .string W5) (u' := u) ?_ (Kp.refl _ _) rfl
        go_simp
      | 26, ho =>
        obtain rfl := Option.some.inj ho
        have e25 : a.tmps[25]?.getD undef = .string S0 := slot_at (hdep ⟨1, .data⟩ (by simp) rfl _ 25 rfl rfl)
        have e28 : a.tmps[28]?.getD undef = .string W1 := slot_at (hdep ⟨4, .data⟩ (by simp) rfl _ 28 rfl rfl)
        have e31 : a.tmps[31]?.getD undef = .string W2 := slot_at (hdep ⟨7, .data⟩ (by simp) rfl _ 31 rfl rfl)
        have e37 : a.tmps[37]?.getD undef = .string W3 := slot_at (hdep ⟨13, .data⟩ (by simp) rfl _ 37 rfl rfl)
        have e43 : a.tmps[43]?.getD undef = .string W4 := slot_at (hdep ⟨19, .data⟩ (by simp) rfl _ 43 rfl rfl)
        have e49 : a.tmps[49]?.getD undef = .string W5 := slot_at (hdep ⟨25, .data⟩ (by simp) rfl _ 49 rfl rfl)
        refine lw_value (v := .slice (some ⟨u.heap.size, 0, none⟩) 6 6) (u' := u.alloc (.cells #[.string S0, .string W1, .string W2, .string W3, .string W4, .string W5] 9)) ?_ ((Kp.refl _ _).alloc _) ⟨_, rfl, Blk.new _ _ _⟩
        go_simp
      | 27, ho =>
        obtain rfl := Option.some.inj ho
        have hV : (fun u v => ∃ g, v = .slice (some ⟨g, 0, none⟩) 6 6 ∧ Blk u g #[.string S0, .string W1, .string W2, .string W3, .string W4, .string W5] 9) u (a.tmps.getD 50 undef) := hdep ⟨26, .data⟩ (by simp) rfl _ 50 rfl rfl
        obtain ⟨g, ev, hB⟩ := hV
        have e50 := slot_at ev
        refine lw_call (f := 36) (args := #[.slice (some ⟨g, 0, none⟩) 6 6, .string ⟨#[32]⟩]) ?_ ?_
        · go_simp
        · exact (HJn.out u g hB).mono (by
            rintro e u' ⟨rfl, hK⟩
            exact ⟨_, rfl, hK, rfl⟩)
      | 28, ho =>
        obtain rfl := Option.some.inj ho
        have e51 : a.tmps[51]?.getD undef = .string JN := slot_at (hdep ⟨27, .data⟩ (by simp) rfl _ 51 rfl rfl)
        have h1 := HAD.out u
        refine lw_value (v := .string D) (u' := u) ?_ (Kp.refl _ _) rfl
        go_simp
      | n + 29, _ => exact absurd hp (by simp [upTo])
    case hendL4 =>
      intro a u hI
      have hsz : a.tmps.size = 53 := hI.size
      have hdf : a.defers = [] := hI.defers
      have f0 : a.tmps.getD 0 undef = _ := hI.off 0 (noDst_spec (p := upTo 29) (by kernel_rfl))
      have f1 : a.tmps.getD 1 undef = _ := hI.off 1 (noDst_spec (p := upTo 29) (by kernel_rfl))
      have f2 : a.tmps.getD 2 undef = _ := hI.off 2 (noDst_spec (p := upTo 29) (by kernel_rfl))
      have f3 : a.tmps.getD 3 undef = _ := hI.off 3 (noDst_spec (p := upTo 29) (by kernel_rfl))
      have f4 : a.tmps.getD 4 undef = _ := hI.off 4 (noDst_spec (p := upTo 29) (by kernel_rfl))
      have f5 : a.tmps.getD 5 undef = _ := hI.off 5 (noDst_spec (p := upTo 29) (by kernel_rfl))
      have f6 : a.tmps.getD 6 undef = _ := hI.off 6 (noDst_spec (p := upTo 29) (by kernel_rfl))
      have f7 : a.tmps.getD 7 undef = _ := hI.off 7 (noDst_spec (p := upTo 29) (by kernel_rfl))
      have f8 : a.tmps.getD 8 undef = _ := hI.off 8 (noDst_spec (p := upTo 29) (by kernel_rfl))
      have f9 : a.tmps.getD 9 undef = _ := hI.off 9 (noDst_spec (p := upTo 29) (by kernel_rfl))
      have f10 : a.tmps.getD 10 undef = _ := hI.off 10 (noDst_spec (p := upTo 29) (by kernel_rfl))
      have f11 : a.tmps.getD 11 undef = _ := hI.off 11 (noDst_spec (p := upTo 29) (by kernel_rfl))
      have f12 : a.tmps.getD 12 undef = _ := hI.off 12 (noDst_spec (p := upTo 29) (by kernel_rfl))
      have f13 : a.tmps.getD 13 undef = _ := hI.off 13 (noDst_spec (p := upTo 29) (by kernel_rfl))
      have f14 : a.tmps.getD 14 undef = _ := hI.off 14 (noDst_spec (p := upTo 29) (by kernel_rfl))
      have f15 : a.tmps.getD 15 undef = _ := hI.off 15 (noDst_spec (p := upTo 29) (by kernel_rfl))
      have f16 : a.tmps.getD 16 undef = _ := hI.off 16 (noDst_spec (p := upTo 29) (by kernel_rfl))
      have f17 : a.tmps.getD 17 undef = _ := hI.off 17 (noDst_spec (p := upTo 29) (by kernel_rfl))
      have f18 : a.tmps.getD 18 undef = _ := hI.off 18 (noDst_spec (p := upTo 29) (by kernel_rfl))
      have f19 : a.tmps.getD 19 undef = _ := hI.off 19 (noDst_spec (p := upTo 29) (by kernel_rfl))
      have f20 : a.tmps.getD 20 undef = _ := hI.off 20 (noDst_spec (p := upTo 29) (by kernel_rfl))
      have f21 : a.tmps.getD 21 undef = _ := hI.off 21 (noDst_spec (p := upTo 29) (by kernel_rfl))
      have f22 : a.tmps.getD 22 undef = _ := hI.off 22 (noDst_spec (p := upTo 29) (by kernel_rfl))
      have f23 : a.tmps.getD 23 undef = _ := hI.off 23 (noDst_spec (p := upTo 29) (by kernel_rfl))
      have f24 : a.tmps.getD 24 undef = (.int .i64 (k : Int)) := hI.val 0 _ 24 rfl rfl rfl
      have f25 : a.tmps.getD 25 undef = .string S0 := hI.val 1 _ 25 rfl rfl rfl
      have f26 : a.tmps.getD 26 undef = (.slice sa sn sc) := hI.val 2 _ 26 rfl rfl rfl
      have f27 : a.tmps.getD 27 undef = .string S1 := hI.val 3 _ 27 rfl rfl rfl
      have f28 : a.tmps.getD 28 undef = .string W1 := hI.val 4 _ 28 rfl rfl rfl
      have f29 : a.tmps.getD 29 undef = (.slice bA ni bC) := hI.val 5 _ 29 rfl rfl rfl
      have f30 : a.tmps.getD 30 undef = .string S2 := hI.val 6 _ 30 rfl rfl rfl
      have f31 : a.tmps.getD 31 undef = .string W2 := hI.val 7 _ 31 rfl rfl rfl
      have f32 : a.tmps.getD 32 undef = .func (.func 55) #[] #[.pointer (some ⟨g9, 0, none⟩), .pointer (some ⟨w.heap.size, 0, none⟩)] := hI.val 8 _ 32 rfl rfl rfl
      have f33 : a.tmps.getD 33 undef = .pointer (some ⟨w.heap.size, 0, none⟩) := hI.val 9 _ 33 rfl rfl rfl
      have f34 : a.tmps.getD 34 undef = .pointer (some ⟨w.heap.size, 3, none⟩) := hI.val 10 _ 34 rfl rfl rfl
      have f35 : a.tmps.getD 35 undef = .slice V.ao no V.co := hI.val 11 _ 35 rfl rfl rfl
      have f36 : a.tmps.getD 36 undef = .string S3 := hI.val 12 _ 36 rfl rfl rfl
      have f37 : a.tmps.getD 37 undef = .string W3 := hI.val 13 _ 37 rfl rfl rfl
      have f38 : a.tmps.getD 38 undef = .func (.func 55) #[] #[.pointer (some ⟨g9, 0, none⟩), .pointer (some ⟨w.heap.size, 0, none⟩)] := hI.val 14 _ 38 rfl rfl rfl
      have f39 : a.tmps.getD 39 undef = .pointer (some ⟨w.heap.size, 0, none⟩) := hI.val 15 _ 39 rfl rfl rfl
      have f40 : a.tmps.getD 40 undef = .pointer (some ⟨w.heap.size, 4, none⟩) := hI.val 16 _ 40 rfl rfl rfl
      have f41 : a.tmps.getD 41 undef = .slice V.ab nb V.cb := hI.val 17 _ 41 rfl rfl rfl
      have f42 : a.tmps.getD 42 undef = .string S4 := hI.val 18 _ 42 rfl rfl rfl
      have f43 : a.tmps.getD 43 undef = .string W4 := hI.val 19 _ 43 rfl rfl rfl
      have f44 : a.tmps.getD 44 undef = .func (.func 55) #[] #[.pointer (some ⟨g9, 0, none⟩), .pointer (some ⟨w.heap.size, 0, none⟩)] := hI.val 20 _ 44 rfl rfl rfl
      have f45 : a.tmps.getD 45 undef = .pointer (some ⟨w.heap.size, 0, none⟩) := hI.val 21 _ 45 rfl rfl rfl
      have f46 : a.tmps.getD 46 undef = .pointer (some ⟨w.heap.size, 5, none⟩) := hI.val 22 _ 46 rfl rfl rfl
      have f47 : a.tmps.getD 47 undef = .slice V.ac nc V.cc := hI.val 23 _ 47 rfl rfl rfl
      have f48 : a.tmps.getD 48 undef = .string S5 := hI.val 24 _ 48 rfl rfl rfl
      have f49 : a.tmps.getD 49 undef = .string W5 := hI.val 25 _ 49 rfl rfl rfl
      have g50 : ((fun u v => ∃ g, v = .slice (some ⟨g, 0, none⟩) 6 6 ∧ Blk u g #[.string S0, .string W1, .string W2, .string W3, .string W4, .string W5] 9)) u (a.tmps.getD 50 undef) := hI.val 26 _ 50 rfl rfl rfl
      have f51 : a.tmps.getD 51 undef = .string JN := hI.val 27 _ 51 rfl rfl rfl
      have f52 : a.tmps.getD 52 undef = .string D := hI.val 28 _ 52 rfl rfl rfl
      have ha : a = ⟨#[a.tmps.getD 0 undef, a.tmps.getD 1 undef, a.tmps.getD 2 undef, a.tmps.getD 3 undef, a.tmps.getD 4 undef, a.tmps.getD 5 undef, a.tmps.getD 6 undef, a.tmps.getD 7 undef, a.tmps.getD 8 undef, a.tmps.getD 9 undef, a.tmps.getD 10 undef, a.tmps.getD 11 undef, a.tmps.getD 12 undef, a.tmps.getD 13 undef, a.tmps.getD 14 undef, a.tmps.getD 15 undef, a.tmps.getD 16 undef, a.tmps.getD 17 undef, a.tmps.getD 18 undef, a.tmps.getD 19 undef, a.tmps.getD 20 undef, a.tmps.getD 21 undef, a.tmps.getD 22 undef, a.tmps.getD 23 undef, a.tmps.getD 24 undef, a.tmps.getD 25 undef, a.tmps.getD 26 undef, a.tmps.getD 27 undef, a.tmps.getD 28 undef, a.tmps.getD 29 undef, a.tmps.getD 30 undef, a.tmps.getD 31 undef, a.tmps.getD 32 undef, a.tmps.getD 33 undef, a.tmps.getD 34 undef, a.tmps.getD 35 undef, a.tmps.getD 36 undef, a.tmps.getD 37 undef, a.tmps.getD 38 undef, a.tmps.getD 39 undef, a.tmps.getD 40 undef, a.tmps.getD 41 undef, a.tmps.getD 42 undef, a.tmps.getD 43 undef, a.tmps.getD 44 undef, a.tmps.getD 45 undef, a.tmps.getD 46 undef, a.tmps.getD 47 undef, a.tmps.getD 48 undef, a.tmps.getD 49 undef, a.tmps.getD 50 undef, a.tmps.getD 51 undef, a.tmps.getD 52 undef], a.defers⟩ := act_list a 53 hsz
      rw [hdf, f0, f1, f2, f3, f4, f5, f6, f7, f8, f9, f10, f11, f12, f13, f14, f15, f16, f17, f18, f19, f20, f21, f22, f23, f24, f25, f26, f27, f28, f29, f30, f31, f32, f33, f34, f35, f36, f37, f38, f39, f40, f41, f42, f43, f44, f45, f46, f47, f48, f49, f51, f52] at ha
      obtain ⟨x50, hx50⟩ : ∃ x, a.tmps.getD 50 undef = x := ⟨_, rfl⟩
      rw [hx50] at ha
      rw [hx50] at g50
      have hku := hI.kp
      clear hI hsz hdf f0 f1 f2 f3 f4 f5 f6 f7 f8 f9 f10 f11 f12 f13 f14 f15 f16 f17 f18 f19 f20 f21 f22 f23 f24 f25 f26 f27 f28 f29 f30 f31 f32 f33 f34 f35 f36 f37 f38 f39 f40 f41 f42 f43 f44 f45 f46 f47 f48 f49 f51 f52 hx50
      subst ha
      refine wpAny_tail 29 rfl (by kernel_rfl) ?_
      simp only [List.drop_succ_cons, List.drop_zero]
      have HE := Lib.hid (HKf.out.trans hku (fun _ _ h => h))
      clear hku g50
      go_wp2_with fail
      go_ret
      exact ⟨congrArg (fun x => Ending.returned (Value.string x)) HD.out.symm, HE.out⟩

end Go.Proofs.YtghlklcolepfmaaGreatDoor

/-
  strings.Builder: WriteByte, WriteString, with a sharper word on what is written.
-/
namespace Go.Proofs.YtghlklcolepfmaaGreatDoor
open Go.RowKit

def BFr (b : Nat) (w : World) (j : Nat) : Prop := j = b ∨ ∃ c, Blk w j c 5

theorem BFr.not {b j : Nat} {w : World} {c : Array Value} {t : TypeId} (h : Blk w j c t) (hj : j ≠ b) (ht : t ≠ 5) : ¬ BFr b w j := by
 rintro (e | ⟨c', h'⟩)
 ·exact hj e
 ·unfold Blk at h h'
  rw [h] at h'
  simp at h'
  exact ht h'.2

end Go.Proofs.YtghlklcolepfmaaGreatDoor

/-
  (*latchet/latchetref17.M).Breaks.
-/
namespace Go.Proofs.YtghlklcolepfmaaGreatDoor
open Go.RowKit

theorem SL.low {C : Circ} {st : List Bool} {rows : List (List Bool)} {B B' k : Nat} {v5 v6 : Value} {wr : World} (h : SL C st rows B k v5 v6 wr) (hb : B' ≤ B) : SL C st rows B' k v5 v6 wr := by
 obtain ⟨⟨vs, h1, h2, h3⟩, h4⟩ := h
 exact ⟨⟨vs, h1.mono hb, h2, fun j hj => by obtain ⟨x, e, hx⟩ := h3 j hj; exact ⟨x, e, hx.mono hb⟩⟩, h4.mono hb⟩

theorem SL.grid {C : Circ} {st : List Bool} {rows : List (List Bool)} {B k : Nat} {v5 v6 : Value} {wr : World} (h : SL C st rows B k v5 v6 wr) (hl : C.lats.length ≤ 1000000) (hk : k ≤ 1000000) : ∃ a c, v5 = .slice a k c ∧ GS wr a k c ((List.range k).map (stateM C st rows)) := by
 obtain ⟨⟨vs, h1, h2, h3⟩, h4⟩ := h
 obtain ⟨a, c, e, -, -, -, hr⟩ := h1.form
 rw [h2] at e
 refine ⟨a, c, e, ⟨vs, hr, h2, fun j hj => ?_⟩, by simp, hk⟩
 obtain ⟨x, ex, hx⟩ := h3 j hj
 obtain ⟨a2, c2, e2, -, -, -, hr2⟩ := hx.form
 rw [bv_length, stateM_len] at e2
 subst e2
 have e3 : ((List.range k).map (stateM C st rows))[j]?.getD [] = stateM C st rows j := by
  rw [List.getElem?_map, List.getElem?_range hj]; rfl
 rw [e3]
 exact ⟨a2, _, c2, ex, hr2, stateM_len C st rows j, by omega⟩

theorem GS.kp {w w' : World} {a : Option Addr} {n c : Nat} {L : List (List Bool)} (h : GS w a n c L) (k : Kp (fun _ => False) w w') : GS w' a n c L := by
 obtain ⟨⟨vs, h1, h2, h3⟩, h4, h5⟩ := h
 exact ⟨⟨vs, h1.kp k (fun _ _ h => h), h2, fun j hj => by obtain ⟨b, m, d, e, hb⟩ := h3 j hj; exact ⟨b, m, d, e, hb.kp k⟩⟩, h4, h5⟩

theorem GS.at {w : World} {a : Option Addr} {n c : Nat} {L : List (List Bool)} (h : GS w a n c L) {k : Nat} (hk : k < n) : ∃ bg og b m d, a = some ⟨bg, og, none⟩ ∧ w.cell? ⟨bg, og + k, none⟩ = some (.slice b m d) ∧ BS w b m (L[k]?.getD []) := by
 obtain ⟨⟨vs, h1, h2, h3⟩, h4, h5⟩ := h
 obtain ⟨b, m, d, e, hb⟩ := h3 k hk
 obtain ⟨bg, og, ea, ec⟩ := h1 k _ e
 exact ⟨bg, og, b, m, d, ea, ec, hb⟩

theorem GS.states {w : World} {a : Option Addr} {n c : Nat} {C : Circ} {st : List Bool} {rows : List (List Bool)} (h : GS w a n c ((List.range n).map (stateM C st rows))) {k : Nat} (hk : k < n) : ∃ bg og b m d, a = some ⟨bg, og, none⟩ ∧ w.cell? ⟨bg, og + k, none⟩ = some (.slice b m d) ∧ BS w b m (stateM C st rows k) := by
 obtain ⟨bg, og, b, m, d, h1, h2, h3⟩ := h.at hk
 rw [List.getElem?_map, List.getElem?_range hk] at h3
 exact ⟨bg, og, b, m, d, h1, h2, h3⟩

end Go.Proofs.YtghlklcolepfmaaGreatDoor

/-
  strings.Builder: WriteString, where the bytes lie above a bound of their own.
-/
namespace Go.Proofs.YtghlklcolepfmaaGreatDoor
open Go.RowKit

structure BldG (w : World) (B2 b : Nat) (bs : List Value) : Prop where
  it : ∃ p v, (p = .pointer none ∨ p = .pointer (some ⟨b, 0, none⟩)) ∧ Blk w b #[p, v] 59 ∧ Own w B2 5 v bs
  lt : b < B2

theorem BldG.start {w w' : World} {b B2 : Nat} (h : Blk w b #[.pointer none, .slice none 0 0] 59) (hk : Kp (fun _ => False) w w') (hB : b < B2) : BldG w' B2 b [] :=
 ⟨⟨_, _, .inl rfl, h.kp hk (fun h => h), Own.nil _ _ _⟩, hB⟩
theorem BldG.kp {w w' : World} {b B2 : Nat} {bs : List Value} (h : BldG w B2 b bs) (k : Kp (fun _ => False) w w') : BldG w' B2 b bs := by
 obtain ⟨⟨p, v, h1, h2, h3⟩, h4⟩ := h
 exact ⟨⟨p, v, h1, h2.kp k (fun h => h), h3.kp k (fun _ _ h => h)⟩, h4⟩
theorem BldG.is {w : World} {b B2 : Nat} {bs : List Value} (h : BldG w B2 b bs) : Lib.IsBuilder 59 5 b b bs w := by
 obtain ⟨⟨p, v, h1, h2, h3⟩, h4⟩ := h
 have hne : v.ownBlock ≠ some b := fun e => by have := (h3.lt b e).1; omega
 have hO : w.ownsRow b 5 1 v bs.length bs := h3.mono (by omega)
 rcases h1 with rfl | rfl
 ·exact .inl ⟨Nat.le_refl _, v, h2, hO, hne⟩
 ·exact .inr ⟨Nat.le_refl _, v, h2, hO, hne⟩

theorem bld_checkG (B2 b : Nat) (bs : List Value) (w : World) (h : BldG w B2 b bs) :
  Calls Tryz.prog 52 #[.pointer (some ⟨b, 0, none⟩)] w fun e w' => e = .returned (.tuple #[]) ∧ (∃ v, Blk w' b #[.pointer (some ⟨b, 0, none⟩), v] 59 ∧ Own w' B2 5 v bs) ∧ Kp (· = b) w w' := by
 have hi := h.is
 obtain ⟨⟨p, v, h1, h2, h3⟩, h4⟩ := h
 rcases h1 with rfl | rfl
 ·refine (bld_fresh b w (h2.cell rfl) ?_ (h2.free 0)).mono ?_
  ·unfold World.shape?
   rw [show w.heap[b]? = _ from h2]
   rfl
  ·rintro e w' ⟨rfl, rfl⟩
   exact ⟨rfl, ⟨v, h2.set_same 0 _, h3.kp (Kp.set w ⟨b, 0, none⟩ _) (fun j hj e => by have := (h3.lt j hj).1; have e2 : j = b := e; omega)⟩, Kp.set w ⟨b, 0, none⟩ _⟩
 ·refine (bld_used b w (h2.cell rfl)).mono ?_
  rintro e w' ⟨rfl, rfl⟩
  exact ⟨rfl, ⟨v, h2, h3⟩, Kp.refl _ _⟩

set_option maxHeartbeats 1000000 in
set_option maxRecDepth 100000 in
theorem bld_stringG (B2 b : Nat) (bs : List Value) (s : ByteArray) (w : World) (h : BldG w B2 b bs) (hlen : bs.length + s.size ≤ 140737488355328) (hBw : B2 ≤ w.heap.size) :
  Calls Tryz.prog 21 #[.pointer (some ⟨b, 0, none⟩), .string s] w fun e w' => e = .returned (.tuple #[.int .i64 s.size, .nilIface]) ∧ BldG w' B2 b (bs ++ Lib.strCells s) ∧ Kp (fun j => j = b ∨ B2 ≤ j) w w' := by
 obtain ⟨i0, hi, hz0, hz1, hz2⟩ := info_parts bldByte
 have hlt2 := h.lt
 go_enter Tryz.func21, Tryz.ntmps21
 go_wp2_with (go_at_call 52; refine (bld_checkG B2 b bs _ h).mono ?_)
 rintro e w1 ⟨rfl, ⟨v, hbk, hown⟩, hk1⟩
 have hs1 := hk1.size
 have c0 : w1.cell? ⟨b, 0, none⟩ = some (.pointer (some ⟨b, 0, none⟩)) := hbk.cell rfl
 have c1 : w1.cell? ⟨b, 1, none⟩ = some v := hbk.cell rfl
 go_wp2_with (at_builtin; refine Lib.wpList_append_own_string _ rfl _ _ 57 9 rfl B2 5 i0 Tryz.underlying57 Tryz.underlying9 hi hz0 hz1 hz2 _ _ _ rfl hown s rfl ?c3 ?c4 ?c5 ?_)
 case c3 => unfold maxLen; omega
 case c4 => omega
 case c5 => omega
 intro v' w2 hown' hgrow _
 have hlt : b < w1.heap.size := hbk.lt
 have hb2 : Blk w2 b #[.pointer (some ⟨b, 0, none⟩), v] 59 := by
  unfold Blk
  rw [hgrow.block b hlt (fun e => by have := (hown.lt b e.symm).1; omega)]
  exact hbk
 have d0 : w2.cell? ⟨b, 0, none⟩ = some (.pointer (some ⟨b, 0, none⟩)) := hb2.cell rfl
 have d1 : w2.cell? ⟨b, 1, none⟩ = some v := hb2.cell rfl
 have f1 : w2.frozen? ⟨b, 1, none⟩ = false := hb2.free 1
 have hO2 : Own w2 B2 5 v' (bs ++ Lib.strCells s) := by
  unfold Own
  rw [List.length_append, Lib.strCells_length]
  exact hown'
 obtain ⟨ao, n', cap, rfl⟩ : ∃ ao n' cap, v' = .slice ao n' cap := by
  rcases hown'.2 with ⟨hv, _⟩ | ⟨g, cap, cur, hv, _⟩
  ·exact ⟨_, _, _, hv⟩
  ·exact ⟨_, _, _, hv⟩
 have HE := Lib.hid (show BldG (w2.setCell ⟨b, 1, none⟩ (.slice ao n' cap)) B2 b (bs ++ Lib.strCells s) ∧ Kp (fun j => j = b ∨ B2 ≤ j) w (w2.setCell ⟨b, 1, none⟩ (.slice ao n' cap)) from
  ⟨⟨⟨_, _, .inr rfl, hb2.set_same 1 _, hO2.kp (Kp.set w2 ⟨b, 1, none⟩ _) (fun j hj e => by have := (hO2.lt j hj).1; have e2 : j = b := e; omega)⟩, hlt2⟩,
   ((hk1.mono (fun i _ e => .inl e)).grown hgrow (fun k hk hl => .inr (hown.lt k hk).1)).setCell (p := ⟨b, 1, none⟩) (fun _ => .inl rfl) _⟩)
 clear hown' hgrow hO2
 go_wp2
 go_ret2
 exact ⟨rfl, HE.out⟩

theorem SL.kpG {C : Circ} {st : List Bool} {rows : List (List Bool)} {B k : Nat} {v5 v6 : Value} {u wr : World} {S : Nat → Prop} (h : SL C st rows B k v5 v6 u) (hk : Kp S u wr) (hS : ∀ j, S j → j < B ∨ u.heap.size ≤ j) : SL C st rows B k v5 v6 wr := by
 have ok : ∀ {e v cs}, Own u B e v cs → Own wr B e v cs := fun ho => ho.kp hk (fun j hj hs => by have := ho.lt j hj; rcases hS j hs with h | h <;> omega)
 obtain ⟨⟨vs, h1, h2, h3⟩, h4⟩ := h
 refine ⟨⟨vs, ok h1, h2, fun j hj => ?_⟩, ok h4⟩
 obtain ⟨x, hx, ho⟩ := h3 j hj
 exact ⟨x, hx, ok ho⟩
theorem SL.form {C : Circ} {st : List Bool} {rows : List (List Bool)} {B k : Nat} {v5 v6 : Value} {u : World} (h : SL C st rows B k v5 v6 u) : ∃ a c, v5 = .slice a k c := by
 obtain ⟨⟨vs, h1, h2, -⟩, -⟩ := h
 obtain ⟨a, c, e, -⟩ := h1.form
 rw [h2] at e
 exact ⟨a, c, e⟩
theorem SL.at {C : Circ} {st : List Bool} {rows : List (List Bool)} {B k : Nat} {a : Option Addr} {c : Nat} {v6 : Value} {u : World} (h : SL C st rows B k (.slice a k c) v6 u) (hl : C.lats.length ≤ 1000000) {j : Nat} (hj : j < k) :
  ∃ g og b m d, a = some ⟨g, og, none⟩ ∧ u.cell? ⟨g, og + j, none⟩ = some (.slice b m d) ∧ BS u b m (stateM C st rows j) ∧ (b = none → d = 0) := by
 obtain ⟨⟨vs, h1, h2, h3⟩, -⟩ := h
 obtain ⟨x, hx, ho⟩ := h3 j hj
 obtain ⟨b, d, ev, -, -, hn, -, hr⟩ := ownForm ho
 rw [bv_length, stateM_len] at ev
 subst ev
 obtain ⟨a', c', e, -, -, -, hrow⟩ := h1.form
 simp only [Value.slice.injEq] at e
 obtain ⟨rfl, -, -⟩ := e
 obtain ⟨g, og, ea, hc⟩ := hrow j _ hx
 exact ⟨g, og, b, _, d, ea, hc, ⟨hr, stateM_len _ _ _ _, by omega⟩, hn⟩

end Go.Proofs.YtghlklcolepfmaaGreatDoor

/-
  latchetref47.Write. (Printed by mkrefwr.py.)
-/
namespace Go.Proofs.YtghlklcolepfmaaGreatDoor
open Go.RowKit

theorem CFew.big {C : Circ} {m : Nat} (hf : CFew C m) (hm : m ≤ 1000000) : CFew C 1000000 := ⟨Nat.le_trans hf.i hm, Nat.le_trans hf.l hm, Nat.le_trans hf.o hm, Nat.le_trans hf.b hm, Nat.le_trans hf.c hm, Nat.le_trans hf.g hm⟩

set_option maxRecDepth 100000 in
set_option maxHeartbeats 8000000 in
theorem ref47_Write (V : CV) (C : Circ) (sa : Option Addr) (sn sc : Nat) (ga : Option Addr) (gn gc : Nat) (st : List Bool) (rows : List (List Bool)) (w : World) (h : CAt w V C) (hf : CFew C 1000) (hg : GoodC C) (hs : BS w sa sn st) (hi : GS w ga gn gc rows) (hgn : gn ≤ 1000) :
  Calls Tryz.prog 9 #[.agg (cvals V C), .agg #[.slice sa sn sc, .slice ga gn gc]] w fun e w' => e = .returned (.string ⟨(trcB C st rows gn).toArray⟩) ∧ Kp (fun _ => False) w w' := by
 obtain ⟨wz, hwz⟩ : ∃ wz : World, wz = (w.alloc (.cells (cvals V C) 27)).alloc (.cells #[.slice sa sn sc, .slice ga gn gc] 31) := ⟨_, rfl⟩
 have HK0 := Lib.hid (show Kp (fun _ => False) w wz by rw [hwz]; exact ((Kp.refl _ w).alloc _).alloc _)
 have HC0 := Lib.hid (show Blk wz w.heap.size #[.int .i64 C.max, .slice V.ai C.ins.length V.ci, .slice V.al C.lats.length V.cl, .slice V.ao C.outs.length V.co, .slice V.ab C.bads.length V.cb, .slice V.ac C.cons.length V.cc, .slice V.ag C.gates.length V.cg, .slice V.ay V.ny V.cy, .string V.cm] 27 by rw [hwz]; exact (Blk.new w (cvals V C) _).alloc _)
 have HR0 := Lib.hid (show Blk wz (w.heap.size + 1) #[.slice sa sn sc, .slice ga gn gc] 31 by rw [hwz]; exact two_blk _ _ _ _ _)
 obtain ⟨d0, d1, d2, d3, d4, d5, d6, d7, d8⟩ := Blk.cells9 HC0.out
 have HZ := Lib.hid hwz
 have HF := Lib.hid hf
 have HG := Lib.hid hg
 have HSt := Lib.hid (hs.kp HK0.out)
 have HIn := Lib.hid (GS.kp hi HK0.out)
 have HNw := Lib.hid (ref17_New V C wz (h.kp HK0.out) (hf.big (by decide)) hg)
 unfold cvals at HNw HZ ⊢
 obtain ⟨D, hD⟩ : ∃ D : ByteArray, (⟨(trcB C st rows gn).toArray⟩ : ByteArray) = D := ⟨_, rfl⟩
 rw [hD]
 have HD := Lib.hid hD
 have HLen := Lib.hid (fun k (hk : k ≤ gn) => trcB_len (st := st) (rows := rows) hf k (by omega))
 clear h hf hg hs hi hwz hD
 go_enter Tryz.func9, Tryz.ntmps9
 go_upto_region 1 with fail
 rw [← HZ.out]
 clear HZ
 go_upto_region 2 with (go_at_call 24; with_reducible refine Calls.mono HNw.out ?_; rintro e w1 ⟨p, a4, c4, a5, c5, rfl, hM, hK1⟩; have HM1 := Lib.hid hM; have HK1 := Lib.hid hK1; clear hM hK1)
 clear d0 d1 d2 d3 d4 d5 d6 d7 d8 HNw
 have HR1 := Lib.hid (HR0.out.kp HK1.out (fun h => h))
 have r0 := HR1.out.cell (i := 0) (v := .slice sa sn sc) rfl
 have r1 := HR1.out.cell (i := 1) (v := .slice ga gn gc) rfl
 have HSs := Lib.hid (ref17_States V C p a4 a5 c4 c5 sa sn sc ga gn gc st rows w1 HM1.out (HF.out.big (by decide)) HG.out (HSt.out.kp HK1.out) (GS.kp HIn.out HK1.out))
 go_upto_region 3 with (go_at_call 25; with_reducible refine Calls.mono HSs.out ?_; rintro e w2 ⟨v7, rfl, ⟨v6, hSL⟩, hK2⟩; have hq := SL.grid hSL (Nat.le_trans HF.out.l (by decide)) (by omega); obtain ⟨xa, c7, rfl, hgr⟩ := hq; have HGr := Lib.hid hgr; have HK2 := Lib.hid hK2; clear hSL hgr hK2)
 clear r0 r1 HSs
 have HK12 := Lib.hid (HK1.out.trans HK2.out (fun _ _ h => h))
 have HM2 := Lib.hid (HM1.out.kp HK2.out)
 have HR2 := Lib.hid (HR1.out.kp HK2.out (fun h => h))
 have HIn2 := Lib.hid (GS.kp HIn.out HK12.out)
 go_wp2_with fail
 go_loopw [6, 8] (fun v6 v8 wr => ∃ (k : Nat) (Tq : ByteArray), v8 = .int .i64 k ∧ k ≤ gn ∧ v6 = .string Tq ∧ Tq = ⟨(trcB C st rows k).toArray⟩ ∧ Kp (fun _ => False) w2 wr) (fun _ v8 _ => gn - (intOf v8).toNat)
 case atStart => exact ⟨0, _, rfl, Nat.zero_le _, rfl, rfl, Kp.refl _ _⟩
 case round =>
  obtain ⟨k, Tq, rfl, hk, rfl, hTX, hK⟩ := hrel
  obtain ⟨wp, rfl⟩ : ∃ wp : World, wp = wr := ⟨_, rfl⟩
  have HK := Lib.hid hK
  have HTX := Lib.hid hTX
  clear hK hTX
  by_cases hlt : k < gn
  ·obtain ⟨bg, og, xb, xm, xd, exa, hxc, hxs⟩ := GS.states HGr.out hlt
   obtain ⟨bi, oi, yb, ym, yd, eya, hyc, hys⟩ := GS.at HIn2.out hlt
   subst exa eya
   have HXc := Lib.hid (HK.out.cellK hxc)
   have HYc := Lib.hid (HK.out.cellK hyc)
   have HGc := Lib.hid (HK.out.cellK (HR2.out.cell (i := 1) (v := .slice (some ⟨bi, oi, none⟩) gn gc) rfl))
   have hxm : xm ≤ 1000 := by rw [← hxs.len, stateM_len]; exact HF.out.l
   have HLn := Lib.hid (fun u (hu : Kp (fun _ => False) wp u) => ref47_Line V C p a4 a5 c4 c5 k xb xm xd yb ym yd (stateM C st rows k) (rows[k]?.getD []) u (HM2.out.kp (HK.out.trans hu (fun _ _ h => h))) HF.out HG.out (hxs.kp (HK.out.trans hu (fun _ _ h => h))) hxm (hys.kp (HK.out.trans hu (fun _ _ h => h))) (by omega))
   have hlt1 := HLen.out k hk
   have hln := trcL_len (k := k) (st := stateM C st rows k) (ip := rows[k]?.getD []) HF.out (by omega) (by rw [stateM_len]; exact HF.out.l)
   have hsc := trcB_succ C st rows k
   obtain ⟨ll, hll⟩ : ∃ l, trcL C k (stateM C st rows k) (rows[k]?.getD []) = l := ⟨_, rfl⟩
   rw [hll] at HLn hln hsc
   obtain ⟨LN, hLN⟩ : ∃ s : ByteArray, (⟨ll.toArray⟩ : ByteArray) = s := ⟨_, rfl⟩
   rw [hLN] at HLn
   obtain ⟨A1, hA1⟩ : ∃ A : ByteArray, Tq ++ LN = A := ⟨_, rfl⟩
   obtain ⟨A2, hA2⟩ : ∃ A : ByteArray, A1 ++ ⟨#[10]⟩ = A := ⟨_, rfl⟩
   have zT : Tq.size ≤ 6001000 := by rw [HTX.out, ba_list]; have : 6001 * k ≤ 6001 * 1000 := Nat.mul_le_mul_left _ (by omega); omega
   have zL : LN.size ≤ 6000 := by rw [← hLN, ba_list]; exact hln
   have zA : A1.size ≤ 6007000 := by rw [← hA1, ByteArray.size_append]; omega
   have HA1 := Lib.hid (fun (u : World) => show (Op.stringOp .add Tq LN).run Tryz.prog u = .ok (.string A1) u by
    rw [← hA1]
    exact run_string_add_sum _ _ _ (by omega))
   have HA2 := Lib.hid (fun (u : World) => show (Op.stringOp .add A1 ⟨#[10]⟩).run Tryz.prog u = .ok (.string A2) u by
    rw [← hA2]
    exact run_string_add_sum _ _ _ (by have := (by decide : (⟨#[10]⟩ : ByteArray).size ≤ 1); omega))
   have HN := Lib.hid (show A2 = ⟨(trcB C st rows (k + 1)).toArray⟩ by
    rw [← hA2, ← hA1, ← hLN, HTX.out, hsc, show (⟨#[10]⟩ : ByteArray) = ⟨([10] : List UInt8).toArray⟩ from rfl, cat_bytes (trcB C st rows k) ll, cat_bytes _ [10], List.append_assoc])
   have q0 : (0 : Int) ≤ (k : Int) := by omega
   have q1 : (k : Int) < (gn : Int) := by omega
   clear hxc hxs hyc hys hxm hlt1 hln hsc hll hLN hA1 hA2 zT zL zA HTX
   go_upto_region 6 with fail
   refine wp_region_loose (p := upTo 15) (V := atV [EqV ((.string Tq)), EqV ((.pointer (some ⟨p, 0, none⟩))), EqV ((.int .i64 (k : Int))), EqV ((.slice (some ⟨bg, og, none⟩) gn c7)), EqV ((.int .i64 (k : Int))), EqV (.pointer (some ⟨bg, og + k, none⟩)), EqV (.slice xb xm xd), EqV (.pointer (some ⟨w.heap.size + 1, 1, none⟩)), EqV (.slice (some ⟨bi, oi, none⟩) gn gc), EqV ((.int .i64 (k : Int))), EqV (.pointer (some ⟨bi, oi + k, none⟩)), EqV (.slice yb ym yd), EqV (.string LN), EqV (.string A1), EqV (.string A2)]) (LP := #[true, true, true, true, true, true, true, true, true, true, true, true, true, true, true, false]) (K := 1) (by kernel_rfl) (by kernel_rfl) (atV_st ?hstLL) ?hstepLL (by kernel_rfl) ?hLPLL (by kernel_rfl) ?hendLL
   case hstLL =>
    intro W h
    simp only [List.mem_cons, List.not_mem_nil, or_false] at h
    rcases h with rfl | rfl | rfl | rfl | rfl | rfl | rfl | rfl | rfl | rfl | rfl | rfl | rfl | rfl | rfl <;> first | exact EqV.st _ | exact EqV.st _
   case hLPLL => exact upTo_spec (by kernel_rfl)
   case hstepLL =>
    intro i o ho hp a u hk hoff hdep
    have e3 : a.tmps[3]?.getD undef = (.pointer (some ⟨w.heap.size + 1, 0, none⟩)) := slot_at (hoff 3 (noDst_spec (by kernel_rfl)))
    have e5 : a.tmps[5]?.getD undef = (.pointer (some ⟨p, 0, none⟩)) := slot_at (hoff 5 (noDst_spec (by kernel_rfl)))
    have e6 : a.tmps[6]?.getD undef = (.string Tq) := slot_at (hoff 6 (noDst_spec (by kernel_rfl)))
    have e7 : a.tmps[7]?.getD undef = (.slice (some ⟨bg, og, none⟩) gn c7) := slot_at (hoff 7 (noDst_spec (by kernel_rfl)))
    have e8 : a.tmps[8]?.getD undef = (.int .i64 (k : Int)) := slot_at (hoff 8 (noDst_spec (by kernel_rfl)))
    clear hoff
    match i, ho with
    |0, ho =>
     obtain rfl := Option.some.inj ho
     refine lw_value (v := (.string Tq)) (u' := u) ?_ (Kp.refl _ _) rfl
     go_simp
    |1, ho =>
     obtain rfl := Option.some.inj ho
     refine lw_value (v := (.pointer (some ⟨p, 0, none⟩))) (u' := u) ?_ (Kp.refl _ _) rfl
     go_simp
    |2, ho =>
     obtain rfl := Option.some.inj ho
     refine lw_value (v := (.int .i64 (k : Int))) (u' := u) ?_ (Kp.refl _ _) rfl
     go_simp
    |3, ho =>
     obtain rfl := Option.some.inj ho
     refine lw_value (v := (.slice (some ⟨bg, og, none⟩) gn c7)) (u' := u) ?_ (Kp.refl _ _) rfl
     go_simp
    |4, ho =>
     obtain rfl := Option.some.inj ho
     refine lw_value (v := (.int .i64 (k : Int))) (u' := u) ?_ (Kp.refl _ _) rfl
     go_simp
    |5, ho =>
     obtain rfl := Option.some.inj ho
     have e23 : a.tmps[23]?.getD undef = (.slice (some ⟨bg, og, none⟩) gn c7) := slot_at (hdep ⟨3, .data⟩ (by simp) rfl _ 23 rfl rfl)
     have e24 : a.tmps[24]?.getD undef = (.int .i64 (k : Int)) := slot_at (hdep ⟨4, .data⟩ (by simp) rfl _ 24 rfl rfl)
     refine lw_value (v := .pointer (some ⟨bg, og + k, none⟩)) (u' := u) ?_ (Kp.refl _ _) rfl
     go_simp
    |6, ho =>
     obtain rfl := Option.some.inj ho
     have e25 : a.tmps[25]?.getD undef = .pointer (some ⟨bg, og + k, none⟩) := slot_at (hdep ⟨5, .data⟩ (by simp) rfl _ 25 rfl rfl)
     have c1 := hk.cellK HXc.out
     refine lw_value (v := .slice xb xm xd) (u' := u) ?_ (Kp.refl _ _) rfl
     go_simp
    |7, ho =>
     obtain rfl := Option.some.inj ho
     refine lw_value (v := .pointer (some ⟨w.heap.size + 1, 1, none⟩)) (u' := u) ?_ (Kp.refl _ _) rfl
     go_simp
    |8, ho =>
     obtain rfl := Option.some.inj ho
     have e27 : a.tmps[27]?.getD undef = .pointer (some ⟨w.heap.size + 1, 1, none⟩) := slot_at (hdep ⟨7, .data⟩ (by simp) rfl _ 27 rfl rfl)
     have c1 := hk.cellK HGc.out
     refine lw_value (v := .slice (some ⟨bi, oi, none⟩) gn gc) (u' := u) ?_ (Kp.refl _ _) rfl
     go_simp
    |9, ho =>
     obtain rfl := Option.some.inj ho
     refine lw_value (v := (.int .i64 (k : Int))) (u' := u) ?_ (Kp.refl _ _) rfl
     go_simp
    |10, ho =>
     obtain rfl := Option.some.inj ho
     have e28 : a.tmps[28]?.getD undef = .slice (some ⟨bi, oi, none⟩) gn gc := slot_at (hdep ⟨8, .data⟩ (by simp) rfl _ 28 rfl rfl)
     have e29 : a.tmps[29]?.getD undef = (.int .i64 (k : Int)) := slot_at (hdep ⟨9, .data⟩ (by simp) rfl _ 29 rfl rfl)
     refine lw_value (v := .pointer (some ⟨bi, oi + k, none⟩)) (u' := u) ?_ (Kp.refl _ _) rfl
     go_simp
    |11, ho =>
     obtain rfl := Option.some.inj ho
     have e30 : a.tmps[30]?.getD undef = .pointer (some ⟨bi, oi + k, none⟩) := slot_at (hdep ⟨10, .data⟩ (by simp) rfl _ 30 rfl rfl)
     have c1 := hk.cellK HYc.out
     refine lw_value (v := .slice yb ym yd) (u' := u) ?_ (Kp.refl _ _) rfl
     go_simp
    |12, ho =>
     obtain rfl := Option.some.inj ho
     have e21 : a.tmps[21]?.getD undef = (.pointer (some ⟨p, 0, none⟩)) := slot_at (hdep ⟨1, .data⟩ (by simp) rfl _ 21 rfl rfl)
     have e22 : a.tmps[22]?.getD undef = (.int .i64 (k : Int)) := slot_at (hdep ⟨2, .data⟩ (by simp) rfl _ 22 rfl rfl)
     have e26 : a.tmps[26]?.getD undef = .slice xb xm xd := slot_at (hdep ⟨6, .data⟩ (by simp) rfl _ 26 rfl rfl)
     have e31 : a.tmps[31]?.getD undef = .slice yb ym yd := slot_at (hdep ⟨11, .data⟩ (by simp) rfl _ 31 rfl rfl)
     refine lw_call (f := 26) (args := #[.pointer (some ⟨p, 0, none⟩), .int .i64 (k : Int), .slice xb xm xd, .slice yb ym yd]) ?_ ?_
     ·go_simp
     ·exact (HLn.out u hk).mono (by
       rintro e u' ⟨rfl, hK⟩
       exact ⟨_, rfl, hK, rfl⟩)
    |13, ho =>
     obtain rfl := Option.some.inj ho
     have e20 : a.tmps[20]?.getD undef = (.string Tq) := slot_at (hdep ⟨0, .data⟩ (by simp) rfl _ 20 rfl rfl)
     have e32 : a.tmps[32]?.getD undef = .string LN := slot_at (hdep ⟨12, .data⟩ (by simp) rfl _ 32 rfl rfl)
     have h1 := HA1.out u
     refine lw_value (v := .string A1) (u' := u) ?_ (Kp.refl _ _) rfl
     go_simp
    |14, ho =>
     obtain rfl := Option.some.inj ho
     have e33 : a.tmps[33]?.getD undef = .string A1 := slot_at (hdep ⟨13, .data⟩ (by simp) rfl _ 33 rfl rfl)
     have h1 := HA2.out u
     refine lw_value (v := .string A2) (u' := u) ?_ (Kp.refl _ _) rfl
     go_simp
    |n + 15, _ => exact absurd hp (by simp [upTo])
   case hendLL =>
    intro a u hI
    have hsz : a.tmps.size = 36 := hI.size
    have hdf : a.defers = [] := hI.defers
    have f0 : a.tmps.getD 0 undef = _ := hI.off 0 (noDst_spec (p := upTo 15) (by kernel_rfl))
    have f1 : a.tmps.getD 1 undef = _ := hI.off 1 (noDst_spec (p := upTo 15) (by kernel_rfl))
    have f2 : a.tmps.getD 2 undef = _ := hI.off 2 (noDst_spec (p := upTo 15) (by kernel_rfl))
    have f3 : a.tmps.getD 3 undef = _ := hI.off 3 (noDst_spec (p := upTo 15) (by kernel_rfl))
    have f4 : a.tmps.getD 4 undef = _ := hI.off 4 (noDst_spec (p := upTo 15) (by kernel_rfl))
    have f5 : a.tmps.getD 5 undef = _ := hI.off 5 (noDst_spec (p := upTo 15) (by kernel_rfl))
    have f6 : a.tmps.getD 6 undef = _ := hI.off 6 (noDst_spec (p := upTo 15) (by kernel_rfl))
    have f7 : a.tmps.getD 7 undef = _ := hI.off 7 (noDst_spec (p := upTo 15) (by kernel_rfl))
    have f8 : a.tmps.getD 8 undef = _ := hI.off 8 (noDst_spec (p := upTo 15) (by kernel_rfl))
    have f9 : a.tmps.getD 9 undef = _ := hI.off 9 (noDst_spec (p := upTo 15) (by kernel_rfl))
    have f10 : a.tmps.getD 10 undef = _ := hI.off 10 (noDst_spec (p := upTo 15) (by kernel_rfl))
    have f11 : a.tmps.getD 11 undef = _ := hI.off 11 (noDst_spec (p := upTo 15) (by kernel_rfl))
    have f12 : a.tmps.getD 12 undef = _ := hI.off 12 (noDst_spec (p := upTo 15) (by kernel_rfl))
    have f13 : a.tmps.getD 13 undef = _ := hI.off 13 (noDst_spec (p := upTo 15) (by kernel_rfl))
    have f14 : a.tmps.getD 14 undef = _ := hI.off 14 (noDst_spec (p := upTo 15) (by kernel_rfl))
    have f15 : a.tmps.getD 15 undef = _ := hI.off 15 (noDst_spec (p := upTo 15) (by kernel_rfl))
    have f16 : a.tmps.getD 16 undef = _ := hI.off 16 (noDst_spec (p := upTo 15) (by kernel_rfl))
    have f17 : a.tmps.getD 17 undef = _ := hI.off 17 (noDst_spec (p := upTo 15) (by kernel_rfl))
    have f18 : a.tmps.getD 18 undef = _ := hI.off 18 (noDst_spec (p := upTo 15) (by kernel_rfl))
    have f19 : a.tmps.getD 19 undef = _ := hI.off 19 (noDst_spec (p := upTo 15) (by kernel_rfl))
    have f35 : a.tmps.getD 35 undef = _ := hI.off 35 (noDst_spec (p := upTo 15) (by kernel_rfl))
    have f20 : a.tmps.getD 20 undef = (.string Tq) := hI.val 0 _ 20 rfl rfl rfl
    have f21 : a.tmps.getD 21 undef = (.pointer (some ⟨p, 0, none⟩)) := hI.val 1 _ 21 rfl rfl rfl
    have f22 : a.tmps.getD 22 undef = (.int .i64 (k : Int)) := hI.val 2 _ 22 rfl rfl rfl
    have f23 : a.tmps.getD 23 undef = (.slice (some ⟨bg, og, none⟩) gn c7) := hI.val 3 _ 23 rfl rfl rfl
    have f24 : a.tmps.getD 24 undef = (.int .i64 (k : Int)) := hI.val 4 _ 24 rfl rfl rfl
    have f25 : a.tmps.getD 25 undef = .pointer (some ⟨bg, og + k, none⟩) := hI.val 5 _ 25 rfl rfl rfl
    have f26 : a.tmps.getD 26 undef = .slice xb xm xd := hI.val 6 _ 26 rfl rfl rfl
    have f27 : a.tmps.getD 27 undef = .pointer (some ⟨w.heap.size + 1, 1, none⟩) := hI.val 7 _ 27 rfl rfl rfl
    have f28 : a.tmps.getD 28 undef = .slice (some ⟨bi, oi, none⟩) gn gc := hI.val 8 _ 28 rfl rfl rfl
    have f29 : a.tmps.getD 29 undef = (.int .i64 (k : Int)) := hI.val 9 _ 29 rfl rfl rfl
    have f30 : a.tmps.getD 30 undef = .pointer (some ⟨bi, oi + k, none⟩) := hI.val 10 _ 30 rfl rfl rfl
    have f31 : a.tmps.getD 31 undef = .slice yb ym yd := hI.val 11 _ 31 rfl rfl rfl
    have f32 : a.tmps.getD 32 undef = .string LN := hI.val 12 _ 32 rfl rfl rfl
    have f33 : a.tmps.getD 33 undef = .string A1 := hI.val 13 _ 33 rfl rfl rfl
    have f34 : a.tmps.getD 34 undef = .string A2 := hI.val 14 _ 34 rfl rfl rfl
    have ha : a = ⟨#[a.tmps.getD 0 undef, a.tmps.getD 1 undef, a.tmps.getD 2 undef, a.tmps.getD 3 undef, a.tmps.getD 4 undef, a.tmps.getD 5 undef, a.tmps.getD 6 undef, a.tmps.getD 7 undef, a.tmps.getD 8 undef, a.tmps.getD 9 undef, a.tmps.getD 10 undef, a.tmps.getD 11 undef, a.tmps.getD 12 undef, a.tmps.getD 13 undef, a.tmps.getD 14 undef, a.tmps.getD 15 undef, a.tmps.getD 16 undef, a.tmps.getD 17 undef, a.tmps.getD 18 undef, a.tmps.getD 19 undef, a.tmps.getD 20 undef, a.tmps.getD 21 undef, a.tmps.getD 22 undef, a.tmps.getD 23 undef, a.tmps.getD 24 undef, a.tmps.getD 25 undef, a.tmps.getD 26 undef, a.tmps.getD 27 undef, a.tmps.getD 28 undef, a.tmps.getD 29 undef, a.tmps.getD 30 undef, a.tmps.getD 31 undef, a.tmps.getD 32 undef, a.tmps.getD 33 undef, a.tmps.getD 34 undef, a.tmps.getD 35 undef], a.defers⟩ := act_list a 36 hsz
    rw [hdf, f0, f1, f2, f3, f4, f5, f6, f7, f8, f9, f10, f11, f12, f13, f14, f15, f16, f17, f18, f19, f20, f21, f22, f23, f24, f25, f26, f27, f28, f29, f30, f31, f32, f33, f34, f35] at ha
    have hku := hI.kp
    clear hI hsz hdf f0 f1 f2 f3 f4 f5 f6 f7 f8 f9 f10 f11 f12 f13 f14 f15 f16 f17 f18 f19 f20 f21 f22 f23 f24 f25 f26 f27 f28 f29 f30 f31 f32 f33 f34 f35 
    subst ha
    refine wpAny_tail 15 rfl (by kernel_rfl) ?_
    simp only [List.drop_succ_cons, List.drop_zero]
    have HE := Lib.hid (show Kp (fun _ => False) w2 u from HK.out.trans hku (fun _ _ h => h))
    clear hku
    go_wp2_with fail
    go_roundw
    case rel => exact ⟨k + 1, by omega, by omega, HN.out, HE.out⟩
    case measure => simp [intOf]; omega
  ·obtain rfl : k = gn := by omega
   have HE := Lib.hid ((HK0.out.trans HK12.out (fun _ _ h => h)).trans HK.out (fun _ _ h => h))
   have HTD := Lib.hid (HTX.out.trans HD.out)
   go_wp2_with fail
   go_ret
   exact ⟨congrArg (fun x => Ending.returned (Value.string x)) HTD.out, HE.out⟩

end Go.Proofs.YtghlklcolepfmaaGreatDoor
