/-
  octet.Num and its reference; octet.Dec: what they compute.
-/
import Derived.Test.YtcpgbgbhfkpehaaDoorOctNatWalk
namespace Go.Proofs.YtcpgbgbhfkpehaaDoor
open Go.RowKit

/-- a number's digits of seven bits -/
def numL : Nat → Nat → List UInt8
  | 0, n => [UInt8.ofNat n]
  | f + 1, n => if n ≤ 127 then [UInt8.ofNat n] else UInt8.ofNat (n % 128 + 128) :: numL f (n / 128)

def bytesV (l : List UInt8) : List Value := l.map (fun b => Value.int .u8 (b.toNat : Int))

theorem bytesV_length (l : List UInt8) : (bytesV l).length = l.length := by simp [bytesV]

theorem numL_length (f : Nat) : ∀ n, (numL f n).length ≤ f + 1 := by
  induction f with
  | zero => intro n; simp [numL]
  | succ f ih => intro n; simp only [numL]; split; simp; (have := ih (n / 128); simp; omega)

theorem or_128 {m : Nat} (h : m < 256) : m ||| 128 = m % 128 + 128 := by
  have : ∀ m, m < 256 → m ||| 128 = m % 128 + 128 := by decide +kernel
  exact this m h

theorem byte_or (m : Nat) : bits .or .u8 ((m : Int) % 256) 128 = (((UInt8.ofNat (m % 128 + 128)).toNat : Nat) : Int) := by
  have h := Go.u8_or_nat (m % 256) 128 (by omega) (by decide)
  rw [or_128 (by omega)] at h
  rw [show ((m : Int) % 256) = ((m % 256 : Nat) : Int) from by omega]
  refine h.trans ?_
  simp only [UInt8.toNat_ofNat']
  omega

/-- 'string(b)' of an owned row of bytes -/
theorem own_string {w : World} {base g n cap : Nat} {l : List UInt8} (h : Own w base 5 (.slice (some ⟨g, 0, none⟩) n cap) (bytesV l)) :
    (convert 81 9 (.slice (some ⟨g, 0, none⟩) n cap)).run Tryd.prog w = .ok (.string ⟨l.toArray⟩) w := by
  have hn : n = l.length := by
    obtain ⟨a, c, e, _⟩ := h.form
    simp only [Value.slice.injEq] at e
    rw [e.2.1, bytesV_length]
  subst hn
  refine run_convert_bytes_back w 81 9 5 ⟨g, 0, none⟩ cap l Tryd.underlying81 Tryd.underlying5 Tryd.underlying9 (fun j hj => ?_)
  rw [add_plain', Nat.zero_add]
  exact h.cell (by simp [bytesV, hj])

theorem Tryd.info5 : (Tryd.prog.info? 5).map (fun i => (i.zero, i.size, i.bytes)) = some (some (.int .u8 0), 1, 1) := by kernel_rfl

set_option maxHeartbeats 1000000 in
theorem octet_Num (n : Nat) (w : World) (hn : n < 4294967296) :
    Calls Tryd.prog 73 #[.int .u32 n] w fun e w' => e = .returned (.string ⟨(numL 5 n).toArray⟩) ∧ Kp (fun _ => False) w w' := by
  go_enter Tryd.func73, Tryd.ntmps73
  go_wp2
  go_loopw [0, 3] (fun v0 v3 wr => ∃ (f m : Nat) (L : List UInt8), v0 = .int .u32 m ∧ m ≤ n ∧ f ≤ 5 ∧ m < 128 ^ f ∧ L.length = 5 - f ∧ L ++ numL f m = numL 5 n ∧ Own wr w.heap.size 5 v3 (bytesV L) ∧ Kp (fun _ => False) w wr) (fun v0 _ _ => (intOf v0).toNat)
  case atStart => exact ⟨5, n, [], rfl, Nat.le_refl _, by omega, by omega, rfl, rfl, Own.nil _ _ _, Kp.refl _ _⟩
  case round =>
    obtain ⟨f, m, L, rfl, hmn, hf, hm, hL, hN, hO, hK⟩ := hrel
    have HM := Lib.hid hm; clear hm
    have HL := Lib.hid hL; clear hL
    have HN := Lib.hid hN; clear hN
    have hsz := hK.size
    by_cases h : 127 < m
    · have hd : decide ((127 : Int) < (m : Int)) = true := by simp; omega
      have hf0 : ∃ f', f = f' + 1 := by
        cases f with
        | zero => have := HM.out; simp at this; omega
        | succ f' => exact ⟨f', rfl⟩
      obtain ⟨f', rfl⟩ := hf0
      have hb := byte_or m
      obtain ⟨E, hE⟩ : ∃ E, E = (UInt8.ofNat (m % 128 + 128)).toNat := ⟨_, rfl⟩
      rw [← hE] at hb
      have HE := Lib.hid (show bytesV L ++ [.int .u8 (E : Int)] = bytesV (L ++ [UInt8.ofNat (m % 128 + 128)]) by unfold bytesV; rw [List.map_append, hE]; rfl)
      have HN2 := Lib.hid (show L ++ [UInt8.ofNat (m % 128 + 128)] ++ numL f' (m / 128) = numL 5 n by
        rw [← HN.out, List.append_assoc]; congr 1; rw [numL, if_neg (by omega)]; rfl)
      have HM2 := Lib.hid (show m / 128 < 128 ^ f' by have := HM.out; rw [Nat.pow_succ] at this; omega)
      clear hE
      go_wp2_with (at_builtin; refine wpList_append1 rfl _ _ 81 5 rfl Tryd.underlying81 Tryd.info5 rfl (hO.alloc _) rfl ⟨wr.heap.size, 0, none⟩ (.int .u8 (E : Int)) rfl ?c1 rfl ?c2 ?c3 ?c4 ?_)
      case c1 => exact World.cell?_alloc_at _ _ _ _ rfl
      case c2 => rw [bytesV_length, HL.out]; omega
      case c3 => rw [bytesV_length, HL.out]; unfold maxLen; omega
      case c4 => simp; omega
      intro v' w1 hO1 hg1
      rw [HE.out] at hO1
      have hK1 : Kp (fun _ => False) w w1 := (hK.alloc _).grown hg1 (fun j hj hlt => by have := (hO.lt j hj).1; omega)
      clear hO hg1 hb HE
      go_wp2
      go_roundw
      case rel => exact ⟨f', m / 128, L ++ [UInt8.ofNat (m % 128 + 128)], by go_num, by omega, by omega, HM2.out, by rw [List.length_append, HL.out]; simp; omega, HN2.out, hO1, hK1⟩
      case measure => simp [intOf]; omega
    · have hd : decide ((127 : Int) < (m : Int)) = false := by simp; omega
      have HE := Lib.hid (show bytesV L ++ [.int .u8 (m : Int)] = bytesV (numL 5 n) by
        rw [← HN.out]; unfold bytesV; rw [List.map_append]; congr 1
        cases f with
        | zero => simp only [numL, List.map_cons, List.map_nil, UInt8.toNat_ofNat']; congr 2; omega
        | succ f => simp only [numL]; rw [if_pos (by omega)]; simp only [List.map_cons, List.map_nil, UInt8.toNat_ofNat']; congr 2; omega)
      have hnl : (numL 5 n).length = L.length + 1 := by
        have := congrArg List.length HE.out
        rw [List.length_append, bytesV_length, bytesV_length] at this
        simpa using this.symm
      have HNL := Lib.hid hnl; clear hnl
      go_wp2_with (at_builtin; refine wpList_append1 rfl _ _ 81 5 rfl Tryd.underlying81 Tryd.info5 rfl (hO.alloc _) rfl ⟨wr.heap.size, 0, none⟩ (.int .u8 (m : Int)) rfl ?c1 rfl ?c2 ?c3 ?c4 ?_)
      case c1 => exact World.cell?_alloc_at _ _ _ _ rfl
      case c2 => rw [bytesV_length, HL.out]; omega
      case c3 => rw [bytesV_length, HL.out]; unfold maxLen; omega
      case c4 => simp; omega
      intro v' w1 hO1 hg1
      rw [HE.out] at hO1
      have hK1 : Kp (fun _ => False) w w1 := (hK.alloc _).grown hg1 (fun j hj hlt => by have := (hO.lt j hj).1; omega)
      obtain ⟨g, cap, rfl, _, _⟩ := hO1.leads (by rw [bytesV_length, HNL.out]; omega)
      have hcv := own_string hO1
      clear hO hg1 HE
      go_wp2
      go_ret
      exact ⟨rfl, hK1⟩

end Go.Proofs.YtcpgbgbhfkpehaaDoor
