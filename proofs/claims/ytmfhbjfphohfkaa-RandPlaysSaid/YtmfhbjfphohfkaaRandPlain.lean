/-
  The plain arithmetic of the generator (layer 4): the next state, what is told of it, how numbers are changed about.
-/
import Derived.Test.YtmfhbjfphohfkaaBase
import Derived.Laws.BitsAllLaws
namespace Go.Proofs.Ytmfhbjfphohfkaa
open Go.RowKit

def nxt (s : Int) : Int := IntKind.u64.wrap (s + 11400714819323198485)
def mixA (s : Int) : Int := IntKind.u64.wrap (bits .xor .u64 s (s / 1073741824) * 13787848793156543929)
def mixB (z : Int) : Int := IntKind.u64.wrap (bits .xor .u64 z (z / 134217728) * 10723151780598845931)
def mixC (z : Int) : Int := bits .xor .u64 z (z / 2147483648)
def told (s : Int) : Int := mixC (mixB (mixA s))

/-- a number of 64 bits -/
def U64 (n : Int) : Prop := 0 ≤ n ∧ n < 18446744073709551616

theorem u64_wrap (n : Int) : U64 (IntKind.u64.wrap n) := by
  rw [IntKind.wrap_u64]
  exact ⟨Int.emod_nonneg _ (by decide), Int.emod_lt_of_pos _ (by decide)⟩

theorem u64_wrap_id {n : Int} (h : U64 n) : IntKind.u64.wrap n = n := by
  rw [IntKind.wrap_u64]
  exact Int.emod_eq_of_lt h.1 h.2

theorem u64_nxt (s : Int) : U64 (nxt s) := u64_wrap _
theorem u64_mixA (s : Int) : U64 (mixA s) := u64_wrap _
theorem u64_mixB (s : Int) : U64 (mixB s) := u64_wrap _

theorem u64_div {n : Int} (h : U64 n) (k : Int) (hk : 0 < k) : U64 (n / k) := by
  refine ⟨Int.ediv_nonneg h.1 (Int.le_of_lt hk), Int.lt_of_le_of_lt (Int.ediv_le_self _ h.1) h.2⟩

theorem u64_xor_in {a b : Int} (ha : U64 a) (hb : U64 b) : U64 (bits .xor .u64 a b) := by
  rw [Go.u64_xor a b ha.1 ha.2 hb.1 hb.2]
  have hx : a.toNat ^^^ b.toNat < 2 ^ 64 := Nat.xor_lt_two_pow (by have := ha.2; omega) (by have := hb.2; omega)
  constructor <;> omega

theorem u64_told (s : Int) : U64 (told s)   := u64_xor_in (u64_mixB _) (u64_div (u64_mixB _) _ (by decide))

theorem nat_or_eq (n : Nat) : ∀ a b : Nat, a ≤ n → a ||| b = (a ^^^ b) + (a &&& b) := by
  induction n using Nat.strongRecOn with
  | _ n ih =>
    intro a b ha
    by_cases h0 : a = 0
    · subst h0; simp
    have hd := ih (a / 2) (by omega) (a / 2) (b / 2) (Nat.le_refl _)
    have o1 := Nat.or_div_two (a := a) (b := b)
    have x1 := Nat.xor_div_two (a := a) (b := b)
    have n1 := Nat.and_div_two (a := a) (b := b)
    have o2 := Nat.or_mod_two_pow (a := a) (b := b) (n := 1)
    have x2 := Nat.xor_mod_two_pow (a := a) (b := b) (n := 1)
    have n2 := Nat.and_mod_two_pow (a := a) (b := b) (n := 1)
    simp only [Nat.pow_one] at o2 x2 n2
    rcases Nat.mod_two_eq_zero_or_one a with p | p <;> rcases Nat.mod_two_eq_zero_or_one b with q | q <;>
      (rw [p, q] at o2 x2 n2
       simp only [show (1 ||| 1 : Nat) = 1 from rfl, show (1 ||| 0 : Nat) = 1 from rfl, show (0 ||| 1 : Nat) = 1 from rfl, show (0 ||| 0 : Nat) = 0 from rfl,
         show (1 ^^^ 1 : Nat) = 0 from rfl, show (1 ^^^ 0 : Nat) = 1 from rfl, show (0 ^^^ 1 : Nat) = 1 from rfl, show (0 ^^^ 0 : Nat) = 0 from rfl,
         show (1 &&& 1 : Nat) = 1 from rfl, show (1 &&& 0 : Nat) = 0 from rfl, show (0 &&& 1 : Nat) = 0 from rfl, show (0 &&& 0 : Nat) = 0 from rfl] at o2 x2 n2
       omega)

/-- the exclusive or by a difference -/
theorem apart_eq {a b : Int} (ha : U64 a) (hb : U64 b) : IntKind.u64.wrap (bits .or .u64 a b - bits .and .u64 a b) = bits .xor .u64 a b := by
  rw [Go.u64_xor a b ha.1 ha.2 hb.1 hb.2, Go.u64_or a b ha.1 ha.2 hb.1 hb.2, Go.u64_and a b ha.1 ha.2 hb.1 hb.2]
  have hx : a.toNat ^^^ b.toNat < 2 ^ 64 := Nat.xor_lt_two_pow (by have := ha.2; omega) (by have := hb.2; omega)
  have e := nat_or_eq a.toNat a.toNat b.toNat (Nat.le_refl _)
  rw [e, show (((a.toNat ^^^ b.toNat) + (a.toNat &&& b.toNat) : Nat) : Int) - ((a.toNat &&& b.toNat : Nat) : Int) = ((a.toNat ^^^ b.toNat : Nat) : Int) from by omega]
  exact u64_wrap_id ⟨by omega, by omega⟩

/-- two places exchanged -/
def swapL (l : List Int) (i k : Nat) : List Int := (l.set i (gi l k)).set k (gi l i)

/-- changed about from place i down -/
def shuf : Nat → Int → List Int → List Int
  | 0, _, l => l
  | i + 1, s, l => shuf i (nxt s) (swapL l (i + 1) (told (nxt s) % ((i : Int) + 2)).toNat)
def shufS : Nat → Int → Int
  | 0, s => s
  | i + 1, s => shufS i (nxt s)

def countUp (n : Nat) : List Int := (List.range n).map (fun k : Nat => (k : Int))
def permL (s : Int) (n : Nat) : List Int := shuf (n - 1) s (countUp n)
def permS (s : Int) (n : Nat) : Int := shufS (n - 1) s

theorem swapL_length (l : List Int) (i k : Nat) : (swapL l i k).length = l.length := by simp [swapL]
theorem shuf_length (i : Nat) : ∀ (s : Int) (l : List Int), (shuf i s l).length = l.length := by
  induction i with
  | zero => intro s l; rfl
  | succ i ih => intro s l; simp only [shuf]; rw [ih, swapL_length]
theorem permL_length (s : Int) (n : Nat) : (permL s n).length = n := by simp [permL, shuf_length, countUp]

theorem swapL_perm (l : List Int) (i k : Nat) (hi : i < l.length) (hk : k < l.length) : (swapL l i k).Perm l := by
  have h := List.set_set_perm (as := l) hi hk
  unfold swapL gi
  rw [List.getElem?_eq_getElem hi, List.getElem?_eq_getElem hk]
  exact h

theorem shuf_perm (i : Nat) : ∀ (s : Int) (l : List Int), i < l.length ∨ i = 0 → (shuf i s l).Perm l := by
  induction i with
  | zero => intro s l _; exact List.Perm.refl _
  | succ i ih =>
    intro s l h
    have h' : i + 1 < l.length := by omega
    simp only [shuf]
    have h1 : 0 ≤ told (nxt s) % ((i : Int) + 2) := Int.emod_nonneg _ (by omega)
    have h2 : told (nxt s) % ((i : Int) + 2) < (i : Int) + 2 := Int.emod_lt_of_pos _ (by omega)
    exact (ih _ _ (by rw [swapL_length]; omega)).trans (swapL_perm _ _ _ h' (by omega))

theorem permL_perm (s : Int) (n : Nat) : (permL s n).Perm (countUp n) := shuf_perm _ _ _ (by simp [countUp]; omega)

theorem permL_mem {s : Int} {n : Nat} {x : Int} (h : x ∈ permL s n) : 0 ≤ x ∧ x < n := by
  have h2 := (permL_perm s n).mem_iff.1 h
  simp only [countUp, List.mem_map, List.mem_range] at h2
  obtain ⟨k, hk, rfl⟩ := h2
  omega

theorem permL_nodup (s : Int) (n : Nat) : (permL s n).Nodup := by
  rw [(permL_perm s n).nodup_iff]
  unfold countUp List.Nodup
  rw [List.pairwise_map]
  exact List.nodup_range.imp (fun h e => h (by omega))

/-- a number of a list without twins does not stand ahead of its place -/
theorem nodup_not_taken {l : List Int} (hd : l.Nodup) {k : Nat} (hk : k < l.length) : l[k] ∉ l.take k := by
  intro h
  rw [List.mem_take_iff_getElem] at h
  obtain ⟨j, hj, e⟩ := h
  have := (List.getElem_inj (h₀ := by omega) (h₁ := hk) hd).1 e
  omega

end Go.Proofs.Ytmfhbjfphohfkaa
