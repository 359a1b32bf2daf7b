/-
  Scores' order, and a tree in a list in that order. No program in sight.
-/
import Ieee.Arith
namespace Go.Proofs.Ytccdjjlbiibjgaa
open Ieee

/-- a key that tells a word's order: what is no number first -/
def fk (x : Nat) : Int × Int :=
  match double.read x with
  | .nan .. => (-2, 0)
  | .infinity true => (-1, 0)
  | .infinity false => (1, 0)
  | .number s m i => (0, signed s m (i - double.leastPlace).toNat)

def klt (a b : Int × Int) : Prop := a.1 < b.1 ∨ a.1 = b.1 ∧ a.2 < b.2
instance (a b : Int × Int) : Decidable (klt a b) := inferInstanceAs (Decidable (_ ∨ _))

theorem read_place {x : Nat} {s : Bool} {m : Nat} {i : Int} (h : double.read x = .number s m i) : double.leastPlace ≤ i := by
  unfold Format.read at h
  simp only at h
  split at h
  · simp only [Datum.number.injEq] at h; omega
  · split at h
    · simp only [Datum.number.injEq] at h; omega
    · split at h <;> cases h

theorem signed_up (s : Bool) (m a b : Nat) : signed s m (a + b) = signed s m a * (2 ^ b : Nat) := by
  unfold signed
  have : m <<< (a + b) = (m <<< a) * 2 ^ b := by simp [Nat.shiftLeft_eq, Nat.pow_add, Nat.mul_assoc]
  rw [this]
  cases s <;> simp [Int.neg_mul]

theorem compare_up {x y : Int} {p : Nat} (hp : 0 < p) : compare (x * (p : Int)) (y * (p : Int)) = compare x y := by
  have hp' : (0 : Int) < p := by omega
  rcases Int.lt_trichotomy x y with h | h | h
  · rw [(Int.compare_eq_lt).2 h, (Int.compare_eq_lt).2 (Int.mul_lt_mul_of_pos_right h hp')]
  · subst h; simp
  · rw [(Int.compare_eq_gt).2 h, (Int.compare_eq_gt).2 (Int.mul_lt_mul_of_pos_right h hp')]

/-- the order of two words that are numbers, infinities too -/
theorem order_key (x y : Nat) : double.order x y = if (fk x).1 = -2 ∨ (fk y).1 = -2 then none else some (if klt (fk x) (fk y) then .lt else if klt (fk y) (fk x) then .gt else .eq) := by
  unfold Format.order fk
  have hpx := @read_place x
  have hpy := @read_place y
  generalize double.read x = dx at *
  generalize double.read y = dy at *
  cases dx with
  | nan => simp [Datum.order]
  | infinity s =>
    cases dy with
    | nan => cases s <;> simp [Datum.order]
    | infinity t => cases s <;> cases t <;> simp [Datum.order, klt] <;> rfl
    | number t n j => cases s <;> simp [Datum.order, klt]
  | number s m i =>
    cases dy with
    | nan => simp [Datum.order]
    | infinity t => cases t <;> simp [Datum.order, klt]
    | number t n j =>
      have h1 := hpx rfl
      have h2 := hpy rfl
      generalize double.leastPlace = L at *
      simp only [Datum.order, klt]
      have e1 : (i - L).toNat = (i - min i j).toNat + (min i j - L).toNat := by omega
      have e2 : (j - L).toNat = (j - min i j).toNat + (min i j - L).toNat := by omega
      rw [e1, e2, signed_up, signed_up, ← compare_up (p := 2 ^ (min i j - L).toNat) (Nat.two_pow_pos _)]
      generalize signed s m (i - min i j).toNat * ((2 ^ (min i j - L).toNat : Nat) : Int) = a
      generalize signed t n (j - min i j).toNat * ((2 ^ (min i j - L).toNat : Nat) : Int) = b
      rcases Int.lt_trichotomy a b with h | h | h
      · rw [(Int.compare_eq_lt).2 h]; simp [h]
      · subst h; simp
      · rw [(Int.compare_eq_gt).2 h]; simp [h]; omega

theorem fk_ge (x : Nat) : -2 ≤ (fk x).1 ∧ ((fk x).1 = -2 → (fk x).2 = 0) := by
  unfold fk
  split <;> simp

theorem self_order (x : Nat) : (double.order x x == some .eq) = decide ((fk x).1 ≠ -2) := by
  rw [order_key]
  by_cases h : (fk x).1 = -2
  · simp [h]
  · simp [h, klt]

/-- one stands ahead of another one -/
def lessB (a b : Nat) : Bool := decide (klt (fk a) (fk b))

theorem less_lt {a b : Nat} (ha : (fk a).1 ≠ -2) (hb : (fk b).1 ≠ -2) : (double.order a b == some .lt) = lessB a b := by
  rw [order_key, if_neg (by omega)]
  unfold lessB
  by_cases h : klt (fk a) (fk b)
  · simp [h]
  · by_cases h2 : klt (fk b) (fk a) <;> simp [h, h2]

theorem less_odd {a b : Nat} (h : (fk a).1 = -2 ∨ (fk b).1 = -2) : (decide ((fk a).1 = -2) && decide ((fk b).1 ≠ -2)) = lessB a b := by
  have ha := fk_ge a
  have hb := fk_ge b
  unfold lessB klt
  rw [← Bool.decide_and]
  apply decide_eq_decide.2
  omega

/-- a thing stands ahead of another one, by scores -/
def aheadB (S : Nat → Nat) (a b : Nat) : Bool := lessB (S b) (S a) || (!lessB (S a) (S b) && decide (a < b))

/-- an order as a heap needs it -/
structure Ord (A : Nat → Nat → Prop) : Prop where
  asym : ∀ {a b}, A a b → ¬ A b a
  neg : ∀ {a b c}, ¬ A b a → ¬ A c b → ¬ A c a
  irr : ∀ {a}, ¬ A a a
  tot : ∀ {a b}, a ≠ b → ¬ A a b → A b a

def ah (S : Nat → Nat) (a b : Nat) : Prop := aheadB S a b = true

theorem ah_iff (S : Nat → Nat) (a b : Nat) : ah S a b ↔ klt (fk (S b)) (fk (S a)) ∨ ¬ klt (fk (S a)) (fk (S b)) ∧ a < b := by
  simp [ah, aheadB, lessB]

theorem ah_ord (S : Nat → Nat) : Ord (ah S) := by
  constructor
  · intro a b h
    rw [ah_iff] at h ⊢
    unfold klt at *
    omega
  · intro a b c h h'
    rw [ah_iff] at h h' ⊢
    unfold klt at *
    omega
  · intro a
    rw [ah_iff]
    unfold klt
    omega
  · intro a b hne h
    rw [ah_iff] at h ⊢
    unfold klt at *
    omega

/-- two places change -/
def sw (T : Nat → Nat) (i k : Nat) : Nat → Nat := fun j => if j = i then T k else if j = k then T i else T j

def HeapOK (A : Nat → Nat → Prop) (T : Nat → Nat) (m : Nat) : Prop := ∀ j, 0 < j → j < m → ¬ A (T j) (T ((j - 1) / 2))

/-- all is right but for what touches place i, and what is below it is right with what is above it -/
structure Weak (A : Nat → Nat → Prop) (T : Nat → Nat) (m i : Nat) : Prop where
  off : ∀ j, 0 < j → j < m → j ≠ i → (j - 1) / 2 ≠ i → ¬ A (T j) (T ((j - 1) / 2))
  over : ∀ j, 0 < j → j < m → (j - 1) / 2 = i → 0 < i → ¬ A (T j) (T ((i - 1) / 2))

def UpOK (A : Nat → Nat → Prop) (T : Nat → Nat) (i : Nat) : Prop := 0 < i → ¬ A (T i) (T ((i - 1) / 2))
def DownOK (A : Nat → Nat → Prop) (T : Nat → Nat) (m i : Nat) : Prop := ∀ j, 0 < j → j < m → (j - 1) / 2 = i → ¬ A (T j) (T i)

theorem ok_of {A : Nat → Nat → Prop} {T : Nat → Nat} {m i : Nat} (h : Weak A T m i) (hu : UpOK A T i) (hd : DownOK A T m i) : HeapOK A T m := by
  intro j h0 hj
  by_cases e : j = i
  · subst e; exact hu h0
  · by_cases e2 : (j - 1) / 2 = i
    · rw [e2]; exact hd j h0 hj e2
    · exact h.off j h0 hj e e2

theorem Weak.of_ok {A : Nat → Nat → Prop} (hA : Ord A) {T : Nat → Nat} {m i : Nat} (h : HeapOK A T m) (hi : i < m) : Weak A T m i := by
  refine ⟨fun j h0 hj _ _ => h j h0 hj, fun j h0 hj hp hi0 => ?_⟩
  have h1 := h j h0 hj
  rw [hp] at h1
  exact hA.neg (h i hi0 hi) h1

theorem sw_l (T : Nat → Nat) (i k : Nat) : sw T i k i = T k := by simp [sw]
theorem sw_r (T : Nat → Nat) (i k : Nat) : sw T i k k = T i := by by_cases h : k = i <;> simp [sw, h]
theorem sw_o {T : Nat → Nat} {i k j : Nat} (h1 : j ≠ i) (h2 : j ≠ k) : sw T i k j = T j := by simp [sw, h1, h2]

theorem up_step {A : Nat → Nat → Prop} (hA : Ord A) {T : Nat → Nat} {m i p : Nat} (h : Weak A T m i) (hi0 : 0 < i) (hp : p = (i - 1) / 2) (hi : i < m) (ha : A (T i) (T p)) :
    Weak A (sw T i p) m p ∧ DownOK A (sw T i p) m p := by
  have hpi : p < i := by omega
  refine ⟨⟨fun j h0 hj hjp hpp => ?_, fun j h0 hj hpp hp0 => ?_⟩, fun j h0 hj hpp => ?_⟩
  · have hji : j ≠ i := fun e => hpp (by rw [e]; exact hp.symm)
    rw [sw_o hji hjp]
    by_cases e : (j - 1) / 2 = i
    · rw [e, sw_l, hp]; exact h.over j h0 hj e hi0
    · rw [sw_o e hpp]; exact h.off j h0 hj hji e
  · rw [sw_o (j := (p - 1) / 2) (by omega) (by omega)]
    have h1 : ¬ A (T p) (T ((p - 1) / 2)) := h.off p hp0 (by omega) (by omega) (by omega)
    by_cases e : j = i
    · subst e; rw [sw_l]; exact h1
    · rw [sw_o e (by omega)]
      have h2 := h.off j h0 hj e (by omega)
      rw [hpp] at h2
      exact hA.neg h1 h2
  · rw [sw_r]
    by_cases e : j = i
    · subst e; rw [sw_l]; exact hA.asym ha
    · rw [sw_o e (by omega)]
      have h2 := h.off j h0 hj e (by omega)
      rw [hpp] at h2
      exact hA.neg (hA.asym ha) h2

theorem down_step {A : Nat → Nat → Prop} (hA : Ord A) {T : Nat → Nat} {m i f : Nat} (h : Weak A T m i) (hf0 : 0 < f) (hf : f < m) (hp : (f - 1) / 2 = i) (ha : A (T f) (T i)) (hfirst : ∀ j, 0 < j → j < m → (j - 1) / 2 = i → ¬ A (T j) (T f)) :
    Weak A (sw T i f) m f ∧ UpOK A (sw T i f) f := by
  have hfi : i < f := by omega
  refine ⟨⟨fun j h0 hj hjf hpf => ?_, fun j h0 hj hpf _ => ?_⟩, fun _ => ?_⟩
  · by_cases e : j = i
    · subst e
      rw [sw_l, sw_o (by omega) (by omega)]
      exact h.over f hf0 hf hp h0
    · rw [sw_o e hjf]
      by_cases e2 : (j - 1) / 2 = i
      · rw [e2, sw_l]; exact hfirst j h0 hj e2
      · rw [sw_o e2 hpf]; exact h.off j h0 hj e e2
  · rw [hp, sw_l, sw_o (by omega) (by omega)]
    have := h.off j h0 hj (by omega) (by omega)
    rw [hpf] at this
    exact this
  · rw [hp, sw_l, sw_r]; exact hA.asym ha

theorem root_first {A : Nat → Nat → Prop} (hA : Ord A) {T : Nat → Nat} {m : Nat} (h : HeapOK A T m) : ∀ j, j < m → ¬ A (T j) (T 0) := by
  intro j
  induction j using Nat.strongRecOn with
  | _ j ih =>
    intro hj
    by_cases e : j = 0
    · subst e; exact hA.irr
    · exact hA.neg (ih ((j - 1) / 2) (by omega) (by omega)) (h j (by omega) hj)

theorem pop_weak {A : Nat → Nat → Prop} {T : Nat → Nat} {m : Nat} (h : HeapOK A T (m + 1)) : Weak A (sw T 0 m) m 0 ∧ UpOK A (sw T 0 m) 0 := by
  refine ⟨⟨fun j h0 hj h1 h2 => ?_, fun j _ _ _ h => by omega⟩, fun h => by omega⟩
  rw [sw_o (by omega) (by omega), sw_o h2 (by omega)]
  exact h j h0 (by omega)

/-- where things stand, and which stand there -/
structure Inv (n m : Nat) (T : Nat → Nat) (Q : Nat → Int) : Prop where
  here : ∀ i, i < m → T i < n ∧ Q (T i) = i
  there : ∀ x, x < n → Q x = -1 ∨ ∃ i, i < m ∧ Q x = i ∧ T i = x

def up1 {α : Type} (f : Nat → α) (i : Nat) (x : α) : Nat → α := fun j => if j = i then x else f j

theorem up1_at {α : Type} (f : Nat → α) (i : Nat) (x : α) : up1 f i x i = x := by simp [up1]
theorem up1_off {α : Type} (f : Nat → α) {i j : Nat} (x : α) (h : j ≠ i) : up1 f i x j = f j := by simp [up1, h]

theorem Inv.inj {n m : Nat} {T : Nat → Nat} {Q : Nat → Int} (h : Inv n m T Q) {i k : Nat} (hi : i < m) (hk : k < m) (e : T i = T k) : i = k := by
  have h1 := (h.here i hi).2
  have h2 := (h.here k hk).2
  rw [e] at h1
  omega

/-- the positions behind a change of two places -/
def swQ (T : Nat → Nat) (Q : Nat → Int) (i k : Nat) : Nat → Int := up1 (up1 Q (sw T i k i) (i : Int)) (sw T i k k) (k : Int)

theorem Inv.swap {n m : Nat} {T : Nat → Nat} {Q : Nat → Int} (h : Inv n m T Q) {i k : Nat} (hi : i < m) (hk : k < m) : Inv n m (sw T i k) (swQ T Q i k) := by
  unfold swQ
  rw [sw_l, sw_r]
  refine ⟨fun j hj => ?_, fun x hx => ?_⟩
  · by_cases e1 : j = k
    · subst e1; rw [sw_r, up1_at]; exact ⟨(h.here i hi).1, rfl⟩
    · by_cases e2 : j = i
      · subst e2
        rw [sw_l, up1_off _ _ (fun e => e1 (h.inj hj hk e.symm)), up1_at]
        exact ⟨(h.here k hk).1, rfl⟩
      · rw [sw_o e2 e1, up1_off _ _ (fun e => e2 (h.inj hj hi e)), up1_off _ _ (fun e => e1 (h.inj hj hk e))]
        exact h.here j hj
  · by_cases e1 : x = T i
    · subst e1; rw [up1_at]; exact .inr ⟨k, hk, rfl, sw_r ..⟩
    · rw [up1_off _ _ e1]
      by_cases e2 : x = T k
      · subst e2; rw [up1_at]; exact .inr ⟨i, hi, rfl, sw_l ..⟩
      · rw [up1_off _ _ e2]
        rcases h.there x hx with h1 | ⟨j, hj, h1, h2⟩
        · exact .inl h1
        · refine .inr ⟨j, hj, h1, ?_⟩
          rw [sw_o (fun e => e1 (by rw [← h2, e])) (fun e => e2 (by rw [← h2, e]))]
          exact h2

/-- one more at the end -/
theorem Inv.push {n m : Nat} {T : Nat → Nat} {Q : Nat → Int} (h : Inv n m T Q) {x : Nat} (hx : x < n) (hq : Q x < 0) : Inv n (m + 1) (up1 T m x) (up1 Q x (m : Int)) := by
  have hno : ∀ i, i < m → T i ≠ x := fun i hi e => by have := (h.here i hi).2; rw [e] at this; omega
  refine ⟨fun i hi => ?_, fun y hy => ?_⟩
  · by_cases e : i = m
    · subst e; rw [up1_at, up1_at]; exact ⟨hx, rfl⟩
    · rw [up1_off _ _ e, up1_off _ _ (hno i (by omega))]; exact h.here i (by omega)
  · by_cases e : y = x
    · subst e; rw [up1_at]; exact .inr ⟨m, by omega, rfl, up1_at ..⟩
    · rw [up1_off _ _ e]
      rcases h.there y hy with h1 | ⟨j, hj, h1, h2⟩
      · exact .inl h1
      · exact .inr ⟨j, by omega, h1, by rw [up1_off _ _ (by omega)]; exact h2⟩

/-- the last one is let go -/
theorem Inv.drop {n m : Nat} {T : Nat → Nat} {Q : Nat → Int} (h : Inv n (m + 1) T Q) : Inv n m T (up1 Q (T m) (-1)) := by
  refine ⟨fun i hi => ?_, fun y hy => ?_⟩
  · have hne : T i ≠ T m := fun e => by have := h.inj (show i < m + 1 by omega) (show m < m + 1 by omega) e; omega
    rw [up1_off _ _ hne]
    exact h.here i (by omega)
  · by_cases e : y = T m
    · subst e; rw [up1_at]; exact .inl rfl
    · rw [up1_off _ _ e]
      rcases h.there y hy with h1 | ⟨j, hj, h1, h2⟩
      · exact .inl h1
      · refine .inr ⟨j, ?_, h1, h2⟩
        have : j ≠ m := fun e2 => e (by rw [← h2, e2])
        omega

/-- all that stands in the one stands in the other -/
def Sub (T' : Nat → Nat) (m' : Nat) (T : Nat → Nat) (m : Nat) : Prop := ∀ j, j < m' → ∃ k, k < m ∧ T' j = T k

theorem Sub.refl (T : Nat → Nat) (m : Nat) : Sub T m T m := fun j h => ⟨j, h, rfl⟩
theorem Sub.trans {T1 T2 T3 : Nat → Nat} {a b c : Nat} (h : Sub T1 a T2 b) (h' : Sub T2 b T3 c) : Sub T1 a T3 c := fun j hj => by
  obtain ⟨k, hk, e⟩ := h j hj
  obtain ⟨l, hl, e'⟩ := h' k hk
  exact ⟨l, hl, e.trans e'⟩
theorem Sub.sw {T : Nat → Nat} {m i k : Nat} (hi : i < m) (hk : k < m) : Sub (sw T i k) m T m := fun j hj => by
  by_cases e1 : j = i
  · subst e1; exact ⟨k, hk, sw_l ..⟩
  · by_cases e2 : j = k
    · subst e2; exact ⟨i, hi, sw_r ..⟩
    · exact ⟨j, hj, sw_o e1 e2⟩

/-- another score of the thing at place i -/
theorem weak_set {n m : Nat} {S T : Nat → Nat} {Q : Nat → Int} (h : HeapOK (ah S) T m) (hI : Inv n m T Q) {i x : Nat} (hi : i < m) : Weak (ah (up1 S (T i) x)) T m i := by
  have hsame : ∀ a b, a ≠ T i → b ≠ T i → (ah (up1 S (T i) x) a b ↔ ah S a b) := by
    intro a b ha hb
    rw [ah_iff, ah_iff, up1_off _ _ ha, up1_off _ _ hb]
  have hne : ∀ j, j < m → j ≠ i → T j ≠ T i := fun j hj hn e => hn (hI.inj hj hi e)
  have hw := Weak.of_ok (ah_ord S) h hi
  refine ⟨fun j h0 hj h1 h2 => ?_, fun j h0 hj h1 h2 => ?_⟩
  · rw [hsame _ _ (hne j hj h1) (hne _ (by omega) h2)]; exact hw.off j h0 hj h1 h2
  · rw [hsame _ _ (hne j hj (by omega)) (hne _ (by omega) (by omega))]; exact hw.over j h0 hj h1 h2

/-- another score of a thing that stands nowhere -/
theorem ok_set_out {n m : Nat} {S T : Nat → Nat} {Q : Nat → Int} (h : HeapOK (ah S) T m) (hI : Inv n m T Q) {id x : Nat} (hq : Q id < 0) : HeapOK (ah (up1 S id x)) T m := by
  have hne : ∀ j, j < m → T j ≠ id := fun j hj e => by have := (hI.here j hj).2; rw [e] at this; omega
  intro j h0 hj
  rw [ah_iff, up1_off _ _ (hne j hj), up1_off _ _ (hne _ (by omega)), ← ah_iff]
  exact h j h0 hj

theorem push_weak {A : Nat → Nat → Prop} {T : Nat → Nat} {m x : Nat} (h : HeapOK A T m) : Weak A (up1 T m x) (m + 1) m ∧ DownOK A (up1 T m x) (m + 1) m := by
  refine ⟨⟨fun j h0 hj h1 h2 => ?_, fun j _ hj h1 h2 => by omega⟩, fun j _ hj h1 => by omega⟩
  rw [up1_off _ _ h1, up1_off _ _ h2]
  exact h j h0 (by omega)

end Go.Proofs.Ytccdjjlbiibjgaa
