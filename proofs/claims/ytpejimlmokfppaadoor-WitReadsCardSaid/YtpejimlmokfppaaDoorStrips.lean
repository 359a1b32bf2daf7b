/-
  Slices of structs of k cells each, of the call's own. No program in sight.
-/
import Derived.Test.YtpejimlmokfppaaDoorBase
import Derived.Maps.AppendAt
namespace Go.Proofs.YtpejimlmokfppaaDoor
open Go.RowKit

theorem flat_length {k : Nat} : ∀ {rows : List (List Value)}, (∀ r ∈ rows, r.length = k) → rows.flatten.length = rows.length * k
  | [], _ => by simp
  | r :: rows, h => by
    rw [List.flatten_cons, List.length_append, h r (by simp), flat_length (fun x hx => h x (by simp [hx])), List.length_cons, Nat.succ_mul]
    omega

theorem flat_at {k : Nat} : ∀ {rows : List (List Value)}, (∀ r ∈ rows, r.length = k) → ∀ {j i : Nat} {r : List Value} {u : Value}, rows[j]? = some r → r[i]? = some u → rows.flatten[j * k + i]? = some u
  | [], _, j, i, r, u, hj, _ => by simp at hj
  | x :: rows, h, 0, i, r, u, hj, hi => by
    simp at hj
    subst hj
    have hl : i < x.length := (List.getElem?_eq_some_iff.1 hi).1
    rw [List.flatten_cons, List.getElem?_append_left (by omega), Nat.zero_mul, Nat.zero_add]
    exact hi
  | x :: rows, h, j + 1, i, r, u, hj, hi => by
    have hx := h x (by simp)
    rw [List.flatten_cons, List.getElem?_append_right (by rw [hx, Nat.succ_mul]; omega), hx, show (j + 1) * k + i - k = j * k + i by rw [Nat.succ_mul]; omega]
    exact flat_at (fun y hy => h y (by simp [hy])) (by simpa using hj) hi

/-- v owns rows of k cells each -/
structure OwnK (w : World) (base : Nat) (e : TypeId) (k : Nat) (v : Value) (rows : List (List Value)) : Prop where
  own : w.ownsRow base e k v rows.length rows.flatten
  len : ∀ r ∈ rows, r.length = k

section
variable {w w' : World} {base : Nat} {e : TypeId} {k : Nat} {v : Value} {rows : List (List Value)}

theorem OwnK.nil (w : World) (base : Nat) (e : TypeId) (k : Nat) : OwnK w base e k (.slice none 0 0) [] := ⟨World.ownsRow_nil _ _ _ _, fun r h => by cases h⟩

theorem OwnK.form (h : OwnK w base e k v rows) : ∃ a cap, v = .slice a rows.length cap ∧ rows.length ≤ cap ∧ cap ≤ maxLen ∧ (a = none → cap = 0) ∧ (∀ p, a = some p → ∃ g, p = ⟨g, 0, none⟩ ∧ base ≤ g ∧ g < w.heap.size) ∧ RowAt w a rows.flatten := by
  rcases h.own.2 with ⟨rfl, hn⟩ | ⟨g, cap, cur, rfl, hb, hg, hnc, hcm, hcs, htake⟩
  · refine ⟨none, 0, by rw [hn], by omega, by simp [maxLen], fun _ => rfl, fun p hp => by simp at hp, ?_⟩
    have : rows = [] := List.eq_nil_of_length_eq_zero hn
    subst this
    exact RowAt.nil _ _
  · refine ⟨_, cap, rfl, hnc, hcm, (fun h => by cases h), fun p hp => ⟨g, by simpa using hp.symm, hb, (Array.getElem?_eq_some_iff.1 hg).1⟩, ?_⟩
    have hB : Blk w g cur e := hg
    exact hB.rowAt (off := 0) (n := rows.length * k) (by simpa using htake)

theorem OwnK.kp {S : Nat → Prop} (h : OwnK w base e k v rows) (kk : Kp S w w') (hS : ∀ j, v.ownBlock = some j → ¬ S j) : OwnK w' base e k v rows := by
  refine ⟨⟨h.own.1, ?_⟩, h.len⟩
  rcases h.own.2 with hn | ⟨g, cap, cur, rfl, hb, hgg, rest⟩
  · exact .inl hn
  · refine .inr ⟨g, cap, cur, rfl, hb, ?_, rest⟩
    rw [kk.block g (Array.getElem?_eq_some_iff.1 hgg).1 (hS g rfl)]
    exact hgg

theorem OwnK.mono {b' : Nat} (h : OwnK w base e k v rows) (hb : b' ≤ base) : OwnK w b' e k v rows := by
  refine ⟨⟨h.own.1, ?_⟩, h.len⟩
  rcases h.own.2 with hn | ⟨g, cap, cur, rfl, hg, hgg, rest⟩
  · exact .inl hn
  · exact .inr ⟨g, cap, cur, rfl, by omega, hgg, rest⟩

theorem OwnK.lt (h : OwnK w base e k v rows) : ∀ j, v.ownBlock = some j → base ≤ j ∧ j < w.heap.size := World.ownsRow.lt h.own

theorem OwnK.leads (h : OwnK w base e k v rows) (hc : 0 < rows.length) : ∃ g cap, v = .slice (some ⟨g, 0, none⟩) rows.length cap ∧ base ≤ g ∧ g < w.heap.size := by
  rcases h.own.2 with ⟨rfl, hn⟩ | ⟨g, cap, cur, rfl, hb, hg, _⟩
  · omega
  · exact ⟨g, cap, rfl, hb, (Array.getElem?_eq_some_iff.1 hg).1⟩

theorem OwnK.alloc (h : OwnK w base e k v rows) (o : Obj) : OwnK (w.alloc o) base e k v rows := ⟨World.ownsRow.alloc h.own o, h.len⟩
theorem OwnK.drew (h : OwnK w base e k v rows) : OwnK w.drew base e k v rows := ⟨h.own, h.len⟩
theorem OwnK.drewN (h : OwnK w base e k v rows) (n : Nat) : OwnK (w.drewN n) base e k v rows := ⟨h.own, h.len⟩
end

/-- the row of cells at a, as rows of k cells: cell i of row j -/
theorem RowAt.cellAt {w : World} {a : Option Addr} {k : Nat} {rows : List (List Value)} (h : RowAt w a rows.flatten) (hl : ∀ r ∈ rows, r.length = k) {j i : Nat} {r : List Value} {u : Value} (hj : rows[j]? = some r) (hi : r[i]? = some u) : Elem w a (j * k + i) u :=
  h _ _ (flat_at hl hj hi)

/-- 'append(v, x)' of one struct x of k cells, which lies at the head of block ad -/
theorem wpList_appendK {P : Program} {w : World} {ops : Array Oper} {rest : List Oper} {o : Oper} {a : Act} {Q : Exit → Act → World → Prop} (hgd : o.guard = none) (s x : Operand) (t e : TypeId)
    (ho : o.op = .call { callee := .builtin .append, args := #[s, x], argTypes := #[t, t] }) {z : Value} {k bytes : Nat}
    (ht : P.underlying t = some (.slice e)) (hI : (P.info? e).map (fun i => (i.zero, i.size, i.bytes)) = some (some z, k, bytes)) (hzs : z.cells.size = k) (hk : 0 < k)
    {base : Nat} {v : Value} {rows : List (List Value)} (hown : OwnK w base e k v rows) (hs : a.eval s = v) (b : Nat) (r : List Value) (hx : a.eval x = .slice (some ⟨b, 0, none⟩) 1 1) (hr : r.length = k) (hnew : ∀ j u, r[j]? = some u → w.cell? ⟨b, j, none⟩ = some u) (h1 : ∀ u ∈ r, u.oneCell' = true)
    (hbytes : (rows.length + 1) * bytes ≤ 140737488355328) (hm : rows.length + 1 ≤ maxLen) (hbase : base ≤ w.heap.size)
    (h : ∀ v' w', OwnK w' base e k v' (rows ++ [r]) → w.grownBy w' v.ownBlock → (v'.ownBlock = v.ownBlock ∨ v'.ownBlock = some w.heap.size) → wpList P ops Q rest (a.put o.dst v') w') : wpList P ops Q (o :: rest) a w := by
  obtain ⟨i0, hi, hz0, hz1, hz2⟩ := info_parts hI
  refine wpList_append_own_at _ hgd s x t ho base e i0 z k bytes ht hi hz0 hz1 hz2 hzs hk v rows.length rows.flatten hs hown.own ⟨b, 0, none⟩ 1 1 r hx (by omega) ?_ h1 hm hbytes hbase ?_
  · intro j u hj
    rw [add_plain', Nat.zero_add]
    exact hnew j u hj
  · intro v' w' h2 h3 _ h5
    refine h v' w' ⟨?_, ?_⟩ h3 h5
    · rw [List.length_append, List.flatten_append]
      simpa using h2
    · intro x hx
      rcases List.mem_append.1 hx with h | h
      · exact hown.len x h
      · simp at h; subst h; exact hr

end Go.Proofs.YtpejimlmokfppaaDoor
