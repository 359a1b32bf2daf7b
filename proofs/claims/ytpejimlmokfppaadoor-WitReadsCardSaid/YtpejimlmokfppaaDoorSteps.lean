/-
  append of a whole slice of structs: as a step of a region that draws its order, and of one that does not.
-/
import Derived.Test.YtpejimlmokfppaaDoorStrips
import Derived.Maps.AppendAt
import Derived.Deep.AppendLies
namespace Go.Proofs.YtpejimlmokfppaaDoor
open Go.RowKit

theorem own_run {P : Program} {w : World} {t ty e : TypeId} {z : Value} {k bytes : Nat} (ht : P.underlying t = some (.slice e)) (hI : (P.info? e).map (fun i => (i.zero, i.size, i.bytes)) = some (some z, k, bytes)) (hzs : z.cells.size = k) (hk : 0 < k)
    {base : Nat} {v : Value} {rows : List (List Value)} (hown : OwnK w base e k v rows) {src : Option Addr} {m c : Nat} {news : List (List Value)} (hlen : ∀ r ∈ news, r.length = k) (hm : news.length = m) (hrow : RowAt w src news.flatten) (hnil : src = none → c = 0) (h1 : ∀ u ∈ news.flatten, u.oneCell' = true)
    (hbytes : (rows.length + m) * bytes ≤ 140737488355328) (hml : rows.length + m ≤ maxLen) (hbase : base ≤ w.heap.size) :
    ∃ v' w', (Builtin.append_ #[t, t] ty #[v, .slice src m c]).run P w = .ok v' w' ∧ OwnK w' base e k v' (rows ++ news) ∧ w.grownBy w' v.ownBlock ∧ (v'.ownBlock = v.ownBlock ∨ v'.ownBlock = some w.heap.size) := by
  obtain ⟨i0, hi, hz0, hz1, hz2⟩ := info_parts hI
  have hfl : news.flatten.length = m * k := by rw [flat_length hlen, hm]
  cases src with
  | none =>
    have hn : news = [] := by
      cases news with
      | nil => rfl
      | cons r rs =>
        have hr : r.length = k := hlen r (by simp)
        cases r with
        | nil => simp at hr; omega
        | cons u r => obtain ⟨_, _, h, _⟩ := hrow 0 u (by simp); cases h
    subst hn
    have hm0 : m = 0 := by simpa using hm.symm
    subst hm0
    rw [hnil rfl]
    exact ⟨v, w, run_append_owned_none (P := P) (w := w) base t ty e i0 k ht hi v rows.length rows.flatten hown.own, by rw [List.append_nil]; exact hown, ⟨rfl, rfl, rfl, Nat.le_refl _, fun _ _ _ => rfl⟩, .inl rfl⟩
  | some ad =>
    obtain ⟨v', w', hr, h2, h3, _, h5⟩ := run_append_own_at (P := P) w base t ty e i0 z k bytes ht hi hz0 hz1 hz2 hzs hk v rows.length rows.flatten hown.own ad m c news.flatten hfl (fun j u hj => by
      obtain ⟨b, off, hab, hc⟩ := hrow j u hj
      simp only [Option.some.injEq] at hab
      subst hab
      rw [add_plain']
      exact hc) h1 hml hbytes hbase
    refine ⟨v', w', hr, ⟨?_, ?_⟩, h3, h5⟩
    · rw [List.length_append, hm, List.flatten_append]; exact h2
    · intro x hx
      rcases List.mem_append.1 hx with h | h
      · exact hown.len x h
      · exact hlen x h

/-- 'append(v, xs...)' of structs of k cells: at an operation -/
theorem wp_appendAllK {P : Program} {w : World} {o : Oper} {a : Act} {K : Act → World → Prop} {Q : Exit → Act → World → Prop} (s x : Operand) (t e : TypeId)
    (ho : o.op = .call { callee := .builtin .append, args := #[s, x], argTypes := #[t, t] }) {z : Value} {k bytes : Nat}
    (ht : P.underlying t = some (.slice e)) (hI : (P.info? e).map (fun i => (i.zero, i.size, i.bytes)) = some (some z, k, bytes)) (hzs : z.cells.size = k) (hk : 0 < k)
    {base : Nat} {v : Value} {rows : List (List Value)} (hown : OwnK w base e k v rows) (hs : a.eval s = v) (src : Option Addr) (m c : Nat) (news : List (List Value)) (hx : a.eval x = .slice src m c) (hlen : ∀ r ∈ news, r.length = k) (hm : news.length = m) (hrow : RowAt w src news.flatten) (hnil : src = none → c = 0) (h1 : ∀ u ∈ news.flatten, u.oneCell' = true)
    (hbytes : (rows.length + m) * bytes ≤ 140737488355328) (hml : rows.length + m ≤ maxLen) (hbase : base ≤ w.heap.size)
    (h : ∀ v' w', OwnK w' base e k v' (rows ++ news) → w.grownBy w' v.ownBlock → (v'.ownBlock = v.ownBlock ∨ v'.ownBlock = some w.heap.size) → K (a.put o.dst v') w') : Oper.wp P o a w K Q := by
  obtain ⟨v', w', hr, h2, h3, h5⟩ := own_run (P := P) (w := w) (t := t) (ty := o.type) ht hI hzs hk hown hlen hm hrow hnil h1 hbytes hml hbase
  unfold Oper.wp execOp
  simp only [ho, resolve, invoke, builtin, Sem.run_bind, Sem.run_pure, Result.andThen_ok, List.map_toArray, List.map_cons, List.map_nil, hs, hx, hr]
  exact h v' w' h2 h3 h5

/-- .. at a list of operations -/
theorem wpList_appendAllK {P : Program} {w : World} {ops : Array Oper} {rest : List Oper} {o : Oper} {a : Act} {Q : Exit → Act → World → Prop} (hgd : o.guard = none) (s x : Operand) (t e : TypeId)
    (ho : o.op = .call { callee := .builtin .append, args := #[s, x], argTypes := #[t, t] }) {z : Value} {k bytes : Nat}
    (ht : P.underlying t = some (.slice e)) (hI : (P.info? e).map (fun i => (i.zero, i.size, i.bytes)) = some (some z, k, bytes)) (hzs : z.cells.size = k) (hk : 0 < k)
    {base : Nat} {v : Value} {rows : List (List Value)} (hown : OwnK w base e k v rows) (hs : a.eval s = v) (src : Option Addr) (m c : Nat) (news : List (List Value)) (hx : a.eval x = .slice src m c) (hlen : ∀ r ∈ news, r.length = k) (hm : news.length = m) (hrow : RowAt w src news.flatten) (hnil : src = none → c = 0) (h1 : ∀ u ∈ news.flatten, u.oneCell' = true)
    (hbytes : (rows.length + m) * bytes ≤ 140737488355328) (hml : rows.length + m ≤ maxLen) (hbase : base ≤ w.heap.size)
    (h : ∀ v' w', OwnK w' base e k v' (rows ++ news) → w.grownBy w' v.ownBlock → (v'.ownBlock = v.ownBlock ∨ v'.ownBlock = some w.heap.size) → wpList P ops Q rest (a.put o.dst v') w') : wpList P ops Q (o :: rest) a w :=
  wpList_plain hgd fun _ hK => wp_appendAllK s x t e ho ht hI hzs hk hown hs src m c news hx hlen hm hrow hnil h1 hbytes hml hbase fun v' w' h2 h3 h4 => hK _ _ (h v' w' h2 h3 h4)

/-- .. at a step of a region that draws its order -/
theorem step_appendAllK {P : Program} {w : World} {ops : Array Oper} {o : Oper} {a : Act} {K : Act → World → Prop} {Q : Exit → Act → World → Prop} {E : Prop} (hgd : o.guard = none) (s x : Operand) (t e : TypeId)
    (ho : o.op = .call { callee := .builtin .append, args := #[s, x], argTypes := #[t, t] }) {z : Value} {k bytes : Nat}
    (ht : P.underlying t = some (.slice e)) (hI : (P.info? e).map (fun i => (i.zero, i.size, i.bytes)) = some (some z, k, bytes)) (hzs : z.cells.size = k) (hk : 0 < k)
    {base : Nat} {v : Value} {rows : List (List Value)} (hown : OwnK w base e k v rows) (hs : a.eval s = v) (src : Option Addr) (m c : Nat) (news : List (List Value)) (hx : a.eval x = .slice src m c) (hlen : ∀ r ∈ news, r.length = k) (hm : news.length = m) (hrow : RowAt w src news.flatten) (hnil : src = none → c = 0) (h1 : ∀ u ∈ news.flatten, u.oneCell' = true)
    (hbytes : (rows.length + m) * bytes ≤ 140737488355328) (hml : rows.length + m ≤ maxLen) (hbase : base ≤ w.heap.size)
    (h : ∀ v' w', OwnK w' base e k v' (rows ++ news) → w.grownBy w' v.ownBlock → (v'.ownBlock = v.ownBlock ∨ v'.ownBlock = some w.heap.size) → K (a.put o.dst v') w') :
    if Region.wanted o (yielded ops a.tmps) = true then Oper.wp P o a w K Q else E := by
  have hw : Region.wanted o (yielded ops a.tmps) = true := by simp [Region.wanted, hgd]
  rw [if_pos hw]
  exact wp_appendAllK s x t e ho ht hI hzs hk hown hs src m c news hx hlen hm hrow hnil h1 hbytes hml hbase h

theorem flat_ones : ∀ cs : List Value, (cs.map (fun c => [c])).flatten = cs
  | [] => rfl
  | a :: r => by rw [List.map_cons, List.flatten_cons, flat_ones r]; rfl

/-- a row of one-cell elements, as rows of one -/
theorem Own.rows {w : World} {base : Nat} {e : TypeId} {v : Value} {cs : List Value} (h : Own w base e v cs) : OwnK w base e 1 v (cs.map (fun c => [c])) := by
  refine ⟨?_, fun r hr => by obtain ⟨x, _, rfl⟩ := List.mem_map.1 hr; rfl⟩
  have e1 := flat_ones cs
  rw [List.length_map, e1]
  exact h

theorem OwnK.row {w : World} {base : Nat} {e : TypeId} {v : Value} {cs : List Value} (h : OwnK w base e 1 v (cs.map (fun c => [c]))) : Own w base e v cs := by
  have h1 := h.own
  have e1 := flat_ones cs
  rw [List.length_map, e1] at h1
  exact h1

end Go.Proofs.YtpejimlmokfppaaDoor
