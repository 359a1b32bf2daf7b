/-
  'append(v, u)' on a row of the call's own, and where the new row lies.
-/
import Derived.Test.YtccdjjlbiibjgaaBase
import Derived.Maps.AppendAt
namespace Go.Proofs.Ytccdjjlbiibjgaa
open Go.RowKit

theorem wpList_append1_at {P : Program} {w : World} {ops : Array Oper} {rest : List Oper} {o : Oper} {a : Act} {Q : Exit → Act → World → Prop} (hgd : o.guard = none) (s x : Operand) (t e : TypeId)
    (ho : o.op = .call { callee := .builtin .append, args := #[s, x], argTypes := #[t, t] }) {z : Value} {bytes : Nat}
    (ht : P.underlying t = some (.slice e)) (hI : (P.info? e).map (fun i => (i.zero, i.size, i.bytes)) = some (some z, 1, bytes)) (hzs : z.cells.size = 1)
    {base : Nat} {v : Value} {cs : List Value} (hown : Own w base e v cs) (hs : a.eval s = v) (ad : Addr) (u : Value) (hx : a.eval x = .slice (some ad) 1 1) (hnew : w.cell? ad = some u) (h1 : u.oneCell' = true)
    (hbytes : (cs.length + 1) * bytes ≤ 140737488355328) (hm : cs.length + 1 ≤ maxLen) (hbase : base ≤ w.heap.size)
    (h : ∀ v' w', Own w' base e v' (cs ++ [u]) → w.grownBy w' v.ownBlock → (v'.ownBlock = v.ownBlock ∨ v'.ownBlock = some w.heap.size) → wpList P ops Q rest (a.put o.dst v') w') : wpList P ops Q (o :: rest) a w := by
  obtain ⟨i0, hi, hz0, hz1, hz2⟩ := info_parts hI
  refine wpList_append_own_at _ hgd s x t ho base e i0 z 1 bytes ht hi hz0 hz1 hz2 hzs (by decide) v cs.length cs hs hown ad 1 1 [u] hx rfl ?_ ?_ hm hbytes hbase ?_
  · intro j u' hj
    match j, hj with
    | 0, hj =>
      have : ad.add 0 = ad := by unfold Addr.add; split <;> simp_all
      simp at hj
      rw [this, ← hj]; exact hnew
  · intro u' hu; simp at hu; subst hu; exact h1
  · intro v' w' h2 h3 _ h5
    exact h v' w' (by unfold Own; rw [List.length_append]; exact h2) h3 h5

end Go.Proofs.Ytccdjjlbiibjgaa
