/-
  'append(out, y)' of one element of several cells, with where the new row lies.
-/
import Derived.Test.YtihfdgnocdphcaaKind
import Derived.Maps.AppendAt
namespace Go.Proofs.Ytihfdgnocdphcaa
open Go.RowKit Knot

theorem append_cells {T E : TypeId} {z : Value} {sz bytes : Nat} (hT : Try.prog.underlying T = some (.slice E)) (hinfo : (Try.prog.info? E).map (fun i => (i.zero, i.size, i.bytes)) = some (some z, sz, bytes)) (hzs : z.cells.size = sz) (hsz : 0 < sz) (hby : bytes ≤ 64)
    {ops : Array Oper} {rest : List Oper} {o : Oper} {a : Act} {Q : Exit → Act → World → Prop} {wr : World} (hgd : o.guard = none) (s x : Operand)
    (ho : o.op = .call { callee := .builtin .append, args := #[s, x], argTypes := #[T, T] })
    (B H n : Nat) (v : Value) (xs : List Value) (news : List Value) (hnl : news.length = sz) (h1 : ∀ u ∈ news, u.oneCell' = true) (hv : wr.ownsRow B E sz v n xs) (hs : a.eval s = v) (hx : a.eval x = .slice (some ⟨H, 0, none⟩) 1 1) (hH : wr.heap.size = H)
    (hlen : n < 1000000000) (hB : B ≤ wr.heap.size)
    (h : ∀ g c w', w'.ownsRow B E sz (.slice (some ⟨g, 0, none⟩) (n + 1) c) (n + 1) (xs ++ news) → wr.grownBy w' v.ownBlock → (v.ownBlock = some g ∨ wr.heap.size ≤ g) →
      wpList Try.prog ops Q rest (a.put o.dst (.slice (some ⟨g, 0, none⟩) (n + 1) c)) w') :
    wpList Try.prog ops Q (o :: rest) a (wr.alloc (.cells news.toArray E)) := by
  subst hH
  obtain ⟨i0, hi, hz0, hz1, hz2⟩ := info_parts hinfo
  have hown := World.ownsRow.alloc hv (.cells news.toArray E)
  refine wpList_append_own_at _ hgd s x T ho B E i0 z sz bytes hT hi hz0 hz1 hz2 hzs hsz v n xs hs hown ⟨wr.heap.size, 0, none⟩ 1 1 news hx (by omega)
    (fun j u hu => ?_) h1 (by unfold maxLen; omega) (by
      have : (n + 1) * bytes ≤ 1000000000 * 64 := Nat.mul_le_mul (by omega) hby
      omega) (by rw [World.size_alloc]; omega) ?_
  · have hb := Box.new wr E news.toArray
    have hadd : (⟨wr.heap.size, 0, none⟩ : Addr).add j = ⟨wr.heap.size, j, none⟩ := by unfold Addr.add; split <;> simp_all
    rw [hadd, hb.cell j]
    simpa using hu
  · intro v' w' hown' hgrow _ hat
    rcases hown'.2 with ⟨_, h2⟩ | ⟨g, c, cur, rfl, hg, r⟩
    · omega
    · refine h g c w' hown' ⟨hgrow.os, hgrow.tape, hgrow.output, by have := hgrow.size; rw [World.size_alloc] at this; omega, fun k hk hne => ?_⟩ ?_
      · exact (hgrow.block k (by rw [World.size_alloc]; omega) hne).trans (Below.heap_alloc _ _ _ hk)
      · rcases hat with e | e
        · exact .inl e.symm
        · rw [World.size_alloc] at e
          simp [Value.ownBlock] at e
          exact .inr (by omega)
end Go.Proofs.Ytihfdgnocdphcaa
