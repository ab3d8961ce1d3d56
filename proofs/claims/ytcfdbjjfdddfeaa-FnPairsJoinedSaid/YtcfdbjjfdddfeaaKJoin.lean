/-
  Joined values in memory: copied, compared, marked, held.
-/
import Derived.Test.YtcfdbjjfdddfeaaFndC
import Derived.Test.YtcfdbjjfdddfeaaJoinA
namespace Go.Proofs.Ytcfdbjjfdddfeaa
open Go.RowKit Knot

/-- A Joined whose two slices lie from block lo on and below block hi, in two blocks. -/
def JoinedIn (w : World) (lo hi : Nat) (v u : Value) (xs ys : List Int) : Prop := IntsIn w lo hi v xs ∧ IntsIn w lo hi u ys ∧ ∀ k, v.ownBlock = some k → u.ownBlock ≠ some k
section
variable {w w' : World} {lo hi : Nat} {v u : Value} {xs ys : List Int}
theorem JoinedIn.chg (h : JoinedIn w lo hi v u xs ys) {lo' hi' : Nat} (hb : Chg lo' hi' w w') (hd : hi ≤ lo' ∨ hi' ≤ lo) : JoinedIn w' lo hi v u xs ys := ⟨h.1.chg hb hd, h.2.1.chg hb hd, h.2.2⟩
theorem JoinedIn.below (h : JoinedIn w lo hi v u xs ys) (hb : Below w.heap.size w w') : JoinedIn w' lo hi v u xs ys := ⟨h.1.below hb, h.2.1.below hb, h.2.2⟩
theorem JoinedIn.alloc (h : JoinedIn w lo hi v u xs ys) (o : Obj) : JoinedIn (w.alloc o) lo hi v u xs ys := h.below (Joins.below_alloc1 _ _)
theorem JoinedIn.nil (w : World) : JoinedIn w w.heap.size w.heap.size (.slice none 0 0) (.slice none 0 0) [] [] := ⟨IntsIn.nil _ _ _ (Nat.le_refl _), IntsIn.nil _ _ _ (Nat.le_refl _), fun k hk => by simp [Value.ownBlock] at hk⟩
end

theorem toJoinedK_any (a : Option Addr) (len cap : Nat) (zs : List Int) (b : Option Addr) (len2 cap2 : Nat) (ys : List Int) (w : World) (hr : IsRow .i64 w a len cap zs) (hs : IsRow .i64 w b len2 cap2 ys) (h1 : len ≤ 1048576) (h2 : len2 ≤ 1048576) :
    Calls Try.prog 17 #[.agg #[.slice a len cap, .slice b len2 cap2]] w fun e w' => ∃ g h, e = .returned (.agg #[.slice (some ⟨g, 0, none⟩) len len, .slice (some ⟨h, 0, none⟩) len2 len2]) ∧
      JoinedIn w' w.heap.size w'.heap.size (.slice (some ⟨g, 0, none⟩) len len) (.slice (some ⟨h, 0, none⟩) len2 len2) (zs.take len) (ys.take len2) ∧ Below w.heap.size w w' :=
  (toJoined_any a len cap zs b len2 cap2 ys w hr hs h1 h2).mono fun _ _ ⟨g, h, he, i1, i2, hne, hb⟩ => ⟨g, h, he, ⟨IntsIn.ofInts i1 (by simp; omega), IntsIn.ofInts i2 (by simp; omega), fun k hk e => hne (by simp [Value.ownBlock] at hk e; omega)⟩, hb⟩
theorem decide_pair {α β : Type} [DecidableEq α] [DecidableEq β] (a c : α) (b d : β) : decide ((a, b) = (c, d)) = decide (a = c ∧ b = d) := by simp
theorem eqJoinedK_any (v1 v2 u1 u2 : Value) (a b c d : List Int) (w : World) (lo hi lo' hi' : Nat) (h : JoinedIn w lo hi v1 v2 a b) (k : JoinedIn w lo' hi' u1 u2 c d) (r : Bool) (hr : decide (a = c ∧ b = d) = r) :
    Calls Try.prog 19 #[.agg #[v1, v2], .agg #[u1, u2]] w fun e w' => e = .returned (.bool r) ∧ Below w.heap.size w w' :=
  eqJoined_any v1 v2 u1 u2 a b c d w h.1.ints h.2.1.ints k.1.ints k.2.1.ints r hr
set_option maxHeartbeats 1000000 in
theorem markJoinedK_any (v u : Value) (xs ys : List Int) (k0 : Int) (w : World) (lo hi : Nat) (hx : JoinedIn w lo hi v u xs ys) (hk0 : 0 ≤ k0) (hk1 : k0 + xs.length + ys.length ≤ 4000000000000000000) :
    Calls Try.prog 22 #[.agg #[v, u], .int .i64 k0] w fun e w' => e = .returned (.int .i64 (k0 + xs.length + ys.length)) ∧ JoinedIn w' lo hi v u (upFrom k0 xs.length) (upFrom (k0 + xs.length) ys.length) ∧ Chg lo hi w w' := by
  obtain ⟨hv, hu, hne⟩ := hx
  obtain ⟨A, cA, rfl, lA, _⟩ := hv.1.open_
  obtain ⟨D, cD, rfl, lD, _⟩ := hu.1.open_
  have bl := Joins.below_alloc1 w (.cells #[.slice A xs.length cA, .slice D ys.length cD] 27)
  have x0 := Box.new w 27 #[.slice A xs.length cA, .slice D ys.length cD]
  have hv1 := hv.alloc (.cells #[.slice A xs.length cA, .slice D ys.length cD] 27)
  have hu1 := hu.alloc (.cells #[.slice A xs.length cA, .slice D ys.length cD] 27)
  have hlo : hi ≤ w.heap.size := hv.2.2.1
  have hl1 := hv.2.2.2
  have hl2 := hu.2.2.2
  have h1 : k0 + xs.length ≤ 4000000000000000000 := by omega
  go_enter Try.func22, Try.ntmps22
  go_wp2_with fail
  refine (markInt64S_any _ xs k0 _ lo hv1.1 hk0 h1).mono ?_
  rintro e w1 ⟨rfl, i1, g1⟩
  have hu2 : Ints w1 lo (.slice D ys.length cD) ys := Row.grown hu1.1 g1 fun k hk e => hne k e.symm hk
  have x1 : Box w1 w.heap.size 27 #[.slice A xs.length cA, .slice D ys.length cD] := x0.grown g1 fun e => by
    have := hv.2.1 _ e.symm
    omega
  have c1 := x1.cell 1
  have c0 := x1.cell 0
  have n1 := x1.lt
  go_wp2_with fail
  refine (markInt64S_any _ ys (k0 + xs.length) _ lo hu2 (by omega) hk1).mono ?_
  rintro e w2 ⟨rfl, i2, g2⟩
  clear c1 c0 n1
  go_wp2_with fail
  go_ret
  have s1 := g1.size
  rw [World.size_alloc] at s1
  have s2 := g2.size
  refine ⟨rfl, ⟨⟨Row.grown i1 g2 fun k hk e => hne k hk e.symm, hv.2.1, by omega, by rw [upFrom_length]; exact hl1⟩, ⟨i2, hu.2.1, by omega, by rw [upFrom_length]; exact hl2⟩, hne⟩, ?_⟩
  refine ⟨g2.os.trans (g1.os.trans bl.os), g2.tape.trans (g1.tape.trans bl.tape), g2.output.trans (g1.output.trans bl.output), by omega, fun k hk hd => ?_⟩
  have a1 : some k ≠ (Value.slice A xs.length cA).ownBlock := fun e => by
    have := hv.2.1 _ e.symm
    have := (Row.lt hv.1 e.symm).1
    omega
  have a2 : some k ≠ (Value.slice D ys.length cD).ownBlock := fun e => by
    have := hu.2.1 _ e.symm
    have := (Row.lt hu.1 e.symm).1
    omega
  rw [g2.block k (by omega) a2, g1.block k (by rw [World.size_alloc]; omega) a1]
  exact bl.block k hk
set_option maxHeartbeats 1000000 in
theorem heldJoinedK_any (v u : Value) (n m : Nat) (k0 : Int) (w : World) (lo hi : Nat) (hx : JoinedIn w lo hi v u (upFrom k0 n) (upFrom (k0 + n) m)) (hk0 : 0 ≤ k0) (hk1 : k0 + n + m ≤ 4000000000000000000) :
    Calls Try.prog 23 #[.agg #[v, u], .int .i64 k0] w fun e w' => e = .returned (.int .i64 (k0 + n + m)) ∧ Below w.heap.size w w' := by
  obtain ⟨hv, hu, hne⟩ := hx
  obtain ⟨A, cA, rfl, lA, _⟩ := hv.1.open_
  obtain ⟨D, cD, rfl, lD, _⟩ := hu.1.open_
  simp only [upFrom_length] at hv hu ⊢
  have bl := Joins.below_alloc1 w (.cells #[.slice A n cA, .slice D m cD] 27)
  have hv1 := hv.alloc (.cells #[.slice A n cA, .slice D m cD] 27)
  have hu1 := hu.alloc (.cells #[.slice A n cA, .slice D m cD] 27)
  have h1 : k0 + n ≤ 4000000000000000000 := by omega
  go_enter Try.func23, Try.ntmps23
  go_wp2_with fail
  refine (heldInt64S_any _ n k0 _ lo hv1.1 hk0 h1).mono ?_
  rintro e w' ⟨rfl, rfl⟩
  go_wp2_with fail
  refine (heldInt64S_any _ m (k0 + n) _ lo hu1.1 (by omega) hk1).mono ?_
  rintro e w' ⟨rfl, rfl⟩
  go_wp2_with fail
  go_ret
  exact ⟨rfl, bl⟩

section
variable {w : World} {lo hi lo' hi' : Nat} {v1 v2 u1 u2 : Value} {a b c d : List Int} {k0 : Int} {r : Bool}
theorem K_toJoined {A D : Option Addr} {len cap len2 cap2 : Nat} {zs ys : List Int} (hr : IsRow .i64 w A len cap zs) (hs : IsRow .i64 w D len2 cap2 ys) (h1 : len ≤ 1048576) (h2 : len2 ≤ 1048576) :
    Calls Try.prog 17 #[.agg #[.slice A len cap, .slice D len2 cap2]] w fun e w' => ∃ g h, e = .returned (.agg #[.slice (some ⟨g, 0, none⟩) len len, .slice (some ⟨h, 0, none⟩) len2 len2]) ∧
      JoinedIn w' w.heap.size w'.heap.size (.slice (some ⟨g, 0, none⟩) len len) (.slice (some ⟨h, 0, none⟩) len2 len2) (zs.take len) (ys.take len2) ∧ Below w.heap.size w w' :=
  toJoinedK_any A len cap zs D len2 cap2 ys w hr hs h1 h2
theorem K_eqJoined (h : JoinedIn w lo hi v1 v2 a b) (k : JoinedIn w lo' hi' u1 u2 c d) (hr : decide (a = c ∧ b = d) = r) :
    Calls Try.prog 19 #[.agg #[v1, v2], .agg #[u1, u2]] w fun e w' => e = .returned (.bool r) ∧ Below w.heap.size w w' :=
  eqJoinedK_any v1 v2 u1 u2 a b c d w lo hi lo' hi' h k r hr
theorem K_markJoined (hx : JoinedIn w lo hi v1 v2 a b) (hk0 : 0 ≤ k0) (hk1 : k0 ≤ 1000000000000) :
    Calls Try.prog 22 #[.agg #[v1, v2], .int .i64 k0] w fun e w' => e = .returned (.int .i64 (k0 + a.length + b.length)) ∧ JoinedIn w' lo hi v1 v2 (upFrom k0 a.length) (upFrom (k0 + a.length) b.length) ∧ Chg lo hi w w' :=
  markJoinedK_any v1 v2 a b k0 w lo hi hx hk0 (by have := hx.1.len; have := hx.2.1.len; omega)
theorem K_heldJoined {n m : Nat} (hx : JoinedIn w lo hi v1 v2 (upFrom k0 n) (upFrom (k0 + n) m)) (hk0 : 0 ≤ k0) (hk1 : k0 ≤ 1000000000000) :
    Calls Try.prog 23 #[.agg #[v1, v2], .int .i64 k0] w fun e w' => e = .returned (.int .i64 (k0 + n + m)) ∧ Below w.heap.size w w' :=
  heldJoinedK_any v1 v2 n m k0 w lo hi hx hk0 (by have h1 := hx.1.len; have h2 := hx.2.1.len; rw [upFrom_length] at h1 h2; omega)
theorem K_szJoined {A D : Option Addr} {len cap len2 cap2 : Nat} {left : Int} (h0 : 0 ≤ left) (h1 : left ≤ 1048576) (l1 : len ≤ 9223372036854775807) (l2 : len2 ≤ 9223372036854775807) :
    Calls Try.prog 15 #[.agg #[.slice A len cap, .slice D len2 cap2], .int .i64 left] w fun e w' => e = .returned (.int .i64 (if (len : Int) + len2 ≤ left then left - len - len2 else -1)) ∧ Below w.heap.size w w' :=
  szJoined_any A len cap D len2 cap2 left w h0 h1 l1 l2
end
end Go.Proofs.Ytcfdbjjfdddfeaa
