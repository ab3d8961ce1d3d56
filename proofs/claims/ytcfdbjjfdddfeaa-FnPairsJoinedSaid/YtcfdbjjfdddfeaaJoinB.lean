/-
  A Joined of its own, and joining two groups.
-/
import Derived.Test.YtcfdbjjfdddfeaaGrp
import Derived.Test.YtcfdbjjfdddfeaaFndC
import Derived.Deep.RegionHeld3
namespace Go.Proofs.Ytcfdbjjfdddfeaa
open Go.RowKit Knot

/-- Block k is a box of two cells. -/
def Two (w : World) (k : Nat) (t : TypeId) : Prop := ∃ u0 u1, Box w k t #[u0, u1]
section
variable {w w' : World} {k : Nat} {t : TypeId}
theorem Two.below (h : Two w k t) (hb : Below w.heap.size w w') : Two w' k t := by
  obtain ⟨u0, u1, h⟩ := h
  exact ⟨u0, u1, h.below hb⟩
theorem Two.set2 (h : Two w k t) (a b : Value) : Two ((w.setCell ⟨k, 0, none⟩ a).setCell ⟨k, 1, none⟩ b) k t := by
  obtain ⟨u0, u1, h⟩ := h
  exact ⟨a, b, by simpa using (h.set_ 0 a).set_ 1 b⟩
theorem Box.set2 {u0 u1 : Value} (h : Box w k t #[u0, u1]) (a b : Value) : Box ((w.setCell ⟨k, 0, none⟩ a).setCell ⟨k, 1, none⟩ b) k t #[a, b] := by
  simpa using (h.set_ 0 a).set_ 1 b
end
theorem cell_below {w w' : World} {p : Addr} {u : Value} (hb : Below w.heap.size w w') (h : w.cell? p = some u) : w'.cell? p = some u := (hb.cell (World.block_lt_of_cell? w _ h)).trans h
theorem cell_far {w : World} {p q : Addr} {u x : Value} (hne : p.block ≠ q.block) (h : w.cell? p = some u) : (w.setCell q x).cell? p = some u := (World.cell?_setCell_far w q p x (Ne.symm hne)).trans h
theorem IntsIn.store {w : World} {lo hi : Nat} {v : Value} {xs : List Int} (h : IntsIn w lo hi v xs) {p : Addr} (hp : p.block < lo) (u : Value) : IntsIn (w.setCell p u) lo hi v xs :=
  ⟨Row.setCell h.1 (fun g hg => by have := (Row.lt h.1 hg).1; omega) u, h.2.1, by have := h.2.2.1; simpa [World.setCell] using this, h.2.2.2⟩
theorem IntsIn.apart {w : World} {lo hi lo' hi' : Nat} {v u : Value} {xs ys : List Int} (h : IntsIn w lo hi v xs) (k : IntsIn w lo' hi' u ys) (hd : hi ≤ lo' ∨ hi' ≤ lo) : ∀ g, v.ownBlock = some g → u.ownBlock ≠ some g := fun g hg e => by
  have h1 := (Row.lt h.1 hg).1
  have h2 := h.2.1 g hg
  have h3 := (Row.lt k.1 e).1
  have h4 := k.2.1 g e
  omega

set_option maxHeartbeats 2000000 in
theorem cloneJoined_any {w : World} {lo hi : Nat} {v1 v2 : Value} {xs ys : List Int} (h : JoinedIn w lo hi v1 v2 xs ys) :
    Calls Try.prog 69 #[.agg #[v1, v2]] w fun e w' => ∃ A c D d, e = .returned (.agg #[.slice A xs.length c, .slice D ys.length d]) ∧
      JoinedIn w' w.heap.size w'.heap.size (.slice A xs.length c) (.slice D ys.length d) xs ys ∧ Below w.heap.size w w' := by
  have ha := h.1
  have hb := h.2.1
  obtain ⟨A1, c1, rfl, _, _⟩ := h.1.1.open_
  obtain ⟨A2, c2, rfl, _, _⟩ := h.2.1.1.open_
  have bl := Joins.below_alloc2 w (.cells #[.slice A1 xs.length c1, .slice A2 ys.length c2] 27) (.cells #[.slice none 0 0, .slice none 0 0] 27)
  have ba := (Box.new w 27 #[.slice A1 xs.length c1, .slice A2 ys.length c2]).alloc (.cells #[.slice none 0 0, .slice none 0 0] 27)
  have bb := Box.new (w.alloc (.cells #[.slice A1 xs.length c1, .slice A2 ys.length c2] 27)) 27 #[.slice none 0 0, .slice none 0 0]
  rw [World.size_alloc] at bb
  go_enter Try.func69, Try.ntmps69
  go_wp2
  generalize ((w.alloc (.cells #[.slice A1 xs.length c1, .slice A2 ys.length c2] 27)).alloc (.cells #[.slice none 0 0, .slice none 0 0] 27)) = V at ba bb bl ⊢
  have q0 := ba.cell 0
  have q1 := ba.cell 1
  simp only [List.getElem?_toArray, List.getElem?_cons_zero, List.getElem?_cons_succ] at q0 q1
  have tw : Two V (w.heap.size + 1) 27 := ⟨_, _, bb⟩
  have h63 := bb.lt
  clear ba bb
  go_region_held3 (fun w' => Below w.heap.size w w' ∧ Two w' (w.heap.size + 1) 27 ∧ w'.cell? ⟨w.heap.size, 0, none⟩ = some (.slice A1 xs.length c1) ∧ w'.cell? ⟨w.heap.size, 1, none⟩ = some (.slice A2 ys.length c2))
    (first | exact ⟨bl.trans ((below_drewN _ _ 1)), tw, q0, q1⟩
           | (go_split_ands; exact ⟨bnext (w := w) (by assumption) (by assumption), Two.below (by assumption) (by assumption), cell_below (by assumption) (by assumption), cell_below (by assumption) (by assumption)⟩)
           | (go_split_ands; exact ⟨Below.setCell (Below.setCell (by assumption) (by simp) _) (by simp) _, Two.set2 (by assumption) _ _, cell_far (by simp) (cell_far (by simp) (by assumption)), cell_far (by simp) (cell_far (by simp) (by assumption))⟩))
    (first | (go_at_call 82; go_split_ands; (with_reducible refine (Clone_any (ha.below (by assumption))).mono ?_); rintro e w5 ⟨D1, d1, rfl, i1, g1⟩)
           | (go_at_call 82; go_split_ands; (with_reducible refine (Clone_any (hb.below (by assumption))).mono ?_); rintro e w6 ⟨D2, d2, rfl, i2, g2⟩; obtain ⟨u0, u1, bx⟩ := (by assumption : Two w5 (w.heap.size + 1) 27); have f0 := (bx.below g2).cell 0; have f1 := (bx.below g2).cell 1; have e0 := (bx.below g2).free 0; have e1 := (bx.below g2).free 1; have n1 := (bx.below g2).lt))
  go_split_ands
  go_wp2
  refine bodyPost_ret (v := .agg #[.slice D1 xs.length d1, .slice D2 ys.length d2]) (by simp [results, Try.results69, go_sem, n1, f0, f1, e0, e1]) rfl ⟨D1, d1, D2, d2, rfl, ⟨?_, ?_, ?_⟩, by assumption⟩
  · have s2 := g2.size
    exact (((i1.below g2).store (p := ⟨w.heap.size + 1, 0, none⟩) (by simp; omega) _).store (p := ⟨w.heap.size + 1, 1, none⟩) (by simp; omega) _).wider (by simp; omega) (by simp; omega) (Nat.le_refl _)
  · have s1 := g1.size
    exact ((i2.store (p := ⟨w.heap.size + 1, 0, none⟩) (by simp at s1 ⊢; omega) _).store (p := ⟨w.heap.size + 1, 1, none⟩) (by simp at s1 ⊢; omega) _).wider (by simp at s1 ⊢; omega) (by simp) (Nat.le_refl _)
  · exact (i1.below g2).apart i2 (.inl (Nat.le_refl _))
set_option maxHeartbeats 2000000 in
theorem l08Own_any {w : World} {b lo hi : Nat} {v1 v2 : Value} {xs ys : List Int} (hx : Box w b 27 #[v1, v2]) (h : JoinedIn w lo hi v1 v2 xs ys) :
    Calls Try.prog 68 #[.pointer (some ⟨b, 0, none⟩)] w fun e w' => ∃ A c D d, e = .returned (.agg #[.slice A xs.length c, .slice D ys.length d]) ∧
      JoinedIn w' w.heap.size w'.heap.size (.slice A xs.length c) (.slice D ys.length d) xs ys ∧ Below w.heap.size w w' := by
  have ha := h.1
  have hb := h.2.1
  obtain ⟨A1, c1, rfl, _, _⟩ := h.1.1.open_
  obtain ⟨A2, c2, rfl, _, _⟩ := h.2.1.1.open_
  have bl := Joins.below_alloc1 w (.cells #[.slice none 0 0, .slice none 0 0] 27)
  have ba := hx.alloc (.cells #[.slice none 0 0, .slice none 0 0] 27)
  have bb := Box.new w 27 #[.slice none 0 0, .slice none 0 0]
  have hbl := hx.lt
  go_enter Try.func68, Try.ntmps68
  go_wp2
  generalize (w.alloc (.cells #[.slice none 0 0, .slice none 0 0] 27)) = V at ba bb bl ⊢
  have q0 := ba.cell 0
  have q1 := ba.cell 1
  simp only [List.getElem?_toArray, List.getElem?_cons_zero, List.getElem?_cons_succ] at q0 q1
  have tw : Two V w.heap.size 27 := ⟨_, _, bb⟩
  have h63 := bb.lt
  have hne : ¬ b = w.heap.size := by omega
  clear ba bb
  go_region_held3 (fun w' => Below w.heap.size w w' ∧ Two w' w.heap.size 27 ∧ w'.cell? ⟨b, 0, none⟩ = some (.slice A1 xs.length c1) ∧ w'.cell? ⟨b, 1, none⟩ = some (.slice A2 ys.length c2))
    (first | exact ⟨bl.trans ((below_drewN _ _ 1)), tw, q0, q1⟩
           | (go_split_ands; exact ⟨bnext (w := w) (by assumption) (by assumption), Two.below (by assumption) (by assumption), cell_below (by assumption) (by assumption), cell_below (by assumption) (by assumption)⟩)
           | (go_split_ands; exact ⟨Below.setCell (Below.setCell (by assumption) (by simp) _) (by simp) _, Two.set2 (by assumption) _ _, cell_far hne (cell_far hne (by assumption)), cell_far hne (cell_far hne (by assumption))⟩))
    (first | (go_at_call 81; go_split_ands; (with_reducible refine (l00Own_any (ha.below (by assumption))).mono ?_); rintro e w5 ⟨D1, d1, rfl, i1, g1⟩)
           | (go_at_call 81; go_split_ands; (with_reducible refine (l00Own_any (hb.below (by assumption))).mono ?_); rintro e w6 ⟨D2, d2, rfl, i2, g2⟩; obtain ⟨u0, u1, bx⟩ := (by assumption : Two w5 w.heap.size 27); have f0 := (bx.below g2).cell 0; have f1 := (bx.below g2).cell 1; have e0 := (bx.below g2).free 0; have e1 := (bx.below g2).free 1; have n1 := (bx.below g2).lt))
  go_split_ands
  go_wp2
  refine bodyPost_ret (v := .agg #[.slice D1 xs.length d1, .slice D2 ys.length d2]) (by simp [results, Try.results68, go_sem, n1, f0, f1, e0, e1]) rfl ⟨D1, d1, D2, d2, rfl, ⟨?_, ?_, ?_⟩, by assumption⟩
  · have s2 := g2.size
    exact (((i1.below g2).store (p := ⟨w.heap.size, 0, none⟩) (by simp; omega) _).store (p := ⟨w.heap.size, 1, none⟩) (by simp; omega) _).wider (by simp; omega) (by simp; omega) (Nat.le_refl _)
  · have s1 := g1.size
    exact ((i2.store (p := ⟨w.heap.size, 0, none⟩) (by simp at s1 ⊢; omega) _).store (p := ⟨w.heap.size, 1, none⟩) (by simp at s1 ⊢; omega) _).wider (by simp at s1 ⊢; omega) (by simp) (Nat.le_refl _)
  · exact (i1.below g2).apart i2 (.inl (Nat.le_refl _))

/-- A Joined of the call's own in box b, all of it from block B on. -/
def JOwn (w : World) (B b : Nat) (v u : Value) (xs ys : List Int) : Prop :=
  Box w b 27 #[v, u] ∧ B ≤ b ∧ Ints w B v xs ∧ Ints w B u ys ∧ (∀ k, v.ownBlock = some k → k ≠ b ∧ u.ownBlock ≠ some k) ∧ (∀ k, u.ownBlock = some k → k ≠ b)
theorem JOwn.below {w w' : World} {B b : Nat} {v u : Value} {xs ys : List Int} (h : JOwn w B b v u xs ys) (hb : Below w.heap.size w w') : JOwn w' B b v u xs ys :=
  ⟨h.1.below hb, h.2.1, Row.below h.2.2.1 hb, Row.below h.2.2.2.1 hb, h.2.2.2.2⟩
/-- The store of a parent. -/
theorem JOwn.set {w : World} {B b g n c : Nat} {u : Value} {xs ys : List Int} (h : JOwn w B b (.slice (some ⟨g, 0, none⟩) n c) u xs ys) (k : Nat) (x : Int) :
    JOwn (w.setCell ⟨g, k, none⟩ (.int .i64 x)) B b (.slice (some ⟨g, 0, none⟩) n c) u (xs.set k x) ys := by
  obtain ⟨h1, h2, h3, h4, h5, h6⟩ := h
  have hg := h5 g rfl
  exact ⟨h1.far (fun e => hg.1 e.symm) _, h2, Row.set_ h3 k x, Row.setCell h4 (fun j hj e => hg.2 (by rw [hj, e])) _, h5, h6⟩
/-- The log grows. -/
theorem JOwn.push {w w' : World} {B b g c : Nat} {v u : Value} {xs ys zs : List Int} (h : JOwn w B b v u xs ys) (hi : Ints w' B (.slice (some ⟨g, 0, none⟩) zs.length c) zs) (hg : w.grownBy w' u.ownBlock) (hnew : u.ownBlock = some g ∨ w.heap.size ≤ g) :
    JOwn (w'.setCell ⟨b, 1, none⟩ (.slice (some ⟨g, 0, none⟩) zs.length c)) B b v (.slice (some ⟨g, 0, none⟩) zs.length c) xs zs := by
  obtain ⟨h1, h2, h3, h4, h5, h6⟩ := h
  have hgb : g ≠ b := by
    rcases hnew with e | e
    · exact h6 g e
    · have := h1.lt; omega
  have hvb : ∀ k, v.ownBlock = some k → k ≠ g := fun k hk e => by
    rcases hnew with e' | e'
    · exact (h5 k hk).2 (by rw [e', e])
    · have := (Row.lt h3 hk).2; omega
  refine ⟨?_, h2, Row.setCell (Row.grown h3 hg fun k hk e => (h5 k hk).2 e.symm) (fun k hk => (h5 k hk).1) _, Row.setCell hi (fun k hk => by simp [Value.ownBlock] at hk; subst hk; exact hgb) _, fun k hk => ⟨(h5 k hk).1, fun e => ?_⟩, fun k hk => ?_⟩
  · have := (h1.grown hg (fun e => h6 b e.symm rfl)).set_ 1 (.slice (some ⟨g, 0, none⟩) zs.length c)
    simpa using this
  · simp [Value.ownBlock] at e
    exact hvb k hk e.symm
  · simp [Value.ownBlock] at hk
    subst hk
    exact hgb
set_option maxHeartbeats 4000000 in
theorem l08Join_any {w : World} {B b : Nat} {v u : Value} {xs ys : List Int} {a c : Int} (h : JOwn w B b v u xs ys) (ho : OkJ xs ys) (a0 : 0 ≤ a) (a1 : a < xs.length) (c0 : 0 ≤ c) (c1 : c < xs.length) :
    Calls Try.prog 73 #[.pointer (some ⟨b, 0, none⟩), .int .i64 a, .int .i64 c] w fun e w' => ∃ u', e = .returned (.tuple #[]) ∧ JOwn w' B b v u' (joinR xs ys (root xs a) (root xs c)).1 (joinR xs ys (root xs a) (root xs c)).2 ∧ Below B w w' := by
  have hl2 := ho.n2
  obtain ⟨r0, r1, _⟩ := root_spec ho.forest a0 a1
  obtain ⟨s0, s1, _⟩ := root_spec ho.forest c0 c1
  have hlen : ys.length < 1000000000 := by
    have := nodup_length_le ho.nd ho.llo ho.lhi
    omega
  obtain ⟨A, cA, rfl, lA, hA⟩ := h.2.2.1.open_
  obtain ⟨D, cD, rfl, lD, hD⟩ := h.2.2.2.1.open_
  unfold maxLen at lA lD
  obtain ⟨g, rfl, _, _⟩ := hA (by omega)
  have hB := h.2.1
  have hbl := h.1.lt
  have q0 := h.1.cell 0
  have q1 := h.1.cell 1
  simp only [List.getElem?_toArray, List.getElem?_cons_zero, List.getElem?_cons_succ] at q0 q1
  obtain ⟨ra, hra⟩ : ∃ x, root xs a = x := ⟨_, rfl⟩
  obtain ⟨rc, hrc⟩ : ∃ x, root xs c = x := ⟨_, rfl⟩
  have HRA := Lib.hid hra
  have HRC := Lib.hid hrc
  have HO := Lib.hid ho
  rw [hra] at r0 r1 ⊢
  rw [hrc] at s0 s1 ⊢
  clear hra hrc ho hA hD
  have H0 := Lib.hid h
  by_cases he : ra = rc
  · skip
    have HJ : Hid (joinR xs ys ra rc = (xs, ys)) := Lib.hid (by simp [joinR, he])
    have te : (ra == rc) = true := by simp [he]
    clear he
    go_enter Try.func73, Try.ntmps73
    go_wp2_with fail
    refine (l08Root_any (xs := xs) (ys := ys) (k := a) ⟨H0.out.1, Row.le H0.out.2.2.1 (Nat.zero_le _), Row.le H0.out.2.2.2.1 (Nat.zero_le _)⟩ HO.out a0 a1).mono ?_
    rintro e w' ⟨rfl, rfl⟩
    go_wp2_with fail
    refine (l08Root_any (xs := xs) (ys := ys) (k := c) ⟨H0.out.1, Row.le H0.out.2.2.1 (Nat.zero_le _), Row.le H0.out.2.2.2.1 (Nat.zero_le _)⟩ HO.out c0 c1).mono ?_
    rintro e w' ⟨rfl, rfl⟩
    have bl : Below B w w := Below.refl _ _
    rw [HRA.out, HRC.out]
    have HH := Lib.hid h
    clear h q0 q1
    go_wp2
    refine bodyPost_ret (results_none rfl _ _ _) rfl ?_
    rw [HJ.out]
    exact ⟨_, rfl, HH.out, bl⟩
  by_cases hlt : ra < rc
  · skip
    have hmx : max ra rc = rc := by omega
    have hmn : min ra rc = ra := by omega
    have HJ : Hid (joinR xs ys ra rc = (xs.set (rc).toNat ra, ys ++ [rc])) := Lib.hid (by simp [joinR, he, hmx, hmn])
    have te : (ra == rc) = false := by simp [he]
    have tl : decide (ra < rc) = true := by simp; omega
    clear he hmx hmn
    go_enter Try.func73, Try.ntmps73
    go_wp2_with fail
    refine (l08Root_any (xs := xs) (ys := ys) (k := a) ⟨H0.out.1, Row.le H0.out.2.2.1 (Nat.zero_le _), Row.le H0.out.2.2.2.1 (Nat.zero_le _)⟩ HO.out a0 a1).mono ?_
    rintro e w' ⟨rfl, rfl⟩
    go_wp2_with fail
    refine (l08Root_any (xs := xs) (ys := ys) (k := c) ⟨H0.out.1, Row.le H0.out.2.2.1 (Nat.zero_le _), Row.le H0.out.2.2.2.1 (Nat.zero_le _)⟩ HO.out c0 c1).mono ?_
    rintro e w' ⟨rfl, rfl⟩
    have bl : Below B w w := Below.refl _ _
    rw [HRA.out, HRC.out]
    have q2 := h.1.cell 0
    have q3 := h.1.cell 1
    have hgb := (h.2.2.2.2.1 g rfl).1
    have e1 := Ints.cellI h.2.2.1 (i := rc) (by omega) (by omega)
    have e2 := Row.free h.2.2.1 (rc).toNat
    have h2 := h.set (rc).toNat ra
    have q4 := h2.1.cell 0
    have q5 := h2.1.cell 1
    have q6 := h2.1.lt
    have H2 := Lib.hid h2
    clear h h2 q0 q1
    go_wp2_with (at_builtin; refine append_one_at rfl _ _ rfl B _ _ ys rc H2.out.2.2.2.1 rfl rfl (by simp) hlen (by simp; omega) ?_)
    intro g2 cG w7 hI hgr hat
    have el : (ys ++ [rc]).length = ys.length + 1 := by simp
    rw [← el] at hI
    have h3 := H2.out.push hI hgr (by simpa using hat)
    rw [el] at h3
    have bb := H2.out.1.grown hgr (fun e => H2.out.2.2.2.2.2 b e.symm rfl)
    have k0 := bb.cell 0
    have k1 := bb.cell 1
    have k2 := bb.free 1
    have k3 := bb.lt
    have bl2 : Below B w (w7.setCell ⟨b, 1, none⟩ (.slice (some ⟨g2, 0, none⟩) (ys.length + 1) cG)) := (((bl.setCell (p := ⟨g, (rc).toNat, none⟩) (Row.lt H2.out.2.2.1 rfl).1 (.int .i64 ra)).grown hgr (by simp; omega) (fun j hj => (Row.lt H2.out.2.2.2.1 hj).1)).setCell (p := ⟨b, 1, none⟩) hB _)
    have H3 := Lib.hid h3
    clear hI hgr hat bb h3 q2 q3 q4 q5 q6 e1 e2
    go_wp2
    refine bodyPost_end (results_none rfl _ _ _) rfl ?_
    rw [HJ.out]
    exact ⟨_, rfl, H3.out, bl2⟩
  have hmx : max ra rc = ra := by omega
  have hmn : min ra rc = rc := by omega
  have HJ : Hid (joinR xs ys ra rc = (xs.set (ra).toNat rc, ys ++ [ra])) := Lib.hid (by simp [joinR, he, hmx, hmn])
  have te : (ra == rc) = false := by simp [he]
  have tl : decide (ra < rc) = false := by simp; omega
  clear he hmx hmn
  go_enter Try.func73, Try.ntmps73
  go_wp2_with fail
  refine (l08Root_any (xs := xs) (ys := ys) (k := a) ⟨H0.out.1, Row.le H0.out.2.2.1 (Nat.zero_le _), Row.le H0.out.2.2.2.1 (Nat.zero_le _)⟩ HO.out a0 a1).mono ?_
  rintro e w' ⟨rfl, rfl⟩
  go_wp2_with fail
  refine (l08Root_any (xs := xs) (ys := ys) (k := c) ⟨H0.out.1, Row.le H0.out.2.2.1 (Nat.zero_le _), Row.le H0.out.2.2.2.1 (Nat.zero_le _)⟩ HO.out c0 c1).mono ?_
  rintro e w' ⟨rfl, rfl⟩
  have bl : Below B w w := Below.refl _ _
  rw [HRA.out, HRC.out]
  have q2 := h.1.cell 0
  have q3 := h.1.cell 1
  have hgb := (h.2.2.2.2.1 g rfl).1
  have e1 := Ints.cellI h.2.2.1 (i := ra) (by omega) (by omega)
  have e2 := Row.free h.2.2.1 (ra).toNat
  have h2 := h.set (ra).toNat rc
  have q4 := h2.1.cell 0
  have q5 := h2.1.cell 1
  have q6 := h2.1.lt
  have H2 := Lib.hid h2
  clear h h2 q0 q1
  go_wp2_with (at_builtin; refine append_one_at rfl _ _ rfl B _ _ ys ra H2.out.2.2.2.1 rfl rfl (by simp) hlen (by simp; omega) ?_)
  intro g2 cG w7 hI hgr hat
  have el : (ys ++ [ra]).length = ys.length + 1 := by simp
  rw [← el] at hI
  have h3 := H2.out.push hI hgr (by simpa using hat)
  rw [el] at h3
  have bb := H2.out.1.grown hgr (fun e => H2.out.2.2.2.2.2 b e.symm rfl)
  have k0 := bb.cell 0
  have k1 := bb.cell 1
  have k2 := bb.free 1
  have k3 := bb.lt
  have bl2 : Below B w (w7.setCell ⟨b, 1, none⟩ (.slice (some ⟨g2, 0, none⟩) (ys.length + 1) cG)) := (((bl.setCell (p := ⟨g, (ra).toNat, none⟩) (Row.lt H2.out.2.2.1 rfl).1 (.int .i64 rc)).grown hgr (by simp; omega) (fun j hj => (Row.lt H2.out.2.2.2.1 hj).1)).setCell (p := ⟨b, 1, none⟩) hB _)
  have H3 := Lib.hid h3
  clear hI hgr hat bb h3 q2 q3 q4 q5 q6 e1 e2
  go_wp2
  refine bodyPost_end (results_none rfl _ _ _) rfl ?_
  rw [HJ.out]
  exact ⟨_, rfl, H3.out, bl2⟩
end Go.Proofs.Ytcfdbjjfdddfeaa
