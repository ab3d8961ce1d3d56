/-
  Joining two groups, by the program.
-/
import Derived.Test.YtcfdbjjfdddfeaaJoinB
namespace Go.Proofs.Ytcfdbjjfdddfeaa
open Go.RowKit Knot

theorem JOwn.p0 {w : World} {B b : Nat} {v u : Value} {xs ys : List Int} (h : JOwn w B b v u xs ys) : Ints w 0 v xs := Row.le h.2.2.1 (Nat.zero_le _)
theorem JOwn.l0 {w : World} {B b : Nat} {v u : Value} {xs ys : List Int} (h : JOwn w B b v u xs ys) : Ints w 0 u ys := Row.le h.2.2.2.1 (Nat.zero_le _)

set_option maxHeartbeats 4000000 in
theorem join_any {w : World} {B b : Nat} {v u : Value} {xs ys : List Int} {a c : Int} (h : JOwn w B b v u xs ys) (ho : OkJ xs ys) (a0 : 0 ≤ a) (a1 : a < xs.length) (c0 : 0 ≤ c) (c1 : c < xs.length) :
    Calls Try.prog 72 #[.pointer (some ⟨b, 0, none⟩), .int .i64 a, .int .i64 c] w fun e w' => ∃ u', e = .returned (.tuple #[]) ∧ JOwn w' B b v u' (joinR xs ys (root xs a) (root xs c)).1 (joinR xs ys (root xs a) (root xs c)).2 ∧ Below B w w' := by
  have hl2 := ho.n2
  obtain ⟨r0, r1, _⟩ := root_spec ho.forest a0 a1
  obtain ⟨s0, s1, _⟩ := root_spec ho.forest c0 c1
  have hlen : ys.length < 1000000000 := by
    have := nodup_length_le ho.nd ho.llo ho.lhi
    omega
  obtain ⟨A, cA, rfl, lA, hA⟩ := h.2.2.1.open_
  obtain ⟨D, cD, rfl, lD, hD⟩ := h.2.2.2.1.open_
  unfold maxLen at lA lD
  obtain ⟨g, rfl, _, _⟩ := hA (by omega)
  have hB := h.2.1
  have hbl := h.1.lt
  have q0 := h.1.cell 0
  have q1 := h.1.cell 1
  simp only [List.getElem?_toArray, List.getElem?_cons_zero, List.getElem?_cons_succ] at q0 q1
  obtain ⟨ra, hra⟩ : ∃ x, root xs a = x := ⟨_, rfl⟩
  obtain ⟨rc, hrc⟩ : ∃ x, root xs c = x := ⟨_, rfl⟩
  have HRA := Lib.hid hra
  have HRC := Lib.hid hrc
  have HO := Lib.hid ho
  rw [hra] at r0 r1 ⊢
  rw [hrc] at s0 s1 ⊢
  clear hra hrc ho hA hD
  have H0 := Lib.hid h
  by_cases he : ra = rc
  · skip
    have HJ : Hid (joinR xs ys ra rc = (xs, ys)) := Lib.hid (by simp [joinR, he])
    have te : (ra == rc) = true := by simp [he]
    clear he
    go_enter Try.func72, Try.ntmps72
    go_wp2
    go_region_held3 (fun w' => Below w.heap.size w w' ∧ w'.cell? ⟨b, 0, none⟩ = some (.slice (some ⟨g, 0, none⟩) xs.length cA) ∧ w'.cell? ⟨b, 1, none⟩ = some (.slice D ys.length cD))
        (first | (go_split_ands; exact ⟨bnext hx hb2, cell_below hb2 (by assumption), cell_below hb2 (by assumption)⟩)
               | (go_split_ands; exact ⟨bnext hx hb1, cell_below hb1 (by assumption), cell_below hb1 (by assumption)⟩)
               | exact ⟨below_drewN _ _ 1, q0, q1⟩ | (go_split_ands; exact ⟨by assumption, by assumption, by assumption⟩))
        (first | (go_at_call 67; go_split_ands; have hx := (by assumption : Below w.heap.size w w.drew); (with_reducible refine (group_any (xs := xs) (ys := ys) (k := a) (H0.out.below hx).p0 (H0.out.below hx).l0 HO.out a0 a1).mono ?_); rintro e w5 ⟨rfl, hb1⟩)
               | (go_at_call 67; go_split_ands; have hx := (by assumption : Below w.heap.size w w5); (with_reducible refine (group_any (xs := xs) (ys := ys) (k := c) (H0.out.below hx).p0 (H0.out.below hx).l0 HO.out c0 c1).mono ?_); rintro e w6 ⟨rfl, hb2⟩))
    go_split_ands
    have hx : Below w.heap.size w w6 := by assumption
    have sz := hx.size
    replace h := H0.out.below hx
    have bl : Below B w w6 := hx.mono (by omega)
    clear hx hb1 hb2
    rw [HRA.out, HRC.out]
    have HH := Lib.hid h
    clear h q0 q1
    go_wp2
    refine bodyPost_ret (results_none rfl _ _ _) rfl ?_
    rw [HJ.out]
    exact ⟨_, rfl, HH.out, bl⟩
  by_cases hlt : ra < rc
  · skip
    have hmx : max ra rc = rc := by omega
    have hmn : min ra rc = ra := by omega
    have HJ : Hid (joinR xs ys ra rc = (xs.set (rc).toNat ra, ys ++ [rc])) := Lib.hid (by simp [joinR, he, hmx, hmn])
    have te : (ra == rc) = false := by simp [he]
    have tl : decide (ra < rc) = true := by simp; omega
    clear he hmx hmn
    go_enter Try.func72, Try.ntmps72
    go_wp2
    go_region_held3 (fun w' => Below w.heap.size w w' ∧ w'.cell? ⟨b, 0, none⟩ = some (.slice (some ⟨g, 0, none⟩) xs.length cA) ∧ w'.cell? ⟨b, 1, none⟩ = some (.slice D ys.length cD))
        (first | (go_split_ands; exact ⟨bnext hx hb2, cell_below hb2 (by assumption), cell_below hb2 (by assumption)⟩)
               | (go_split_ands; exact ⟨bnext hx hb1, cell_below hb1 (by assumption), cell_below hb1 (by assumption)⟩)
               | exact ⟨below_drewN _ _ 1, q0, q1⟩ | (go_split_ands; exact ⟨by assumption, by assumption, by assumption⟩))
        (first | (go_at_call 67; go_split_ands; have hx := (by assumption : Below w.heap.size w w.drew); (with_reducible refine (group_any (xs := xs) (ys := ys) (k := a) (H0.out.below hx).p0 (H0.out.below hx).l0 HO.out a0 a1).mono ?_); rintro e w5 ⟨rfl, hb1⟩)
               | (go_at_call 67; go_split_ands; have hx := (by assumption : Below w.heap.size w w5); (with_reducible refine (group_any (xs := xs) (ys := ys) (k := c) (H0.out.below hx).p0 (H0.out.below hx).l0 HO.out c0 c1).mono ?_); rintro e w6 ⟨rfl, hb2⟩))
    go_split_ands
    have hx : Below w.heap.size w w6 := by assumption
    have sz := hx.size
    replace h := H0.out.below hx
    have bl : Below B w w6 := hx.mono (by omega)
    clear hx hb1 hb2
    rw [HRA.out, HRC.out]
    have q2 := h.1.cell 0
    have q3 := h.1.cell 1
    have hgb := (h.2.2.2.2.1 g rfl).1
    have e1 := Ints.cellI h.2.2.1 (i := rc) (by omega) (by omega)
    have e2 := Row.free h.2.2.1 (rc).toNat
    have h2 := h.set (rc).toNat ra
    have q4 := h2.1.cell 0
    have q5 := h2.1.cell 1
    have q6 := h2.1.lt
    have H2 := Lib.hid h2
    clear h h2 q0 q1
    go_wp2_with (at_builtin; refine append_one_at rfl _ _ rfl B _ _ ys rc H2.out.2.2.2.1 rfl rfl (by simp) hlen (by simp; omega) ?_)
    intro g2 cG w7 hI hgr hat
    have el : (ys ++ [rc]).length = ys.length + 1 := by simp
    rw [← el] at hI
    have h3 := H2.out.push hI hgr (by simpa using hat)
    rw [el] at h3
    have bb := H2.out.1.grown hgr (fun e => H2.out.2.2.2.2.2 b e.symm rfl)
    have k0 := bb.cell 0
    have k1 := bb.cell 1
    have k2 := bb.free 1
    have k3 := bb.lt
    have bl2 : Below B w (w7.setCell ⟨b, 1, none⟩ (.slice (some ⟨g2, 0, none⟩) (ys.length + 1) cG)) := (((bl.setCell (p := ⟨g, (rc).toNat, none⟩) (Row.lt H2.out.2.2.1 rfl).1 (.int .i64 ra)).grown hgr (by simp; omega) (fun j hj => (Row.lt H2.out.2.2.2.1 hj).1)).setCell (p := ⟨b, 1, none⟩) hB _)
    have H3 := Lib.hid h3
    clear hI hgr hat bb h3 q2 q3 q4 q5 q6 e1 e2
    go_wp2
    refine bodyPost_end (results_none rfl _ _ _) rfl ?_
    rw [HJ.out]
    exact ⟨_, rfl, H3.out, bl2⟩
  have hgt : rc < ra := by omega
  have hmx : max ra rc = ra := by omega
  have hmn : min ra rc = rc := by omega
  have HJ : Hid (joinR xs ys ra rc = (xs.set (ra).toNat rc, ys ++ [ra])) := Lib.hid (by simp [joinR, he, hmx, hmn])
  have te : (ra == rc) = false := by simp [he]
  have tl : decide (ra < rc) = false := by simp; omega
  clear he hmx hmn
  go_enter Try.func72, Try.ntmps72
  go_wp2
  go_region_held3 (fun w' => Below w.heap.size w w' ∧ w'.cell? ⟨b, 0, none⟩ = some (.slice (some ⟨g, 0, none⟩) xs.length cA) ∧ w'.cell? ⟨b, 1, none⟩ = some (.slice D ys.length cD))
        (first | (go_split_ands; exact ⟨bnext hx hb2, cell_below hb2 (by assumption), cell_below hb2 (by assumption)⟩)
               | (go_split_ands; exact ⟨bnext hx hb1, cell_below hb1 (by assumption), cell_below hb1 (by assumption)⟩)
               | exact ⟨below_drewN _ _ 1, q0, q1⟩ | (go_split_ands; exact ⟨by assumption, by assumption, by assumption⟩))
        (first | (go_at_call 67; go_split_ands; have hx := (by assumption : Below w.heap.size w w.drew); (with_reducible refine (group_any (xs := xs) (ys := ys) (k := a) (H0.out.below hx).p0 (H0.out.below hx).l0 HO.out a0 a1).mono ?_); rintro e w5 ⟨rfl, hb1⟩)
               | (go_at_call 67; go_split_ands; have hx := (by assumption : Below w.heap.size w w5); (with_reducible refine (group_any (xs := xs) (ys := ys) (k := c) (H0.out.below hx).p0 (H0.out.below hx).l0 HO.out c0 c1).mono ?_); rintro e w6 ⟨rfl, hb2⟩))
  go_split_ands
  have hx : Below w.heap.size w w6 := by assumption
  have sz := hx.size
  replace h := H0.out.below hx
  have bl : Below B w w6 := hx.mono (by omega)
  clear hx hb1 hb2
  rw [HRA.out, HRC.out]
  have q2 := h.1.cell 0
  have q3 := h.1.cell 1
  have hgb := (h.2.2.2.2.1 g rfl).1
  have e1 := Ints.cellI h.2.2.1 (i := ra) (by omega) (by omega)
  have e2 := Row.free h.2.2.1 (ra).toNat
  have h2 := h.set (ra).toNat rc
  have q4 := h2.1.cell 0
  have q5 := h2.1.cell 1
  have q6 := h2.1.lt
  have H2 := Lib.hid h2
  clear h h2 q0 q1
  go_wp2_with (at_builtin; refine append_one_at rfl _ _ rfl B _ _ ys ra H2.out.2.2.2.1 rfl rfl (by simp) hlen (by simp; omega) ?_)
  intro g2 cG w7 hI hgr hat
  have el : (ys ++ [ra]).length = ys.length + 1 := by simp
  rw [← el] at hI
  have h3 := H2.out.push hI hgr (by simpa using hat)
  rw [el] at h3
  have bb := H2.out.1.grown hgr (fun e => H2.out.2.2.2.2.2 b e.symm rfl)
  have k0 := bb.cell 0
  have k1 := bb.cell 1
  have k2 := bb.free 1
  have k3 := bb.lt
  have bl2 : Below B w (w7.setCell ⟨b, 1, none⟩ (.slice (some ⟨g2, 0, none⟩) (ys.length + 1) cG)) := (((bl.setCell (p := ⟨g, (ra).toNat, none⟩) (Row.lt H2.out.2.2.1 rfl).1 (.int .i64 rc)).grown hgr (by simp; omega) (fun j hj => (Row.lt H2.out.2.2.2.1 hj).1)).setCell (p := ⟨b, 1, none⟩) hB _)
  have H3 := Lib.hid h3
  clear hI hgr hat bb h3 q2 q3 q4 q5 q6 e1 e2
  go_wp2
  refine bodyPost_end (results_none rfl _ _ _) rfl ?_
  rw [HJ.out]
  exact ⟨_, rfl, H3.out, bl2⟩
end Go.Proofs.Ytcfdbjjfdddfeaa
