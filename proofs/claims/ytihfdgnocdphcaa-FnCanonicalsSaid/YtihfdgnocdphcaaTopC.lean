/-
  Words and laws of memory of this seat, in one text.
-/
import Derived.Test.YtihfdgnocdphcaaSymD
import Derived.Deep.RegionHeld3
import Derived.Test.YtihfdgnocdphcaaDrwAll
import Derived.Test.YtihfdgnocdphcaaSymC
import Derived.Test.YtihfdgnocdphcaaPanE
namespace Go.Proofs.Ytihfdgnocdphcaa
open Go.RowKit Knot

set_option maxHeartbeats 4000000 in
theorem K_impl_AlikePanels {w : World} {lo hi lo' hi' : Nat} {x y x' y' : Int} {v u : Value} {xs ys : List Int} {r : Bool} (hp : IntsIn w lo hi v xs) (hq : IntsIn w lo' hi' u ys) (hm : alikeM ⟨x, y, xs⟩ ⟨x', y', ys⟩ = r) :
    Calls Try.prog 38 #[.agg #[.int .i64 x, .int .i64 y, v], .agg #[.int .i64 x', .int .i64 y', u]] w fun e w' => e = .returned (.bool r) ∧ Below w.heap.size w w' := by
  obtain ⟨A, cA, rfl, _, _⟩ := hp.1.open_
  obtain ⟨D, cD, rfl, _, _⟩ := hq.1.open_
  have bl := Joins.below_alloc2 w (.cells #[.int .i64 x, .int .i64 y, .slice A xs.length cA] 30) (.cells #[.int .i64 x', .int .i64 y', .slice D ys.length cD] 30)
  have ba := (Box.new w 30 #[.int .i64 x, .int .i64 y, .slice A xs.length cA]).alloc (.cells #[.int .i64 x', .int .i64 y', .slice D ys.length cD] 30)
  have bb := Box.new (w.alloc (.cells #[.int .i64 x, .int .i64 y, .slice A xs.length cA] 30)) 30 #[.int .i64 x', .int .i64 y', .slice D ys.length cD]
  rw [World.size_alloc] at bb
  have hp1 := hp.below bl
  have hq1 := hq.below bl
  clear hp hq
  by_cases ho : Ok ⟨x, y, xs⟩
  rotate_left
  · obtain rfl : false = r := by simpa [alikeM, ho] using hm
    have HO := Lib.hid ho
    clear hm ho
    go_enter Try.func38, Try.ntmps38
    go_wp2_with fail
    generalize ((w.alloc (.cells #[.int .i64 x, .int .i64 y, .slice A xs.length cA] 30)).alloc (.cells #[.int .i64 x', .int .i64 y', .slice D ys.length cD] 30)) = V at ba bb bl hp1 hq1 ⊢
    have q0 := ba.cell 0
    have q1 := ba.cell 1
    have q2 := ba.cell 2
    have p0 := bb.cell 0
    have p1 := bb.cell 1
    have p2 := bb.cell 2
    simp only [List.getElem?_toArray, List.getElem?_cons_zero, List.getElem?_cons_succ] at q0 q1 q2 p0 p1 p2
    refine wp_region_held_drew (S := fun w' => Below V.heap.size V w' ∧ w'.cell? ⟨w.heap.size, 0, none⟩ = some (.int .i64 x) ∧ w'.cell? ⟨w.heap.size, 1, none⟩ = some (.int .i64 y) ∧ w'.cell? ⟨w.heap.size, 2, none⟩ = some (.slice A xs.length cA) ∧ w'.cell? ⟨w.heap.size + 1, 0, none⟩ = some (.int .i64 x') ∧ w'.cell? ⟨w.heap.size + 1, 1, none⟩ = some (.int .i64 y') ∧ w'.cell? ⟨w.heap.size + 1, 2, none⟩ = some (.slice D ys.length cD)) (by kernel_rfl) (⟨below_drewN _ _ 1, q0, q1, q2, p0, p1, p2⟩) (fun hS => ?_)
    refine wpAnyH_take (i := 0) (v := ?_) rfl (by kernel_rfl) (by kernel_rfl) (by kernel_rfl) (fun _ _ _ h => h) (Or.inl ⟨by rfl, ?_⟩) hS ?_
    rotate_left
    · intro u hSu
      try dsimp only at hSu
      go_split_ands
      go_simp
      try with_reducible rfl
    try simp only [Act.put, List.getElem_toArray, List.getElem_cons_zero, List.getElem_cons_succ, List.setIfInBounds_toArray, List.set_cons_zero, List.set_cons_succ]
    refine wpAnyH_ready (rs := [1]) (by kernel_rfl) (by simp) ?_
    refine AllReadyH.cons rfl (fun K hK => ?_) AllReadyH.nil
    rw [if_pos (by rfl)]
    go_simp
    (go_at_call 80; refine (ValidPanel_any x y _ xs false (no_iff HO.out) _ (hp1.below hS.1).ints).mono ?_; rintro e w4 ⟨rfl, hb⟩)
    refine hK.out _ _ (have hx := bnext hS.1 hb; ⟨hx, (ba.below hx).cell 0, (ba.below hx).cell 1, (ba.below hx).cell 2, (bb.below hx).cell 0, (bb.below hx).cell 1, (bb.below hx).cell 2⟩) (fun hS => ?_)
    clear hK K
    try simp only [Act.put, List.getElem_toArray, List.getElem_cons_zero, List.getElem_cons_succ, List.setIfInBounds_toArray, List.set_cons_zero, List.set_cons_succ]
    refine wpAnyH_take (i := 2) (v := ?_) rfl (by kernel_rfl) (by kernel_rfl) (by kernel_rfl) (fun _ _ _ h => h) (Or.inl ⟨by rfl, ?_⟩) hS ?_
    rotate_left
    · intro u hSu
      try dsimp only at hSu
      go_split_ands
      go_simp
      try with_reducible rfl
    try simp only [Act.put, List.getElem_toArray, List.getElem_cons_zero, List.getElem_cons_succ, List.setIfInBounds_toArray, List.set_cons_zero, List.set_cons_succ]
    refine wpAnyH_take (i := 3) (v := undef) rfl (by kernel_rfl) (by kernel_rfl) (by kernel_rfl) (fun _ _ _ h => h) (Or.inr ⟨by rfl, rfl⟩) hS ?_
    try simp only [Act.put, List.getElem_toArray, List.getElem_cons_zero, List.getElem_cons_succ, List.setIfInBounds_toArray, List.set_cons_zero, List.set_cons_succ]
    refine wpAnyH_take (i := 4) (v := undef) rfl (by kernel_rfl) (by kernel_rfl) (by kernel_rfl) (fun _ _ _ h => h) (Or.inr ⟨by rfl, rfl⟩) hS ?_
    try simp only [Act.put, List.getElem_toArray, List.getElem_cons_zero, List.getElem_cons_succ, List.setIfInBounds_toArray, List.set_cons_zero, List.set_cons_succ]
    refine wpAnyH_take (i := 5) (v := ?_) rfl (by kernel_rfl) (by kernel_rfl) (by kernel_rfl) (fun _ _ _ h => h) (Or.inl ⟨by rfl, ?_⟩) hS ?_
    rotate_left
    · intro u hSu
      try dsimp only at hSu
      go_split_ands
      go_simp
      try with_reducible rfl
    try simp only [Act.put, List.getElem_toArray, List.getElem_cons_zero, List.getElem_cons_succ, List.setIfInBounds_toArray, List.set_cons_zero, List.set_cons_succ]
    refine wpAnyH_take (i := 6) (v := ?_) rfl (by kernel_rfl) (by kernel_rfl) (by kernel_rfl) (fun _ _ _ h => h) (Or.inl ⟨by rfl, ?_⟩) hS ?_
    rotate_left
    · intro u hSu
      try dsimp only at hSu
      go_split_ands
      go_simp
      try with_reducible rfl
    try simp only [Act.put, List.getElem_toArray, List.getElem_cons_zero, List.getElem_cons_succ, List.setIfInBounds_toArray, List.set_cons_zero, List.set_cons_succ]
    refine wpAnyH_take (i := 7) (v := undef) rfl (by kernel_rfl) (by kernel_rfl) (by kernel_rfl) (fun _ _ _ h => h) (Or.inr ⟨by rfl, rfl⟩) hS ?_
    try simp only [Act.put, List.getElem_toArray, List.getElem_cons_zero, List.getElem_cons_succ, List.setIfInBounds_toArray, List.set_cons_zero, List.set_cons_succ]
    refine wpAnyH_take (i := 8) (v := undef) rfl (by kernel_rfl) (by kernel_rfl) (by kernel_rfl) (fun _ _ _ h => h) (Or.inr ⟨by rfl, rfl⟩) hS ?_
    try simp only [Act.put, List.getElem_toArray, List.getElem_cons_zero, List.getElem_cons_succ, List.setIfInBounds_toArray, List.set_cons_zero, List.set_cons_succ]
    refine wpAnyH_take (i := 9) (v := undef) rfl (by kernel_rfl) (by kernel_rfl) (by kernel_rfl) (fun _ _ _ h => h) (Or.inr ⟨by rfl, rfl⟩) hS ?_
    try simp only [Act.put, List.getElem_toArray, List.getElem_cons_zero, List.getElem_cons_succ, List.setIfInBounds_toArray, List.set_cons_zero, List.set_cons_succ]
    refine wpAnyH_take (i := 10) (v := undef) rfl (by kernel_rfl) (by kernel_rfl) (by kernel_rfl) (fun _ _ _ h => h) (Or.inr ⟨by rfl, rfl⟩) hS ?_
    try simp only [Act.put, List.getElem_toArray, List.getElem_cons_zero, List.getElem_cons_succ, List.setIfInBounds_toArray, List.set_cons_zero, List.set_cons_succ]
    refine wpAnyH_take (i := 11) (v := undef) rfl (by kernel_rfl) (by kernel_rfl) (by kernel_rfl) (fun _ _ _ h => h) (Or.inr ⟨by rfl, rfl⟩) hS ?_
    try simp only [Act.put, List.getElem_toArray, List.getElem_cons_zero, List.getElem_cons_succ, List.setIfInBounds_toArray, List.set_cons_zero, List.set_cons_succ]
    refine wpAnyH_take (i := 12) (v := ?_) rfl (by kernel_rfl) (by kernel_rfl) (by kernel_rfl) (fun _ _ _ h => h) (Or.inl ⟨by rfl, ?_⟩) hS ?_
    rotate_left
    · intro u hSu
      try dsimp only at hSu
      go_split_ands
      go_simp
      try with_reducible rfl
    try simp only [Act.put, List.getElem_toArray, List.getElem_cons_zero, List.getElem_cons_succ, List.setIfInBounds_toArray, List.set_cons_zero, List.set_cons_succ]
    refine wpAnyH_take (i := 13) (v := ?_) rfl (by kernel_rfl) (by kernel_rfl) (by kernel_rfl) (fun _ _ _ h => h) (Or.inl ⟨by rfl, ?_⟩) hS ?_
    rotate_left
    · intro u hSu
      try dsimp only at hSu
      go_split_ands
      go_simp
      try with_reducible rfl
    try simp only [Act.put, List.getElem_toArray, List.getElem_cons_zero, List.getElem_cons_succ, List.setIfInBounds_toArray, List.set_cons_zero, List.set_cons_succ]
    refine wpAnyH_done (by kernel_rfl) ?_ _
    have hx := hS.1
    go_wp2
    go_ret
    exact ⟨rfl, bnext bl hx⟩
  by_cases hk : Ok ⟨x', y', ys⟩
  rotate_left
  · obtain rfl : false = r := by simpa [alikeM, ho, hk] using hm
    have HO := Lib.hid ho
    have HK := Lib.hid hk
    clear hm ho hk
    go_enter Try.func38, Try.ntmps38
    go_wp2_with fail
    generalize ((w.alloc (.cells #[.int .i64 x, .int .i64 y, .slice A xs.length cA] 30)).alloc (.cells #[.int .i64 x', .int .i64 y', .slice D ys.length cD] 30)) = V at ba bb bl hp1 hq1 ⊢
    have q0 := ba.cell 0
    have q1 := ba.cell 1
    have q2 := ba.cell 2
    have p0 := bb.cell 0
    have p1 := bb.cell 1
    have p2 := bb.cell 2
    simp only [List.getElem?_toArray, List.getElem?_cons_zero, List.getElem?_cons_succ] at q0 q1 q2 p0 p1 p2
    refine wp_region_held_drew (S := fun w' => Below V.heap.size V w' ∧ w'.cell? ⟨w.heap.size, 0, none⟩ = some (.int .i64 x) ∧ w'.cell? ⟨w.heap.size, 1, none⟩ = some (.int .i64 y) ∧ w'.cell? ⟨w.heap.size, 2, none⟩ = some (.slice A xs.length cA) ∧ w'.cell? ⟨w.heap.size + 1, 0, none⟩ = some (.int .i64 x') ∧ w'.cell? ⟨w.heap.size + 1, 1, none⟩ = some (.int .i64 y') ∧ w'.cell? ⟨w.heap.size + 1, 2, none⟩ = some (.slice D ys.length cD)) (by kernel_rfl) (⟨below_drewN _ _ 1, q0, q1, q2, p0, p1, p2⟩) (fun hS => ?_)
    refine wpAnyH_take (i := 0) (v := ?_) rfl (by kernel_rfl) (by kernel_rfl) (by kernel_rfl) (fun _ _ _ h => h) (Or.inl ⟨by rfl, ?_⟩) hS ?_
    rotate_left
    · intro u hSu
      try dsimp only at hSu
      go_split_ands
      go_simp
      try with_reducible rfl
    try simp only [Act.put, List.getElem_toArray, List.getElem_cons_zero, List.getElem_cons_succ, List.setIfInBounds_toArray, List.set_cons_zero, List.set_cons_succ]
    refine wpAnyH_ready (rs := [1]) (by kernel_rfl) (by simp) ?_
    refine AllReadyH.cons rfl (fun K hK => ?_) AllReadyH.nil
    rw [if_pos (by rfl)]
    go_simp
    (go_at_call 80; refine (ValidPanel_any x y _ xs true (yes_iff HO.out) _ (hp1.below hS.1).ints).mono ?_; rintro e w4 ⟨rfl, hb⟩)
    refine hK.out _ _ (have hx := bnext hS.1 hb; ⟨hx, (ba.below hx).cell 0, (ba.below hx).cell 1, (ba.below hx).cell 2, (bb.below hx).cell 0, (bb.below hx).cell 1, (bb.below hx).cell 2⟩) (fun hS => ?_)
    clear hK K
    try simp only [Act.put, List.getElem_toArray, List.getElem_cons_zero, List.getElem_cons_succ, List.setIfInBounds_toArray, List.set_cons_zero, List.set_cons_succ]
    refine wpAnyH_take (i := 2) (v := ?_) rfl (by kernel_rfl) (by kernel_rfl) (by kernel_rfl) (fun _ _ _ h => h) (Or.inl ⟨by rfl, ?_⟩) hS ?_
    rotate_left
    · intro u hSu
      try dsimp only at hSu
      go_split_ands
      go_simp
      try with_reducible rfl
    try simp only [Act.put, List.getElem_toArray, List.getElem_cons_zero, List.getElem_cons_succ, List.setIfInBounds_toArray, List.set_cons_zero, List.set_cons_succ]
    refine wpAnyH_take (i := 3) (v := ?_) rfl (by kernel_rfl) (by kernel_rfl) (by kernel_rfl) (fun _ _ _ h => h) (Or.inl ⟨by rfl, ?_⟩) hS ?_
    rotate_left
    · intro u hSu
      try dsimp only at hSu
      go_split_ands
      go_simp
      try with_reducible rfl
    try simp only [Act.put, List.getElem_toArray, List.getElem_cons_zero, List.getElem_cons_succ, List.setIfInBounds_toArray, List.set_cons_zero, List.set_cons_succ]
    refine wpAnyH_ready (rs := [4]) (by kernel_rfl) (by simp) ?_
    refine AllReadyH.cons rfl (fun K hK => ?_) AllReadyH.nil
    rw [if_pos (by rfl)]
    go_simp
    (go_at_call 80; refine (ValidPanel_any x' y' _ ys false (no_iff HK.out) _ (hq1.below hS.1).ints).mono ?_; rintro e w4 ⟨rfl, hb⟩)
    refine hK.out _ _ (have hx := bnext hS.1 hb; ⟨hx, (ba.below hx).cell 0, (ba.below hx).cell 1, (ba.below hx).cell 2, (bb.below hx).cell 0, (bb.below hx).cell 1, (bb.below hx).cell 2⟩) (fun hS => ?_)
    clear hK K
    try simp only [Act.put, List.getElem_toArray, List.getElem_cons_zero, List.getElem_cons_succ, List.setIfInBounds_toArray, List.set_cons_zero, List.set_cons_succ]
    refine wpAnyH_take (i := 5) (v := ?_) rfl (by kernel_rfl) (by kernel_rfl) (by kernel_rfl) (fun _ _ _ h => h) (Or.inl ⟨by rfl, ?_⟩) hS ?_
    rotate_left
    · intro u hSu
      try dsimp only at hSu
      go_split_ands
      go_simp
      try with_reducible rfl
    try simp only [Act.put, List.getElem_toArray, List.getElem_cons_zero, List.getElem_cons_succ, List.setIfInBounds_toArray, List.set_cons_zero, List.set_cons_succ]
    refine wpAnyH_take (i := 6) (v := ?_) rfl (by kernel_rfl) (by kernel_rfl) (by kernel_rfl) (fun _ _ _ h => h) (Or.inl ⟨by rfl, ?_⟩) hS ?_
    rotate_left
    · intro u hSu
      try dsimp only at hSu
      go_split_ands
      go_simp
      try with_reducible rfl
    try simp only [Act.put, List.getElem_toArray, List.getElem_cons_zero, List.getElem_cons_succ, List.setIfInBounds_toArray, List.set_cons_zero, List.set_cons_succ]
    refine wpAnyH_take (i := 7) (v := undef) rfl (by kernel_rfl) (by kernel_rfl) (by kernel_rfl) (fun _ _ _ h => h) (Or.inr ⟨by rfl, rfl⟩) hS ?_
    try simp only [Act.put, List.getElem_toArray, List.getElem_cons_zero, List.getElem_cons_succ, List.setIfInBounds_toArray, List.set_cons_zero, List.set_cons_succ]
    refine wpAnyH_take (i := 8) (v := undef) rfl (by kernel_rfl) (by kernel_rfl) (by kernel_rfl) (fun _ _ _ h => h) (Or.inr ⟨by rfl, rfl⟩) hS ?_
    try simp only [Act.put, List.getElem_toArray, List.getElem_cons_zero, List.getElem_cons_succ, List.setIfInBounds_toArray, List.set_cons_zero, List.set_cons_succ]
    refine wpAnyH_take (i := 9) (v := undef) rfl (by kernel_rfl) (by kernel_rfl) (by kernel_rfl) (fun _ _ _ h => h) (Or.inr ⟨by rfl, rfl⟩) hS ?_
    try simp only [Act.put, List.getElem_toArray, List.getElem_cons_zero, List.getElem_cons_succ, List.setIfInBounds_toArray, List.set_cons_zero, List.set_cons_succ]
    refine wpAnyH_take (i := 10) (v := undef) rfl (by kernel_rfl) (by kernel_rfl) (by kernel_rfl) (fun _ _ _ h => h) (Or.inr ⟨by rfl, rfl⟩) hS ?_
    try simp only [Act.put, List.getElem_toArray, List.getElem_cons_zero, List.getElem_cons_succ, List.setIfInBounds_toArray, List.set_cons_zero, List.set_cons_succ]
    refine wpAnyH_take (i := 11) (v := undef) rfl (by kernel_rfl) (by kernel_rfl) (by kernel_rfl) (fun _ _ _ h => h) (Or.inr ⟨by rfl, rfl⟩) hS ?_
    try simp only [Act.put, List.getElem_toArray, List.getElem_cons_zero, List.getElem_cons_succ, List.setIfInBounds_toArray, List.set_cons_zero, List.set_cons_succ]
    refine wpAnyH_take (i := 12) (v := ?_) rfl (by kernel_rfl) (by kernel_rfl) (by kernel_rfl) (fun _ _ _ h => h) (Or.inl ⟨by rfl, ?_⟩) hS ?_
    rotate_left
    · intro u hSu
      try dsimp only at hSu
      go_split_ands
      go_simp
      try with_reducible rfl
    try simp only [Act.put, List.getElem_toArray, List.getElem_cons_zero, List.getElem_cons_succ, List.setIfInBounds_toArray, List.set_cons_zero, List.set_cons_succ]
    refine wpAnyH_take (i := 13) (v := ?_) rfl (by kernel_rfl) (by kernel_rfl) (by kernel_rfl) (fun _ _ _ h => h) (Or.inl ⟨by rfl, ?_⟩) hS ?_
    rotate_left
    · intro u hSu
      try dsimp only at hSu
      go_split_ands
      go_simp
      try with_reducible rfl
    try simp only [Act.put, List.getElem_toArray, List.getElem_cons_zero, List.getElem_cons_succ, List.setIfInBounds_toArray, List.set_cons_zero, List.set_cons_succ]
    refine wpAnyH_done (by kernel_rfl) ?_ _
    have hx := hS.1
    go_wp2
    go_ret
    exact ⟨rfl, bnext bl hx⟩
  have HM : Hid (r = true ↔ ((leastTo ⟨x, y, xs⟩ 7).W = (leastTo ⟨x', y', ys⟩ 7).W ∧ (leastTo ⟨x, y, xs⟩ 7).H = (leastTo ⟨x', y', ys⟩ 7).H ∧ (leastTo ⟨x, y, xs⟩ 7).B = (leastTo ⟨x', y', ys⟩ 7).B)) := Lib.hid (by subst hm; simp [alikeM, ho, hk])
  have HO := Lib.hid ho
  have HK := Lib.hid hk
  clear hm ho hk
  go_enter Try.func38, Try.ntmps38
  go_wp2_with fail
  generalize ((w.alloc (.cells #[.int .i64 x, .int .i64 y, .slice A xs.length cA] 30)).alloc (.cells #[.int .i64 x', .int .i64 y', .slice D ys.length cD] 30)) = V at ba bb bl hp1 hq1 ⊢
  have q0 := ba.cell 0
  have q1 := ba.cell 1
  have q2 := ba.cell 2
  have p0 := bb.cell 0
  have p1 := bb.cell 1
  have p2 := bb.cell 2
  simp only [List.getElem?_toArray, List.getElem?_cons_zero, List.getElem?_cons_succ] at q0 q1 q2 p0 p1 p2
  refine wp_region_held_drew (S := fun w' => Below V.heap.size V w' ∧ w'.cell? ⟨w.heap.size, 0, none⟩ = some (.int .i64 x) ∧ w'.cell? ⟨w.heap.size, 1, none⟩ = some (.int .i64 y) ∧ w'.cell? ⟨w.heap.size, 2, none⟩ = some (.slice A xs.length cA) ∧ w'.cell? ⟨w.heap.size + 1, 0, none⟩ = some (.int .i64 x') ∧ w'.cell? ⟨w.heap.size + 1, 1, none⟩ = some (.int .i64 y') ∧ w'.cell? ⟨w.heap.size + 1, 2, none⟩ = some (.slice D ys.length cD)) (by kernel_rfl) (⟨below_drewN _ _ 1, q0, q1, q2, p0, p1, p2⟩) (fun hS => ?_)
  refine wpAnyH_take (i := 0) (v := ?_) rfl (by kernel_rfl) (by kernel_rfl) (by kernel_rfl) (fun _ _ _ h => h) (Or.inl ⟨by rfl, ?_⟩) hS ?_
  rotate_left
  · intro u hSu
    try dsimp only at hSu
    go_split_ands
    go_simp
    try with_reducible rfl
  try simp only [Act.put, List.getElem_toArray, List.getElem_cons_zero, List.getElem_cons_succ, List.setIfInBounds_toArray, List.set_cons_zero, List.set_cons_succ]
  refine wpAnyH_ready (rs := [1]) (by kernel_rfl) (by simp) ?_
  refine AllReadyH.cons rfl (fun K hK => ?_) AllReadyH.nil
  rw [if_pos (by rfl)]
  go_simp
  (go_at_call 80; refine (ValidPanel_any x y _ xs true (yes_iff HO.out) _ (hp1.below hS.1).ints).mono ?_; rintro e w4 ⟨rfl, hb⟩)
  refine hK.out _ _ (have hx := bnext hS.1 hb; ⟨hx, (ba.below hx).cell 0, (ba.below hx).cell 1, (ba.below hx).cell 2, (bb.below hx).cell 0, (bb.below hx).cell 1, (bb.below hx).cell 2⟩) (fun hS => ?_)
  clear hK K
  try simp only [Act.put, List.getElem_toArray, List.getElem_cons_zero, List.getElem_cons_succ, List.setIfInBounds_toArray, List.set_cons_zero, List.set_cons_succ]
  refine wpAnyH_take (i := 2) (v := ?_) rfl (by kernel_rfl) (by kernel_rfl) (by kernel_rfl) (fun _ _ _ h => h) (Or.inl ⟨by rfl, ?_⟩) hS ?_
  rotate_left
  · intro u hSu
    try dsimp only at hSu
    go_split_ands
    go_simp
    try with_reducible rfl
  try simp only [Act.put, List.getElem_toArray, List.getElem_cons_zero, List.getElem_cons_succ, List.setIfInBounds_toArray, List.set_cons_zero, List.set_cons_succ]
  refine wpAnyH_take (i := 3) (v := ?_) rfl (by kernel_rfl) (by kernel_rfl) (by kernel_rfl) (fun _ _ _ h => h) (Or.inl ⟨by rfl, ?_⟩) hS ?_
  rotate_left
  · intro u hSu
    try dsimp only at hSu
    go_split_ands
    go_simp
    try with_reducible rfl
  try simp only [Act.put, List.getElem_toArray, List.getElem_cons_zero, List.getElem_cons_succ, List.setIfInBounds_toArray, List.set_cons_zero, List.set_cons_succ]
  refine wpAnyH_ready (rs := [4]) (by kernel_rfl) (by simp) ?_
  refine AllReadyH.cons rfl (fun K hK => ?_) AllReadyH.nil
  rw [if_pos (by rfl)]
  go_simp
  (go_at_call 80; refine (ValidPanel_any x' y' _ ys true (yes_iff HK.out) _ (hq1.below hS.1).ints).mono ?_; rintro e w4 ⟨rfl, hb⟩)
  refine hK.out _ _ (have hx := bnext hS.1 hb; ⟨hx, (ba.below hx).cell 0, (ba.below hx).cell 1, (ba.below hx).cell 2, (bb.below hx).cell 0, (bb.below hx).cell 1, (bb.below hx).cell 2⟩) (fun hS => ?_)
  clear hK K
  try simp only [Act.put, List.getElem_toArray, List.getElem_cons_zero, List.getElem_cons_succ, List.setIfInBounds_toArray, List.set_cons_zero, List.set_cons_succ]
  refine wpAnyH_take (i := 5) (v := ?_) rfl (by kernel_rfl) (by kernel_rfl) (by kernel_rfl) (fun _ _ _ h => h) (Or.inl ⟨by rfl, ?_⟩) hS ?_
  rotate_left
  · intro u hSu
    try dsimp only at hSu
    go_split_ands
    go_simp
    try with_reducible rfl
  try simp only [Act.put, List.getElem_toArray, List.getElem_cons_zero, List.getElem_cons_succ, List.setIfInBounds_toArray, List.set_cons_zero, List.set_cons_succ]
  refine wpAnyH_take (i := 6) (v := ?_) rfl (by kernel_rfl) (by kernel_rfl) (by kernel_rfl) (fun _ _ _ h => h) (Or.inl ⟨by rfl, ?_⟩) hS ?_
  rotate_left
  · intro u hSu
    try dsimp only at hSu
    go_split_ands
    go_simp
    try with_reducible rfl
  try simp only [Act.put, List.getElem_toArray, List.getElem_cons_zero, List.getElem_cons_succ, List.setIfInBounds_toArray, List.set_cons_zero, List.set_cons_succ]
  refine wpAnyH_take (i := 7) (v := ?_) rfl (by kernel_rfl) (by kernel_rfl) (by kernel_rfl) (fun _ _ _ h => h) (Or.inl ⟨by rfl, ?_⟩) hS ?_
  rotate_left
  · intro u hSu
    try dsimp only at hSu
    go_split_ands
    go_simp
    try with_reducible rfl
  try simp only [Act.put, List.getElem_toArray, List.getElem_cons_zero, List.getElem_cons_succ, List.setIfInBounds_toArray, List.set_cons_zero, List.set_cons_succ]
  refine wpAnyH_take (i := 9) (v := ?_) rfl (by kernel_rfl) (by kernel_rfl) (by kernel_rfl) (fun _ _ _ h => h) (Or.inl ⟨by rfl, ?_⟩) hS ?_
  rotate_left
  · intro u hSu
    try dsimp only at hSu
    go_split_ands
    go_simp
    try with_reducible rfl
  try simp only [Act.put, List.getElem_toArray, List.getElem_cons_zero, List.getElem_cons_succ, List.setIfInBounds_toArray, List.set_cons_zero, List.set_cons_succ]
  refine wpAnyH_ready (rs := [8]) (by kernel_rfl) (by simp) ?_
  refine AllReadyH.cons rfl (fun K hK => ?_) AllReadyH.nil
  rw [if_pos (by rfl)]
  go_simp
  (go_at_call 98; refine (canonical_any (hp1.below hS.1) HO.out).mono ?_; rintro e w5 ⟨E, c, rfl, i1, hb⟩)
  refine hK.out _ _ (have hx := bnext hS.1 hb; ⟨hx, (ba.below hx).cell 0, (ba.below hx).cell 1, (ba.below hx).cell 2, (bb.below hx).cell 0, (bb.below hx).cell 1, (bb.below hx).cell 2⟩) (fun hS => ?_)
  clear hK K
  try simp only [Act.put, List.getElem_toArray, List.getElem_cons_zero, List.getElem_cons_succ, List.setIfInBounds_toArray, List.set_cons_zero, List.set_cons_succ]
  refine wpAnyH_ready (rs := [10]) (by kernel_rfl) (by simp) ?_
  refine AllReadyH.cons rfl (fun K hK => ?_) AllReadyH.nil
  rw [if_pos (by rfl)]
  go_simp
  (go_at_call 98; refine (canonical_any (hq1.below hS.1) HK.out).mono ?_; rintro e w5 ⟨F, d, rfl, i2, hb⟩; replace i1 := i1.below hb)
  refine hK.out _ _ (have hx := bnext hS.1 hb; ⟨hx, (ba.below hx).cell 0, (ba.below hx).cell 1, (ba.below hx).cell 2, (bb.below hx).cell 0, (bb.below hx).cell 1, (bb.below hx).cell 2⟩) (fun hS => ?_)
  clear hK K
  try simp only [Act.put, List.getElem_toArray, List.getElem_cons_zero, List.getElem_cons_succ, List.setIfInBounds_toArray, List.set_cons_zero, List.set_cons_succ]
  refine wpAnyH_ready (rs := [11]) (by kernel_rfl) (by simp) ?_
  refine AllReadyH.cons rfl (fun K hK => ?_) AllReadyH.nil
  rw [if_pos (by rfl)]
  go_simp
  (go_at_call 97; refine (SamePanel_any i1.1 i2.1 HM.out).mono ?_; rintro e w6 ⟨rfl, hb⟩)
  refine hK.out _ _ (have hx := bnext hS.1 hb; ⟨hx, (ba.below hx).cell 0, (ba.below hx).cell 1, (ba.below hx).cell 2, (bb.below hx).cell 0, (bb.below hx).cell 1, (bb.below hx).cell 2⟩) (fun hS => ?_)
  clear hK K
  try simp only [Act.put, List.getElem_toArray, List.getElem_cons_zero, List.getElem_cons_succ, List.setIfInBounds_toArray, List.set_cons_zero, List.set_cons_succ]
  refine wpAnyH_take (i := 12) (v := ?_) rfl (by kernel_rfl) (by kernel_rfl) (by kernel_rfl) (fun _ _ _ h => h) (Or.inl ⟨by rfl, ?_⟩) hS ?_
  rotate_left
  · intro u hSu
    try dsimp only at hSu
    go_split_ands
    go_simp
    try with_reducible rfl
  try simp only [Act.put, List.getElem_toArray, List.getElem_cons_zero, List.getElem_cons_succ, List.setIfInBounds_toArray, List.set_cons_zero, List.set_cons_succ]
  refine wpAnyH_take (i := 13) (v := ?_) rfl (by kernel_rfl) (by kernel_rfl) (by kernel_rfl) (fun _ _ _ h => h) (Or.inl ⟨by rfl, ?_⟩) hS ?_
  rotate_left
  · intro u hSu
    try dsimp only at hSu
    go_split_ands
    go_simp
    try with_reducible rfl
  try simp only [Act.put, List.getElem_toArray, List.getElem_cons_zero, List.getElem_cons_succ, List.setIfInBounds_toArray, List.set_cons_zero, List.set_cons_succ]
  refine wpAnyH_done (by kernel_rfl) ?_ _
  have hx := hS.1
  go_wp2
  go_ret
  exact ⟨rfl, bnext bl hx⟩
end Go.Proofs.Ytihfdgnocdphcaa

namespace Go.Proofs.Ytihfdgnocdphcaa
open Go.RowKit Knot

theorem sym_ok8 {i : Int} (h0 : 0 ≤ i) (h1 : i < 8) : symOk i = true := by
  unfold symOk
  exact inR_t ⟨h0, by omega⟩
set_option maxRecDepth 20000 in
set_option maxHeartbeats 8000000 in
theorem DrawAlikePanels_any {w : World} {a : Option Addr} {len cap : Nat} {zs : List Int} (h : IsRow .u8 w a len cap zs) :
    Calls Try.prog 43 #[.slice a len cap] w fun e w' => ∃ (X Y X2 Y2 : Int) (A A2 : Option Addr) (c c2 : Nat) (B B2 : List Int), e = .returned (.tuple #[.agg #[.int .i64 X, .int .i64 Y, .slice A B.length c], .agg #[.int .i64 X2, .int .i64 Y2, .slice A2 B2.length c2]]) ∧ IntsIn w' w.heap.size w'.heap.size (.slice A B.length c) B ∧ IntsIn w' w.heap.size w'.heap.size (.slice A2 B2.length c2) B2 ∧ Below w.heap.size w w' := by
  have bl := Joins.below_alloc2 w (.cells #[.int .i64 0, .int .i64 0, .slice none 0 0] 30) (.cells #[.int .i64 0, .int .i64 0, .slice none 0 0] 30)
  have r1 := ((Box.new w 30 #[.int .i64 0, .int .i64 0, .slice none 0 0]).alloc (.cells #[.int .i64 0, .int .i64 0, .slice none 0 0] 30))
  have r2 := (Box.new (w.alloc (.cells #[.int .i64 0, .int .i64 0, .slice none 0 0] 30)) 30 #[.int .i64 0, .int .i64 0, .slice none 0 0])
  rw [World.size_alloc] at r2
  have h1 := h.below bl
  clear h
  go_enter Try.func43, Try.ntmps43
  go_wp2_with fail
  refine (src_from h1).mono ?_
  rintro e w1 ⟨rfl, hS, s1, hb1⟩
  simp only [World.size_alloc] at hS s1
  obtain ⟨b, hb⟩ : ∃ b, w.heap.size + 1 + 1 = b := ⟨_, rfl⟩
  rw [hb] at hS s1
  simp only [World.size_alloc, hb]
  replace r1 := r1.below hb1
  replace r2 := r2.below hb1
  replace bl := bnext bl hb1
  clear h1 hb1
  go_wp2_with fail
  refine (l02Bent_any hS (by omega)).mono ?_
  rintro e w2 ⟨X, Y, A, c, B, rfl, hI, hS2, hc2⟩
  replace r1 := (r1.chgb hc2 (by omega)).alloc (.cells #[.int .i64 X, .int .i64 Y, .slice A B.length c] 30)
  replace r2 := (r2.chgb hc2 (by omega)).alloc (.cells #[.int .i64 X, .int .i64 Y, .slice A B.length c] 30)
  replace bl := (chg_low bl hc2 (by omega) (by omega)).alloc (by have := hc2.size; omega) (.cells #[.int .i64 X, .int .i64 Y, .slice A B.length c] 30)
  have bp := Box.new w2 30 #[.int .i64 X, .int .i64 Y, .slice A B.length c]
  replace hI := hI.alloc (.cells #[.int .i64 X, .int .i64 Y, .slice A B.length c] 30)
  replace hS2 := hS2.below (Joins.below_alloc1 w2 (.cells #[.int .i64 X, .int .i64 Y, .slice A B.length c] 30))
  have sz2 := hc2.size
  obtain ⟨pp, hpp⟩ : ∃ pp, w2.heap.size = pp := ⟨_, rfl⟩
  rw [hpp] at bp hI sz2
  clear hS hc2
  have pl := bp.lt
  go_wp2_with fail
  try rw [hpp]
  generalize hV : w2.alloc (.cells #[.int .i64 X, .int .i64 Y, .slice A B.length c] 30) = V at *
  clear hV
  have hV0 := bp.lt
  by_cases hok : Ok ⟨X, Y, B⟩
  rotate_left
  · have HO := Lib.hid hok
    clear hok
    refine (l02Ok_any _ X Y _ B false (no_iff HO.out) _ ⟨bp, hI.ints⟩).mono ?_
    rintro e w3 ⟨rfl, hd⟩
    have hb3 := bdrawn hd
    replace bp := bp.below hb3
    replace hI := hI.below hb3
    replace r1 := r1.below hb3
    replace r2 := r2.below hb3
    replace bl := bnext bl hb3
    replace hS2 := hS2.below hb3
    clear hb3 hd hV0
    obtain ⟨V, hV⟩ : ∃ z, z = w3 := ⟨_, rfl⟩
    subst hV
    have hm0 : 0 + 1010 ≤ 10000000 := by omega
    go_wp2_with fail
    have KS : Hid (∀ w', Chg b (b + 1) V w' → (w'.cell? ⟨pp, 0, none⟩ = some (.int .i64 X) ∧ w'.cell? ⟨pp, 1, none⟩ = some (.int .i64 Y) ∧ w'.cell? ⟨pp, 2, none⟩ = some (.slice A B.length c))) := Lib.hid (fun w' hc => ⟨(bp.chgb hc (by omega)).cell 0, (bp.chgb hc (by omega)).cell 1, (bp.chgb hc (by omega)).cell 2⟩)
    have S0 : Hid (Src V.drew b (0 + 1010)) := Lib.hid (hS2.drewN 1)
    have hb0 : Below V.heap.size V V.drew := below_drewN _ _ 1
    have Dbp := Lib.hid (bp.below hb0)
    have DhI := Lib.hid (hI.below hb0)
    have EhI := Lib.hid hI
    have Er1 := Lib.hid r1
    have Er2 := Lib.hid r2
    have EL := Lib.hid bl
    have nbpr1 : (pp : Nat) ≠ w.heap.size := by omega
    have nbpr2 : (pp : Nat) ≠ w.heap.size + 1 := by omega
    have mr1 : (w.heap.size : Nat) ≠ b := by omega
    have mr2 : (w.heap.size + 1 : Nat) ≠ b := by omega
    have bp0_ := bp.cell 0
    have bp1_ := bp.cell 1
    have bp2_ := bp.cell 2
    have bpn_ := bp.lt
    simp only [List.getElem?_toArray, List.getElem?_cons_zero, List.getElem?_cons_succ] at bp0_ bp1_ bp2_
    clear bp hI r1 r2 hS2 bl hb0
    go_wp2
    go_region_held3 (fun w' => w'.cell? ⟨pp, 0, none⟩ = some (.int .i64 X) ∧ w'.cell? ⟨pp, 1, none⟩ = some (.int .i64 Y) ∧ w'.cell? ⟨pp, 2, none⟩ = some (.slice A B.length c))
      (first | (with_reducible exact ⟨cell_f nbpr2 (cell_f nbpr2 (cell_f nbpr2 (cell_f nbpr1 (cell_f nbpr1 (cell_f nbpr1 (k0)))))), cell_f nbpr2 (cell_f nbpr2 (cell_f nbpr2 (cell_f nbpr1 (cell_f nbpr1 (cell_f nbpr1 (k1)))))), cell_f nbpr2 (cell_f nbpr2 (cell_f nbpr2 (cell_f nbpr1 (cell_f nbpr1 (cell_f nbpr1 (k2))))))⟩) | (with_reducible exact ⟨cell_f nbpr1 (cell_f nbpr1 (cell_f nbpr1 (k0))), cell_f nbpr1 (cell_f nbpr1 (cell_f nbpr1 (k1))), cell_f nbpr1 (cell_f nbpr1 (cell_f nbpr1 (k2)))⟩) | (with_reducible exact KS.out _ hC6) | (with_reducible exact KS.out _ (chg_drew _ _)) | (with_reducible assumption))
      ((go_at_call 101; (with_reducible refine (l02Bent_any S0.out hm0).mono ?_); rintro e w6 ⟨X2, Y2, A2, c2, B2, rfl, hI2, hS6, hc6⟩; have hC6 := Chg.trans (chg_drew b V) hc6; obtain ⟨k0, k1, k2⟩ := KS.out _ hC6; have fr1 := Er1.out.chgb hC6 mr1; have z0 := fr1.cell 0; have zf0 := fr1.free 0; have z1 := fr1.cell 1; have zf1 := fr1.free 1; have z2 := fr1.cell 2; have zf2 := fr1.free 2; have zn := fr1.lt; have fr2 := Er2.out.chgb hC6 mr2; have y0 := fr2.cell 0; have yf0 := fr2.free 0; have y1 := fr2.cell 1; have yf1 := fr2.free 1; have y2 := fr2.cell 2; have yf2 := fr2.free 2; have yn := fr2.lt))
    all_goals
      have QhI := EhI.out.chgb hC6 (by omega)
      have hs6 := hC6.size
      have hd6 : V.drew.heap.size = V.heap.size := rfl
      have hL6 := chg_low EL.out hC6 (by omega) (by have := EL.out.size; exact this)
      obtain ⟨W9, hW9⟩ : ∃ z, z = ((((((w6.setCell ⟨w.heap.size, 0, none⟩ (.int .i64 X)).setCell ⟨w.heap.size, 1, none⟩ (.int .i64 Y)).setCell ⟨w.heap.size, 2, none⟩ (.slice A B.length c)).setCell ⟨w.heap.size + 1, 0, none⟩ (.int .i64 X2)).setCell ⟨w.heap.size + 1, 1, none⟩ (.int .i64 Y2)).setCell ⟨w.heap.size + 1, 2, none⟩ (.slice A2 B2.length c2)) := ⟨_, rfl⟩
      have HQhI : Hid (IntsIn ((((((w6.setCell ⟨w.heap.size, 0, none⟩ (.int .i64 X)).setCell ⟨w.heap.size, 1, none⟩ (.int .i64 Y)).setCell ⟨w.heap.size, 2, none⟩ (.slice A B.length c)).setCell ⟨w.heap.size + 1, 0, none⟩ (.int .i64 X2)).setCell ⟨w.heap.size + 1, 1, none⟩ (.int .i64 Y2)).setCell ⟨w.heap.size + 1, 2, none⟩ (.slice A2 B2.length c2)) w.heap.size (((((((w6.setCell ⟨w.heap.size, 0, none⟩ (.int .i64 X)).setCell ⟨w.heap.size, 1, none⟩ (.int .i64 Y)).setCell ⟨w.heap.size, 2, none⟩ (.slice A B.length c)).setCell ⟨w.heap.size + 1, 0, none⟩ (.int .i64 X2)).setCell ⟨w.heap.size + 1, 1, none⟩ (.int .i64 Y2)).setCell ⟨w.heap.size + 1, 2, none⟩ (.slice A2 B2.length c2))).heap.size (.slice A B.length c) B) := Lib.hid ((((((((QhI.at_store (p := ⟨w.heap.size, 0, none⟩) (by show w.heap.size < _; omega) _).at_store (p := ⟨w.heap.size, 1, none⟩) (by show w.heap.size < _; omega) _).at_store (p := ⟨w.heap.size, 2, none⟩) (by show w.heap.size < _; omega) _).at_store (p := ⟨w.heap.size + 1, 0, none⟩) (by show w.heap.size + 1 < _; omega) _).at_store (p := ⟨w.heap.size + 1, 1, none⟩) (by show w.heap.size + 1 < _; omega) _).at_store (p := ⟨w.heap.size + 1, 2, none⟩) (by show w.heap.size + 1 < _; omega) _)).wider (lo' := w.heap.size) (by omega) (((((((QhI.at_store (p := ⟨w.heap.size, 0, none⟩) (by show w.heap.size < _; omega) _).at_store (p := ⟨w.heap.size, 1, none⟩) (by show w.heap.size < _; omega) _).at_store (p := ⟨w.heap.size, 2, none⟩) (by show w.heap.size < _; omega) _).at_store (p := ⟨w.heap.size + 1, 0, none⟩) (by show w.heap.size + 1 < _; omega) _).at_store (p := ⟨w.heap.size + 1, 1, none⟩) (by show w.heap.size + 1 < _; omega) _).at_store (p := ⟨w.heap.size + 1, 2, none⟩) (by show w.heap.size + 1 < _; omega) _)).2.2.1 (Nat.le_refl _))
      have HhI2 : Hid (IntsIn ((((((w6.setCell ⟨w.heap.size, 0, none⟩ (.int .i64 X)).setCell ⟨w.heap.size, 1, none⟩ (.int .i64 Y)).setCell ⟨w.heap.size, 2, none⟩ (.slice A B.length c)).setCell ⟨w.heap.size + 1, 0, none⟩ (.int .i64 X2)).setCell ⟨w.heap.size + 1, 1, none⟩ (.int .i64 Y2)).setCell ⟨w.heap.size + 1, 2, none⟩ (.slice A2 B2.length c2)) w.heap.size (((((((w6.setCell ⟨w.heap.size, 0, none⟩ (.int .i64 X)).setCell ⟨w.heap.size, 1, none⟩ (.int .i64 Y)).setCell ⟨w.heap.size, 2, none⟩ (.slice A B.length c)).setCell ⟨w.heap.size + 1, 0, none⟩ (.int .i64 X2)).setCell ⟨w.heap.size + 1, 1, none⟩ (.int .i64 Y2)).setCell ⟨w.heap.size + 1, 2, none⟩ (.slice A2 B2.length c2))).heap.size (.slice A2 B2.length c2) B2) := Lib.hid ((((((((hI2.at_store (p := ⟨w.heap.size, 0, none⟩) (by show w.heap.size < _; omega) _).at_store (p := ⟨w.heap.size, 1, none⟩) (by show w.heap.size < _; omega) _).at_store (p := ⟨w.heap.size, 2, none⟩) (by show w.heap.size < _; omega) _).at_store (p := ⟨w.heap.size + 1, 0, none⟩) (by show w.heap.size + 1 < _; omega) _).at_store (p := ⟨w.heap.size + 1, 1, none⟩) (by show w.heap.size + 1 < _; omega) _).at_store (p := ⟨w.heap.size + 1, 2, none⟩) (by show w.heap.size + 1 < _; omega) _)).wider (lo' := w.heap.size) (by omega) (((((((hI2.at_store (p := ⟨w.heap.size, 0, none⟩) (by show w.heap.size < _; omega) _).at_store (p := ⟨w.heap.size, 1, none⟩) (by show w.heap.size < _; omega) _).at_store (p := ⟨w.heap.size, 2, none⟩) (by show w.heap.size < _; omega) _).at_store (p := ⟨w.heap.size + 1, 0, none⟩) (by show w.heap.size + 1 < _; omega) _).at_store (p := ⟨w.heap.size + 1, 1, none⟩) (by show w.heap.size + 1 < _; omega) _).at_store (p := ⟨w.heap.size + 1, 2, none⟩) (by show w.heap.size + 1 < _; omega) _)).2.2.1 (Nat.le_refl _))
      have HL : Hid (Below w.heap.size w ((((((w6.setCell ⟨w.heap.size, 0, none⟩ (.int .i64 X)).setCell ⟨w.heap.size, 1, none⟩ (.int .i64 Y)).setCell ⟨w.heap.size, 2, none⟩ (.slice A B.length c)).setCell ⟨w.heap.size + 1, 0, none⟩ (.int .i64 X2)).setCell ⟨w.heap.size + 1, 1, none⟩ (.int .i64 Y2)).setCell ⟨w.heap.size + 1, 2, none⟩ (.slice A2 B2.length c2))) := Lib.hid (((((((hL6.setCell (p := ⟨w.heap.size, 0, none⟩) (by show _ ≤ w.heap.size; omega) _).setCell (p := ⟨w.heap.size, 1, none⟩) (by show _ ≤ w.heap.size; omega) _).setCell (p := ⟨w.heap.size, 2, none⟩) (by show _ ≤ w.heap.size; omega) _).setCell (p := ⟨w.heap.size + 1, 0, none⟩) (by show _ ≤ w.heap.size + 1; omega) _).setCell (p := ⟨w.heap.size + 1, 1, none⟩) (by show _ ≤ w.heap.size + 1; omega) _).setCell (p := ⟨w.heap.size + 1, 2, none⟩) (by show _ ≤ w.heap.size + 1; omega) _))
      clear hL6 hS6 hc6 hC6 KS S0 EL hW9 QhI hI2 EhI DhI Dbp Er1 Er2 fr1 fr2
      go_wp2_with fail
      refine bodyPost_ret (v := .tuple #[.agg #[.int .i64 X, .int .i64 Y, .slice A B.length c], .agg #[.int .i64 X2, .int .i64 Y2, .slice A2 B2.length c2]]) ?_ rfl ?_
      · simp [results, Try.results43, go_sem, zn, z0, z1, z2, yn, y0, y1, y2]
      · exact ⟨X, Y, X2, Y2, A, A2, c, c2, B, B2, rfl, HQhI.out, HhI2.out, HL.out⟩
  have HOK := Lib.hid hok
  clear hok
  refine (l02Ok_any _ X Y _ B true (yes_iff HOK.out) _ ⟨bp, hI.ints⟩).mono ?_
  rintro e w3 ⟨rfl, hd⟩
  have hb3 := bdrawn hd
  replace bp := bp.below hb3
  replace hI := hI.below hb3
  replace r1 := r1.below hb3
  replace r2 := r2.below hb3
  replace bl := bnext bl hb3
  replace hS2 := hS2.below hb3
  clear hb3 hd hV0
  go_wp2_with fail
  refine (src_one hS2 (by omega) (by omega)).mono ?_
  rintro e w4 ⟨q1, rfl, hS4, hc4⟩
  replace bp := bp.chgb hc4 (by omega)
  replace hI := hI.chgb hc4 (by omega)
  replace r1 := r1.chgb hc4 (by omega)
  replace r2 := r2.chgb hc4 (by omega)
  replace bl := chg_low bl hc4 (by omega) (by have := bl.size; exact this)
  clear hS2 hc4
  have hS2 := hS4
  clear hS4
  obtain ⟨V, hV⟩ : ∃ z, z = w4 := ⟨_, rfl⟩
  subst hV
  cases q1
  · skip
    have hm0 : 0 + 1010 + 1 ≤ 10000000 := by omega
    go_wp2_with fail
    have KS : Hid (∀ w', Chg b (b + 1) V w' → (w'.cell? ⟨pp, 0, none⟩ = some (.int .i64 X) ∧ w'.cell? ⟨pp, 1, none⟩ = some (.int .i64 Y) ∧ w'.cell? ⟨pp, 2, none⟩ = some (.slice A B.length c))) := Lib.hid (fun w' hc => ⟨(bp.chgb hc (by omega)).cell 0, (bp.chgb hc (by omega)).cell 1, (bp.chgb hc (by omega)).cell 2⟩)
    have S0 : Hid (Src V.drew b (0 + 1010 + 1)) := Lib.hid (hS2.drewN 1)
    have hb0 : Below V.heap.size V V.drew := below_drewN _ _ 1
    have Dbp := Lib.hid (bp.below hb0)
    have DhI := Lib.hid (hI.below hb0)
    have EhI := Lib.hid hI
    have Er1 := Lib.hid r1
    have Er2 := Lib.hid r2
    have EL := Lib.hid bl
    have nbpr1 : (pp : Nat) ≠ w.heap.size := by omega
    have nbpr2 : (pp : Nat) ≠ w.heap.size + 1 := by omega
    have mr1 : (w.heap.size : Nat) ≠ b := by omega
    have mr2 : (w.heap.size + 1 : Nat) ≠ b := by omega
    have bp0_ := bp.cell 0
    have bp1_ := bp.cell 1
    have bp2_ := bp.cell 2
    have bpn_ := bp.lt
    simp only [List.getElem?_toArray, List.getElem?_cons_zero, List.getElem?_cons_succ] at bp0_ bp1_ bp2_
    clear bp hI r1 r2 hS2 bl hb0
    go_wp2
    go_region_held3 (fun w' => w'.cell? ⟨pp, 0, none⟩ = some (.int .i64 X) ∧ w'.cell? ⟨pp, 1, none⟩ = some (.int .i64 Y) ∧ w'.cell? ⟨pp, 2, none⟩ = some (.slice A B.length c))
      (first | (with_reducible exact ⟨cell_f nbpr2 (cell_f nbpr2 (cell_f nbpr2 (cell_f nbpr1 (cell_f nbpr1 (cell_f nbpr1 (k0)))))), cell_f nbpr2 (cell_f nbpr2 (cell_f nbpr2 (cell_f nbpr1 (cell_f nbpr1 (cell_f nbpr1 (k1)))))), cell_f nbpr2 (cell_f nbpr2 (cell_f nbpr2 (cell_f nbpr1 (cell_f nbpr1 (cell_f nbpr1 (k2))))))⟩) | (with_reducible exact ⟨cell_f nbpr1 (cell_f nbpr1 (cell_f nbpr1 (k0))), cell_f nbpr1 (cell_f nbpr1 (cell_f nbpr1 (k1))), cell_f nbpr1 (cell_f nbpr1 (cell_f nbpr1 (k2)))⟩) | (with_reducible exact KS.out _ hC6) | (with_reducible exact KS.out _ (chg_drew _ _)) | (with_reducible assumption))
      ((go_at_call 101; (with_reducible refine (l02Bent_any S0.out hm0).mono ?_); rintro e w6 ⟨X2, Y2, A2, c2, B2, rfl, hI2, hS6, hc6⟩; have hC6 := Chg.trans (chg_drew b V) hc6; obtain ⟨k0, k1, k2⟩ := KS.out _ hC6; have fr1 := Er1.out.chgb hC6 mr1; have z0 := fr1.cell 0; have zf0 := fr1.free 0; have z1 := fr1.cell 1; have zf1 := fr1.free 1; have z2 := fr1.cell 2; have zf2 := fr1.free 2; have zn := fr1.lt; have fr2 := Er2.out.chgb hC6 mr2; have y0 := fr2.cell 0; have yf0 := fr2.free 0; have y1 := fr2.cell 1; have yf1 := fr2.free 1; have y2 := fr2.cell 2; have yf2 := fr2.free 2; have yn := fr2.lt))
    all_goals
      have QhI := EhI.out.chgb hC6 (by omega)
      have hs6 := hC6.size
      have hd6 : V.drew.heap.size = V.heap.size := rfl
      have hL6 := chg_low EL.out hC6 (by omega) (by have := EL.out.size; exact this)
      obtain ⟨W9, hW9⟩ : ∃ z, z = ((((((w6.setCell ⟨w.heap.size, 0, none⟩ (.int .i64 X)).setCell ⟨w.heap.size, 1, none⟩ (.int .i64 Y)).setCell ⟨w.heap.size, 2, none⟩ (.slice A B.length c)).setCell ⟨w.heap.size + 1, 0, none⟩ (.int .i64 X2)).setCell ⟨w.heap.size + 1, 1, none⟩ (.int .i64 Y2)).setCell ⟨w.heap.size + 1, 2, none⟩ (.slice A2 B2.length c2)) := ⟨_, rfl⟩
      have HQhI : Hid (IntsIn ((((((w6.setCell ⟨w.heap.size, 0, none⟩ (.int .i64 X)).setCell ⟨w.heap.size, 1, none⟩ (.int .i64 Y)).setCell ⟨w.heap.size, 2, none⟩ (.slice A B.length c)).setCell ⟨w.heap.size + 1, 0, none⟩ (.int .i64 X2)).setCell ⟨w.heap.size + 1, 1, none⟩ (.int .i64 Y2)).setCell ⟨w.heap.size + 1, 2, none⟩ (.slice A2 B2.length c2)) w.heap.size (((((((w6.setCell ⟨w.heap.size, 0, none⟩ (.int .i64 X)).setCell ⟨w.heap.size, 1, none⟩ (.int .i64 Y)).setCell ⟨w.heap.size, 2, none⟩ (.slice A B.length c)).setCell ⟨w.heap.size + 1, 0, none⟩ (.int .i64 X2)).setCell ⟨w.heap.size + 1, 1, none⟩ (.int .i64 Y2)).setCell ⟨w.heap.size + 1, 2, none⟩ (.slice A2 B2.length c2))).heap.size (.slice A B.length c) B) := Lib.hid ((((((((QhI.at_store (p := ⟨w.heap.size, 0, none⟩) (by show w.heap.size < _; omega) _).at_store (p := ⟨w.heap.size, 1, none⟩) (by show w.heap.size < _; omega) _).at_store (p := ⟨w.heap.size, 2, none⟩) (by show w.heap.size < _; omega) _).at_store (p := ⟨w.heap.size + 1, 0, none⟩) (by show w.heap.size + 1 < _; omega) _).at_store (p := ⟨w.heap.size + 1, 1, none⟩) (by show w.heap.size + 1 < _; omega) _).at_store (p := ⟨w.heap.size + 1, 2, none⟩) (by show w.heap.size + 1 < _; omega) _)).wider (lo' := w.heap.size) (by omega) (((((((QhI.at_store (p := ⟨w.heap.size, 0, none⟩) (by show w.heap.size < _; omega) _).at_store (p := ⟨w.heap.size, 1, none⟩) (by show w.heap.size < _; omega) _).at_store (p := ⟨w.heap.size, 2, none⟩) (by show w.heap.size < _; omega) _).at_store (p := ⟨w.heap.size + 1, 0, none⟩) (by show w.heap.size + 1 < _; omega) _).at_store (p := ⟨w.heap.size + 1, 1, none⟩) (by show w.heap.size + 1 < _; omega) _).at_store (p := ⟨w.heap.size + 1, 2, none⟩) (by show w.heap.size + 1 < _; omega) _)).2.2.1 (Nat.le_refl _))
      have HhI2 : Hid (IntsIn ((((((w6.setCell ⟨w.heap.size, 0, none⟩ (.int .i64 X)).setCell ⟨w.heap.size, 1, none⟩ (.int .i64 Y)).setCell ⟨w.heap.size, 2, none⟩ (.slice A B.length c)).setCell ⟨w.heap.size + 1, 0, none⟩ (.int .i64 X2)).setCell ⟨w.heap.size + 1, 1, none⟩ (.int .i64 Y2)).setCell ⟨w.heap.size + 1, 2, none⟩ (.slice A2 B2.length c2)) w.heap.size (((((((w6.setCell ⟨w.heap.size, 0, none⟩ (.int .i64 X)).setCell ⟨w.heap.size, 1, none⟩ (.int .i64 Y)).setCell ⟨w.heap.size, 2, none⟩ (.slice A B.length c)).setCell ⟨w.heap.size + 1, 0, none⟩ (.int .i64 X2)).setCell ⟨w.heap.size + 1, 1, none⟩ (.int .i64 Y2)).setCell ⟨w.heap.size + 1, 2, none⟩ (.slice A2 B2.length c2))).heap.size (.slice A2 B2.length c2) B2) := Lib.hid ((((((((hI2.at_store (p := ⟨w.heap.size, 0, none⟩) (by show w.heap.size < _; omega) _).at_store (p := ⟨w.heap.size, 1, none⟩) (by show w.heap.size < _; omega) _).at_store (p := ⟨w.heap.size, 2, none⟩) (by show w.heap.size < _; omega) _).at_store (p := ⟨w.heap.size + 1, 0, none⟩) (by show w.heap.size + 1 < _; omega) _).at_store (p := ⟨w.heap.size + 1, 1, none⟩) (by show w.heap.size + 1 < _; omega) _).at_store (p := ⟨w.heap.size + 1, 2, none⟩) (by show w.heap.size + 1 < _; omega) _)).wider (lo' := w.heap.size) (by omega) (((((((hI2.at_store (p := ⟨w.heap.size, 0, none⟩) (by show w.heap.size < _; omega) _).at_store (p := ⟨w.heap.size, 1, none⟩) (by show w.heap.size < _; omega) _).at_store (p := ⟨w.heap.size, 2, none⟩) (by show w.heap.size < _; omega) _).at_store (p := ⟨w.heap.size + 1, 0, none⟩) (by show w.heap.size + 1 < _; omega) _).at_store (p := ⟨w.heap.size + 1, 1, none⟩) (by show w.heap.size + 1 < _; omega) _).at_store (p := ⟨w.heap.size + 1, 2, none⟩) (by show w.heap.size + 1 < _; omega) _)).2.2.1 (Nat.le_refl _))
      have HL : Hid (Below w.heap.size w ((((((w6.setCell ⟨w.heap.size, 0, none⟩ (.int .i64 X)).setCell ⟨w.heap.size, 1, none⟩ (.int .i64 Y)).setCell ⟨w.heap.size, 2, none⟩ (.slice A B.length c)).setCell ⟨w.heap.size + 1, 0, none⟩ (.int .i64 X2)).setCell ⟨w.heap.size + 1, 1, none⟩ (.int .i64 Y2)).setCell ⟨w.heap.size + 1, 2, none⟩ (.slice A2 B2.length c2))) := Lib.hid (((((((hL6.setCell (p := ⟨w.heap.size, 0, none⟩) (by show _ ≤ w.heap.size; omega) _).setCell (p := ⟨w.heap.size, 1, none⟩) (by show _ ≤ w.heap.size; omega) _).setCell (p := ⟨w.heap.size, 2, none⟩) (by show _ ≤ w.heap.size; omega) _).setCell (p := ⟨w.heap.size + 1, 0, none⟩) (by show _ ≤ w.heap.size + 1; omega) _).setCell (p := ⟨w.heap.size + 1, 1, none⟩) (by show _ ≤ w.heap.size + 1; omega) _).setCell (p := ⟨w.heap.size + 1, 2, none⟩) (by show _ ≤ w.heap.size + 1; omega) _))
      clear hL6 hS6 hc6 hC6 KS S0 EL hW9 QhI hI2 EhI DhI Dbp Er1 Er2 fr1 fr2
      go_wp2_with fail
      refine bodyPost_ret (v := .tuple #[.agg #[.int .i64 X, .int .i64 Y, .slice A B.length c], .agg #[.int .i64 X2, .int .i64 Y2, .slice A2 B2.length c2]]) ?_ rfl ?_
      · simp [results, Try.results43, go_sem, zn, z0, z1, z2, yn, y0, y1, y2]
      · exact ⟨X, Y, X2, Y2, A, A2, c, c2, B, B2, rfl, HQhI.out, HhI2.out, HL.out⟩
  · skip
    have hm1 : 0 + 1010 + 1 ≤ 1000000000 := by omega
    have hn8 : (8 : Int) ≤ 200 := by omega
    have h18 : (1 : Int) ≤ 8 := by omega
    have KB : Hid (∀ w', Chg b (b + 1) V w' → Box w' pp 30 #[.int .i64 X, .int .i64 Y, .slice A B.length c] ∧ IntsIn w' w1.heap.size pp (.slice A B.length c) B) := Lib.hid (fun w' hc => ⟨bp.chgb hc (by omega), hI.chgb hc (by omega)⟩)
    go_wp2_with fail
    have KS : Hid (∀ w', Chg b (b + 1) V w' → (w'.cell? ⟨pp, 0, none⟩ = some (.int .i64 X) ∧ w'.cell? ⟨pp, 1, none⟩ = some (.int .i64 Y) ∧ w'.cell? ⟨pp, 2, none⟩ = some (.slice A B.length c))) := Lib.hid (fun w' hc => ⟨(bp.chgb hc (by omega)).cell 0, (bp.chgb hc (by omega)).cell 1, (bp.chgb hc (by omega)).cell 2⟩)
    have S0 : Hid (Src V.drew b (0 + 1010 + 1)) := Lib.hid (hS2.drewN 1)
    have hb0 : Below V.heap.size V V.drew := below_drewN _ _ 1
    have Dbp := Lib.hid (bp.below hb0)
    have DhI := Lib.hid (hI.below hb0)
    have EhI := Lib.hid hI
    have Er1 := Lib.hid r1
    have Er2 := Lib.hid r2
    have EL := Lib.hid bl
    have nbpr1 : (pp : Nat) ≠ w.heap.size := by omega
    have nbpr2 : (pp : Nat) ≠ w.heap.size + 1 := by omega
    have mr1 : (w.heap.size : Nat) ≠ b := by omega
    have mr2 : (w.heap.size + 1 : Nat) ≠ b := by omega
    have bp0_ := bp.cell 0
    have bp1_ := bp.cell 1
    have bp2_ := bp.cell 2
    have bpn_ := bp.lt
    simp only [List.getElem?_toArray, List.getElem?_cons_zero, List.getElem?_cons_succ] at bp0_ bp1_ bp2_
    clear bp hI r1 r2 hS2 bl hb0
    go_wp2
    go_region_held3 (fun w' => w'.cell? ⟨pp, 0, none⟩ = some (.int .i64 X) ∧ w'.cell? ⟨pp, 1, none⟩ = some (.int .i64 Y) ∧ w'.cell? ⟨pp, 2, none⟩ = some (.slice A B.length c))
      (first | (with_reducible exact ⟨cell_f nbpr2 (cell_f nbpr2 (cell_f nbpr2 (cell_f nbpr1 (cell_f nbpr1 (cell_f nbpr1 (k0)))))), cell_f nbpr2 (cell_f nbpr2 (cell_f nbpr2 (cell_f nbpr1 (cell_f nbpr1 (cell_f nbpr1 (k1)))))), cell_f nbpr2 (cell_f nbpr2 (cell_f nbpr2 (cell_f nbpr1 (cell_f nbpr1 (cell_f nbpr1 (k2))))))⟩) | (with_reducible exact ⟨cell_f nbpr1 (cell_f nbpr1 (cell_f nbpr1 (k0))), cell_f nbpr1 (cell_f nbpr1 (cell_f nbpr1 (k1))), cell_f nbpr1 (cell_f nbpr1 (cell_f nbpr1 (k2)))⟩) | (with_reducible exact KS.out _ hC6) | (with_reducible exact KS.out _ hC5) | (with_reducible exact KS.out _ (chg_drew _ _)) | (with_reducible assumption))
      (first
        | (go_at_call 103; (with_reducible refine (src_pick S0.out hm1 hn8).mono ?_); rintro e w5 ⟨i, rfl, i0, i1, _, hS5, hc5⟩; have i2 := i1 h18; have hC5 := Chg.trans (chg_drew b V) hc5; have hso := sym_ok8 i0 i2; obtain ⟨X2, hX2⟩ : ∃ z, mapW X Y i = z := ⟨_, rfl⟩; obtain ⟨Y2, hY2⟩ : ∃ z, mapH X Y i = z := ⟨_, rfl⟩; obtain ⟨B2, hB2⟩ : ∃ z, mapTo X Y i B B.length B.length = z := ⟨_, rfl⟩)
        | (go_at_call 83; (with_reducible refine (l06Map_any (KB.out _ hC5).1 (KB.out _ hC5).2 HOK.out hso).mono ?_); rw [hX2, hY2, hB2]; rintro e w6 ⟨A2, c2, rfl, hI2, hb6⟩; have hS6 := hS5.below hb6; have hs56 := hC5.size; have hc6 := Chg.ofBelow (lo := b) (hi := b + 1) hb6; have hC6 := Chg.trans hC5 hc6; have HLB : Hid (B2.length = B.length) := (by rw [← hB2]; exact Lib.hid (mapTo_length X Y i B B.length B.length)); obtain ⟨k0, k1, k2⟩ := KS.out _ hC6; have fr1 := Er1.out.chgb hC6 mr1; have z0 := fr1.cell 0; have zf0 := fr1.free 0; have z1 := fr1.cell 1; have zf1 := fr1.free 1; have z2 := fr1.cell 2; have zf2 := fr1.free 2; have zn := fr1.lt; have fr2 := Er2.out.chgb hC6 mr2; have y0 := fr2.cell 0; have yf0 := fr2.free 0; have y1 := fr2.cell 1; have yf1 := fr2.free 1; have y2 := fr2.cell 2; have yf2 := fr2.free 2; have yn := fr2.lt))
    all_goals
      have QhI := EhI.out.chgb hC6 (by omega)
      have hs6 := hC6.size
      have hd6 : V.drew.heap.size = V.heap.size := rfl
      have hL6 := chg_low EL.out hC6 (by omega) (by have := EL.out.size; exact this)
      obtain ⟨W9, hW9⟩ : ∃ z, z = ((((((w6.setCell ⟨w.heap.size, 0, none⟩ (.int .i64 X)).setCell ⟨w.heap.size, 1, none⟩ (.int .i64 Y)).setCell ⟨w.heap.size, 2, none⟩ (.slice A B.length c)).setCell ⟨w.heap.size + 1, 0, none⟩ (.int .i64 X2)).setCell ⟨w.heap.size + 1, 1, none⟩ (.int .i64 Y2)).setCell ⟨w.heap.size + 1, 2, none⟩ (.slice A2 B.length c2)) := ⟨_, rfl⟩
      have HQhI : Hid (IntsIn ((((((w6.setCell ⟨w.heap.size, 0, none⟩ (.int .i64 X)).setCell ⟨w.heap.size, 1, none⟩ (.int .i64 Y)).setCell ⟨w.heap.size, 2, none⟩ (.slice A B.length c)).setCell ⟨w.heap.size + 1, 0, none⟩ (.int .i64 X2)).setCell ⟨w.heap.size + 1, 1, none⟩ (.int .i64 Y2)).setCell ⟨w.heap.size + 1, 2, none⟩ (.slice A2 B.length c2)) w.heap.size (((((((w6.setCell ⟨w.heap.size, 0, none⟩ (.int .i64 X)).setCell ⟨w.heap.size, 1, none⟩ (.int .i64 Y)).setCell ⟨w.heap.size, 2, none⟩ (.slice A B.length c)).setCell ⟨w.heap.size + 1, 0, none⟩ (.int .i64 X2)).setCell ⟨w.heap.size + 1, 1, none⟩ (.int .i64 Y2)).setCell ⟨w.heap.size + 1, 2, none⟩ (.slice A2 B.length c2))).heap.size (.slice A B.length c) B) := Lib.hid ((((((((QhI.at_store (p := ⟨w.heap.size, 0, none⟩) (by show w.heap.size < _; omega) _).at_store (p := ⟨w.heap.size, 1, none⟩) (by show w.heap.size < _; omega) _).at_store (p := ⟨w.heap.size, 2, none⟩) (by show w.heap.size < _; omega) _).at_store (p := ⟨w.heap.size + 1, 0, none⟩) (by show w.heap.size + 1 < _; omega) _).at_store (p := ⟨w.heap.size + 1, 1, none⟩) (by show w.heap.size + 1 < _; omega) _).at_store (p := ⟨w.heap.size + 1, 2, none⟩) (by show w.heap.size + 1 < _; omega) _)).wider (lo' := w.heap.size) (by omega) (((((((QhI.at_store (p := ⟨w.heap.size, 0, none⟩) (by show w.heap.size < _; omega) _).at_store (p := ⟨w.heap.size, 1, none⟩) (by show w.heap.size < _; omega) _).at_store (p := ⟨w.heap.size, 2, none⟩) (by show w.heap.size < _; omega) _).at_store (p := ⟨w.heap.size + 1, 0, none⟩) (by show w.heap.size + 1 < _; omega) _).at_store (p := ⟨w.heap.size + 1, 1, none⟩) (by show w.heap.size + 1 < _; omega) _).at_store (p := ⟨w.heap.size + 1, 2, none⟩) (by show w.heap.size + 1 < _; omega) _)).2.2.1 (Nat.le_refl _))
      have HhI2 : Hid (IntsIn ((((((w6.setCell ⟨w.heap.size, 0, none⟩ (.int .i64 X)).setCell ⟨w.heap.size, 1, none⟩ (.int .i64 Y)).setCell ⟨w.heap.size, 2, none⟩ (.slice A B.length c)).setCell ⟨w.heap.size + 1, 0, none⟩ (.int .i64 X2)).setCell ⟨w.heap.size + 1, 1, none⟩ (.int .i64 Y2)).setCell ⟨w.heap.size + 1, 2, none⟩ (.slice A2 B.length c2)) w.heap.size (((((((w6.setCell ⟨w.heap.size, 0, none⟩ (.int .i64 X)).setCell ⟨w.heap.size, 1, none⟩ (.int .i64 Y)).setCell ⟨w.heap.size, 2, none⟩ (.slice A B.length c)).setCell ⟨w.heap.size + 1, 0, none⟩ (.int .i64 X2)).setCell ⟨w.heap.size + 1, 1, none⟩ (.int .i64 Y2)).setCell ⟨w.heap.size + 1, 2, none⟩ (.slice A2 B.length c2))).heap.size (.slice A2 B.length c2) B2) := Lib.hid ((((((((hI2.at_store (p := ⟨w.heap.size, 0, none⟩) (by show w.heap.size < _; omega) _).at_store (p := ⟨w.heap.size, 1, none⟩) (by show w.heap.size < _; omega) _).at_store (p := ⟨w.heap.size, 2, none⟩) (by show w.heap.size < _; omega) _).at_store (p := ⟨w.heap.size + 1, 0, none⟩) (by show w.heap.size + 1 < _; omega) _).at_store (p := ⟨w.heap.size + 1, 1, none⟩) (by show w.heap.size + 1 < _; omega) _).at_store (p := ⟨w.heap.size + 1, 2, none⟩) (by show w.heap.size + 1 < _; omega) _)).wider (lo' := w.heap.size) (by omega) (((((((hI2.at_store (p := ⟨w.heap.size, 0, none⟩) (by show w.heap.size < _; omega) _).at_store (p := ⟨w.heap.size, 1, none⟩) (by show w.heap.size < _; omega) _).at_store (p := ⟨w.heap.size, 2, none⟩) (by show w.heap.size < _; omega) _).at_store (p := ⟨w.heap.size + 1, 0, none⟩) (by show w.heap.size + 1 < _; omega) _).at_store (p := ⟨w.heap.size + 1, 1, none⟩) (by show w.heap.size + 1 < _; omega) _).at_store (p := ⟨w.heap.size + 1, 2, none⟩) (by show w.heap.size + 1 < _; omega) _)).2.2.1 (Nat.le_refl _))
      have HL : Hid (Below w.heap.size w ((((((w6.setCell ⟨w.heap.size, 0, none⟩ (.int .i64 X)).setCell ⟨w.heap.size, 1, none⟩ (.int .i64 Y)).setCell ⟨w.heap.size, 2, none⟩ (.slice A B.length c)).setCell ⟨w.heap.size + 1, 0, none⟩ (.int .i64 X2)).setCell ⟨w.heap.size + 1, 1, none⟩ (.int .i64 Y2)).setCell ⟨w.heap.size + 1, 2, none⟩ (.slice A2 B.length c2))) := Lib.hid (((((((hL6.setCell (p := ⟨w.heap.size, 0, none⟩) (by show _ ≤ w.heap.size; omega) _).setCell (p := ⟨w.heap.size, 1, none⟩) (by show _ ≤ w.heap.size; omega) _).setCell (p := ⟨w.heap.size, 2, none⟩) (by show _ ≤ w.heap.size; omega) _).setCell (p := ⟨w.heap.size + 1, 0, none⟩) (by show _ ≤ w.heap.size + 1; omega) _).setCell (p := ⟨w.heap.size + 1, 1, none⟩) (by show _ ≤ w.heap.size + 1; omega) _).setCell (p := ⟨w.heap.size + 1, 2, none⟩) (by show _ ≤ w.heap.size + 1; omega) _))
      clear hC5 hc5 hS5 hX2 hY2 hB2 KB
      clear hL6 hS6 hc6 hC6 KS S0 EL hW9 QhI hI2 EhI DhI Dbp Er1 Er2 fr1 fr2
      go_wp2_with fail
      refine bodyPost_ret (v := .tuple #[.agg #[.int .i64 X, .int .i64 Y, .slice A B.length c], .agg #[.int .i64 X2, .int .i64 Y2, .slice A2 B.length c2]]) ?_ rfl ?_
      · simp [results, Try.results43, go_sem, zn, z0, z1, z2, yn, y0, y1, y2]
      · exact ⟨X, Y, X2, Y2, A, A2, c, c2, B, B2, by rw [HLB.out], HQhI.out, by rw [HLB.out]; exact HhI2.out, HL.out⟩
end Go.Proofs.Ytihfdgnocdphcaa

namespace Go.Proofs.Ytihfdgnocdphcaa
open Go.RowKit Knot

theorem drew_cell {w : World} {a : Addr} {v : Value} (h : w.cell? a = some v) : w.drew.cell? a = some v := h
theorem IntsIn.farB {w : World} {lo hi : Nat} {v : Value} {xs : List Int} (h : IntsIn w lo hi v xs) {p : Addr} (hp : hi ≤ p.block) (u : Value) : IntsIn (w.setCell p u) lo hi v xs :=
  ⟨Row.setCell h.1 (fun k hk => by have := h.2.1 k hk; omega) u, h.2.1, by have := h.2.2.1; simpa [World.setCell] using this, h.2.2.2⟩
theorem l02DrawA_any {w : World} {b m : Nat} {n : Int} (hs : Src w b m) (hm : m ≤ 100000000) (n1 : 1 ≤ n) (n8 : n ≤ 8) :
    Calls Try.prog 104 #[.pointer (some ⟨b, 0, none⟩), .int .i64 n] w fun e w' => ∃ (X Y : Int) (A : Option Addr) (c : Nat) (B : List Int), e = .returned (.agg #[.int .i64 X, .int .i64 Y, .slice A B.length c]) ∧
      IntsIn w' w.heap.size w'.heap.size (.slice A B.length c) B ∧ Src w' b (m + 1000) ∧ Chg b (b + 1) w w' ∧ B.length ≤ 150 := by
  refine (l02Draw_any hs hm n1 n8).mono ?_
  rintro e w2 ⟨X, Y, g, B, rfl, hok, _, hI, hS2, hc2⟩
  have hBl : B.length ≤ 150 := by
    have h1 := hok.len
    have h2 := inner_bd hok.w1 hok.w8 hok.h1 hok.h8
    unfold inner at h1
    simp only [] at h1 h2
    omega
  exact ⟨X, Y, _, _, B, rfl, hI, hS2, hc2, hBl⟩
set_option maxRecDepth 20000 in
set_option maxHeartbeats 8000000 in
theorem DrawComparePanels_any {w : World} {a : Option Addr} {len cap : Nat} {zs : List Int} (h : IsRow .u8 w a len cap zs) :
    Calls Try.prog 44 #[.slice a len cap] w fun e w' => ∃ (X Y X2 Y2 : Int) (A A2 : Option Addr) (c c2 : Nat) (B B2 : List Int), e = .returned (.tuple #[.agg #[.int .i64 X, .int .i64 Y, .slice A B.length c], .agg #[.int .i64 X2, .int .i64 Y2, .slice A2 B2.length c2]]) ∧ IntsIn w' w.heap.size w'.heap.size (.slice A B.length c) B ∧ IntsIn w' w.heap.size w'.heap.size (.slice A2 B2.length c2) B2 ∧ Below w.heap.size w w' := by
  have bl := Joins.below_alloc2 w (.cells #[.int .i64 0, .int .i64 0, .slice none 0 0] 30) (.cells #[.int .i64 0, .int .i64 0, .slice none 0 0] 30)
  have r1 := ((Box.new w 30 #[.int .i64 0, .int .i64 0, .slice none 0 0]).alloc (.cells #[.int .i64 0, .int .i64 0, .slice none 0 0] 30))
  have r2 := (Box.new (w.alloc (.cells #[.int .i64 0, .int .i64 0, .slice none 0 0] 30)) 30 #[.int .i64 0, .int .i64 0, .slice none 0 0])
  rw [World.size_alloc] at r2
  have h1 := h.below bl
  clear h
  go_enter Try.func44, Try.ntmps44
  go_wp2_with fail
  refine (src_from h1).mono ?_
  rintro e w1 ⟨rfl, hS, s1, hb1⟩
  simp only [World.size_alloc] at hS s1
  obtain ⟨b, hb⟩ : ∃ b, w.heap.size + 1 + 1 = b := ⟨_, rfl⟩
  rw [hb] at hS s1
  simp only [World.size_alloc, hb]
  replace r1 := r1.below hb1
  replace r2 := r2.below hb1
  replace bl := bnext bl hb1
  clear h1 hb1
  go_wp2_with fail
  refine (l02DrawA_any hS (by omega) (by omega) (by omega)).mono ?_
  rintro e w2 ⟨X, Y, A, c, B, rfl, hI, hS2, hc2, hBl⟩
  replace r1 := (r1.chgb hc2 (by omega)).alloc (.cells #[.int .i64 X, .int .i64 Y, .slice A B.length c] 30)
  replace r2 := (r2.chgb hc2 (by omega)).alloc (.cells #[.int .i64 X, .int .i64 Y, .slice A B.length c] 30)
  replace bl := (chg_low bl hc2 (by omega) (by omega)).alloc (by have := hc2.size; omega) (.cells #[.int .i64 X, .int .i64 Y, .slice A B.length c] 30)
  have bp := Box.new w2 30 #[.int .i64 X, .int .i64 Y, .slice A B.length c]
  replace hI := hI.alloc (.cells #[.int .i64 X, .int .i64 Y, .slice A B.length c] 30)
  replace hS2 := hS2.below (Joins.below_alloc1 w2 (.cells #[.int .i64 X, .int .i64 Y, .slice A B.length c] 30))
  have sz2 := hc2.size
  obtain ⟨pp, hpp⟩ : ∃ pp, w2.heap.size = pp := ⟨_, rfl⟩
  rw [hpp] at bp hI sz2
  clear hS hc2
  have pl := bp.lt
  go_wp2_with fail
  try rw [hpp]
  generalize hV : w2.alloc (.cells #[.int .i64 X, .int .i64 Y, .slice A B.length c] 30) = V at *
  clear hV
  have hV0 := bp.lt
  refine (src_one hS2 (by omega) (by omega)).mono ?_
  rintro e w4 ⟨q1, rfl, hS4, hc4⟩
  replace bp := bp.chgb hc4 (by omega)
  replace hI := hI.chgb hc4 (by omega)
  replace r1 := r1.chgb hc4 (by omega)
  replace r2 := r2.chgb hc4 (by omega)
  replace bl := chg_low bl hc4 (by omega) (by have := bl.size; exact this)
  have sz4 := hc4.size
  clear hS2 hc4
  have hS2 := hS4
  clear hS4
  cases q1
  · skip
    obtain ⟨V, hV⟩ : ∃ z, z = w4 := ⟨_, rfl⟩
    subst hV
    have hm0 : 0 + 1000 + 1 ≤ 10000000 := by omega
    go_wp2_with fail
    have KS : Hid (∀ w', Chg b (b + 1) V w' → (w'.cell? ⟨pp, 0, none⟩ = some (.int .i64 X) ∧ w'.cell? ⟨pp, 1, none⟩ = some (.int .i64 Y) ∧ w'.cell? ⟨pp, 2, none⟩ = some (.slice A B.length c))) := Lib.hid (fun w' hc => ⟨(bp.chgb hc (by omega)).cell 0, (bp.chgb hc (by omega)).cell 1, (bp.chgb hc (by omega)).cell 2⟩)
    have S0 : Hid (Src V.drew b (0 + 1000 + 1)) := Lib.hid (hS2.drewN 1)
    have hb0 : Below V.heap.size V V.drew := below_drewN _ _ 1
    have Dbp := Lib.hid (bp.below hb0)
    have DhI := Lib.hid (hI.below hb0)
    have EhI := Lib.hid hI
    have Er1 := Lib.hid r1
    have Er2 := Lib.hid r2
    have EL := Lib.hid bl
    have nbpr1 : (pp : Nat) ≠ w.heap.size := by omega
    have nbpr2 : (pp : Nat) ≠ w.heap.size + 1 := by omega
    have mr1 : (w.heap.size : Nat) ≠ b := by omega
    have mr2 : (w.heap.size + 1 : Nat) ≠ b := by omega
    have bp0_ := bp.cell 0
    have bp1_ := bp.cell 1
    have bp2_ := bp.cell 2
    have bpn_ := bp.lt
    simp only [List.getElem?_toArray, List.getElem?_cons_zero, List.getElem?_cons_succ] at bp0_ bp1_ bp2_
    clear bp hI r1 r2 hS2 bl hb0
    go_wp2
    go_region_held3 (fun w' => w'.cell? ⟨pp, 0, none⟩ = some (.int .i64 X) ∧ w'.cell? ⟨pp, 1, none⟩ = some (.int .i64 Y) ∧ w'.cell? ⟨pp, 2, none⟩ = some (.slice A B.length c))
      (first | (with_reducible exact ⟨cell_f nbpr2 (cell_f nbpr2 (cell_f nbpr2 (cell_f nbpr1 (cell_f nbpr1 (cell_f nbpr1 (k0)))))), cell_f nbpr2 (cell_f nbpr2 (cell_f nbpr2 (cell_f nbpr1 (cell_f nbpr1 (cell_f nbpr1 (k1)))))), cell_f nbpr2 (cell_f nbpr2 (cell_f nbpr2 (cell_f nbpr1 (cell_f nbpr1 (cell_f nbpr1 (k2))))))⟩) | (with_reducible exact ⟨cell_f nbpr1 (cell_f nbpr1 (cell_f nbpr1 (k0))), cell_f nbpr1 (cell_f nbpr1 (cell_f nbpr1 (k1))), cell_f nbpr1 (cell_f nbpr1 (cell_f nbpr1 (k2)))⟩) | (with_reducible exact KS.out _ hC6) | (with_reducible exact KS.out _ (chg_drew _ _)) | (with_reducible assumption))
      ((go_at_call 101; (with_reducible refine (l02Bent_any S0.out hm0).mono ?_); rintro e w6 ⟨X2, Y2, A2, c2, B2, rfl, hI2, hS6, hc6⟩; have hC6 := Chg.trans (chg_drew b V) hc6; obtain ⟨k0, k1, k2⟩ := KS.out _ hC6; have fr1 := Er1.out.chgb hC6 mr1; have z0 := fr1.cell 0; have zf0 := fr1.free 0; have z1 := fr1.cell 1; have zf1 := fr1.free 1; have z2 := fr1.cell 2; have zf2 := fr1.free 2; have zn := fr1.lt; have fr2 := Er2.out.chgb hC6 mr2; have y0 := fr2.cell 0; have yf0 := fr2.free 0; have y1 := fr2.cell 1; have yf1 := fr2.free 1; have y2 := fr2.cell 2; have yf2 := fr2.free 2; have yn := fr2.lt))
    all_goals
      have QhI := EhI.out.chgb hC6 (by omega)
      have hs6 := hC6.size
      have hd6 : V.drew.heap.size = V.heap.size := rfl
      have hL6 := chg_low EL.out hC6 (by omega) (by have := EL.out.size; exact this)
      obtain ⟨W9, hW9⟩ : ∃ z, z = ((((((w6.setCell ⟨w.heap.size, 0, none⟩ (.int .i64 X)).setCell ⟨w.heap.size, 1, none⟩ (.int .i64 Y)).setCell ⟨w.heap.size, 2, none⟩ (.slice A B.length c)).setCell ⟨w.heap.size + 1, 0, none⟩ (.int .i64 X2)).setCell ⟨w.heap.size + 1, 1, none⟩ (.int .i64 Y2)).setCell ⟨w.heap.size + 1, 2, none⟩ (.slice A2 B2.length c2)) := ⟨_, rfl⟩
      have HQhI : Hid (IntsIn ((((((w6.setCell ⟨w.heap.size, 0, none⟩ (.int .i64 X)).setCell ⟨w.heap.size, 1, none⟩ (.int .i64 Y)).setCell ⟨w.heap.size, 2, none⟩ (.slice A B.length c)).setCell ⟨w.heap.size + 1, 0, none⟩ (.int .i64 X2)).setCell ⟨w.heap.size + 1, 1, none⟩ (.int .i64 Y2)).setCell ⟨w.heap.size + 1, 2, none⟩ (.slice A2 B2.length c2)) w.heap.size (((((((w6.setCell ⟨w.heap.size, 0, none⟩ (.int .i64 X)).setCell ⟨w.heap.size, 1, none⟩ (.int .i64 Y)).setCell ⟨w.heap.size, 2, none⟩ (.slice A B.length c)).setCell ⟨w.heap.size + 1, 0, none⟩ (.int .i64 X2)).setCell ⟨w.heap.size + 1, 1, none⟩ (.int .i64 Y2)).setCell ⟨w.heap.size + 1, 2, none⟩ (.slice A2 B2.length c2))).heap.size (.slice A B.length c) B) := Lib.hid ((((((((QhI.at_store (p := ⟨w.heap.size, 0, none⟩) (by show w.heap.size < _; omega) _).at_store (p := ⟨w.heap.size, 1, none⟩) (by show w.heap.size < _; omega) _).at_store (p := ⟨w.heap.size, 2, none⟩) (by show w.heap.size < _; omega) _).at_store (p := ⟨w.heap.size + 1, 0, none⟩) (by show w.heap.size + 1 < _; omega) _).at_store (p := ⟨w.heap.size + 1, 1, none⟩) (by show w.heap.size + 1 < _; omega) _).at_store (p := ⟨w.heap.size + 1, 2, none⟩) (by show w.heap.size + 1 < _; omega) _)).wider (lo' := w.heap.size) (by omega) (((((((QhI.at_store (p := ⟨w.heap.size, 0, none⟩) (by show w.heap.size < _; omega) _).at_store (p := ⟨w.heap.size, 1, none⟩) (by show w.heap.size < _; omega) _).at_store (p := ⟨w.heap.size, 2, none⟩) (by show w.heap.size < _; omega) _).at_store (p := ⟨w.heap.size + 1, 0, none⟩) (by show w.heap.size + 1 < _; omega) _).at_store (p := ⟨w.heap.size + 1, 1, none⟩) (by show w.heap.size + 1 < _; omega) _).at_store (p := ⟨w.heap.size + 1, 2, none⟩) (by show w.heap.size + 1 < _; omega) _)).2.2.1 (Nat.le_refl _))
      have HhI2 : Hid (IntsIn ((((((w6.setCell ⟨w.heap.size, 0, none⟩ (.int .i64 X)).setCell ⟨w.heap.size, 1, none⟩ (.int .i64 Y)).setCell ⟨w.heap.size, 2, none⟩ (.slice A B.length c)).setCell ⟨w.heap.size + 1, 0, none⟩ (.int .i64 X2)).setCell ⟨w.heap.size + 1, 1, none⟩ (.int .i64 Y2)).setCell ⟨w.heap.size + 1, 2, none⟩ (.slice A2 B2.length c2)) w.heap.size (((((((w6.setCell ⟨w.heap.size, 0, none⟩ (.int .i64 X)).setCell ⟨w.heap.size, 1, none⟩ (.int .i64 Y)).setCell ⟨w.heap.size, 2, none⟩ (.slice A B.length c)).setCell ⟨w.heap.size + 1, 0, none⟩ (.int .i64 X2)).setCell ⟨w.heap.size + 1, 1, none⟩ (.int .i64 Y2)).setCell ⟨w.heap.size + 1, 2, none⟩ (.slice A2 B2.length c2))).heap.size (.slice A2 B2.length c2) B2) := Lib.hid ((((((((hI2.at_store (p := ⟨w.heap.size, 0, none⟩) (by show w.heap.size < _; omega) _).at_store (p := ⟨w.heap.size, 1, none⟩) (by show w.heap.size < _; omega) _).at_store (p := ⟨w.heap.size, 2, none⟩) (by show w.heap.size < _; omega) _).at_store (p := ⟨w.heap.size + 1, 0, none⟩) (by show w.heap.size + 1 < _; omega) _).at_store (p := ⟨w.heap.size + 1, 1, none⟩) (by show w.heap.size + 1 < _; omega) _).at_store (p := ⟨w.heap.size + 1, 2, none⟩) (by show w.heap.size + 1 < _; omega) _)).wider (lo' := w.heap.size) (by omega) (((((((hI2.at_store (p := ⟨w.heap.size, 0, none⟩) (by show w.heap.size < _; omega) _).at_store (p := ⟨w.heap.size, 1, none⟩) (by show w.heap.size < _; omega) _).at_store (p := ⟨w.heap.size, 2, none⟩) (by show w.heap.size < _; omega) _).at_store (p := ⟨w.heap.size + 1, 0, none⟩) (by show w.heap.size + 1 < _; omega) _).at_store (p := ⟨w.heap.size + 1, 1, none⟩) (by show w.heap.size + 1 < _; omega) _).at_store (p := ⟨w.heap.size + 1, 2, none⟩) (by show w.heap.size + 1 < _; omega) _)).2.2.1 (Nat.le_refl _))
      have HL : Hid (Below w.heap.size w ((((((w6.setCell ⟨w.heap.size, 0, none⟩ (.int .i64 X)).setCell ⟨w.heap.size, 1, none⟩ (.int .i64 Y)).setCell ⟨w.heap.size, 2, none⟩ (.slice A B.length c)).setCell ⟨w.heap.size + 1, 0, none⟩ (.int .i64 X2)).setCell ⟨w.heap.size + 1, 1, none⟩ (.int .i64 Y2)).setCell ⟨w.heap.size + 1, 2, none⟩ (.slice A2 B2.length c2))) := Lib.hid (((((((hL6.setCell (p := ⟨w.heap.size, 0, none⟩) (by show _ ≤ w.heap.size; omega) _).setCell (p := ⟨w.heap.size, 1, none⟩) (by show _ ≤ w.heap.size; omega) _).setCell (p := ⟨w.heap.size, 2, none⟩) (by show _ ≤ w.heap.size; omega) _).setCell (p := ⟨w.heap.size + 1, 0, none⟩) (by show _ ≤ w.heap.size + 1; omega) _).setCell (p := ⟨w.heap.size + 1, 1, none⟩) (by show _ ≤ w.heap.size + 1; omega) _).setCell (p := ⟨w.heap.size + 1, 2, none⟩) (by show _ ≤ w.heap.size + 1; omega) _))
      clear hL6 hS6 hc6 hC6 KS S0 EL hW9 QhI hI2 EhI DhI Dbp Er1 Er2 fr1 fr2
      go_wp2_with fail
      refine bodyPost_ret (v := .tuple #[.agg #[.int .i64 X, .int .i64 Y, .slice A B.length c], .agg #[.int .i64 X2, .int .i64 Y2, .slice A2 B2.length c2]]) ?_ rfl ?_
      · simp [results, Try.results44, go_sem, zn, z0, z1, z2, yn, y0, y1, y2]
      · exact ⟨X, Y, X2, Y2, A, A2, c, c2, B, B2, rfl, HQhI.out, HhI2.out, HL.out⟩
  go_wp2_with fail
  refine (l02Own_any bp hI).mono ?_
  rintro e w5 ⟨A2, c2, rfl, hJ, hb5⟩
  have O := Joins.below_alloc1 w5 (.cells #[.int .i64 X, .int .i64 Y, .slice A2 B.length c2] 30)
  have sz5 := hb5.size
  replace bp := (bp.below hb5).below O
  replace hI := (hI.below hb5).below O
  replace r1 := (r1.below hb5).below O
  replace r2 := (r2.below hb5).below O
  replace hS2 := (hS2.below hb5).below O
  replace bl := bnext (bnext bl hb5) O
  have bq := Box.new w5 30 #[.int .i64 X, .int .i64 Y, .slice A2 B.length c2]
  replace hJ := hJ.below O
  obtain ⟨qq, hqq⟩ : ∃ x, w5.heap.size = x := ⟨_, rfl⟩
  rw [hqq] at bq hJ sz5
  clear hb5 O
  have q0 := bq.cell 0
  have q1 := bq.cell 1
  have q2 := bq.cell 2
  have qn := bq.lt
  simp only [List.getElem?_toArray, List.getElem?_cons_zero, List.getElem?_cons_succ] at q0 q1 q2
  by_cases hl0 : B.length = 0
  · have hlz : ((B.length : Nat) : Int) = 0 := by omega
    have gt0 : decide (((B.length : Nat) : Int) > 0) = false := decide_eq_false (by omega)
    have hlf : ¬ ((0 : Int) < ((B.length : Nat) : Int)) := by omega
    have HL0 := Lib.hid hl0
    clear hS2 hl0 hlz
    go_wp2_with fail
    try rw [hqq]
    generalize hV : w5.alloc (.cells #[.int .i64 X, .int .i64 Y, .slice A2 B.length c2] 30) = V9 at *
    clear hV q0 q1 q2 qn
    obtain ⟨V, hV⟩ : ∃ z, z = V9 := ⟨_, rfl⟩
    subst hV
    have bp_0 := bp.cell 0
    have bp_1 := bp.cell 1
    have bp_2 := bp.cell 2
    have bp_n := bp.lt
    simp only [List.getElem?_toArray, List.getElem?_cons_zero, List.getElem?_cons_succ] at bp_0 bp_1 bp_2
    have bq_0 := bq.cell 0
    have bq_1 := bq.cell 1
    have bq_2 := bq.cell 2
    have bq_n := bq.lt
    simp only [List.getElem?_toArray, List.getElem?_cons_zero, List.getElem?_cons_succ] at bq_0 bq_1 bq_2
    have Er1 := cut_drewbox r1
    have z0 := Er1.cell 0
    have z1 := Er1.cell 1
    have z2 := Er1.cell 2
    have zf0 := Er1.free 0
    have zf1 := Er1.free 1
    have zf2 := Er1.free 2
    have zn := Er1.lt
    simp only [List.getElem?_toArray, List.getElem?_cons_zero, List.getElem?_cons_succ] at z0 z1 z2
    have z_0 := r1.cell 0
    have z_1 := r1.cell 1
    have z_2 := r1.cell 2
    have z_f0 := r1.free 0
    have z_f1 := r1.free 1
    have z_f2 := r1.free 2
    have z_n := r1.lt
    simp only [List.getElem?_toArray, List.getElem?_cons_zero, List.getElem?_cons_succ] at z_0 z_1 z_2
    have Er2 := cut_drewbox r2
    have y0 := Er2.cell 0
    have y1 := Er2.cell 1
    have y2 := Er2.cell 2
    have yf0 := Er2.free 0
    have yf1 := Er2.free 1
    have yf2 := Er2.free 2
    have yn := Er2.lt
    simp only [List.getElem?_toArray, List.getElem?_cons_zero, List.getElem?_cons_succ] at y0 y1 y2
    have y_0 := r2.cell 0
    have y_1 := r2.cell 1
    have y_2 := r2.cell 2
    have y_f0 := r2.free 0
    have y_f1 := r2.free 1
    have y_f2 := r2.free 2
    have y_n := r2.lt
    simp only [List.getElem?_toArray, List.getElem?_cons_zero, List.getElem?_cons_succ] at y_0 y_1 y_2
    have nbpr1 : (pp : Nat) ≠ w.heap.size := by omega
    have nbpr2 : (pp : Nat) ≠ w.heap.size + 1 := by omega
    have nbqr1 : (qq : Nat) ≠ w.heap.size := by omega
    have nbqr2 : (qq : Nat) ≠ w.heap.size + 1 := by omega
    have QhI := Lib.hid hI
    have QhJ := Lib.hid hJ
    have EL := Lib.hid bl
    clear bl hI hJ bp bq r1 r2 Er1 Er2
    go_wp2
    go_region_held3 (fun w' => w'.cell? ⟨pp, 0, none⟩ = some (.int .i64 X) ∧ w'.cell? ⟨pp, 1, none⟩ = some (.int .i64 Y) ∧ w'.cell? ⟨pp, 2, none⟩ = some (.slice A B.length c) ∧ w'.cell? ⟨qq, 0, none⟩ = some (.int .i64 X) ∧ w'.cell? ⟨qq, 1, none⟩ = some (.int .i64 Y) ∧ w'.cell? ⟨qq, 2, none⟩ = some (.slice A2 B.length c2))
      (first | (with_reducible exact ⟨drew_cell (cell_f nbpr2 (cell_f nbpr2 (cell_f nbpr2 (cell_f nbpr1 (cell_f nbpr1 (cell_f nbpr1 (bp_0))))))), drew_cell (cell_f nbpr2 (cell_f nbpr2 (cell_f nbpr2 (cell_f nbpr1 (cell_f nbpr1 (cell_f nbpr1 (bp_1))))))), drew_cell (cell_f nbpr2 (cell_f nbpr2 (cell_f nbpr2 (cell_f nbpr1 (cell_f nbpr1 (cell_f nbpr1 (bp_2))))))), drew_cell (cell_f nbqr2 (cell_f nbqr2 (cell_f nbqr2 (cell_f nbqr1 (cell_f nbqr1 (cell_f nbqr1 (bq_0))))))), drew_cell (cell_f nbqr2 (cell_f nbqr2 (cell_f nbqr2 (cell_f nbqr1 (cell_f nbqr1 (cell_f nbqr1 (bq_1))))))), drew_cell (cell_f nbqr2 (cell_f nbqr2 (cell_f nbqr2 (cell_f nbqr1 (cell_f nbqr1 (cell_f nbqr1 (bq_2)))))))⟩) | (with_reducible exact ⟨drew_cell (cell_f nbpr1 (cell_f nbpr1 (cell_f nbpr1 (bp_0)))), drew_cell (cell_f nbpr1 (cell_f nbpr1 (cell_f nbpr1 (bp_1)))), drew_cell (cell_f nbpr1 (cell_f nbpr1 (cell_f nbpr1 (bp_2)))), drew_cell (cell_f nbqr1 (cell_f nbqr1 (cell_f nbqr1 (bq_0)))), drew_cell (cell_f nbqr1 (cell_f nbqr1 (cell_f nbqr1 (bq_1)))), drew_cell (cell_f nbqr1 (cell_f nbqr1 (cell_f nbqr1 (bq_2))))⟩) | (with_reducible exact ⟨drew_cell (bp_0), drew_cell (bp_1), drew_cell (bp_2), drew_cell (bq_0), drew_cell (bq_1), drew_cell (bq_2)⟩))
      (fail)
    all_goals
      have HhI : Hid (IntsIn ((((((V.setCell ⟨w.heap.size, 0, none⟩ (.int .i64 X)).setCell ⟨w.heap.size, 1, none⟩ (.int .i64 Y)).setCell ⟨w.heap.size, 2, none⟩ (.slice A B.length c)).setCell ⟨w.heap.size + 1, 0, none⟩ (.int .i64 X)).setCell ⟨w.heap.size + 1, 1, none⟩ (.int .i64 Y)).setCell ⟨w.heap.size + 1, 2, none⟩ (.slice A2 B.length c2)).drew w.heap.size (((((((V.setCell ⟨w.heap.size, 0, none⟩ (.int .i64 X)).setCell ⟨w.heap.size, 1, none⟩ (.int .i64 Y)).setCell ⟨w.heap.size, 2, none⟩ (.slice A B.length c)).setCell ⟨w.heap.size + 1, 0, none⟩ (.int .i64 X)).setCell ⟨w.heap.size + 1, 1, none⟩ (.int .i64 Y)).setCell ⟨w.heap.size + 1, 2, none⟩ (.slice A2 B.length c2)).drew).heap.size (.slice A B.length c) B) := Lib.hid (((((((((QhI.out.at_store (p := ⟨w.heap.size, 0, none⟩) (by show w.heap.size < _; omega) _).at_store (p := ⟨w.heap.size, 1, none⟩) (by show w.heap.size < _; omega) _).at_store (p := ⟨w.heap.size, 2, none⟩) (by show w.heap.size < _; omega) _).at_store (p := ⟨w.heap.size + 1, 0, none⟩) (by show w.heap.size + 1 < _; omega) _).at_store (p := ⟨w.heap.size + 1, 1, none⟩) (by show w.heap.size + 1 < _; omega) _).at_store (p := ⟨w.heap.size + 1, 2, none⟩) (by show w.heap.size + 1 < _; omega) _).below cut_drew)).wider (lo' := w.heap.size) (by omega) ((((((((QhI.out.at_store (p := ⟨w.heap.size, 0, none⟩) (by show w.heap.size < _; omega) _).at_store (p := ⟨w.heap.size, 1, none⟩) (by show w.heap.size < _; omega) _).at_store (p := ⟨w.heap.size, 2, none⟩) (by show w.heap.size < _; omega) _).at_store (p := ⟨w.heap.size + 1, 0, none⟩) (by show w.heap.size + 1 < _; omega) _).at_store (p := ⟨w.heap.size + 1, 1, none⟩) (by show w.heap.size + 1 < _; omega) _).at_store (p := ⟨w.heap.size + 1, 2, none⟩) (by show w.heap.size + 1 < _; omega) _).below cut_drew)).2.2.1 (Nat.le_refl _))
      have HhJ : Hid (IntsIn ((((((V.setCell ⟨w.heap.size, 0, none⟩ (.int .i64 X)).setCell ⟨w.heap.size, 1, none⟩ (.int .i64 Y)).setCell ⟨w.heap.size, 2, none⟩ (.slice A B.length c)).setCell ⟨w.heap.size + 1, 0, none⟩ (.int .i64 X)).setCell ⟨w.heap.size + 1, 1, none⟩ (.int .i64 Y)).setCell ⟨w.heap.size + 1, 2, none⟩ (.slice A2 B.length c2)).drew w.heap.size (((((((V.setCell ⟨w.heap.size, 0, none⟩ (.int .i64 X)).setCell ⟨w.heap.size, 1, none⟩ (.int .i64 Y)).setCell ⟨w.heap.size, 2, none⟩ (.slice A B.length c)).setCell ⟨w.heap.size + 1, 0, none⟩ (.int .i64 X)).setCell ⟨w.heap.size + 1, 1, none⟩ (.int .i64 Y)).setCell ⟨w.heap.size + 1, 2, none⟩ (.slice A2 B.length c2)).drew).heap.size (.slice A2 B.length c2) B) := Lib.hid (((((((((QhJ.out.at_store (p := ⟨w.heap.size, 0, none⟩) (by show w.heap.size < _; omega) _).at_store (p := ⟨w.heap.size, 1, none⟩) (by show w.heap.size < _; omega) _).at_store (p := ⟨w.heap.size, 2, none⟩) (by show w.heap.size < _; omega) _).at_store (p := ⟨w.heap.size + 1, 0, none⟩) (by show w.heap.size + 1 < _; omega) _).at_store (p := ⟨w.heap.size + 1, 1, none⟩) (by show w.heap.size + 1 < _; omega) _).at_store (p := ⟨w.heap.size + 1, 2, none⟩) (by show w.heap.size + 1 < _; omega) _).below cut_drew)).wider (lo' := w.heap.size) (by omega) ((((((((QhJ.out.at_store (p := ⟨w.heap.size, 0, none⟩) (by show w.heap.size < _; omega) _).at_store (p := ⟨w.heap.size, 1, none⟩) (by show w.heap.size < _; omega) _).at_store (p := ⟨w.heap.size, 2, none⟩) (by show w.heap.size < _; omega) _).at_store (p := ⟨w.heap.size + 1, 0, none⟩) (by show w.heap.size + 1 < _; omega) _).at_store (p := ⟨w.heap.size + 1, 1, none⟩) (by show w.heap.size + 1 < _; omega) _).at_store (p := ⟨w.heap.size + 1, 2, none⟩) (by show w.heap.size + 1 < _; omega) _).below cut_drew)).2.2.1 (Nat.le_refl _))
      have HL : Hid (Below w.heap.size w ((((((V.setCell ⟨w.heap.size, 0, none⟩ (.int .i64 X)).setCell ⟨w.heap.size, 1, none⟩ (.int .i64 Y)).setCell ⟨w.heap.size, 2, none⟩ (.slice A B.length c)).setCell ⟨w.heap.size + 1, 0, none⟩ (.int .i64 X)).setCell ⟨w.heap.size + 1, 1, none⟩ (.int .i64 Y)).setCell ⟨w.heap.size + 1, 2, none⟩ (.slice A2 B.length c2)).drew) := Lib.hid ((bnext ((((((EL.out.setCell (p := ⟨w.heap.size, 0, none⟩) (by show _ ≤ w.heap.size; omega) _).setCell (p := ⟨w.heap.size, 1, none⟩) (by show _ ≤ w.heap.size; omega) _).setCell (p := ⟨w.heap.size, 2, none⟩) (by show _ ≤ w.heap.size; omega) _).setCell (p := ⟨w.heap.size + 1, 0, none⟩) (by show _ ≤ w.heap.size + 1; omega) _).setCell (p := ⟨w.heap.size + 1, 1, none⟩) (by show _ ≤ w.heap.size + 1; omega) _).setCell (p := ⟨w.heap.size + 1, 2, none⟩) (by show _ ≤ w.heap.size + 1; omega) _) cut_drew))
      clear EL QhI QhJ
      go_wp2_with fail
      refine bodyPost_ret (v := .tuple #[.agg #[.int .i64 X, .int .i64 Y, .slice A B.length c], .agg #[.int .i64 X, .int .i64 Y, .slice A2 B.length c2]]) ?_ rfl ?_
      · simp [results, Try.results44, go_sem, z_n, z_0, z_1, z_2, y_n, y_0, y_1, y_2]
      · exact ⟨X, Y, X, Y, A, A2, c, c2, B, B, rfl, HhI.out, HhJ.out, HL.out⟩
  obtain ⟨n, hn⟩ : ∃ n, B.length = n := ⟨_, rfl⟩
  have HN := Lib.hid hn
  rw [hn] at bq hJ q0 q1 q2 qn hl0 bp hI hS2 r1 r2 bl hBl
  obtain ⟨A', c', hA, _, hA2⟩ := hJ.1.open_
  injection hA with hA3 hA4 hA5
  subst hA3 hA5
  obtain ⟨g2, rfl, hg0, hg1⟩ := hA2 (by omega)
  have hgq := hJ.2.1 g2 rfl
  have hlp : (0 : Int) < (n : Int) := by omega
  have gt0 : decide ((n : Int) > 0) = true := decide_eq_true hlp
  clear hA2 hA4 hg1
  rw [hn]
  go_wp2_with fail
  try rw [hqq]
  generalize hV : w5.alloc (.cells #[.int .i64 X, .int .i64 Y, .slice (some ⟨g2, 0, none⟩) n c2] 30) = V9 at *
  clear hV hn
  obtain ⟨V, hV⟩ : ∃ z, z = V9 := ⟨_, rfl⟩
  subst hV
  have hm1 : 0 + 1000 + 1 ≤ 1000000000 := by omega
  have hm2 : 0 + 1000 + 1 + 1 ≤ 1000000000 := by omega
  have hn2 : (n : Int) ≤ 200 := by omega
  have hn3 : (3 : Int) ≤ 200 := by omega
  have hn1 : (1 : Int) ≤ (n : Int) := by omega
  have KS : Hid (∀ w', Chg b (b + 1) V w' → (w'.cell? ⟨qq, 2, none⟩ = some (.slice (some ⟨g2, 0, none⟩) n c2))) := Lib.hid (fun w' hc => (bq.chgb hc (by omega)).cell 2)
  have S0 : Hid (Src V.drew b (0 + 1000 + 1)) := Lib.hid (hS2.drewN 1)
  have HJ := Lib.hid hJ
  have HI := Lib.hid hI
  have HP := Lib.hid bp
  have HQ := Lib.hid bq
  have HR1 := Lib.hid r1
  have HR2 := Lib.hid r2
  have HBL := Lib.hid bl
  have gne : (⟨qq, 2, none⟩ : Addr).block ≠ g2 := by show qq ≠ g2; omega
  have hbJ : b < w4.heap.size := by omega
  clear hJ hI bp bq r1 r2 bl hS2 gt0 hlp
  go_wp2
  go_region_held3 (fun w' => w'.cell? ⟨qq, 2, none⟩ = some (.slice (some ⟨g2, 0, none⟩) n c2))
    (first | (with_reducible exact cell_f gne q7) | (with_reducible exact q7) | (with_reducible exact q6) | (with_reducible exact KS.out _ (chg_drew _ _)))
    ((go_at_call 103; first
        | ((with_reducible refine (src_pick S0.out hm1 hn2).mono ?_); rintro e w6 ⟨i, rfl, i0, i1, _, hS6, hc6⟩; have hC6 := Chg.trans (chg_drew b V) hc6; have i2 := i1 hn1; obtain ⟨k, rfl⟩ := Int.eq_ofNat_of_zero_le i0; have q6 := KS.out _ hC6)
        | ((with_reducible refine (src_pick hS6 hm2 hn3).mono ?_); rintro e w7 ⟨u, rfl, _, _, _, hS7, hc7⟩; have hC7 := Chg.trans hC6 hc7; have q7 := KS.out _ hC7; have hJ7 := HJ.out.chgb hC7 hbJ; have d0 := Ints.cell hJ7.1 (k := k) (by have := HN.out; omega); have d1 := Row.free hJ7.1 k; have d2 := (Row.lt hJ7.1 (g := g2) rfl).2)))
  all_goals
    have hJ := HJ.out.chgb hC7 hbJ
    have hJ8 := hJ.put k u
    have hI8 := (HI.out.chgb hC7 (by omega)).farB (p := ⟨g2, k, none⟩) (by show _ ≤ g2; omega) (.int .i64 u)
    have bp8 := (HP.out.chgb hC7 (by omega)).far (p := ⟨g2, k, none⟩) (by show pp ≠ g2; omega) (.int .i64 u)
    have bq8 := (HQ.out.chgb hC7 (by omega)).far (p := ⟨g2, k, none⟩) (by show qq ≠ g2; omega) (.int .i64 u)
    have rr1 := (HR1.out.chgb hC7 (by omega)).far (p := ⟨g2, k, none⟩) (by show w.heap.size ≠ g2; omega) (.int .i64 u)
    have rr2 := (HR2.out.chgb hC7 (by omega)).far (p := ⟨g2, k, none⟩) (by show w.heap.size + 1 ≠ g2; omega) (.int .i64 u)
    have bl8 := (chg_low HBL.out hC7 (by omega) (by have := HBL.out.size; exact this)).setCell (p := ⟨g2, k, none⟩) (by show _ ≤ g2; omega) (.int .i64 u)
    have HLE : Hid ((B.set k u).length = n) := Lib.hid (by rw [List.length_set]; exact HN.out)
    clear d0 d1 d2 q6 q7 hJ7 hJ hC6 hC7 hc6 hc7 hS6 hS7 KS S0 HJ HI HP HQ HR1 HR2 HBL gne q0 q1 q2 qn V
    generalize (w7.setCell ⟨g2, k, none⟩ (.int .i64 u)) = V at *
    generalize B.set k u = B2 at *
    have hI := hI8
    have hJ := hJ8
    have bp := bp8
    have bq := bq8
    have r1 := rr1
    have r2 := rr2
    have bl := bl8
    clear hI8 hJ8 bp8 bq8 rr1 rr2 bl8
    have bp_0 := bp.cell 0
    have bp_1 := bp.cell 1
    have bp_2 := bp.cell 2
    have bp_n := bp.lt
    simp only [List.getElem?_toArray, List.getElem?_cons_zero, List.getElem?_cons_succ] at bp_0 bp_1 bp_2
    have bq_0 := bq.cell 0
    have bq_1 := bq.cell 1
    have bq_2 := bq.cell 2
    have bq_n := bq.lt
    simp only [List.getElem?_toArray, List.getElem?_cons_zero, List.getElem?_cons_succ] at bq_0 bq_1 bq_2
    have Er1 := cut_drewbox r1
    have z0 := Er1.cell 0
    have z1 := Er1.cell 1
    have z2 := Er1.cell 2
    have zf0 := Er1.free 0
    have zf1 := Er1.free 1
    have zf2 := Er1.free 2
    have zn := Er1.lt
    simp only [List.getElem?_toArray, List.getElem?_cons_zero, List.getElem?_cons_succ] at z0 z1 z2
    have z_0 := r1.cell 0
    have z_1 := r1.cell 1
    have z_2 := r1.cell 2
    have z_f0 := r1.free 0
    have z_f1 := r1.free 1
    have z_f2 := r1.free 2
    have z_n := r1.lt
    simp only [List.getElem?_toArray, List.getElem?_cons_zero, List.getElem?_cons_succ] at z_0 z_1 z_2
    have Er2 := cut_drewbox r2
    have y0 := Er2.cell 0
    have y1 := Er2.cell 1
    have y2 := Er2.cell 2
    have yf0 := Er2.free 0
    have yf1 := Er2.free 1
    have yf2 := Er2.free 2
    have yn := Er2.lt
    simp only [List.getElem?_toArray, List.getElem?_cons_zero, List.getElem?_cons_succ] at y0 y1 y2
    have y_0 := r2.cell 0
    have y_1 := r2.cell 1
    have y_2 := r2.cell 2
    have y_f0 := r2.free 0
    have y_f1 := r2.free 1
    have y_f2 := r2.free 2
    have y_n := r2.lt
    simp only [List.getElem?_toArray, List.getElem?_cons_zero, List.getElem?_cons_succ] at y_0 y_1 y_2
    have nbpr1 : (pp : Nat) ≠ w.heap.size := by omega
    have nbpr2 : (pp : Nat) ≠ w.heap.size + 1 := by omega
    have nbqr1 : (qq : Nat) ≠ w.heap.size := by omega
    have nbqr2 : (qq : Nat) ≠ w.heap.size + 1 := by omega
    have QhI := Lib.hid hI
    have QhJ := Lib.hid hJ
    have EL := Lib.hid bl
    clear bl hI hJ bp bq r1 r2 Er1 Er2
    go_wp2
    go_region_held3 (fun w' => w'.cell? ⟨pp, 0, none⟩ = some (.int .i64 X) ∧ w'.cell? ⟨pp, 1, none⟩ = some (.int .i64 Y) ∧ w'.cell? ⟨pp, 2, none⟩ = some (.slice A n c) ∧ w'.cell? ⟨qq, 0, none⟩ = some (.int .i64 X) ∧ w'.cell? ⟨qq, 1, none⟩ = some (.int .i64 Y) ∧ w'.cell? ⟨qq, 2, none⟩ = some (.slice (some ⟨g2, 0, none⟩) n c2))
      (first | (with_reducible exact ⟨drew_cell (cell_f nbpr2 (cell_f nbpr2 (cell_f nbpr2 (cell_f nbpr1 (cell_f nbpr1 (cell_f nbpr1 (bp_0))))))), drew_cell (cell_f nbpr2 (cell_f nbpr2 (cell_f nbpr2 (cell_f nbpr1 (cell_f nbpr1 (cell_f nbpr1 (bp_1))))))), drew_cell (cell_f nbpr2 (cell_f nbpr2 (cell_f nbpr2 (cell_f nbpr1 (cell_f nbpr1 (cell_f nbpr1 (bp_2))))))), drew_cell (cell_f nbqr2 (cell_f nbqr2 (cell_f nbqr2 (cell_f nbqr1 (cell_f nbqr1 (cell_f nbqr1 (bq_0))))))), drew_cell (cell_f nbqr2 (cell_f nbqr2 (cell_f nbqr2 (cell_f nbqr1 (cell_f nbqr1 (cell_f nbqr1 (bq_1))))))), drew_cell (cell_f nbqr2 (cell_f nbqr2 (cell_f nbqr2 (cell_f nbqr1 (cell_f nbqr1 (cell_f nbqr1 (bq_2)))))))⟩) | (with_reducible exact ⟨drew_cell (cell_f nbpr1 (cell_f nbpr1 (cell_f nbpr1 (bp_0)))), drew_cell (cell_f nbpr1 (cell_f nbpr1 (cell_f nbpr1 (bp_1)))), drew_cell (cell_f nbpr1 (cell_f nbpr1 (cell_f nbpr1 (bp_2)))), drew_cell (cell_f nbqr1 (cell_f nbqr1 (cell_f nbqr1 (bq_0)))), drew_cell (cell_f nbqr1 (cell_f nbqr1 (cell_f nbqr1 (bq_1)))), drew_cell (cell_f nbqr1 (cell_f nbqr1 (cell_f nbqr1 (bq_2))))⟩) | (with_reducible exact ⟨drew_cell (bp_0), drew_cell (bp_1), drew_cell (bp_2), drew_cell (bq_0), drew_cell (bq_1), drew_cell (bq_2)⟩))
      (fail)
    all_goals
      have HhI : Hid (IntsIn ((((((V.setCell ⟨w.heap.size, 0, none⟩ (.int .i64 X)).setCell ⟨w.heap.size, 1, none⟩ (.int .i64 Y)).setCell ⟨w.heap.size, 2, none⟩ (.slice A n c)).setCell ⟨w.heap.size + 1, 0, none⟩ (.int .i64 X)).setCell ⟨w.heap.size + 1, 1, none⟩ (.int .i64 Y)).setCell ⟨w.heap.size + 1, 2, none⟩ (.slice (some ⟨g2, 0, none⟩) n c2)).drew w.heap.size (((((((V.setCell ⟨w.heap.size, 0, none⟩ (.int .i64 X)).setCell ⟨w.heap.size, 1, none⟩ (.int .i64 Y)).setCell ⟨w.heap.size, 2, none⟩ (.slice A n c)).setCell ⟨w.heap.size + 1, 0, none⟩ (.int .i64 X)).setCell ⟨w.heap.size + 1, 1, none⟩ (.int .i64 Y)).setCell ⟨w.heap.size + 1, 2, none⟩ (.slice (some ⟨g2, 0, none⟩) n c2)).drew).heap.size (.slice A n c) B) := Lib.hid (((((((((QhI.out.at_store (p := ⟨w.heap.size, 0, none⟩) (by show w.heap.size < _; omega) _).at_store (p := ⟨w.heap.size, 1, none⟩) (by show w.heap.size < _; omega) _).at_store (p := ⟨w.heap.size, 2, none⟩) (by show w.heap.size < _; omega) _).at_store (p := ⟨w.heap.size + 1, 0, none⟩) (by show w.heap.size + 1 < _; omega) _).at_store (p := ⟨w.heap.size + 1, 1, none⟩) (by show w.heap.size + 1 < _; omega) _).at_store (p := ⟨w.heap.size + 1, 2, none⟩) (by show w.heap.size + 1 < _; omega) _).below cut_drew)).wider (lo' := w.heap.size) (by omega) ((((((((QhI.out.at_store (p := ⟨w.heap.size, 0, none⟩) (by show w.heap.size < _; omega) _).at_store (p := ⟨w.heap.size, 1, none⟩) (by show w.heap.size < _; omega) _).at_store (p := ⟨w.heap.size, 2, none⟩) (by show w.heap.size < _; omega) _).at_store (p := ⟨w.heap.size + 1, 0, none⟩) (by show w.heap.size + 1 < _; omega) _).at_store (p := ⟨w.heap.size + 1, 1, none⟩) (by show w.heap.size + 1 < _; omega) _).at_store (p := ⟨w.heap.size + 1, 2, none⟩) (by show w.heap.size + 1 < _; omega) _).below cut_drew)).2.2.1 (Nat.le_refl _))
      have HhJ : Hid (IntsIn ((((((V.setCell ⟨w.heap.size, 0, none⟩ (.int .i64 X)).setCell ⟨w.heap.size, 1, none⟩ (.int .i64 Y)).setCell ⟨w.heap.size, 2, none⟩ (.slice A n c)).setCell ⟨w.heap.size + 1, 0, none⟩ (.int .i64 X)).setCell ⟨w.heap.size + 1, 1, none⟩ (.int .i64 Y)).setCell ⟨w.heap.size + 1, 2, none⟩ (.slice (some ⟨g2, 0, none⟩) n c2)).drew w.heap.size (((((((V.setCell ⟨w.heap.size, 0, none⟩ (.int .i64 X)).setCell ⟨w.heap.size, 1, none⟩ (.int .i64 Y)).setCell ⟨w.heap.size, 2, none⟩ (.slice A n c)).setCell ⟨w.heap.size + 1, 0, none⟩ (.int .i64 X)).setCell ⟨w.heap.size + 1, 1, none⟩ (.int .i64 Y)).setCell ⟨w.heap.size + 1, 2, none⟩ (.slice (some ⟨g2, 0, none⟩) n c2)).drew).heap.size (.slice (some ⟨g2, 0, none⟩) n c2) B2) := Lib.hid (((((((((QhJ.out.at_store (p := ⟨w.heap.size, 0, none⟩) (by show w.heap.size < _; omega) _).at_store (p := ⟨w.heap.size, 1, none⟩) (by show w.heap.size < _; omega) _).at_store (p := ⟨w.heap.size, 2, none⟩) (by show w.heap.size < _; omega) _).at_store (p := ⟨w.heap.size + 1, 0, none⟩) (by show w.heap.size + 1 < _; omega) _).at_store (p := ⟨w.heap.size + 1, 1, none⟩) (by show w.heap.size + 1 < _; omega) _).at_store (p := ⟨w.heap.size + 1, 2, none⟩) (by show w.heap.size + 1 < _; omega) _).below cut_drew)).wider (lo' := w.heap.size) (by omega) ((((((((QhJ.out.at_store (p := ⟨w.heap.size, 0, none⟩) (by show w.heap.size < _; omega) _).at_store (p := ⟨w.heap.size, 1, none⟩) (by show w.heap.size < _; omega) _).at_store (p := ⟨w.heap.size, 2, none⟩) (by show w.heap.size < _; omega) _).at_store (p := ⟨w.heap.size + 1, 0, none⟩) (by show w.heap.size + 1 < _; omega) _).at_store (p := ⟨w.heap.size + 1, 1, none⟩) (by show w.heap.size + 1 < _; omega) _).at_store (p := ⟨w.heap.size + 1, 2, none⟩) (by show w.heap.size + 1 < _; omega) _).below cut_drew)).2.2.1 (Nat.le_refl _))
      have HL : Hid (Below w.heap.size w ((((((V.setCell ⟨w.heap.size, 0, none⟩ (.int .i64 X)).setCell ⟨w.heap.size, 1, none⟩ (.int .i64 Y)).setCell ⟨w.heap.size, 2, none⟩ (.slice A n c)).setCell ⟨w.heap.size + 1, 0, none⟩ (.int .i64 X)).setCell ⟨w.heap.size + 1, 1, none⟩ (.int .i64 Y)).setCell ⟨w.heap.size + 1, 2, none⟩ (.slice (some ⟨g2, 0, none⟩) n c2)).drew) := Lib.hid ((bnext ((((((EL.out.setCell (p := ⟨w.heap.size, 0, none⟩) (by show _ ≤ w.heap.size; omega) _).setCell (p := ⟨w.heap.size, 1, none⟩) (by show _ ≤ w.heap.size; omega) _).setCell (p := ⟨w.heap.size, 2, none⟩) (by show _ ≤ w.heap.size; omega) _).setCell (p := ⟨w.heap.size + 1, 0, none⟩) (by show _ ≤ w.heap.size + 1; omega) _).setCell (p := ⟨w.heap.size + 1, 1, none⟩) (by show _ ≤ w.heap.size + 1; omega) _).setCell (p := ⟨w.heap.size + 1, 2, none⟩) (by show _ ≤ w.heap.size + 1; omega) _) cut_drew))
      clear EL QhI QhJ
      go_wp2_with fail
      refine bodyPost_ret (v := .tuple #[.agg #[.int .i64 X, .int .i64 Y, .slice A n c], .agg #[.int .i64 X, .int .i64 Y, .slice (some ⟨g2, 0, none⟩) n c2]]) ?_ rfl ?_
      · simp [results, Try.results44, go_sem, z_n, z_0, z_1, z_2, y_n, y_0, y_1, y_2]
      · exact ⟨X, Y, X, Y, A, some ⟨g2, 0, none⟩, c, c2, B, B2, by rw [HN.out, HLE.out], by rw [HN.out]; exact HhI.out, by rw [HLE.out]; exact HhJ.out, HL.out⟩
end Go.Proofs.Ytihfdgnocdphcaa

namespace Go.Proofs.Ytihfdgnocdphcaa
open Go.RowKit Knot

set_option maxRecDepth 20000 in
set_option maxHeartbeats 8000000 in
theorem DrawSymmetricPanel_any {w : World} {a : Option Addr} {len cap : Nat} {zs : List Int} (h : IsRow .u8 w a len cap zs) :
    Calls Try.prog 45 #[.slice a len cap] w fun e w' => ∃ (X Y : Int) (A : Option Addr) (c : Nat) (B : List Int) (s : Int), e = .returned (.tuple #[.agg #[.int .i64 X, .int .i64 Y, .slice A B.length c], .int .i64 s]) ∧ IntsIn w' w.heap.size w'.heap.size (.slice A B.length c) B ∧ Below w.heap.size w w' := by
  have bl := Joins.below_alloc1 w (.cells #[.int .i64 0, .int .i64 0, .slice none 0 0] 30)
  have r1 := (Box.new w 30 #[.int .i64 0, .int .i64 0, .slice none 0 0])
  have h1 := h.below bl
  clear h
  go_enter Try.func45, Try.ntmps45
  go_wp2_with fail
  refine (src_from h1).mono ?_
  rintro e w1 ⟨rfl, hS, s1, hb1⟩
  simp only [World.size_alloc] at hS s1
  obtain ⟨b, hb⟩ : ∃ b, w.heap.size + 1 = b := ⟨_, rfl⟩
  rw [hb] at hS s1
  simp only [World.size_alloc, hb]
  replace r1 := r1.below hb1
  replace bl := bnext bl hb1
  clear h1 hb1
  go_wp2_with fail
  refine (l02Bent_any hS (by omega)).mono ?_
  rintro e w2 ⟨X, Y, A, c, B, rfl, hI, hS2, hc2⟩
  replace r1 := (r1.chgb hc2 (by omega)).alloc (.cells #[.int .i64 X, .int .i64 Y, .slice A B.length c] 30)
  replace bl := (chg_low bl hc2 (by omega) (by omega)).alloc (by have := hc2.size; omega) (.cells #[.int .i64 X, .int .i64 Y, .slice A B.length c] 30)
  have bp := Box.new w2 30 #[.int .i64 X, .int .i64 Y, .slice A B.length c]
  replace hI := hI.alloc (.cells #[.int .i64 X, .int .i64 Y, .slice A B.length c] 30)
  replace hS2 := hS2.below (Joins.below_alloc1 w2 (.cells #[.int .i64 X, .int .i64 Y, .slice A B.length c] 30))
  have sz2 := hc2.size
  obtain ⟨pp, hpp⟩ : ∃ pp, w2.heap.size = pp := ⟨_, rfl⟩
  rw [hpp] at bp hI sz2
  clear hS hc2
  have pl := bp.lt
  go_wp2_with fail
  try rw [hpp]
  generalize hV : w2.alloc (.cells #[.int .i64 X, .int .i64 Y, .slice A B.length c] 30) = V at *
  clear hV
  have hV0 := bp.lt
  refine (src_one hS2 (by omega) (by omega)).mono ?_
  rintro e w4 ⟨q1, rfl, hS4, hc4⟩
  replace bp := bp.chgb hc4 (by omega)
  replace hI := hI.chgb hc4 (by omega)
  replace r1 := r1.chgb hc4 (by omega)
  replace bl := chg_low bl hc4 (by omega) (by have := bl.size; exact this)
  have sz4 := hc4.size
  clear hS2 hc4
  have hS2 := hS4
  clear hS4
  cases q1
  · skip
    obtain ⟨V, hV⟩ : ∃ z, z = w4 := ⟨_, rfl⟩
    subst hV
    have hm0 : 0 + 1010 + 1 ≤ 100000000 := by omega
    go_wp2_with fail
    have KS : Hid (∀ w', Chg b (b + 1) V w' → (w'.cell? ⟨pp, 0, none⟩ = some (.int .i64 X) ∧ w'.cell? ⟨pp, 1, none⟩ = some (.int .i64 Y) ∧ w'.cell? ⟨pp, 2, none⟩ = some (.slice A B.length c))) := Lib.hid (fun w' hc => ⟨(bp.chgb hc (by omega)).cell 0, (bp.chgb hc (by omega)).cell 1, (bp.chgb hc (by omega)).cell 2⟩)
    have S0 : Hid (Src V.drew b (0 + 1010 + 1)) := Lib.hid (hS2.drewN 1)
    have hb0 : Below V.heap.size V V.drew := below_drewN _ _ 1
    have Dbp := Lib.hid (bp.below hb0)
    have DhI := Lib.hid (hI.below hb0)
    have EhI := Lib.hid hI
    have Er1 := Lib.hid r1
    have EL := Lib.hid bl
    have nbpr1 : (pp : Nat) ≠ w.heap.size := by omega
    have mr1 : (w.heap.size : Nat) ≠ b := by omega
    have bp0_ := bp.cell 0
    have bp1_ := bp.cell 1
    have bp2_ := bp.cell 2
    have bpn_ := bp.lt
    simp only [List.getElem?_toArray, List.getElem?_cons_zero, List.getElem?_cons_succ] at bp0_ bp1_ bp2_
    clear bp hI r1 hS2 bl hb0
    go_wp2
    go_region_held3 (fun w' => w'.cell? ⟨pp, 0, none⟩ = some (.int .i64 X) ∧ w'.cell? ⟨pp, 1, none⟩ = some (.int .i64 Y) ∧ w'.cell? ⟨pp, 2, none⟩ = some (.slice A B.length c))
      (first | (with_reducible exact ⟨cell_f nbpr1 (cell_f nbpr1 (cell_f nbpr1 (k0))), cell_f nbpr1 (cell_f nbpr1 (cell_f nbpr1 (k1))), cell_f nbpr1 (cell_f nbpr1 (cell_f nbpr1 (k2)))⟩) | (with_reducible exact KS.out _ hC6) | (with_reducible exact KS.out _ (chg_drew _ _)) | (with_reducible assumption))
      ((go_at_call 106; (with_reducible refine (l06DrawSym_any S0.out hm0).mono ?_); rintro e w6 ⟨s, rfl, hS6, hc6⟩; have hC6 := Chg.trans (chg_drew b V) hc6; obtain ⟨k0, k1, k2⟩ := KS.out _ hC6; have fr1 := Er1.out.chgb hC6 mr1; have z0 := fr1.cell 0; have zf0 := fr1.free 0; have z1 := fr1.cell 1; have zf1 := fr1.free 1; have z2 := fr1.cell 2; have zf2 := fr1.free 2; have zn := fr1.lt))
    all_goals
      have QhI := EhI.out.chgb hC6 (by omega)
      have hs6 := hC6.size
      have hd6 : V.drew.heap.size = V.heap.size := rfl
      have hL6 := chg_low EL.out hC6 (by omega) (by have := EL.out.size; exact this)
      obtain ⟨W9, hW9⟩ : ∃ z, z = (((w6.setCell ⟨w.heap.size, 0, none⟩ (.int .i64 X)).setCell ⟨w.heap.size, 1, none⟩ (.int .i64 Y)).setCell ⟨w.heap.size, 2, none⟩ (.slice A B.length c)) := ⟨_, rfl⟩
      have HQhI : Hid (IntsIn (((w6.setCell ⟨w.heap.size, 0, none⟩ (.int .i64 X)).setCell ⟨w.heap.size, 1, none⟩ (.int .i64 Y)).setCell ⟨w.heap.size, 2, none⟩ (.slice A B.length c)) w.heap.size ((((w6.setCell ⟨w.heap.size, 0, none⟩ (.int .i64 X)).setCell ⟨w.heap.size, 1, none⟩ (.int .i64 Y)).setCell ⟨w.heap.size, 2, none⟩ (.slice A B.length c))).heap.size (.slice A B.length c) B) := Lib.hid (((((QhI.at_store (p := ⟨w.heap.size, 0, none⟩) (by show w.heap.size < _; omega) _).at_store (p := ⟨w.heap.size, 1, none⟩) (by show w.heap.size < _; omega) _).at_store (p := ⟨w.heap.size, 2, none⟩) (by show w.heap.size < _; omega) _)).wider (lo' := w.heap.size) (by omega) ((((QhI.at_store (p := ⟨w.heap.size, 0, none⟩) (by show w.heap.size < _; omega) _).at_store (p := ⟨w.heap.size, 1, none⟩) (by show w.heap.size < _; omega) _).at_store (p := ⟨w.heap.size, 2, none⟩) (by show w.heap.size < _; omega) _)).2.2.1 (Nat.le_refl _))
      have HL : Hid (Below w.heap.size w (((w6.setCell ⟨w.heap.size, 0, none⟩ (.int .i64 X)).setCell ⟨w.heap.size, 1, none⟩ (.int .i64 Y)).setCell ⟨w.heap.size, 2, none⟩ (.slice A B.length c))) := Lib.hid ((((hL6.setCell (p := ⟨w.heap.size, 0, none⟩) (by show _ ≤ w.heap.size; omega) _).setCell (p := ⟨w.heap.size, 1, none⟩) (by show _ ≤ w.heap.size; omega) _).setCell (p := ⟨w.heap.size, 2, none⟩) (by show _ ≤ w.heap.size; omega) _))
      clear hL6 hS6 hc6 hC6 KS S0 EL hW9 QhI EhI DhI Dbp Er1 fr1
      go_wp2_with fail
      refine bodyPost_ret (v := .tuple #[.agg #[.int .i64 X, .int .i64 Y, .slice A B.length c], .int .i64 s]) ?_ rfl ?_
      · simp [results, Try.results45, go_sem, zn, z0, z1, z2]
      · exact ⟨X, Y, A, c, B, s, rfl, HQhI.out, HL.out⟩
  have hin : inner 3 3 = ((12 : Nat) : Int) := by decide
  clear hI
  go_wp2_with fail
  refine (l02New_any ⟨by omega, by omega⟩ ⟨by omega, by omega⟩ hin).mono ?_
  rintro e w5 ⟨g, rfl, hJ, hb5⟩
  have sz5 := hb5.size
  have g0 := (Row.lt hJ.1 (g := g) rfl).1
  have g1 := (Row.lt hJ.1 (g := g) rfl).2
  replace bp := bp.below hb5
  replace r1 := r1.below hb5
  replace hS2 := hS2.below hb5
  replace bl := bnext bl hb5
  have hpw : pp < w4.heap.size := by omega
  have p0 := bp.cell 0
  have p1 := bp.cell 1
  have p2 := bp.cell 2
  have pf0 := bp.free 0
  have pf1 := bp.free 1
  have pf2 := bp.free 2
  have pn := bp.lt
  simp only [List.getElem?_toArray, List.getElem?_cons_zero, List.getElem?_cons_succ] at p0 p1 p2
  have bp6 := Box.set3 bp (.int .i64 3) (.int .i64 3) (.slice (some ⟨g, 0, none⟩) 12 12)
  have hne : ∀ k, (Value.slice (some ⟨g, 0, none⟩) 12 12).ownBlock = some k → k ≠ pp := fun k hk => by rw [ownBlock_slice] at hk; injection hk with hk; omega
  have hJ6 : IntsIn (((w5.setCell ⟨pp, 0, none⟩ (.int .i64 3)).setCell ⟨pp, 1, none⟩ (.int .i64 3)).setCell ⟨pp, 2, none⟩ (.slice (some ⟨g, 0, none⟩) 12 12)) w4.heap.size w5.heap.size (.slice (some ⟨g, 0, none⟩) 12 12) (List.replicate 12 0) := ((hJ.at_store (p := ⟨pp, 0, none⟩) hpw _).at_store (p := ⟨pp, 1, none⟩) hpw _).at_store (p := ⟨pp, 2, none⟩) hpw _
  have rr := ((r1.far (p := ⟨pp, 0, none⟩) (by show w.heap.size ≠ pp; omega) (.int .i64 3)).far (p := ⟨pp, 1, none⟩) (by show w.heap.size ≠ pp; omega) (.int .i64 3)).far (p := ⟨pp, 2, none⟩) (by show w.heap.size ≠ pp; omega) (.slice (some ⟨g, 0, none⟩) 12 12)
  have hS6 := ((hS2.put (p := ⟨pp, 0, none⟩) (by show b < pp; omega) (.int .i64 3)).put (p := ⟨pp, 1, none⟩) (by show b < pp; omega) (.int .i64 3)).put (p := ⟨pp, 2, none⟩) (by show b < pp; omega) (.slice (some ⟨g, 0, none⟩) 12 12)
  have bl6 := ((bl.setCell (p := ⟨pp, 0, none⟩) (by show _ ≤ pp; omega) (.int .i64 3)).setCell (p := ⟨pp, 1, none⟩) (by show _ ≤ pp; omega) (.int .i64 3)).setCell (p := ⟨pp, 2, none⟩) (by show _ ≤ pp; omega) (.slice (some ⟨g, 0, none⟩) 12 12)
  clear hS2 bl hb5 hne r1 bp
  have hJ := hJ
  clear hJ
  go_wp2
  go_loopw [17] (fun i wr => ∃ (k : Nat) (D : List Int), k ≤ 12 ∧ i = .int .i64 k ∧ D.length = 12 ∧ IntsIn wr w4.heap.size w5.heap.size (.slice (some ⟨g, 0, none⟩) 12 12) D ∧
      Box wr pp 30 #[.int .i64 3, .int .i64 3, .slice (some ⟨g, 0, none⟩) 12 12] ∧ Box wr w.heap.size 30 #[.int .i64 0, .int .i64 0, .slice none 0 0] ∧ Src wr b (0 + 1010 + 1 + k) ∧ Below w.heap.size w wr) (fun i _ => 12 - (intOf i).toNat)
  case atStart => exact ⟨0, _, by omega, rfl, by simp, hJ6, bp6, rr, hS6, bl6⟩
  case round =>
    obtain ⟨k, D, hk, rfl, hDl, hJ, bp, r1, hS, bl⟩ := hrel
    clear hJ6 bp6 rr hS6 bl6 p0 p1 p2 pf0 pf1 pf2 pn
    have hwz := bl.size
    by_cases hlt : k < 12
    · have k1 : (k : Int) < 12 := by omega
      have KS : Hid (∀ w', Chg b (b + 1) wr w' → (w'.cell? ⟨pp, 2, none⟩ = some (.slice (some ⟨g, 0, none⟩) 12 12))) := Lib.hid (fun w' hc => (bp.chgb hc (by omega)).cell 2)
      have S0 : Hid (Src wr.drew b (0 + 1010 + 1 + k)) := Lib.hid (hS.drewN 1)
      have p2 : wr.cell? ⟨pp, 2, none⟩ = some (.slice (some ⟨g, 0, none⟩) 12 12) := bp.cell 2
      have pn := bp.lt
      have gne : (⟨pp, 2, none⟩ : Addr).block ≠ g := by show pp ≠ g; omega
      have HJ := Lib.hid hJ
      have HP := Lib.hid bp
      have HR1 := Lib.hid r1
      have HBL := Lib.hid bl
      have HDL := Lib.hid hDl
      have hm1 : 0 + 1010 + 1 + k ≤ 1000000000 := by omega
      have hn3 : (3 : Int) ≤ 200 := by omega
      have hbJ : b < w4.heap.size := by omega
      clear hJ bp r1 bl hS hDl
      go_wp2
      go_region_held3 (fun w' => w'.cell? ⟨pp, 2, none⟩ = some (.slice (some ⟨g, 0, none⟩) 12 12))
        (first | (with_reducible exact cell_f gne q7) | (with_reducible exact q7) | (with_reducible exact KS.out _ (chg_drew _ _)))
        ((go_at_call 103; (with_reducible refine (src_pick S0.out hm1 hn3).mono ?_); rintro e w7 ⟨u, rfl, _, _, _, hS7, hc7⟩; have hC7 := Chg.trans (chg_drew b wr) hc7; have q7 := KS.out _ hC7; have hJ7 := HJ.out.chgb hC7 hbJ; have d0 := Ints.cell hJ7.1 (k := k) (by have := HDL.out; omega); have d1 := Row.free hJ7.1 k; have d2 := (Row.lt hJ7.1 (g := g) rfl).2))
      all_goals
        have hJ := HJ.out.chgb hC7 hbJ
        have hJ8 := hJ.put k u
        have bp8 := (HP.out.chgb hC7 (by omega)).far (p := ⟨g, k, none⟩) (by show pp ≠ g; omega) (.int .i64 u)
        have rr1 := (HR1.out.chgb hC7 (by omega)).far (p := ⟨g, k, none⟩) (by show w.heap.size ≠ g; omega) (.int .i64 u)
        have hS8 := (hS7.more (m' := 0 + 1010 + 1 + (k + 1)) (by omega)).put (p := ⟨g, k, none⟩) (by show b < g; omega) (.int .i64 u)
        have bl8 := (chg_low HBL.out hC7 (by omega) (by omega)).setCell (p := ⟨g, k, none⟩) (by show _ ≤ g; omega) (.int .i64 u)
        have hl8 : (D.set k u).length = 12 := by rw [List.length_set]; exact HDL.out
        have HL8 := Lib.hid hl8
        clear d0 d1 d2 q7 hJ7 hJ hC7 hc7 hS7 KS S0 HJ HP HR1 HBL gne HDL hl8 p2 pn
        generalize (w7.setCell ⟨g, k, none⟩ (.int .i64 u)) = V8 at *
        generalize D.set k u = D8 at *
        go_wp2
        go_roundw
        case rel => exact ⟨k + 1, D8, by omega, by go_num, HL8.out, hJ8, bp8, rr1, hS8, bl8⟩
        case measure => simp [intOf]; omega
    · have e : k = 12 := by omega
      subst e
      have hI := hJ
      have hS2 := hS
      have HDL := Lib.hid hDl
      have hm0 : 0 + 1010 + 1 + 12 ≤ 100000000 := by omega
      clear hJ hS hDl hlt hk
      obtain ⟨V, hV⟩ : ∃ z, z = wr := ⟨_, rfl⟩
      subst hV
      have KS : Hid (∀ w', Chg b (b + 1) V w' → (w'.cell? ⟨pp, 0, none⟩ = some (.int .i64 3) ∧ w'.cell? ⟨pp, 1, none⟩ = some (.int .i64 3) ∧ w'.cell? ⟨pp, 2, none⟩ = some (.slice (some ⟨g, 0, none⟩) 12 12))) := Lib.hid (fun w' hc => ⟨(bp.chgb hc (by omega)).cell 0, (bp.chgb hc (by omega)).cell 1, (bp.chgb hc (by omega)).cell 2⟩)
      have S0 : Hid (Src V.drew b (0 + 1010 + 1 + 12)) := Lib.hid (hS2.drewN 1)
      have hb0 : Below V.heap.size V V.drew := below_drewN _ _ 1
      have Dbp := Lib.hid (bp.below hb0)
      have DhI := Lib.hid (hI.below hb0)
      have EhI := Lib.hid hI
      have Er1 := Lib.hid r1
      have EL := Lib.hid bl
      have nbpr1 : (pp : Nat) ≠ w.heap.size := by omega
      have mr1 : (w.heap.size : Nat) ≠ b := by omega
      have bp0_ := bp.cell 0
      have bp1_ := bp.cell 1
      have bp2_ := bp.cell 2
      have bpn_ := bp.lt
      simp only [List.getElem?_toArray, List.getElem?_cons_zero, List.getElem?_cons_succ] at bp0_ bp1_ bp2_
      clear bp hI r1 hS2 bl hb0
      go_wp2
      go_region_held3 (fun w' => w'.cell? ⟨pp, 0, none⟩ = some (.int .i64 3) ∧ w'.cell? ⟨pp, 1, none⟩ = some (.int .i64 3) ∧ w'.cell? ⟨pp, 2, none⟩ = some (.slice (some ⟨g, 0, none⟩) 12 12))
        (first | (with_reducible exact ⟨cell_f nbpr1 (cell_f nbpr1 (cell_f nbpr1 (k0))), cell_f nbpr1 (cell_f nbpr1 (cell_f nbpr1 (k1))), cell_f nbpr1 (cell_f nbpr1 (cell_f nbpr1 (k2)))⟩) | (with_reducible exact KS.out _ hC6) | (with_reducible exact KS.out _ (chg_drew _ _)) | (with_reducible assumption))
        ((go_at_call 106; (with_reducible refine (l06DrawSym_any S0.out hm0).mono ?_); rintro e w6 ⟨s, rfl, hS6, hc6⟩; have hC6 := Chg.trans (chg_drew b V) hc6; obtain ⟨k0, k1, k2⟩ := KS.out _ hC6; have fr1 := Er1.out.chgb hC6 mr1; have z0 := fr1.cell 0; have zf0 := fr1.free 0; have z1 := fr1.cell 1; have zf1 := fr1.free 1; have z2 := fr1.cell 2; have zf2 := fr1.free 2; have zn := fr1.lt))
      all_goals
        have QhI := EhI.out.chgb hC6 (by omega)
        have hs6 := hC6.size
        have hd6 : V.drew.heap.size = V.heap.size := rfl
        have hL6 := chg_low EL.out hC6 (by omega) (by have := EL.out.size; exact this)
        obtain ⟨W9, hW9⟩ : ∃ z, z = (((w6.setCell ⟨w.heap.size, 0, none⟩ (.int .i64 3)).setCell ⟨w.heap.size, 1, none⟩ (.int .i64 3)).setCell ⟨w.heap.size, 2, none⟩ (.slice (some ⟨g, 0, none⟩) 12 12)) := ⟨_, rfl⟩
        have HQhI : Hid (IntsIn (((w6.setCell ⟨w.heap.size, 0, none⟩ (.int .i64 3)).setCell ⟨w.heap.size, 1, none⟩ (.int .i64 3)).setCell ⟨w.heap.size, 2, none⟩ (.slice (some ⟨g, 0, none⟩) 12 12)) w.heap.size ((((w6.setCell ⟨w.heap.size, 0, none⟩ (.int .i64 3)).setCell ⟨w.heap.size, 1, none⟩ (.int .i64 3)).setCell ⟨w.heap.size, 2, none⟩ (.slice (some ⟨g, 0, none⟩) 12 12))).heap.size (.slice (some ⟨g, 0, none⟩) 12 12) D) := Lib.hid (((((QhI.at_store (p := ⟨w.heap.size, 0, none⟩) (by show w.heap.size < _; omega) _).at_store (p := ⟨w.heap.size, 1, none⟩) (by show w.heap.size < _; omega) _).at_store (p := ⟨w.heap.size, 2, none⟩) (by show w.heap.size < _; omega) _)).wider (lo' := w.heap.size) (by omega) ((((QhI.at_store (p := ⟨w.heap.size, 0, none⟩) (by show w.heap.size < _; omega) _).at_store (p := ⟨w.heap.size, 1, none⟩) (by show w.heap.size < _; omega) _).at_store (p := ⟨w.heap.size, 2, none⟩) (by show w.heap.size < _; omega) _)).2.2.1 (Nat.le_refl _))
        have HL : Hid (Below w.heap.size w (((w6.setCell ⟨w.heap.size, 0, none⟩ (.int .i64 3)).setCell ⟨w.heap.size, 1, none⟩ (.int .i64 3)).setCell ⟨w.heap.size, 2, none⟩ (.slice (some ⟨g, 0, none⟩) 12 12))) := Lib.hid ((((hL6.setCell (p := ⟨w.heap.size, 0, none⟩) (by show _ ≤ w.heap.size; omega) _).setCell (p := ⟨w.heap.size, 1, none⟩) (by show _ ≤ w.heap.size; omega) _).setCell (p := ⟨w.heap.size, 2, none⟩) (by show _ ≤ w.heap.size; omega) _))
        clear hL6 hS6 hc6 hC6 KS S0 EL hW9 QhI EhI DhI Dbp Er1 fr1
        go_wp2_with fail
        refine bodyPost_ret (v := .tuple #[.agg #[.int .i64 3, .int .i64 3, .slice (some ⟨g, 0, none⟩) 12 12], .int .i64 s]) ?_ rfl ?_
        · simp [results, Try.results45, go_sem, zn, z0, z1, z2]
        · exact ⟨3, 3, some ⟨g, 0, none⟩, 12, D, s, by rw [HDL.out], by rw [HDL.out]; exact HQhI.out, HL.out⟩
end Go.Proofs.Ytihfdgnocdphcaa
