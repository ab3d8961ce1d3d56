/-
  DistanceOf, by the program and by the reference.
-/
import Derived.Test.YtmagomiehgcbjaaVal
namespace Go.Proofs.Ytmagomiehgcbjaa
open Go.RowKit Knot


/-- At how many of the first k places two lists differ. -/
def neTo (xs ys : List Int) : Nat → Int
  | 0 => 0
  | k + 1 => if gI xs k = gI ys k then neTo xs ys k else neTo xs ys k + 1
theorem neTo_bd (xs ys : List Int) (k : Nat) : 0 ≤ neTo xs ys k ∧ neTo xs ys k ≤ k := by
  induction k with
  | zero => exact ⟨Int.le_refl _, Int.le_refl _⟩
  | succ k ih => unfold neTo; split <;> omega
theorem neTo_eq {xs ys : List Int} {k : Nat} (h : gI xs k = gI ys k) : neTo xs ys (k + 1) = neTo xs ys k := by rw [neTo, if_pos h]
theorem neTo_ne {xs ys : List Int} {k : Nat} (h : ¬ gI xs k = gI ys k) : neTo xs ys (k + 1) = neTo xs ys k + 1 := by rw [neTo, if_neg h]
/-- What DistanceOf answers. -/
def distM (p q : Pan) : Int × Int := if Ok p ∧ Ok q then if p.W = q.W ∧ p.H = q.H then (neTo p.B q.B p.B.length, 0) else (0, 6) else (0, 1)

set_option maxHeartbeats 4000000 in
theorem K_impl_DistanceOf {w : World} {lo hi lo' hi' : Nat} {x y x' y' : Int} {v u : Value} {xs ys : List Int} {r0 r1 : Int} (hp : IntsIn w lo hi v xs) (hq : IntsIn w lo' hi' u ys) (hm : distM ⟨x, y, xs⟩ ⟨x', y', ys⟩ = (r0, r1)) :
    Calls Try.prog 13 #[.agg #[.int .i64 x, .int .i64 y, v], .agg #[.int .i64 x', .int .i64 y', u]] w fun e w' => e = .returned (.tuple #[.int .i64 r0, .int .i64 r1]) ∧ Below w.heap.size w w' := by
  obtain ⟨A, cA, rfl, lA, hA⟩ := hp.1.open_
  obtain ⟨D, cD, rfl, lD, hD⟩ := hq.1.open_
  have l1 := hp.len
  have l2 := hq.len
  have bl := Below.refl w.heap.size w
  replace hp := hp.alloc (.cells #[.int .i64 x, .int .i64 y, .slice A xs.length cA] 28)
  replace hq := hq.alloc (.cells #[.int .i64 x, .int .i64 y, .slice A xs.length cA] 28)
  replace bl := bnext bl (Joins.below_alloc1 _ (.cells #[.int .i64 x, .int .i64 y, .slice A xs.length cA] 28))
  have ba := Box.new (w) 28 #[.int .i64 x, .int .i64 y, .slice A xs.length cA]
  try simp only [World.size_alloc] at ba
  replace hp := hp.alloc (.cells #[.int .i64 x', .int .i64 y', .slice D ys.length cD] 28)
  replace hq := hq.alloc (.cells #[.int .i64 x', .int .i64 y', .slice D ys.length cD] 28)
  replace ba := ba.alloc (.cells #[.int .i64 x', .int .i64 y', .slice D ys.length cD] 28)
  replace bl := bnext bl (Joins.below_alloc1 _ (.cells #[.int .i64 x', .int .i64 y', .slice D ys.length cD] 28))
  have bb := Box.new (w.alloc (.cells #[.int .i64 x, .int .i64 y, .slice A xs.length cA] 28)) 28 #[.int .i64 x', .int .i64 y', .slice D ys.length cD]
  try simp only [World.size_alloc] at bb
  by_cases o1 : Ok ⟨x, y, xs⟩
  rotate_left
  · skip
    obtain ⟨rfl, rfl⟩ : 0 = r0 ∧ 1 = r1 := by simpa [distM, o1] using hm
    clear hm
    have O1 := Lib.hid o1
    clear o1
    go_enter Try.func13, Try.ntmps13
    have q_ba_0 := ba.cell 0
    have q_ba_1 := ba.cell 1
    have q_ba_2 := ba.cell 2
    have n_ba := ba.lt
    have q_bb_0 := bb.cell 0
    have q_bb_1 := bb.cell 1
    have q_bb_2 := bb.cell 2
    have n_bb := bb.lt
    go_wp2_with fail
    clear q_ba_0 q_ba_1 q_ba_2 n_ba q_bb_0 q_bb_1 q_bb_2 n_bb
    refine (ValidPanel_any x y _ xs false (no_iff O1.out) _ hp.ints).mono ?_
    rintro e w1 ⟨rfl, hb⟩
    have sz_1 := hb.size
    try simp only [World.size_alloc] at sz_1
    replace hp := hp.below hb
    replace hq := hq.below hb
    replace ba := ba.below hb
    replace bb := bb.below hb
    replace bl := bnext bl hb
    clear hb
    have q_ba_0 := ba.cell 0
    have q_ba_1 := ba.cell 1
    have q_ba_2 := ba.cell 2
    have n_ba := ba.lt
    have q_bb_0 := bb.cell 0
    have q_bb_1 := bb.cell 1
    have q_bb_2 := bb.cell 2
    have n_bb := bb.lt
    go_wp2_with fail
    clear q_ba_0 q_ba_1 q_ba_2 n_ba q_bb_0 q_bb_1 q_bb_2 n_bb
    go_ret2
    exact ⟨rfl, bl⟩
  by_cases o2 : Ok ⟨x', y', ys⟩
  rotate_left
  · skip
    obtain ⟨rfl, rfl⟩ : 0 = r0 ∧ 1 = r1 := by simpa [distM, o1, o2] using hm
    clear hm
    have O1 := Lib.hid o1
    have O2 := Lib.hid o2
    clear o1 o2
    go_enter Try.func13, Try.ntmps13
    have q_ba_0 := ba.cell 0
    have q_ba_1 := ba.cell 1
    have q_ba_2 := ba.cell 2
    have n_ba := ba.lt
    have q_bb_0 := bb.cell 0
    have q_bb_1 := bb.cell 1
    have q_bb_2 := bb.cell 2
    have n_bb := bb.lt
    go_wp2_with fail
    clear q_ba_0 q_ba_1 q_ba_2 n_ba q_bb_0 q_bb_1 q_bb_2 n_bb
    refine (ValidPanel_any x y _ xs true (yes_iff O1.out) _ hp.ints).mono ?_
    rintro e w1 ⟨rfl, hb⟩
    have sz_1 := hb.size
    try simp only [World.size_alloc] at sz_1
    replace hp := hp.below hb
    replace hq := hq.below hb
    replace ba := ba.below hb
    replace bb := bb.below hb
    replace bl := bnext bl hb
    clear hb
    have q_ba_0 := ba.cell 0
    have q_ba_1 := ba.cell 1
    have q_ba_2 := ba.cell 2
    have n_ba := ba.lt
    have q_bb_0 := bb.cell 0
    have q_bb_1 := bb.cell 1
    have q_bb_2 := bb.cell 2
    have n_bb := bb.lt
    go_wp2_with fail
    clear q_ba_0 q_ba_1 q_ba_2 n_ba q_bb_0 q_bb_1 q_bb_2 n_bb
    refine (ValidPanel_any x' y' _ ys false (no_iff O2.out) _ hq.ints).mono ?_
    rintro e w2 ⟨rfl, hb⟩
    have sz_2 := hb.size
    try simp only [World.size_alloc] at sz_2
    replace hp := hp.below hb
    replace hq := hq.below hb
    replace ba := ba.below hb
    replace bb := bb.below hb
    replace bl := bnext bl hb
    clear hb
    have q_ba_0 := ba.cell 0
    have q_ba_1 := ba.cell 1
    have q_ba_2 := ba.cell 2
    have n_ba := ba.lt
    have q_bb_0 := bb.cell 0
    have q_bb_1 := bb.cell 1
    have q_bb_2 := bb.cell 2
    have n_bb := bb.lt
    go_wp2_with fail
    clear q_ba_0 q_ba_1 q_ba_2 n_ba q_bb_0 q_bb_1 q_bb_2 n_bb
    go_ret2
    exact ⟨rfl, bl⟩
  have O1 := Lib.hid o1
  have O2 := Lib.hid o2
  by_cases e1 : x = x'
  rotate_left
  · skip
    obtain ⟨rfl, rfl⟩ : 0 = r0 ∧ 6 = r1 := by simpa [distM, o1, o2, e1] using hm
    clear hm
    have t1 : (x != x') = true := by simp [e1]
    clear o1 o2 e1
    go_enter Try.func13, Try.ntmps13
    have q_ba_0 := ba.cell 0
    have q_ba_1 := ba.cell 1
    have q_ba_2 := ba.cell 2
    have n_ba := ba.lt
    have q_bb_0 := bb.cell 0
    have q_bb_1 := bb.cell 1
    have q_bb_2 := bb.cell 2
    have n_bb := bb.lt
    go_wp2_with fail
    clear q_ba_0 q_ba_1 q_ba_2 n_ba q_bb_0 q_bb_1 q_bb_2 n_bb
    refine (ValidPanel_any x y _ xs true (yes_iff O1.out) _ hp.ints).mono ?_
    rintro e w1 ⟨rfl, hb⟩
    have sz_1 := hb.size
    try simp only [World.size_alloc] at sz_1
    replace hp := hp.below hb
    replace hq := hq.below hb
    replace ba := ba.below hb
    replace bb := bb.below hb
    replace bl := bnext bl hb
    clear hb
    have q_ba_0 := ba.cell 0
    have q_ba_1 := ba.cell 1
    have q_ba_2 := ba.cell 2
    have n_ba := ba.lt
    have q_bb_0 := bb.cell 0
    have q_bb_1 := bb.cell 1
    have q_bb_2 := bb.cell 2
    have n_bb := bb.lt
    go_wp2_with fail
    clear q_ba_0 q_ba_1 q_ba_2 n_ba q_bb_0 q_bb_1 q_bb_2 n_bb
    refine (ValidPanel_any x' y' _ ys true (yes_iff O2.out) _ hq.ints).mono ?_
    rintro e w2 ⟨rfl, hb⟩
    have sz_2 := hb.size
    try simp only [World.size_alloc] at sz_2
    replace hp := hp.below hb
    replace hq := hq.below hb
    replace ba := ba.below hb
    replace bb := bb.below hb
    replace bl := bnext bl hb
    clear hb
    have q_ba_0 := ba.cell 0
    have q_ba_1 := ba.cell 1
    have q_ba_2 := ba.cell 2
    have n_ba := ba.lt
    have q_bb_0 := bb.cell 0
    have q_bb_1 := bb.cell 1
    have q_bb_2 := bb.cell 2
    have n_bb := bb.lt
    go_wp2_with fail
    clear q_ba_0 q_ba_1 q_ba_2 n_ba q_bb_0 q_bb_1 q_bb_2 n_bb
    go_ret2
    exact ⟨rfl, bl⟩
  by_cases e2 : y = y'
  rotate_left
  · skip
    obtain ⟨rfl, rfl⟩ : 0 = r0 ∧ 6 = r1 := by simpa [distM, o1, o2, e2] using hm
    clear hm
    have t1 : (x != x') = false := by simp [e1]
    have t2 : (y != y') = true := by simp [e2]
    clear o1 o2 e1 e2
    go_enter Try.func13, Try.ntmps13
    have q_ba_0 := ba.cell 0
    have q_ba_1 := ba.cell 1
    have q_ba_2 := ba.cell 2
    have n_ba := ba.lt
    have q_bb_0 := bb.cell 0
    have q_bb_1 := bb.cell 1
    have q_bb_2 := bb.cell 2
    have n_bb := bb.lt
    go_wp2_with fail
    clear q_ba_0 q_ba_1 q_ba_2 n_ba q_bb_0 q_bb_1 q_bb_2 n_bb
    refine (ValidPanel_any x y _ xs true (yes_iff O1.out) _ hp.ints).mono ?_
    rintro e w1 ⟨rfl, hb⟩
    have sz_1 := hb.size
    try simp only [World.size_alloc] at sz_1
    replace hp := hp.below hb
    replace hq := hq.below hb
    replace ba := ba.below hb
    replace bb := bb.below hb
    replace bl := bnext bl hb
    clear hb
    have q_ba_0 := ba.cell 0
    have q_ba_1 := ba.cell 1
    have q_ba_2 := ba.cell 2
    have n_ba := ba.lt
    have q_bb_0 := bb.cell 0
    have q_bb_1 := bb.cell 1
    have q_bb_2 := bb.cell 2
    have n_bb := bb.lt
    go_wp2_with fail
    clear q_ba_0 q_ba_1 q_ba_2 n_ba q_bb_0 q_bb_1 q_bb_2 n_bb
    refine (ValidPanel_any x' y' _ ys true (yes_iff O2.out) _ hq.ints).mono ?_
    rintro e w2 ⟨rfl, hb⟩
    have sz_2 := hb.size
    try simp only [World.size_alloc] at sz_2
    replace hp := hp.below hb
    replace hq := hq.below hb
    replace ba := ba.below hb
    replace bb := bb.below hb
    replace bl := bnext bl hb
    clear hb
    have q_ba_0 := ba.cell 0
    have q_ba_1 := ba.cell 1
    have q_ba_2 := ba.cell 2
    have n_ba := ba.lt
    have q_bb_0 := bb.cell 0
    have q_bb_1 := bb.cell 1
    have q_bb_2 := bb.cell 2
    have n_bb := bb.lt
    go_wp2_with fail
    clear q_ba_0 q_ba_1 q_ba_2 n_ba q_bb_0 q_bb_1 q_bb_2 n_bb
    go_ret2
    exact ⟨rfl, bl⟩
  have t1 : (x != x') = false := by simp [e1]
  have t2 : (y != y') = false := by simp [e2]
  have hl : xs.length = ys.length := by
    have := o1.len
    have := o2.len
    subst e1 e2
    simp only at *
    omega
  have hm2 : (neTo xs ys xs.length, (0 : Int)) = (r0, r1) := by
    rw [← hm]
    unfold distM
    rw [if_pos ⟨o1, o2⟩, if_pos ⟨e1, e2⟩]
  have hm' : Hid (neTo xs ys xs.length = r0 ∧ 0 = r1) := Lib.hid (by simpa using hm2)
  clear hm2
  have hl1 : xs.length ≤ ys.length := by omega
  clear hm o1 o2 e1 e2 hl
  go_enter Try.func13, Try.ntmps13
  have q_ba_0 := ba.cell 0
  have q_ba_1 := ba.cell 1
  have q_ba_2 := ba.cell 2
  have n_ba := ba.lt
  have q_bb_0 := bb.cell 0
  have q_bb_1 := bb.cell 1
  have q_bb_2 := bb.cell 2
  have n_bb := bb.lt
  go_wp2_with fail
  clear q_ba_0 q_ba_1 q_ba_2 n_ba q_bb_0 q_bb_1 q_bb_2 n_bb
  refine (ValidPanel_any x y _ xs true (yes_iff O1.out) _ hp.ints).mono ?_
  rintro e w1 ⟨rfl, hb⟩
  have sz_1 := hb.size
  try simp only [World.size_alloc] at sz_1
  replace hp := hp.below hb
  replace hq := hq.below hb
  replace ba := ba.below hb
  replace bb := bb.below hb
  replace bl := bnext bl hb
  clear hb
  have q_ba_0 := ba.cell 0
  have q_ba_1 := ba.cell 1
  have q_ba_2 := ba.cell 2
  have n_ba := ba.lt
  have q_bb_0 := bb.cell 0
  have q_bb_1 := bb.cell 1
  have q_bb_2 := bb.cell 2
  have n_bb := bb.lt
  go_wp2_with fail
  clear q_ba_0 q_ba_1 q_ba_2 n_ba q_bb_0 q_bb_1 q_bb_2 n_bb
  refine (ValidPanel_any x' y' _ ys true (yes_iff O2.out) _ hq.ints).mono ?_
  rintro e w2 ⟨rfl, hb⟩
  have sz_2 := hb.size
  try simp only [World.size_alloc] at sz_2
  replace hp := hp.below hb
  replace hq := hq.below hb
  replace ba := ba.below hb
  replace bb := bb.below hb
  replace bl := bnext bl hb
  clear hb
  have q_ba_0 := ba.cell 0
  have q_ba_1 := ba.cell 1
  have q_ba_2 := ba.cell 2
  have n_ba := ba.lt
  have q_bb_0 := bb.cell 0
  have q_bb_1 := bb.cell 1
  have q_bb_2 := bb.cell 2
  have n_bb := bb.lt
  go_wp2_with fail
  clear q_ba_0 q_ba_1 q_ba_2 n_ba q_bb_0 q_bb_1 q_bb_2 n_bb
  go_loopw [6, 32] (fun m i wr => ∃ k : Nat, k ≤ xs.length ∧ m = .int .i64 (neTo xs ys k) ∧ i = .int .i64 k ∧ ∃ n, w2.drewN n = wr) (fun _ i _ => xs.length - (intOf i).toNat)
  case atStart => exact ⟨0, Nat.zero_le _, rfl, rfl, 0, rfl⟩
  case round =>
    obtain ⟨k, hk, rfl, rfl, n, rfl⟩ := hrel
    have q0 := ba.cell 0
    have q1 := ba.cell 1
    have q2 := ba.cell 2
    have q3 := bb.cell 0
    have q4 := bb.cell 1
    have q5 := bb.cell 2
    have nb := neTo_bd xs ys k
    by_cases hlt : k < xs.length
    · obtain ⟨g, rfl, _, _⟩ := hA (by omega)
      obtain ⟨g', rfl, _, _⟩ := hD (by omega)
      have c1 := Ints.cell hp.1 (k := k) hlt
      have c2 := Ints.cell hq.1 (k := k) (by omega)
      have i1 : (k : Int) < (xs.length : Int) := by omega
      have i2 : (k : Int) < (ys.length : Int) := by omega
      have i0 : (0 : Int) ≤ (k : Int) := by omega
      by_cases he : gI xs k = gI ys k
      · have hne : (gI xs k != gI ys k) = false := by simp [he]
        have HE := Lib.hid (neTo_eq he)
        clear hA hD hp hq ba bb he
        go_wp2
        go_roundw
        case rel => exact ⟨k + 1, by omega, by rw [HE.out], by go_num, n, rfl⟩
        case measure => simp [intOf]; omega
      · have hne : (gI xs k != gI ys k) = true := by simp [he]
        have HE := Lib.hid (neTo_ne he)
        clear hA hD hp hq ba bb he
        go_wp2
        go_roundw
        case rel => exact ⟨k + 1, by omega, by rw [HE.out], by go_num, n, rfl⟩
        case measure => simp [intOf]; omega
    · have e : k = xs.length := by omega
      subst e
      obtain ⟨h0, h1⟩ := hm'.out
      have H0 := Lib.hid h0
      have H1 := Lib.hid h1
      clear hA hD hp hq ba bb hm' h0 h1
      go_wp2
      go_ret2
      exact ⟨ret_pair H0.out H1.out, bnext bl (below_drewN _ _ _)⟩
set_option maxHeartbeats 4000000 in
theorem K_spec_DistanceOf {w : World} {lo hi lo' hi' : Nat} {x y x' y' : Int} {v u : Value} {xs ys : List Int} {r0 r1 : Int} (hp : IntsIn w lo hi v xs) (hq : IntsIn w lo' hi' u ys) (hm : distM ⟨x, y, xs⟩ ⟨x', y', ys⟩ = (r0, r1)) :
    Calls Try.prog 11 #[.agg #[.int .i64 x, .int .i64 y, v], .agg #[.int .i64 x', .int .i64 y', u]] w fun e w' => e = .returned (.tuple #[.int .i64 r0, .int .i64 r1]) ∧ Below w.heap.size w w' := by
  obtain ⟨A, cA, rfl, lA, hA⟩ := hp.1.open_
  obtain ⟨D, cD, rfl, lD, hD⟩ := hq.1.open_
  have l1 := hp.len
  have l2 := hq.len
  have bl := Below.refl w.heap.size w
  replace hp := hp.alloc (.cells #[.int .i64 x, .int .i64 y, .slice A xs.length cA] 28)
  replace hq := hq.alloc (.cells #[.int .i64 x, .int .i64 y, .slice A xs.length cA] 28)
  replace bl := bnext bl (Joins.below_alloc1 _ (.cells #[.int .i64 x, .int .i64 y, .slice A xs.length cA] 28))
  have ba := Box.new (w) 28 #[.int .i64 x, .int .i64 y, .slice A xs.length cA]
  try simp only [World.size_alloc] at ba
  replace hp := hp.alloc (.cells #[.int .i64 x', .int .i64 y', .slice D ys.length cD] 28)
  replace hq := hq.alloc (.cells #[.int .i64 x', .int .i64 y', .slice D ys.length cD] 28)
  replace ba := ba.alloc (.cells #[.int .i64 x', .int .i64 y', .slice D ys.length cD] 28)
  replace bl := bnext bl (Joins.below_alloc1 _ (.cells #[.int .i64 x', .int .i64 y', .slice D ys.length cD] 28))
  have bb := Box.new (w.alloc (.cells #[.int .i64 x, .int .i64 y, .slice A xs.length cA] 28)) 28 #[.int .i64 x', .int .i64 y', .slice D ys.length cD]
  try simp only [World.size_alloc] at bb
  by_cases o1 : Ok ⟨x, y, xs⟩
  rotate_left
  · skip
    obtain ⟨rfl, rfl⟩ : 0 = r0 ∧ 1 = r1 := by simpa [distM, o1] using hm
    clear hm
    have O1 := Lib.hid o1
    clear o1
    go_enter Try.func11, Try.ntmps11
    have q_ba_0 := ba.cell 0
    have q_ba_1 := ba.cell 1
    have q_ba_2 := ba.cell 2
    have n_ba := ba.lt
    have q_bb_0 := bb.cell 0
    have q_bb_1 := bb.cell 1
    have q_bb_2 := bb.cell 2
    have n_bb := bb.lt
    go_wp2_with fail
    clear q_ba_0 q_ba_1 q_ba_2 n_ba q_bb_0 q_bb_1 q_bb_2 n_bb
    refine (l02Ok_any _ x y _ xs false (no_iff O1.out) _ ⟨ba, hp.ints⟩).mono ?_
    rintro e w' ⟨rfl, hd⟩
    have hb := bdrawn hd
    obtain ⟨w1, rfl⟩ : ∃ x, x = w' := ⟨w', rfl⟩
    clear hd
    have sz_1 := hb.size
    try simp only [World.size_alloc] at sz_1
    replace hp := hp.below hb
    replace hq := hq.below hb
    replace ba := ba.below hb
    replace bb := bb.below hb
    replace bl := bnext bl hb
    clear hb
    have q_ba_0 := ba.cell 0
    have q_ba_1 := ba.cell 1
    have q_ba_2 := ba.cell 2
    have n_ba := ba.lt
    have q_bb_0 := bb.cell 0
    have q_bb_1 := bb.cell 1
    have q_bb_2 := bb.cell 2
    have n_bb := bb.lt
    go_wp2_with fail
    clear q_ba_0 q_ba_1 q_ba_2 n_ba q_bb_0 q_bb_1 q_bb_2 n_bb
    go_ret2
    exact ⟨rfl, bl⟩
  by_cases o2 : Ok ⟨x', y', ys⟩
  rotate_left
  · skip
    obtain ⟨rfl, rfl⟩ : 0 = r0 ∧ 1 = r1 := by simpa [distM, o1, o2] using hm
    clear hm
    have O1 := Lib.hid o1
    have O2 := Lib.hid o2
    clear o1 o2
    go_enter Try.func11, Try.ntmps11
    have q_ba_0 := ba.cell 0
    have q_ba_1 := ba.cell 1
    have q_ba_2 := ba.cell 2
    have n_ba := ba.lt
    have q_bb_0 := bb.cell 0
    have q_bb_1 := bb.cell 1
    have q_bb_2 := bb.cell 2
    have n_bb := bb.lt
    go_wp2_with fail
    clear q_ba_0 q_ba_1 q_ba_2 n_ba q_bb_0 q_bb_1 q_bb_2 n_bb
    refine (l02Ok_any _ x y _ xs true (yes_iff O1.out) _ ⟨ba, hp.ints⟩).mono ?_
    rintro e w' ⟨rfl, hd⟩
    have hb := bdrawn hd
    obtain ⟨w1, rfl⟩ : ∃ x, x = w' := ⟨w', rfl⟩
    clear hd
    have sz_1 := hb.size
    try simp only [World.size_alloc] at sz_1
    replace hp := hp.below hb
    replace hq := hq.below hb
    replace ba := ba.below hb
    replace bb := bb.below hb
    replace bl := bnext bl hb
    clear hb
    have q_ba_0 := ba.cell 0
    have q_ba_1 := ba.cell 1
    have q_ba_2 := ba.cell 2
    have n_ba := ba.lt
    have q_bb_0 := bb.cell 0
    have q_bb_1 := bb.cell 1
    have q_bb_2 := bb.cell 2
    have n_bb := bb.lt
    go_wp2_with fail
    clear q_ba_0 q_ba_1 q_ba_2 n_ba q_bb_0 q_bb_1 q_bb_2 n_bb
    refine (l02Ok_any _ x' y' _ ys false (no_iff O2.out) _ ⟨bb, hq.ints⟩).mono ?_
    rintro e w' ⟨rfl, hd⟩
    have hb := bdrawn hd
    obtain ⟨w2, rfl⟩ : ∃ x, x = w' := ⟨w', rfl⟩
    clear hd
    have sz_2 := hb.size
    try simp only [World.size_alloc] at sz_2
    replace hp := hp.below hb
    replace hq := hq.below hb
    replace ba := ba.below hb
    replace bb := bb.below hb
    replace bl := bnext bl hb
    clear hb
    have q_ba_0 := ba.cell 0
    have q_ba_1 := ba.cell 1
    have q_ba_2 := ba.cell 2
    have n_ba := ba.lt
    have q_bb_0 := bb.cell 0
    have q_bb_1 := bb.cell 1
    have q_bb_2 := bb.cell 2
    have n_bb := bb.lt
    go_wp2_with fail
    clear q_ba_0 q_ba_1 q_ba_2 n_ba q_bb_0 q_bb_1 q_bb_2 n_bb
    go_ret2
    exact ⟨rfl, bl⟩
  have O1 := Lib.hid o1
  have O2 := Lib.hid o2
  by_cases e1 : x = x'
  rotate_left
  · skip
    obtain ⟨rfl, rfl⟩ : 0 = r0 ∧ 6 = r1 := by simpa [distM, o1, o2, e1] using hm
    clear hm
    have t1 : (x != x') = true := by simp [e1]
    clear o1 o2 e1
    go_enter Try.func11, Try.ntmps11
    have q_ba_0 := ba.cell 0
    have q_ba_1 := ba.cell 1
    have q_ba_2 := ba.cell 2
    have n_ba := ba.lt
    have q_bb_0 := bb.cell 0
    have q_bb_1 := bb.cell 1
    have q_bb_2 := bb.cell 2
    have n_bb := bb.lt
    go_wp2_with fail
    clear q_ba_0 q_ba_1 q_ba_2 n_ba q_bb_0 q_bb_1 q_bb_2 n_bb
    refine (l02Ok_any _ x y _ xs true (yes_iff O1.out) _ ⟨ba, hp.ints⟩).mono ?_
    rintro e w' ⟨rfl, hd⟩
    have hb := bdrawn hd
    obtain ⟨w1, rfl⟩ : ∃ x, x = w' := ⟨w', rfl⟩
    clear hd
    have sz_1 := hb.size
    try simp only [World.size_alloc] at sz_1
    replace hp := hp.below hb
    replace hq := hq.below hb
    replace ba := ba.below hb
    replace bb := bb.below hb
    replace bl := bnext bl hb
    clear hb
    have q_ba_0 := ba.cell 0
    have q_ba_1 := ba.cell 1
    have q_ba_2 := ba.cell 2
    have n_ba := ba.lt
    have q_bb_0 := bb.cell 0
    have q_bb_1 := bb.cell 1
    have q_bb_2 := bb.cell 2
    have n_bb := bb.lt
    go_wp2_with fail
    clear q_ba_0 q_ba_1 q_ba_2 n_ba q_bb_0 q_bb_1 q_bb_2 n_bb
    refine (l02Ok_any _ x' y' _ ys true (yes_iff O2.out) _ ⟨bb, hq.ints⟩).mono ?_
    rintro e w' ⟨rfl, hd⟩
    have hb := bdrawn hd
    obtain ⟨w2, rfl⟩ : ∃ x, x = w' := ⟨w', rfl⟩
    clear hd
    have sz_2 := hb.size
    try simp only [World.size_alloc] at sz_2
    replace hp := hp.below hb
    replace hq := hq.below hb
    replace ba := ba.below hb
    replace bb := bb.below hb
    replace bl := bnext bl hb
    clear hb
    have q_ba_0 := ba.cell 0
    have q_ba_1 := ba.cell 1
    have q_ba_2 := ba.cell 2
    have n_ba := ba.lt
    have q_bb_0 := bb.cell 0
    have q_bb_1 := bb.cell 1
    have q_bb_2 := bb.cell 2
    have n_bb := bb.lt
    go_wp2_with fail
    clear q_ba_0 q_ba_1 q_ba_2 n_ba q_bb_0 q_bb_1 q_bb_2 n_bb
    go_ret2
    exact ⟨rfl, bl⟩
  by_cases e2 : y = y'
  rotate_left
  · skip
    obtain ⟨rfl, rfl⟩ : 0 = r0 ∧ 6 = r1 := by simpa [distM, o1, o2, e2] using hm
    clear hm
    have t1 : (x != x') = false := by simp [e1]
    have t2 : (y != y') = true := by simp [e2]
    clear o1 o2 e1 e2
    go_enter Try.func11, Try.ntmps11
    have q_ba_0 := ba.cell 0
    have q_ba_1 := ba.cell 1
    have q_ba_2 := ba.cell 2
    have n_ba := ba.lt
    have q_bb_0 := bb.cell 0
    have q_bb_1 := bb.cell 1
    have q_bb_2 := bb.cell 2
    have n_bb := bb.lt
    go_wp2_with fail
    clear q_ba_0 q_ba_1 q_ba_2 n_ba q_bb_0 q_bb_1 q_bb_2 n_bb
    refine (l02Ok_any _ x y _ xs true (yes_iff O1.out) _ ⟨ba, hp.ints⟩).mono ?_
    rintro e w' ⟨rfl, hd⟩
    have hb := bdrawn hd
    obtain ⟨w1, rfl⟩ : ∃ x, x = w' := ⟨w', rfl⟩
    clear hd
    have sz_1 := hb.size
    try simp only [World.size_alloc] at sz_1
    replace hp := hp.below hb
    replace hq := hq.below hb
    replace ba := ba.below hb
    replace bb := bb.below hb
    replace bl := bnext bl hb
    clear hb
    have q_ba_0 := ba.cell 0
    have q_ba_1 := ba.cell 1
    have q_ba_2 := ba.cell 2
    have n_ba := ba.lt
    have q_bb_0 := bb.cell 0
    have q_bb_1 := bb.cell 1
    have q_bb_2 := bb.cell 2
    have n_bb := bb.lt
    go_wp2_with fail
    clear q_ba_0 q_ba_1 q_ba_2 n_ba q_bb_0 q_bb_1 q_bb_2 n_bb
    refine (l02Ok_any _ x' y' _ ys true (yes_iff O2.out) _ ⟨bb, hq.ints⟩).mono ?_
    rintro e w' ⟨rfl, hd⟩
    have hb := bdrawn hd
    obtain ⟨w2, rfl⟩ : ∃ x, x = w' := ⟨w', rfl⟩
    clear hd
    have sz_2 := hb.size
    try simp only [World.size_alloc] at sz_2
    replace hp := hp.below hb
    replace hq := hq.below hb
    replace ba := ba.below hb
    replace bb := bb.below hb
    replace bl := bnext bl hb
    clear hb
    have q_ba_0 := ba.cell 0
    have q_ba_1 := ba.cell 1
    have q_ba_2 := ba.cell 2
    have n_ba := ba.lt
    have q_bb_0 := bb.cell 0
    have q_bb_1 := bb.cell 1
    have q_bb_2 := bb.cell 2
    have n_bb := bb.lt
    go_wp2_with fail
    clear q_ba_0 q_ba_1 q_ba_2 n_ba q_bb_0 q_bb_1 q_bb_2 n_bb
    go_ret2
    exact ⟨rfl, bl⟩
  have t1 : (x != x') = false := by simp [e1]
  have t2 : (y != y') = false := by simp [e2]
  have hl : xs.length = ys.length := by
    have := o1.len
    have := o2.len
    subst e1 e2
    simp only at *
    omega
  have hm2 : (neTo xs ys xs.length, (0 : Int)) = (r0, r1) := by
    rw [← hm]
    unfold distM
    rw [if_pos ⟨o1, o2⟩, if_pos ⟨e1, e2⟩]
  have hm' : Hid (neTo xs ys xs.length = r0 ∧ 0 = r1) := Lib.hid (by simpa using hm2)
  clear hm2
  have hl1 : xs.length ≤ ys.length := by omega
  clear hm o1 o2 e1 e2 hl
  go_enter Try.func11, Try.ntmps11
  have q_ba_0 := ba.cell 0
  have q_ba_1 := ba.cell 1
  have q_ba_2 := ba.cell 2
  have n_ba := ba.lt
  have q_bb_0 := bb.cell 0
  have q_bb_1 := bb.cell 1
  have q_bb_2 := bb.cell 2
  have n_bb := bb.lt
  go_wp2_with fail
  clear q_ba_0 q_ba_1 q_ba_2 n_ba q_bb_0 q_bb_1 q_bb_2 n_bb
  refine (l02Ok_any _ x y _ xs true (yes_iff O1.out) _ ⟨ba, hp.ints⟩).mono ?_
  rintro e w' ⟨rfl, hd⟩
  have hb := bdrawn hd
  obtain ⟨w1, rfl⟩ : ∃ x, x = w' := ⟨w', rfl⟩
  clear hd
  have sz_1 := hb.size
  try simp only [World.size_alloc] at sz_1
  replace hp := hp.below hb
  replace hq := hq.below hb
  replace ba := ba.below hb
  replace bb := bb.below hb
  replace bl := bnext bl hb
  clear hb
  have q_ba_0 := ba.cell 0
  have q_ba_1 := ba.cell 1
  have q_ba_2 := ba.cell 2
  have n_ba := ba.lt
  have q_bb_0 := bb.cell 0
  have q_bb_1 := bb.cell 1
  have q_bb_2 := bb.cell 2
  have n_bb := bb.lt
  go_wp2_with fail
  clear q_ba_0 q_ba_1 q_ba_2 n_ba q_bb_0 q_bb_1 q_bb_2 n_bb
  refine (l02Ok_any _ x' y' _ ys true (yes_iff O2.out) _ ⟨bb, hq.ints⟩).mono ?_
  rintro e w' ⟨rfl, hd⟩
  have hb := bdrawn hd
  obtain ⟨w2, rfl⟩ : ∃ x, x = w' := ⟨w', rfl⟩
  clear hd
  have sz_2 := hb.size
  try simp only [World.size_alloc] at sz_2
  replace hp := hp.below hb
  replace hq := hq.below hb
  replace ba := ba.below hb
  replace bb := bb.below hb
  replace bl := bnext bl hb
  clear hb
  have q_ba_0 := ba.cell 0
  have q_ba_1 := ba.cell 1
  have q_ba_2 := ba.cell 2
  have n_ba := ba.lt
  have q_bb_0 := bb.cell 0
  have q_bb_1 := bb.cell 1
  have q_bb_2 := bb.cell 2
  have n_bb := bb.lt
  go_wp2_with fail
  clear q_ba_0 q_ba_1 q_ba_2 n_ba q_bb_0 q_bb_1 q_bb_2 n_bb
  go_loopw [6, 7] (fun m i wr => ∃ k : Nat, k ≤ xs.length ∧ m = .int .i64 (neTo xs ys k) ∧ i = .int .i64 k ∧ ∃ n, w2.drewN n = wr) (fun _ i _ => xs.length - (intOf i).toNat)
  case atStart => exact ⟨0, Nat.zero_le _, rfl, rfl, 0, rfl⟩
  case round =>
    obtain ⟨k, hk, rfl, rfl, n, rfl⟩ := hrel
    have q0 := ba.cell 0
    have q1 := ba.cell 1
    have q2 := ba.cell 2
    have q3 := bb.cell 0
    have q4 := bb.cell 1
    have q5 := bb.cell 2
    have nb := neTo_bd xs ys k
    by_cases hlt : k < xs.length
    · obtain ⟨g, rfl, _, _⟩ := hA (by omega)
      obtain ⟨g', rfl, _, _⟩ := hD (by omega)
      have c1 := Ints.cell hp.1 (k := k) hlt
      have c2 := Ints.cell hq.1 (k := k) (by omega)
      have i1 : (k : Int) < (xs.length : Int) := by omega
      have i2 : (k : Int) < (ys.length : Int) := by omega
      have i0 : (0 : Int) ≤ (k : Int) := by omega
      by_cases he : gI xs k = gI ys k
      · have hne : (gI xs k != gI ys k) = false := by simp [he]
        have HE := Lib.hid (neTo_eq he)
        clear hA hD hp hq ba bb he
        go_wp2
        go_quiet (fail)
        go_wp2
        go_roundw
        case rel => exact ⟨k + 1, by omega, by rw [HE.out], by go_num, by first | exact ⟨_, rfl⟩ | exact drawn2 _ _ _⟩
        case measure => simp [intOf]; omega
      · have hne : (gI xs k != gI ys k) = true := by simp [he]
        have HE := Lib.hid (neTo_ne he)
        clear hA hD hp hq ba bb he
        go_wp2
        go_quiet (fail)
        go_wp2
        go_roundw
        case rel => exact ⟨k + 1, by omega, by rw [HE.out], by go_num, by first | exact ⟨_, rfl⟩ | exact drawn2 _ _ _⟩
        case measure => simp [intOf]; omega
    · have e : k = xs.length := by omega
      subst e
      obtain ⟨h0, h1⟩ := hm'.out
      have H0 := Lib.hid h0
      have H1 := Lib.hid h1
      clear hA hD hp hq ba bb hm' h0 h1
      go_wp2
      go_ret2
      exact ⟨ret_pair H0.out H1.out, bnext bl (below_drewN _ _ _)⟩

end Go.Proofs.Ytmagomiehgcbjaa
