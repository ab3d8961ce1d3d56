/-
  CountBreaks and StripCurves, by the program and by the reference.
-/
import Derived.Test.YtnldahadldolpaaVal
namespace Go.Proofs.Ytnldahadldolpaa
open Go.RowKit Knot


/-- How many of the first k numbers are kd. -/
def cntTo (xs : List Int) (kd : Int) : Nat → Int
  | 0 => 0
  | k + 1 => if gI xs k = kd then cntTo xs kd k + 1 else cntTo xs kd k
theorem cntTo_bd (xs : List Int) (kd : Int) (k : Nat) : 0 ≤ cntTo xs kd k ∧ cntTo xs kd k ≤ k := by
  induction k with
  | zero => exact ⟨Int.le_refl _, Int.le_refl _⟩
  | succ k ih => unfold cntTo; split <;> omega
theorem cntTo_eq {xs : List Int} {kd : Int} {k : Nat} (h : gI xs k = kd) : cntTo xs kd (k + 1) = cntTo xs kd k + 1 := by rw [cntTo, if_pos h]
theorem cntTo_ne {xs : List Int} {kd : Int} {k : Nat} (h : ¬ gI xs k = kd) : cntTo xs kd (k + 1) = cntTo xs kd k := by rw [cntTo, if_neg h]
/-- What CountBreaks answers; what StripCurves answers. -/
def cbM (p : Pan) (kd : Int) : Int × Int := if Ok p then if 0 ≤ kd ∧ kd ≤ 2 then (cntTo p.B kd p.B.length, 0) else (0, 2) else (0, 1)
def stripM (p : Pan) : Int × Int := if Ok p then if p.H = 1 then (cntTo p.B 1 p.B.length + 1, 0) else (0, 6) else (0, 1)

set_option maxHeartbeats 400000 in
theorem l02Kind_any (x : Int) (c : Bool) (h : inR x 0 2 = c) (w : World) :
    Calls Try.prog 84 #[.int .i64 x] w fun e w' => e = .returned (.bool c) ∧ w = w' := by
  go_enter Try.func84, Try.ntmps84
  go_wp2_with (go_at_call 78; refine (l00In_any x _ _ _ h _).mono ?_; rintro e w' ⟨rfl, rfl⟩)
  go_ret
  exact ⟨rfl, rfl⟩
set_option maxHeartbeats 4000000 in
theorem K_spec_CountBreaks {w : World} {lo hi : Nat} {x y kd : Int} {v : Value} {xs : List Int} {r0 r1 : Int} (hp : IntsIn w lo hi v xs) (hm : cbM ⟨x, y, xs⟩ kd = (r0, r1)) :
    Calls Try.prog 51 #[.agg #[.int .i64 x, .int .i64 y, v], .int .i64 kd] w fun e w' => e = .returned (.tuple #[.int .i64 r0, .int .i64 r1]) ∧ Below w.heap.size w w' := by
  obtain ⟨A, cA, rfl, lA, hA⟩ := hp.1.open_
  have l1 := hp.len
  have bl := Below.refl w.heap.size w
  replace hp := hp.alloc (.cells #[.int .i64 x, .int .i64 y, .slice A xs.length cA] 41)
  replace bl := bnext bl (Joins.below_alloc1 _ (.cells #[.int .i64 x, .int .i64 y, .slice A xs.length cA] 41))
  have ba := Box.new (w) 41 #[.int .i64 x, .int .i64 y, .slice A xs.length cA]
  try simp only [World.size_alloc] at ba
  by_cases o1 : Ok ⟨x, y, xs⟩
  rotate_left
  · skip
    obtain ⟨rfl, rfl⟩ : 0 = r0 ∧ 1 = r1 := by simpa [cbM, o1] using hm
    clear hm
    have O1 := Lib.hid o1
    clear o1
    go_enter Try.func51, Try.ntmps51
    have q_ba_0 := ba.cell 0
    have q_ba_1 := ba.cell 1
    have q_ba_2 := ba.cell 2
    have n_ba := ba.lt
    go_wp2_with fail
    clear q_ba_0 q_ba_1 q_ba_2 n_ba
    refine (l02Ok_any _ x y _ xs false (no_iff O1.out) _ ⟨ba, hp.ints⟩).mono ?_
    rintro e w' ⟨rfl, hd⟩
    have hb := bdrawn hd
    obtain ⟨w1, rfl⟩ : ∃ x, x = w' := ⟨w', rfl⟩
    clear hd
    have sz_1 := hb.size
    try simp only [World.size_alloc] at sz_1
    replace hp := hp.below hb
    replace ba := ba.below hb
    replace bl := bnext bl hb
    clear hb
    have q_ba_0 := ba.cell 0
    have q_ba_1 := ba.cell 1
    have q_ba_2 := ba.cell 2
    have n_ba := ba.lt
    go_wp2_with fail
    clear q_ba_0 q_ba_1 q_ba_2 n_ba
    go_ret2
    exact ⟨rfl, bl⟩
  have O1 := Lib.hid o1
  by_cases hk : 0 ≤ kd ∧ kd ≤ 2
  rotate_left
  · skip
    obtain ⟨rfl, rfl⟩ : 0 = r0 ∧ 2 = r1 := by simpa [cbM, o1, hk] using hm
    clear hm
    have HK := Lib.hid (inR_f hk)
    clear o1 hk
    go_enter Try.func51, Try.ntmps51
    have q_ba_0 := ba.cell 0
    have q_ba_1 := ba.cell 1
    have q_ba_2 := ba.cell 2
    have n_ba := ba.lt
    go_wp2_with fail
    clear q_ba_0 q_ba_1 q_ba_2 n_ba
    refine (l02Ok_any _ x y _ xs true (yes_iff O1.out) _ ⟨ba, hp.ints⟩).mono ?_
    rintro e w' ⟨rfl, hd⟩
    have hb := bdrawn hd
    obtain ⟨w1, rfl⟩ : ∃ x, x = w' := ⟨w', rfl⟩
    clear hd
    have sz_1 := hb.size
    try simp only [World.size_alloc] at sz_1
    replace hp := hp.below hb
    replace ba := ba.below hb
    replace bl := bnext bl hb
    clear hb
    have q_ba_0 := ba.cell 0
    have q_ba_1 := ba.cell 1
    have q_ba_2 := ba.cell 2
    have n_ba := ba.lt
    go_wp2_with fail
    clear q_ba_0 q_ba_1 q_ba_2 n_ba
    refine (l02Kind_any kd _ HK.out _).mono ?_
    rintro e w' ⟨rfl, rfl⟩
    have q_ba_0 := ba.cell 0
    have q_ba_1 := ba.cell 1
    have q_ba_2 := ba.cell 2
    have n_ba := ba.lt
    go_wp2_with fail
    clear q_ba_0 q_ba_1 q_ba_2 n_ba
    go_ret2
    exact ⟨rfl, bl⟩
  have hm' : Hid (cntTo xs kd xs.length = r0 ∧ 0 = r1) := Lib.hid (by simpa [cbM, o1, hk] using hm)
  have HK := Lib.hid (inR_t hk)
  clear hm o1 hk
  go_enter Try.func51, Try.ntmps51
  have q_ba_0 := ba.cell 0
  have q_ba_1 := ba.cell 1
  have q_ba_2 := ba.cell 2
  have n_ba := ba.lt
  go_wp2_with fail
  clear q_ba_0 q_ba_1 q_ba_2 n_ba
  refine (l02Ok_any _ x y _ xs true (yes_iff O1.out) _ ⟨ba, hp.ints⟩).mono ?_
  rintro e w' ⟨rfl, hd⟩
  have hb := bdrawn hd
  obtain ⟨w1, rfl⟩ : ∃ x, x = w' := ⟨w', rfl⟩
  clear hd
  have sz_1 := hb.size
  try simp only [World.size_alloc] at sz_1
  replace hp := hp.below hb
  replace ba := ba.below hb
  replace bl := bnext bl hb
  clear hb
  have q_ba_0 := ba.cell 0
  have q_ba_1 := ba.cell 1
  have q_ba_2 := ba.cell 2
  have n_ba := ba.lt
  go_wp2_with fail
  clear q_ba_0 q_ba_1 q_ba_2 n_ba
  refine (l02Kind_any kd _ HK.out _).mono ?_
  rintro e w' ⟨rfl, rfl⟩
  have q_ba_0 := ba.cell 0
  have q_ba_1 := ba.cell 1
  have q_ba_2 := ba.cell 2
  have n_ba := ba.lt
  go_wp2_with fail
  clear q_ba_0 q_ba_1 q_ba_2 n_ba
  go_loop [6, 7] (fun m i => ∃ k : Nat, k ≤ xs.length ∧ m = .int .i64 (cntTo xs kd k) ∧ i = .int .i64 k) (fun _ i => xs.length - (intOf i).toNat)
  case atStart => exact ⟨0, Nat.zero_le _, rfl, rfl⟩
  case round =>
    obtain ⟨k, hk, rfl, rfl⟩ := hrel
    have q0 := ba.cell 0
    have q1 := ba.cell 1
    have q2 := ba.cell 2
    have nb := cntTo_bd xs kd k
    by_cases hlt : k < xs.length
    · obtain ⟨g, rfl, _, _⟩ := hA (by omega)
      have c1 := Ints.cell hp.1 (k := k) hlt
      have i1 : (k : Int) < (xs.length : Int) := by omega
      by_cases he : gI xs k = kd
      · have hne : (gI xs k == kd) = true := by simp [he]
        have HE := Lib.hid (cntTo_eq he)
        clear hA hp ba he
        go_wp2
        go_round
        case rel => exact ⟨k + 1, by omega, by rw [HE.out], by go_num⟩
        case measure => simp [intOf]; omega
      · have hne : (gI xs k == kd) = false := by simp [he]
        have HE := Lib.hid (cntTo_ne he)
        clear hA hp ba he
        go_wp2
        go_round
        case rel => exact ⟨k + 1, by omega, by rw [HE.out], by go_num⟩
        case measure => simp [intOf]; omega
    · have e : k = xs.length := by omega
      subst e
      obtain ⟨h0, h1⟩ := hm'.out
      have H0 := Lib.hid h0
      have H1 := Lib.hid h1
      clear hA hp ba hm' h0 h1
      go_wp2
      go_ret2
      exact ⟨ret_pair H0.out H1.out, bl⟩

end Go.Proofs.Ytnldahadldolpaa
