/-
  Valid Joined values, as the program and the reference test them.
-/
import Derived.Test.YtcfdbjjfdddfeaaKJoin
import Derived.Test.YtcfdbjjfdddfeaaPlAllC
namespace Go.Proofs.Ytcfdbjjfdddfeaa
open Go.RowKit Knot

set_option maxHeartbeats 400000 in
theorem hasIndex_any (k n : Int) (c : Bool) (h : inR k 0 (n - 1) = c) (w : World) (h0 : 0 ≤ n) (h1 : n ≤ 9000000000000000000) :
    Calls Try.prog 63 #[.int .i64 k, .int .i64 n] w fun e w' => e = .returned (.bool c) ∧ w = w' := by
  go_enter Try.func63, Try.ntmps63
  go_wp2_with (go_at_call 59; refine (inRange_any _ _ _ c h _).mono ?_; rintro e w' ⟨rfl, rfl⟩)
  go_ret
  exact ⟨rfl, rfl⟩
theorem cntJ_eq {xs : List Int} {k : Nat} (h : gI xs k = k) : cntJ xs (k + 1) = cntJ xs k := by
  show cntJ xs k + (if gI xs k = k then 0 else 1) = _
  rw [if_pos h, Nat.add_zero]
theorem cntJ_ne {xs : List Int} {k : Nat} (h : ¬ gI xs k = k) : cntJ xs (k + 1) = cntJ xs k + 1 := by
  show cntJ xs k + (if gI xs k = k then 0 else 1) = _
  rw [if_neg h]

set_option maxHeartbeats 8000000 in
theorem ValidJoined_any {w : World} {v u : Value} {xs ys : List Int} {c : Bool} (hp : Ints w 0 v xs) (hq : Ints w 0 u ys) (hc : c = true ↔ OkJ xs ys) :
    Calls Try.prog 25 #[.agg #[v, u]] w fun e w' => e = .returned (.bool c) ∧ Below w.heap.size w w' := by
  rw [okJ_fit] at hc
  obtain ⟨A, cA, rfl, lA, hA⟩ := hp.open_
  obtain ⟨D, cD, rfl, lD, hD⟩ := hq.open_
  unfold maxLen at lA lD
  obtain ⟨i0, hi, hz0, hz1, hz2⟩ := info_parts info_bool
  have bl := Joins.below_alloc1 w (.cells #[.slice A xs.length cA, .slice D ys.length cD] 27)
  have hp1 : Ints (w.alloc (.cells #[.slice A xs.length cA, .slice D ys.length cD] 27)) 0 _ xs := Row.below hp bl
  have hq1 : Ints (w.alloc (.cells #[.slice A xs.length cA, .slice D ys.length cD] 27)) 0 _ ys := Row.below hq bl
  have ba := Box.new w 27 #[.slice A xs.length cA, .slice D ys.length cD]
  have n0 := ba.lt
  clear hp hq
  by_cases hn : 1 ≤ (xs.length : Int) ∧ (xs.length : Int) ≤ 256
  rotate_left
  · have HN := Lib.hid (inR_f hn)
    have hcf := bool_false hc (fun h => hn h.1)
    subst hcf
    have q0 := ba.cell 0
    clear hn hc hA hD hp1 hq1 ba hi hz0 hz1 hz2
    go_enter Try.func25, Try.ntmps25
    go_wp2_with (go_at_call 59; refine (inRange_any _ _ _ _ HN.out _).mono ?_; rintro e w' ⟨rfl, rfl⟩)
    go_ret
    exact ⟨rfl, bl⟩
  have HN := Lib.hid (inR_t hn)
  obtain ⟨n1, n2⟩ := hn
  have q0 := ba.cell 0
  have q1 := ba.cell 1
  go_enter Try.func25, Try.ntmps25
  go_wp2_with (go_at_call 59; refine (inRange_any _ _ _ _ HN.out _).mono ?_; rintro e w' ⟨rfl, rfl⟩)
  go_loop [4, 19] (fun m i => ∃ k : Nat, k ≤ xs.length ∧ m = .int .i64 (cntJ xs k) ∧ i = .int .i64 k ∧ Hid (ParRange xs k)) (fun _ i => xs.length - (intOf i).toNat)
  case atStart => exact ⟨0, Nat.zero_le _, rfl, rfl, fun j hj => absurd hj (by omega)⟩
  case round =>
    obtain ⟨k, hk, rfl, rfl, hall⟩ := hrel
    have nb := cntJ_le xs k
    by_cases hlt : k < xs.length
    · obtain ⟨g, rfl, _, _⟩ := hA (by omega)
      have c1 := Ints.cell hp1 (k := k) hlt
      have i1 : (k : Int) < (xs.length : Int) := by omega
      by_cases hr : 0 ≤ gI xs k ∧ gI xs k ≤ (xs.length : Int) - 1
      · have HR := Lib.hid (inR_t hr)
        have HK := Lib.hid hr
        have hall' : Hid (ParRange xs (k + 1)) := fun j hj => by
          by_cases hjk : j = k
          · subst hjk; exact HK.out
          · exact hall.out j (by omega)
        by_cases he : gI xs k = k
        · have hne : (gI xs k != (k : Int)) = false := by simp [he]
          have HE := Lib.hid (cntJ_eq he)
          clear hc hA hD hp1 hq1 ba hr he hi hz0 hz1 hz2
          go_wp2_with (go_at_call 63; refine (hasIndex_any _ _ _ HR.out _ (by omega) (by omega)).mono ?_; rintro e w' ⟨rfl, rfl⟩)
          go_round
          case rel => exact ⟨k + 1, by omega, by rw [HE.out], by go_num, hall'⟩
          case measure => simp [intOf]; omega
        · have hne : (gI xs k != (k : Int)) = true := by simp [he]
          have HE := Lib.hid (cntJ_ne he)
          clear hc hA hD hp1 hq1 ba hr he hi hz0 hz1 hz2
          go_wp2_with (go_at_call 63; refine (hasIndex_any _ _ _ HR.out _ (by omega) (by omega)).mono ?_; rintro e w' ⟨rfl, rfl⟩)
          go_round
          case rel => exact ⟨k + 1, by omega, by rw [HE.out]; go_num, by go_num, hall'⟩
          case measure => simp [intOf]; omega
      · have HR := Lib.hid (inR_f hr)
        have hcf := bool_false hc (fun h => hr (h.2.1 k hlt))
        subst hcf
        clear hc hA hD hp1 hq1 ba hr hi hz0 hz1 hz2
        go_wp2_with (go_at_call 63; refine (hasIndex_any _ _ _ HR.out _ (by omega) (by omega)).mono ?_; rintro e w' ⟨rfl, rfl⟩)
        go_ret
        exact ⟨rfl, bl⟩
    · have e : k = xs.length := by omega
      subst e
      by_cases hcnt : ys.length = cntJ xs xs.length
      rotate_left
      · have hne : ((ys.length : Int) != (cntJ xs xs.length : Int)) = true := by simp; omega
        have hcf := bool_false hc (fun h => hcnt h.2.2.1)
        subst hcf
        clear hc hA hD hp1 hq1 ba hi hz0 hz1 hz2 hcnt
        go_wp2
        go_ret
        exact ⟨rfl, bl⟩
      have hne : ((ys.length : Int) != (cntJ xs xs.length : Int)) = false := by simp; omega
      have HC := Lib.hid hcnt
      clear hcnt
      go_wp2_with (at_make; refine wpList_make_full _ rfl _ _ 74 rfl (w.heap.size + 1) 4 i0 (.bool false) 1 Try.underlying74 hi hz0 hz1 _ _ _ _ xs.length rfl rfl (by omega) (by omega) (by rw [hz2]; omega) (by unfold maxLen; omega) (by rw [World.size_alloc]; omega) ?_)
      intro w1 hown hgrow
      have hb1 : Below (w.heap.size + 1) (w.alloc (.cells #[.slice A xs.length cA, .slice D ys.length cD] 27)) w1 := (Below.refl _ _).grown hgrow (by rw [World.size_alloc]; omega) (by simp)
      have H1 : Bools w1 (w.heap.size + 1) (.slice (some ⟨w.heap.size + 1, 0, none⟩) xs.length xs.length) (marksJ xs.length ys 0) := by
        rw [marksJ_zero]
        unfold Bools Row
        rw [List.length_replicate, List.map_replicate]
        simpa [Value.cells, toList_madeCells_one] using hown
      clear hown hgrow hi hz0 hz1 hz2 hne q0 q1
      have ba1 := ba.below (w' := w1) (by rw [World.size_alloc]; exact hb1)
      have q0 := ba1.cell 0
      have q1 := ba1.cell 1
      have n0' := ba1.lt
      go_wp2
      clear q0 q1 n0' ba1
      go_loopw [44] (fun i wr => ∃ k : Nat, k ≤ ys.length ∧ i = .int .i64 k ∧ Bools wr (w.heap.size + 1) (.slice (some ⟨w.heap.size + 1, 0, none⟩) xs.length xs.length) (marksJ xs.length ys k) ∧
          Below (w.heap.size + 1) (w.alloc (.cells #[.slice A xs.length cA, .slice D ys.length cD] 27)) wr ∧ Hid (LogFit xs ys k)) (fun i _ => ys.length - (intOf i).toNat)
      case atStart => exact ⟨0, Nat.zero_le _, rfl, H1, hb1, fun j hj => absurd hj (by omega)⟩
      case round =>
        obtain ⟨k, hk, rfl, hM, hb, hfit⟩ := hrel
        clear H1 hb1 nb hlt
        have bl2 : Below w.heap.size w wr := bl.trans (hb.mono (by omega))
        have ba2 := ba.below (w' := wr) (by rw [World.size_alloc]; exact hb)
        have q0 := ba2.cell 0
        have q1 := ba2.cell 1
        have n0' := ba2.lt
        by_cases hlt : k < ys.length
        · obtain ⟨g', rfl, _, _⟩ := hD (by omega)
          have c1 := Ints.cell (Row.below (w' := wr) hq1 (by rw [World.size_alloc]; exact hb)) (k := k) hlt
          have i1 : (k : Int) < (ys.length : Int) := by omega
          by_cases hr : 0 ≤ gI ys k ∧ gI ys k ≤ (xs.length : Int) - 1
          rotate_left
          · have HR := Lib.hid (inR_f hr)
            have hcf := bool_false hc (fun h => hr (h.2.2.2 k hlt).1)
            subst hcf
            clear hc hA hD hp1 hq1 ba ba2 hr
            go_wp2_with (go_at_call 63; refine (hasIndex_any _ _ _ HR.out _ (by omega) (by omega)).mono ?_; rintro e w' ⟨rfl, rfl⟩)
            go_ret
            exact ⟨rfl, bl2⟩
          have HR := Lib.hid (inR_t hr)
          have HK := Lib.hid hr
          obtain ⟨hr0, hr1⟩ := hr
          obtain ⟨g, rfl, _, _⟩ := hA (by omega)
          have ml : ((marksJ xs.length ys k).length : Int) = xs.length := by rw [marksJ_length]
          have cb := Bools.cellI hM (i := gI ys k) hr0 (by omega)
          rw [marksJ_get _ _ _ hr0 (by omega)] at cb
          have hp2 : Ints wr 0 (.slice (some ⟨g, 0, none⟩) xs.length cA) xs := Row.below (w' := wr) hp1 (by rw [World.size_alloc]; exact hb)
          have c2 := Ints.cellI hp2 (i := gI ys k) hr0 (by omega)
          have i2 : gI ys k < (xs.length : Int) := by omega
          by_cases hm : gI ys k ∈ ys.take k
          · have hcf := bool_false hc (fun h => (h.2.2.2 k hlt).2.1 hm)
            subst hcf
            rw [decide_eq_true hm] at cb
            clear hc hA hD hp1 hq1 ba ba2 hp2 hm
            go_wp2_with (go_at_call 63; refine (hasIndex_any _ _ _ HR.out _ (by omega) (by omega)).mono ?_; rintro e w' ⟨rfl, rfl⟩)
            go_ret
            exact ⟨rfl, bl2⟩
          rw [decide_eq_false hm] at cb
          have HM := Lib.hid hm
          by_cases he : gI xs (gI ys k) = gI ys k
          · have hcf := bool_false hc (fun h => (h.2.2.2 k hlt).2.2.1 he)
            subst hcf
            have hne : (gI xs (gI ys k) == gI ys k) = true := by simp [he]
            clear hc hA hD hp1 hq1 ba ba2 hp2 hm he
            go_wp2_with (go_at_call 63; refine (hasIndex_any _ _ _ HR.out _ (by omega) (by omega)).mono ?_; rintro e w' ⟨rfl, rfl⟩)
            go_ret
            exact ⟨rfl, bl2⟩
          have hne : (gI xs (gI ys k) == gI ys k) = false := by simp [he]
          have HE := Lib.hid he
          have hpr := hall.out (gI ys k).toNat (by omega)
          rw [show (((gI ys k).toNat : Nat) : Int) = gI ys k by omega] at hpr
          obtain ⟨hp3, hp4⟩ := hpr
          have cb2 := Bools.cellI hM (i := gI xs (gI ys k)) hp3 (by omega)
          rw [marksJ_get _ _ _ hp3 (by omega)] at cb2
          by_cases hm2 : gI xs (gI ys k) ∈ ys.take k
          · have hcf := bool_false hc (fun h => (h.2.2.2 k hlt).2.2.2 hm2)
            subst hcf
            rw [decide_eq_true hm2] at cb2
            clear hc hA hD hp1 hq1 ba ba2 hp2 hm hm2 he
            go_wp2_with (go_at_call 63; refine (hasIndex_any _ _ _ HR.out _ (by omega) (by omega)).mono ?_; rintro e w' ⟨rfl, rfl⟩)
            go_ret
            exact ⟨rfl, bl2⟩
          rw [decide_eq_false hm2] at cb2
          have HF : Hid (LogFit xs ys (k + 1)) := fun j hj => by
            by_cases hjk : j = k
            · subst hjk; exact ⟨HK.out, HM.out, HE.out, hm2⟩
            · exact hfit.out j (by omega)
          have hf := hM.free (gI ys k).toNat
          have hset := hM.set_ (gI ys k).toNat true
          rw [marksJ_set _ _ hlt hr0] at hset
          have hb2 := hb.setCell (p := ⟨w.heap.size + 1, (gI ys k).toNat, none⟩) (Nat.le_refl _) (.bool true)
          clear hc hA hD hp1 hq1 ba ba2 hp2 hm hm2 he hM hb
          go_wp2_with (go_at_call 63; refine (hasIndex_any _ _ _ HR.out _ (by omega) (by omega)).mono ?_; rintro e w' ⟨rfl, rfl⟩)
          go_roundw
          case rel => exact ⟨k + 1, by omega, by go_num, hset, hb2, HF⟩
          case measure => simp [intOf]; omega
        · have e : k = ys.length := by omega
          subst e
          have hct := bool_true hc ⟨⟨n1, n2⟩, hall.out, HC.out, hfit.out⟩
          subst hct
          clear hc hA hD hp1 hq1 ba ba2
          go_wp2
          go_ret
          exact ⟨rfl, bl2⟩

/-- A Joined behind a pointer: block b is its two cells. -/
def JAt (w : World) (b : Nat) (v u : Value) (xs ys : List Int) : Prop := Box w b 27 #[v, u] ∧ Ints w 0 v xs ∧ Ints w 0 u ys
theorem JAt.below {w w' : World} {b : Nat} {v u : Value} {xs ys : List Int} (h : JAt w b v u xs ys) (hb : Below w.heap.size w w') : JAt w' b v u xs ys := ⟨h.1.below hb, Row.below h.2.1 hb, Row.below h.2.2 hb⟩
theorem JAt.drewN {w : World} {b : Nat} {v u : Value} {xs ys : List Int} (h : JAt w b v u xs ys) (n : Nat) : JAt (w.drewN n) b v u xs ys := h
theorem JAt.alloc {w : World} {b : Nat} {v u : Value} {xs ys : List Int} (h : JAt w b v u xs ys) (o : Obj) : JAt (w.alloc o) b v u xs ys := h.below (Joins.below_alloc1 _ _)
theorem JoinedIn.boxed {w : World} {lo hi : Nat} {v u : Value} {xs ys : List Int} (h : JoinedIn w lo hi v u xs ys) : JAt (w.alloc (.cells #[v, u] 27)) w.heap.size v u xs ys :=
  ⟨Box.new _ _ _, Row.below h.1.ints (Joins.below_alloc1 _ _), Row.below h.2.1.ints (Joins.below_alloc1 _ _)⟩

set_option maxHeartbeats 8000000 in
theorem l08Ok_any {w : World} {b : Nat} {v u : Value} {xs ys : List Int} {c : Bool} (hj : JAt w b v u xs ys) (hc : c = true ↔ OkJ xs ys) :
    Calls Try.prog 62 #[.pointer (some ⟨b, 0, none⟩)] w fun e w' => e = .returned (.bool c) ∧ Below w.heap.size w w' := by
  rw [okJ_iff] at hc
  obtain ⟨A, cA, rfl, lA, hA⟩ := hj.2.1.open_
  obtain ⟨D, cD, rfl, lD, hD⟩ := hj.2.2.open_
  unfold maxLen at lA lD
  obtain ⟨i0, hi, hz0, hz1, hz2⟩ := info_parts info_bool
  have q0 := hj.1.cell 0
  have q1 := hj.1.cell 1
  have n0 := hj.1.lt
  have bl := Below.refl w.heap.size w
  by_cases hn : 1 ≤ (xs.length : Int) ∧ (xs.length : Int) ≤ 256
  rotate_left
  · have HN := Lib.hid (inR_f hn)
    have hcf := bool_false hc (fun h => hn h.1)
    subst hcf
    clear hn hc hA hD hj hi hz0 hz1 hz2
    go_enter Try.func62, Try.ntmps62
    go_wp2_with (go_at_call 57; refine (l00In_any _ _ _ _ HN.out _).mono ?_; rintro e w' ⟨rfl, rfl⟩)
    go_ret
    exact ⟨rfl, bl⟩
  have HN := Lib.hid (inR_t hn)
  obtain ⟨n1, n2⟩ := hn
  go_enter Try.func62, Try.ntmps62
  go_wp2_with fail
  refine (l00In_any _ _ _ _ HN.out _).mono ?_
  rintro e w' ⟨rfl, rfl⟩
  go_wp2_with (at_make; refine wpList_make_full _ rfl _ _ 74 rfl w.heap.size 4 i0 (.bool false) 1 Try.underlying74 hi hz0 hz1 _ _ _ _ xs.length rfl rfl (by omega) (by omega) (by rw [hz2]; omega) (by unfold maxLen; omega) (Nat.le_refl _) ?_)
  intro w1 hown hgrow
  have hb1 : Below w.heap.size w w1 := (Below.refl _ _).grown hgrow (Nat.le_refl _) (by simp)
  have H1 : Bools w1 w.heap.size (.slice (some ⟨w.heap.size, 0, none⟩) xs.length xs.length) (marksJ xs.length ys 0) := by
    rw [marksJ_zero]
    unfold Bools Row
    rw [List.length_replicate, List.map_replicate]
    simpa [Value.cells, toList_madeCells_one] using hown
  clear hown hgrow q0 q1 n0
  have j1 := hj.below hb1
  have q0 := j1.1.cell 0
  have q1 := j1.1.cell 1
  have n0 := j1.1.lt
  go_wp2
  clear q0 q1 n0 j1
  go_loopw [5] (fun i wr => ∃ k : Nat, k ≤ ys.length ∧ i = .int .i64 k ∧ Bools wr w.heap.size (.slice (some ⟨w.heap.size, 0, none⟩) xs.length xs.length) (marksJ xs.length ys k) ∧
      Below w.heap.size w wr ∧ Hid (LogIn xs ys k)) (fun i _ => ys.length - (intOf i).toNat)
  case atStart => exact ⟨0, Nat.zero_le _, rfl, H1, hb1, fun j hj => absurd hj (by omega)⟩
  case round =>
    obtain ⟨k, hk, rfl, hM, hb, hfit⟩ := hrel
    obtain ⟨W1, hW1⟩ : ∃ x, x = wr := ⟨wr, rfl⟩
    subst hW1
    clear H1 hb1
    have j2 := hj.below hb
    have q0 := j2.1.cell 0
    have q1 := j2.1.cell 1
    have n0 := j2.1.lt
    by_cases hlt : k < ys.length
    · obtain ⟨g', rfl, _, _⟩ := hD (by omega)
      have c1 := Ints.cell j2.2.2 (k := k) hlt
      have i1 : (k : Int) < (ys.length : Int) := by omega
      by_cases hr : 0 ≤ gI ys k ∧ gI ys k ≤ (xs.length : Int) - 1
      rotate_left
      · have HR := Lib.hid (inR_f hr)
        have hcf := bool_false hc (fun h => hr (h.2.1 k hlt).1)
        subst hcf
        clear hc hA hD hj j2 hr hi hz0 hz1 hz2
        go_wp2_with (go_at_call 57; refine (l00In_any _ _ _ _ HR.out _).mono ?_; rintro e w' ⟨rfl, rfl⟩)
        go_ret
        exact ⟨rfl, hb⟩
      have HR := Lib.hid (inR_t hr)
      have HK := Lib.hid hr
      obtain ⟨hr0, hr1⟩ := hr
      have ml : ((marksJ xs.length ys k).length : Int) = xs.length := by rw [marksJ_length]
      have cb := Bools.cellI hM (i := gI ys k) hr0 (by omega)
      rw [marksJ_get _ _ _ hr0 (by omega)] at cb
      have i2 : gI ys k < (xs.length : Int) := by omega
      by_cases hm : gI ys k ∈ ys.take k
      · have hcf := bool_false hc (fun h => (h.2.1 k hlt).2 hm)
        subst hcf
        rw [decide_eq_true hm] at cb
        clear hc hA hD hj j2 hm hi hz0 hz1 hz2
        go_wp2_with (go_at_call 57; refine (l00In_any _ _ _ _ HR.out _).mono ?_; rintro e w' ⟨rfl, rfl⟩)
        go_ret
        exact ⟨rfl, hb⟩
      rw [decide_eq_false hm] at cb
      have HF : Hid (LogIn xs ys (k + 1)) := fun j hj => by
        by_cases hjk : j = k
        · subst hjk; exact ⟨HK.out, hm⟩
        · exact hfit.out j (by omega)
      have hf := hM.free (gI ys k).toNat
      have hset := hM.set_ (gI ys k).toNat true
      rw [marksJ_set _ _ hlt hr0] at hset
      have hb2 := hb.setCell (p := ⟨w.heap.size, (gI ys k).toNat, none⟩) (Nat.le_refl _) (.bool true)
      clear hc hA hD hj j2 hm hM hb hi hz0 hz1 hz2
      go_wp2_with (go_at_call 57; refine (l00In_any _ _ _ _ HR.out _).mono ?_; rintro e w' ⟨rfl, rfl⟩)
      go_roundw
      case rel => exact ⟨k + 1, by omega, by go_num, hset, hb2, HF⟩
      case measure => simp [intOf]; omega
    · have e : k = ys.length := by omega
      subst e
      go_wp2
      go_loopw [7] (fun i w2 => ∃ k : Nat, k ≤ xs.length ∧ i = .int .i64 k ∧ (∃ n, W1.drewN n = w2) ∧ Hid (ParIn xs ys k)) (fun i _ => xs.length - (intOf i).toNat)
      case atStart => exact ⟨0, Nat.zero_le _, rfl, ⟨0, rfl⟩, fun j hj => absurd hj (by omega)⟩
      case round =>
        obtain ⟨k, hk, rfl, ⟨n, rfl⟩, hpar⟩ := hrel
        by_cases hlt2 : k < xs.length
        · obtain ⟨g, rfl, _, _⟩ := hA (by omega)
          have c2 := Ints.cell j2.2.1 (k := k) hlt2
          have i2 : (k : Int) < (xs.length : Int) := by omega
          have ml : (marksJ xs.length ys ys.length).length = xs.length := by rw [marksJ_length]
          have cb := Bools.cell hM (k := k) (by omega)
          rw [marksJ_get _ _ _ (by omega) (by omega), List.take_length] at cb
          by_cases hr : 0 ≤ gI xs k ∧ gI xs k ≤ (xs.length : Int) - 1
          rotate_left
          · have HR := Lib.hid (inR_f hr)
            have hcf := bool_false hc (fun h => hr (h.2.2.1 k hlt2).1)
            subst hcf
            clear hc hA hD hj j2 hr hi hz0 hz1 hz2 hM
            go_wp2
            go_quiet ((go_at_call 57; first | with_reducible exact qsame (l00In_any _ _ _ _ HR.out _) | with_reducible exact qsame2 (l00In_any _ _ _ _ HR.out _)))
            go_wp2
            go_ret
            exact ⟨rfl, (hb.trans (below_drewN _ _ _)).trans (below_drewN _ _ _)⟩
          have HR := Lib.hid (inR_t hr)
          have HK := Lib.hid hr
          by_cases he : gI xs k = k
          · have hne : (gI xs k == (k : Int)) = true := by simp [he]
            by_cases hm : (k : Int) ∈ ys
            · rw [decide_eq_true hm] at cb
              have hcf := bool_false hc (fun h => ((h.2.2.1 k hlt2).2.1 hm) he)
              subst hcf
              clear hc hA hD hj j2 hr hi hz0 hz1 hz2 hM hm he
              go_wp2
              go_quiet ((go_at_call 57; first | with_reducible exact qsame (l00In_any _ _ _ _ HR.out _) | with_reducible exact qsame2 (l00In_any _ _ _ _ HR.out _)))
              go_wp2
              go_ret
              exact ⟨rfl, (hb.trans (below_drewN _ _ _)).trans (below_drewN _ _ _)⟩
            · rw [decide_eq_false hm] at cb
              have HF : Hid (ParIn xs ys (k + 1)) := fun j hj => by
                by_cases hjk : j = k
                · subst hjk; exact ⟨HK.out, ⟨fun h => absurd h hm, fun h => absurd he h⟩⟩
                · exact hpar.out j (by omega)
              clear hc hA hD hj j2 hr hi hz0 hz1 hz2 hM hm he
              go_wp2
              go_quiet ((go_at_call 57; first | with_reducible exact qsame (l00In_any _ _ _ _ HR.out _) | with_reducible exact qsame2 (l00In_any _ _ _ _ HR.out _)))
              go_wp2
              go_roundw
              case rel => exact ⟨k + 1, by omega, by go_num, ⟨_, rfl⟩, HF⟩
              case measure => simp [intOf]; omega
          · have hne : (gI xs k == (k : Int)) = false := by simp [he]
            by_cases hm : (k : Int) ∈ ys
            · rw [decide_eq_true hm] at cb
              have HF : Hid (ParIn xs ys (k + 1)) := fun j hj => by
                by_cases hjk : j = k
                · subst hjk; exact ⟨HK.out, ⟨fun _ => he, fun _ => hm⟩⟩
                · exact hpar.out j (by omega)
              clear hc hA hD hj j2 hr hi hz0 hz1 hz2 hM hm he
              go_wp2
              go_quiet ((go_at_call 57; first | with_reducible exact qsame (l00In_any _ _ _ _ HR.out _) | with_reducible exact qsame2 (l00In_any _ _ _ _ HR.out _)))
              go_wp2
              go_roundw
              case rel => exact ⟨k + 1, by omega, by go_num, ⟨_, rfl⟩, HF⟩
              case measure => simp [intOf]; omega
            · rw [decide_eq_false hm] at cb
              have hcf := bool_false hc (fun h => hm ((h.2.2.1 k hlt2).2.2 he))
              subst hcf
              clear hc hA hD hj j2 hr hi hz0 hz1 hz2 hM hm he
              go_wp2
              go_quiet ((go_at_call 57; first | with_reducible exact qsame (l00In_any _ _ _ _ HR.out _) | with_reducible exact qsame2 (l00In_any _ _ _ _ HR.out _)))
              go_wp2
              go_ret
              exact ⟨rfl, (hb.trans (below_drewN _ _ _)).trans (below_drewN _ _ _)⟩
        · have e : k = xs.length := by omega
          subst e
          have hs := hb.size
          go_wp2_with (at_make; refine wpList_make_full _ rfl _ _ 74 rfl W1.heap.size 4 i0 (.bool false) 1 Try.underlying74 hi hz0 hz1 _ _ _ _ xs.length rfl rfl (by omega) (by omega) (by rw [hz2]; omega) (by unfold maxLen; omega) (Nat.le_refl _) ?_)
          intro w3 hown hgrow
          have hb3 : Below W1.heap.size W1 w3 := (below_drewN W1.heap.size W1 n).grown hgrow (Nat.le_refl _) (by simp)
          have H3 : Bools w3 W1.heap.size (.slice (some ⟨W1.heap.size, 0, none⟩) xs.length xs.length) (marksJ xs.length ys 0) := by
            rw [marksJ_zero]
            unfold Bools Row
            rw [List.length_replicate, List.map_replicate]
            simpa [Value.cells, toList_madeCells_one] using hown
          clear hown hgrow q0 q1 n0 hM hlt2
          have j3 := j2.below hb3
          have q0 := j3.1.cell 0
          have q1 := j3.1.cell 1
          have n0 := j3.1.lt
          go_wp2
          clear q0 q1 n0 j3
          go_loopw [9] (fun i w4 => ∃ k : Nat, k ≤ ys.length ∧ i = .int .i64 k ∧ Bools w4 W1.heap.size (.slice (some ⟨W1.heap.size, 0, none⟩) xs.length xs.length) (marksJ xs.length ys k) ∧
              Below W1.heap.size W1 w4 ∧ Hid (LogOrd xs ys k)) (fun i _ => ys.length - (intOf i).toNat)
          case atStart => exact ⟨0, Nat.zero_le _, rfl, H3, hb3, fun j hj => absurd hj (by omega)⟩
          case round =>
            obtain ⟨k, hk, rfl, hM, hb4, hord⟩ := hrel
            clear H3 hb3
            have bl4 := bnext hb hb4
            have j4 := j2.below hb4
            have q0 := j4.1.cell 0
            have q1 := j4.1.cell 1
            have n0 := j4.1.lt
            by_cases hlt : k < ys.length
            · obtain ⟨g', rfl, _, _⟩ := hD (by omega)
              obtain ⟨g, rfl, _, _⟩ := hA (by omega)
              have c1 := Ints.cell j4.2.2 (k := k) hlt
              have i1 : (k : Int) < (ys.length : Int) := by omega
              have hl := (hfit.out k hlt).1
              obtain ⟨hr0, hr1⟩ := hl
              have c2 := Ints.cellI j4.2.1 (i := gI ys k) hr0 (by omega)
              have i2 : gI ys k < (xs.length : Int) := by omega
              have hpr := (hpar.out (gI ys k).toNat (by omega)).1
              rw [show (((gI ys k).toNat : Nat) : Int) = gI ys k by omega] at hpr
              obtain ⟨hp3, hp4⟩ := hpr
              have i3 : gI xs (gI ys k) < (xs.length : Int) := by omega
              have ml : ((marksJ xs.length ys k).length : Int) = xs.length := by rw [marksJ_length]
              have cb := Bools.cellI hM (i := gI xs (gI ys k)) hp3 (by omega)
              rw [marksJ_get _ _ _ hp3 (by omega)] at cb
              by_cases hm : gI xs (gI ys k) ∈ ys.take k
              · have hcf := bool_false hc (fun h => h.2.2.2 k hlt hm)
                subst hcf
                rw [decide_eq_true hm] at cb
                clear hc hA hD hj j2 j4 hm hi hz0 hz1 hz2
                go_wp2
                go_ret
                exact ⟨rfl, bl4⟩
              rw [decide_eq_false hm] at cb
              have HF : Hid (LogOrd xs ys (k + 1)) := fun j hj => by
                by_cases hjk : j = k
                · subst hjk; exact hm
                · exact hord.out j (by omega)
              have hf := hM.free (gI ys k).toNat
              have hset := hM.set_ (gI ys k).toNat true
              rw [marksJ_set _ _ hlt hr0] at hset
              have cs := Bools.cellI hM (i := gI ys k) hr0 (by omega)
              have hb5 := hb4.setCell (p := ⟨W1.heap.size, (gI ys k).toNat, none⟩) (by simp) (.bool true)
              clear hc hA hD hj j2 j4 hm hM hb4 hi hz0 hz1 hz2
              go_wp2
              go_roundw
              case rel => exact ⟨k + 1, by omega, by go_num, hset, hb5, HF⟩
              case measure => simp [intOf]; omega
            · have e : k = ys.length := by omega
              subst e
              have hct := bool_true hc ⟨⟨n1, n2⟩, hfit.out, hpar.out, hord.out⟩
              subst hct
              clear hc hA hD hj j2 j4 hi hz0 hz1 hz2
              go_wp2
              go_ret
              exact ⟨rfl, bl4⟩
end Go.Proofs.Ytcfdbjjfdddfeaa
