/-
  Pairings: what the program and the reference take for one.
-/
import Derived.Test.YtnldahadldolpaaSl
namespace Go.Proofs.Ytnldahadldolpaa
open Go.RowKit Knot

set_option maxHeartbeats 400000 in
theorem hasIndex_any (k n : Int) (c : Bool) (h : inR k 0 (n - 1) = c) (w : World) (h0 : 0 ≤ n) (h1 : n ≤ 9000000000000000000) :
    Calls Try.prog 53 #[.int .i64 k, .int .i64 n] w fun e w' => e = .returned (.bool c) ∧ w = w' := by
  go_enter Try.func53, Try.ntmps53
  go_wp2_with (go_at_call 80; refine (inRange_any _ _ _ c h _).mono ?_; rintro e w' ⟨rfl, rfl⟩)
  go_ret
  exact ⟨rfl, rfl⟩

/-- Place k is paired with another one, and back. -/
def PairAt (xs : List Int) (k : Int) : Prop := 0 ≤ gI xs k ∧ gI xs k < xs.length ∧ gI xs k ≠ k ∧ gI xs (gI xs k) = k
def IsPr (xs : List Int) : Prop := 2 ≤ xs.length ∧ xs.length ≤ 16 ∧ xs.length % 2 = 0 ∧ ∀ k : Nat, k < xs.length → PairAt xs k


set_option maxHeartbeats 1600000 in
theorem IsPairing_any (v : Value) (xs : List Int) (c : Bool) (hc : c = true ↔ IsPr xs) (w : World) (B : Nat) (hx : Ints w B v xs) :
    Calls Try.prog 16 #[v] w fun e w' => e = .returned (.bool c) ∧ w = w' := by
  obtain ⟨A, cA, rfl, lA, hA⟩ := hx.open_
  unfold maxLen at lA
  by_cases hl : 2 ≤ xs.length ∧ xs.length ≤ 16 ∧ xs.length % 2 = 0
  · obtain ⟨l1, l2, l3⟩ := hl
    have m2 : ((xs.length : Int) % 2 != 0) = false := by simp; omega
    go_enter Try.func16, Try.ntmps16
    go_wp2
    go_loop [21] (fun i => ∃ k : Nat, k ≤ xs.length ∧ i = .int .i64 k ∧ Hid (∀ j : Nat, j < k → PairAt xs j)) (fun i => xs.length - (intOf i).toNat)
    case atStart => exact ⟨0, Nat.zero_le _, rfl, fun j hj => absurd hj (by omega)⟩
    case round =>
      obtain ⟨k, hk, rfl, hall⟩ := hrel
      by_cases hlt : k < xs.length
      · obtain ⟨g, rfl, _, _⟩ := hA (by omega)
        have c1 := Ints.cell hx (k := k) hlt
        have i1 : (k : Int) < (xs.length : Int) := by omega
        by_cases hr : 0 ≤ gI xs k ∧ gI xs k < xs.length
        · have c2 := Ints.cellI hx (i := gI xs k) hr.1 hr.2
          have hin : inR (gI xs k) 0 ((xs.length : Int) - 1) = true := inR_t ⟨hr.1, by omega⟩
          obtain ⟨hr1, hr2⟩ := hr
          by_cases he : gI xs k = k
          · have hcf := bool_false hc (fun h => (h.2.2.2 k hlt).2.2.1 he)
            subst hcf
            have heb : (gI xs k == (k : Int)) = true := by simp [he]
            have HIN := Lib.hid hin
            clear hc hA hx he hin c2 hr1 hr2
            go_wp2_with (go_at_call 53; refine (hasIndex_any _ _ _ HIN.out _ (by omega) (by omega)).mono ?_; rintro e w' ⟨rfl, rfl⟩)
            go_ret
            exact ⟨rfl, rfl⟩
          · have heb : (gI xs k == (k : Int)) = false := by simp [he]
            by_cases hb : gI xs (gI xs k) = k
            · have hbb : (gI xs (gI xs k) != (k : Int)) = false := by simp [hb]
              have HP : Hid (PairAt xs k) := ⟨hr1, hr2, he, hb⟩
              have HIN := Lib.hid hin
              clear hc hA hx he hb hin
              go_wp2_with (go_at_call 53; refine (hasIndex_any _ _ _ HIN.out _ (by omega) (by omega)).mono ?_; rintro e w' ⟨rfl, rfl⟩)
              go_round
              case rel => exact ⟨k + 1, by omega, by go_num, fun j hj => by
                by_cases hjk : j = k
                · subst hjk; exact HP.out
                · exact hall.out j (by omega)⟩
              case measure => simp [intOf]; omega
            · have hbb : (gI xs (gI xs k) != (k : Int)) = true := by simp [hb]
              have hcf := bool_false hc (fun h => hb (h.2.2.2 k hlt).2.2.2)
              subst hcf
              have HIN := Lib.hid hin
              clear hc hA hx he hb hin
              go_wp2_with (go_at_call 53; refine (hasIndex_any _ _ _ HIN.out _ (by omega) (by omega)).mono ?_; rintro e w' ⟨rfl, rfl⟩)
              go_ret
              exact ⟨rfl, rfl⟩
        · have hin : inR (gI xs k) 0 ((xs.length : Int) - 1) = false := inR_f (by omega)
          have hcf := bool_false hc (fun h => hr ⟨(h.2.2.2 k hlt).1, (h.2.2.2 k hlt).2.1⟩)
          subst hcf
          have HIN := Lib.hid hin
          clear hc hA hx hr hin
          go_wp2_with (go_at_call 53; refine (hasIndex_any _ _ _ HIN.out _ (by omega) (by omega)).mono ?_; rintro e w' ⟨rfl, rfl⟩)
          go_ret
          exact ⟨rfl, rfl⟩
      · have hct := bool_true hc ⟨l1, l2, l3, fun j hj => hall.out j (by omega)⟩
        subst hct
        clear hc hA hx
        go_wp2
        go_ret
        exact ⟨rfl, rfl⟩
  · have hcf := bool_false hc (fun h => hl ⟨h.1, h.2.1, h.2.2.1⟩)
    subst hcf
    clear hc hA hx
    by_cases l1 : 2 ≤ xs.length
    · by_cases l2 : xs.length ≤ 16
      · have m2 : ((xs.length : Int) % 2 != 0) = true := by simp; omega
        go_enter Try.func16, Try.ntmps16
        go_wp2
        go_ret
        exact ⟨rfl, rfl⟩
      · go_enter Try.func16, Try.ntmps16
        go_wp2
        go_ret
        exact ⟨rfl, rfl⟩
    · go_enter Try.func16, Try.ntmps16
      go_wp2
      go_ret
      exact ⟨rfl, rfl⟩
set_option maxHeartbeats 1600000 in
theorem l09Ok_any (v : Value) (xs : List Int) (c : Bool) (hc : c = true ↔ IsPr xs) (w : World) (B : Nat) (hx : Ints w B v xs) :
    Calls Try.prog 52 #[v] w fun e w' => e = .returned (.bool c) ∧ w = w' := by
  obtain ⟨A, cA, rfl, lA, hA⟩ := hx.open_
  unfold maxLen at lA
  by_cases hl : 2 ≤ xs.length ∧ xs.length ≤ 16 ∧ xs.length % 2 = 0
  · obtain ⟨l1, l2, l3⟩ := hl
    have m2 : ((xs.length : Int) % 2 != 0) = false := by simp; omega
    go_enter Try.func52, Try.ntmps52
    go_wp2_with (go_at_call 78; refine (l00In_any _ _ _ _ (inR_t ⟨by omega, by omega⟩) _).mono ?_; rintro e w' ⟨rfl, rfl⟩)
    go_loop [4] (fun i => ∃ k : Nat, k ≤ xs.length ∧ i = .int .i64 k ∧ Hid (∀ j : Nat, j < k → PairAt xs j)) (fun i => xs.length - (intOf i).toNat)
    case atStart => exact ⟨0, Nat.zero_le _, rfl, fun j hj => absurd hj (by omega)⟩
    case round =>
      obtain ⟨k, hk, rfl, hall⟩ := hrel
      by_cases hlt : k < xs.length
      · obtain ⟨g, rfl, _, _⟩ := hA (by omega)
        have c1 := Ints.cell hx (k := k) hlt
        have i1 : (k : Int) < (xs.length : Int) := by omega
        by_cases hr : 0 ≤ gI xs k ∧ gI xs k < xs.length
        · have c2 := Ints.cellI hx (i := gI xs k) hr.1 hr.2
          have hin : inR (gI xs k) 0 ((xs.length : Int) - 1) = true := inR_t ⟨hr.1, by omega⟩
          obtain ⟨hr1, hr2⟩ := hr
          by_cases he : gI xs k = k
          · have hcf := bool_false hc (fun h => (h.2.2.2 k hlt).2.2.1 he)
            subst hcf
            have heb : (gI xs k == (k : Int)) = true := by simp [he]
            have HIN := Lib.hid hin
            clear hc hA hx he hin c2 hr1 hr2
            go_wp2_with (go_at_call 78; refine (l00In_any _ _ _ _ HIN.out _).mono ?_; rintro e w' ⟨rfl, rfl⟩)
            go_ret
            exact ⟨rfl, rfl⟩
          · have heb : (gI xs k == (k : Int)) = false := by simp [he]
            by_cases hb : gI xs (gI xs k) = k
            · have hbb : (gI xs (gI xs k) != (k : Int)) = false := by simp [hb]
              have HP : Hid (PairAt xs k) := ⟨hr1, hr2, he, hb⟩
              have HIN := Lib.hid hin
              clear hc hA hx he hb hin
              go_wp2_with (go_at_call 78; refine (l00In_any _ _ _ _ HIN.out _).mono ?_; rintro e w' ⟨rfl, rfl⟩)
              go_round
              case rel => exact ⟨k + 1, by omega, by go_num, fun j hj => by
                by_cases hjk : j = k
                · subst hjk; exact HP.out
                · exact hall.out j (by omega)⟩
              case measure => simp [intOf]; omega
            · have hbb : (gI xs (gI xs k) != (k : Int)) = true := by simp [hb]
              have hcf := bool_false hc (fun h => hb (h.2.2.2 k hlt).2.2.2)
              subst hcf
              have HIN := Lib.hid hin
              clear hc hA hx he hb hin
              go_wp2_with (go_at_call 78; refine (l00In_any _ _ _ _ HIN.out _).mono ?_; rintro e w' ⟨rfl, rfl⟩)
              go_ret
              exact ⟨rfl, rfl⟩
        · have hin : inR (gI xs k) 0 ((xs.length : Int) - 1) = false := inR_f (by omega)
          have hcf := bool_false hc (fun h => hr ⟨(h.2.2.2 k hlt).1, (h.2.2.2 k hlt).2.1⟩)
          subst hcf
          have HIN := Lib.hid hin
          clear hc hA hx hr hin
          go_wp2_with (go_at_call 78; refine (l00In_any _ _ _ _ HIN.out _).mono ?_; rintro e w' ⟨rfl, rfl⟩)
          go_ret
          exact ⟨rfl, rfl⟩
      · have hct := bool_true hc ⟨l1, l2, l3, fun j hj => hall.out j (by omega)⟩
        subst hct
        clear hc hA hx
        go_wp2
        go_ret
        exact ⟨rfl, rfl⟩
  · have hcf := bool_false hc (fun h => hl ⟨h.1, h.2.1, h.2.2.1⟩)
    subst hcf
    clear hc hA hx
    by_cases l1 : 2 ≤ xs.length
    · by_cases l2 : xs.length ≤ 16
      · have m2 : ((xs.length : Int) % 2 != 0) = true := by simp; omega
        go_enter Try.func52, Try.ntmps52
        go_wp2_with (go_at_call 78; refine (l00In_any _ _ _ _ (inR_t ⟨by omega, by omega⟩) _).mono ?_; rintro e w' ⟨rfl, rfl⟩)
        go_ret
        exact ⟨rfl, rfl⟩
      · go_enter Try.func52, Try.ntmps52
        go_wp2_with (go_at_call 78; refine (l00In_any _ _ _ _ (inR_f (by omega)) _).mono ?_; rintro e w' ⟨rfl, rfl⟩)
        go_ret
        exact ⟨rfl, rfl⟩
    · go_enter Try.func52, Try.ntmps52
      go_wp2_with (go_at_call 78; refine (l00In_any _ _ _ _ (inR_f (by omega)) _).mono ?_; rintro e w' ⟨rfl, rfl⟩)
      go_ret
      exact ⟨rfl, rfl⟩
set_option maxHeartbeats 400000 in
theorem sIsPairing_any (v : Value) (xs : List Int) (c : Bool) (hc : c = true ↔ IsPr xs) (w : World) (B : Nat) (hx : Ints w B v xs) :
    Calls Try.prog 14 #[v] w fun e w' => e = .returned (.bool c) ∧ w = w' := by
  obtain ⟨A, cA, rfl, lA, hA⟩ := hx.open_
  go_enter Try.func14, Try.ntmps14
  go_wp2_with (go_at_call 52; refine (l09Ok_any _ xs c hc _ B hx).mono ?_; rintro e w' ⟨rfl, rfl⟩)
  go_ret
  exact ⟨rfl, rfl⟩
set_option maxHeartbeats 1000000 in
theorem FnExactIsPairing_walk (a : Option Addr) (len cap : Nat) (zs : List Int) (w : World) (hr : IsRow .i64 w a len cap zs) :
    Calls Try.prog 3 #[.slice a len cap] w fun e w' => e = .returned (.bool true) ∧ Below w.heap.size w w' := by
  obtain ⟨c, hc⟩ := some_bool (IsPr (zs.take len))
  have hlm := hr.len_le
  by_cases hsz : len ≤ 1048576
  · have HC := Lib.hid hc
    clear hc
    go_enter Try.func3, Try.ntmps3
    go_wp2_with fail
    refine (toInt64S_any a len cap zs _ hr hsz).mono ?_
    rintro e w1 ⟨g1, rfl, hv1, hb1⟩
    go_wp2_with fail
    refine (sIsPairing_any _ _ c HC.out _ _ hv1).mono ?_
    rintro e w' ⟨rfl, rfl⟩
    go_wp2_with fail
    refine (toInt64S_any a len cap zs _ (hr.below hb1) hsz).mono ?_
    rintro e w2 ⟨g2, rfl, hv2, hb2⟩
    go_wp2_with fail
    refine (IsPairing_any _ _ c HC.out _ _ hv2).mono ?_
    rintro e w' ⟨rfl, rfl⟩
    go_wp2_with fail
    refine (toInt64S_any a len cap zs _ ((hr.below hb1).below hb2) hsz).mono ?_
    rintro e w3 ⟨g3, rfl, hv3, hb3⟩
    go_wp2_with fail
    refine (eqInt64S_any _ _ _ _ _ _ _ (hv2.below hb3) hv3 true (by simp)).mono ?_
    rintro e w4 ⟨rfl, n, rfl⟩
    go_wp2_with fail
    go_ret
    exact ⟨rfl, bnext (bnext (bnext hb1 hb2) hb3) (below_drewN _ _ _)⟩
  · go_enter Try.func3, Try.ntmps3
    go_wp2_with fail
    go_ret
    exact ⟨rfl, Below.refl _ _⟩
end Go.Proofs.Ytnldahadldolpaa
