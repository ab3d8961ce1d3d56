/-
  Two slices of int64 compared, by the library, the reference and the laws.
-/
import Derived.Test.YtihfdgnocdphcaaSl
namespace Go.Proofs.Ytihfdgnocdphcaa
open Go.RowKit Knot

set_option maxHeartbeats 1000000 in
theorem l00Same_any (v u : Value) (xs ys : List Int) (w : World) (B C : Nat) (hx : Ints w B v xs) (hy : Ints w C u ys) (c : Bool) (hc : decide (xs = ys) = c) :
    Calls Try.prog 129 #[v, u] w fun e w' => e = .returned (.bool c) ∧ ∃ n, w.drewN n = w' := by
  obtain ⟨A, cA, rfl, lA, hA⟩ := hx.open_
  obtain ⟨D, cD, rfl, lD, hD⟩ := hy.open_
  unfold maxLen at lA lD
  by_cases hl : xs.length = ys.length
  · have hln : ((xs.length : Int) != (ys.length : Int)) = false := by simp [hl]
    have hl1 : xs.length ≤ ys.length := by omega
    have hl2 : ys.length ≤ xs.length := by omega
    have HL := Lib.hid hl
    clear hl
    go_enter Try.func129, Try.ntmps129
    go_wp2
    go_loopw [5] (fun i wr => ∃ k : Nat, k ≤ xs.length ∧ i = .int .i64 k ∧ (∃ n, w.drewN n = wr) ∧ Hid (∀ j : Nat, j < k → gI xs j = gI ys j)) (fun i _ => xs.length - (intOf i).toNat)
    case atStart => exact ⟨0, Nat.zero_le _, rfl, ⟨0, rfl⟩, fun j hj => absurd hj (by omega)⟩
    case round =>
      obtain ⟨k, hk, rfl, ⟨n, rfl⟩, hall⟩ := hrel
      by_cases hlt : k < xs.length
      · obtain ⟨g, rfl, _, _⟩ := hA (by omega)
        obtain ⟨g', rfl, _, _⟩ := hD (by omega)
        have c1 := Ints.cell hx (k := k) hlt
        have c2 := Ints.cell hy (k := k) (by omega)
        have i1 : (k : Int) < (xs.length : Int) := by omega
        have i2 : (k : Int) < (ys.length : Int) := by omega
        have i0 : (0 : Int) ≤ (k : Int) := by omega
        by_cases he : gI xs k = gI ys k
        · have hne : (gI xs k != gI ys k) = false := by simp [he]
          have HE := Lib.hid he
          clear hc hA hD hx hy he
          go_wp2
          go_quiet (fail)
          go_wp2
          go_roundw
          case rel => exact ⟨k + 1, by omega, by go_num, ⟨_, rfl⟩, fun j hj => by
            by_cases hjk : j = k
            · subst hjk; exact HE.out
            · exact hall.out j (by omega)⟩
          case measure => simp [intOf]; omega
        · have hne : (gI xs k != gI ys k) = true := by simp [he]
          have hcf : c = false := by
            rw [← hc]
            refine decide_eq_false fun e => he ?_
            rw [e]
          subst hcf
          clear hc hA hD hx hy he
          go_wp2
          go_quiet (fail)
          go_wp2
          go_ret
          exact ⟨rfl, drawn2 _ _ _⟩
      · have hct : c = true := by
          rw [← hc]
          exact decide_eq_true (eq_of_gI HL.out fun j hj => hall.out j (by omega))
        subst hct
        clear hc hA hD hx hy
        go_wp2
        go_ret
        exact ⟨rfl, n, rfl⟩
  · have hln : ((xs.length : Int) != (ys.length : Int)) = true := by simp; omega
    have hcf : c = false := by
      rw [← hc]
      refine decide_eq_false fun e => hl ?_
      rw [e]
    subst hcf
    clear hc hA hD hx hy hl
    go_enter Try.func129, Try.ntmps129
    go_wp2
    go_ret
    exact ⟨rfl, 0, rfl⟩
set_option maxHeartbeats 1000000 in
theorem Equal_any (v u : Value) (xs ys : List Int) (w : World) (B C : Nat) (hx : Ints w B v xs) (hy : Ints w C u ys) (c : Bool) (hc : decide (xs = ys) = c) :
    Calls Try.prog 130 #[v, u] w fun e w' => e = .returned (.bool c) ∧ ∃ n, w.drewN n = w' := by
  obtain ⟨A, cA, rfl, lA, hA⟩ := hx.open_
  obtain ⟨D, cD, rfl, lD, hD⟩ := hy.open_
  unfold maxLen at lA lD
  by_cases hl : xs.length = ys.length
  · have hln : ((xs.length : Int) != (ys.length : Int)) = false := by simp [hl]
    have hl1 : xs.length ≤ ys.length := by omega
    have hl2 : ys.length ≤ xs.length := by omega
    have HL := Lib.hid hl
    clear hl
    go_enter Try.func130, Try.ntmps130
    go_wp2
    go_loopw [13] (fun i wr => ∃ k : Nat, k ≤ xs.length ∧ i = .int .i64 k ∧ (∃ n, w.drewN n = wr) ∧ Hid (∀ j : Nat, j < k → gI xs j = gI ys j)) (fun i _ => xs.length - (intOf i).toNat)
    case atStart => exact ⟨0, Nat.zero_le _, rfl, ⟨0, rfl⟩, fun j hj => absurd hj (by omega)⟩
    case round =>
      obtain ⟨k, hk, rfl, ⟨n, rfl⟩, hall⟩ := hrel
      by_cases hlt : k < xs.length
      · obtain ⟨g, rfl, _, _⟩ := hA (by omega)
        obtain ⟨g', rfl, _, _⟩ := hD (by omega)
        have c1 := Ints.cell hx (k := k) hlt
        have c2 := Ints.cell hy (k := k) (by omega)
        have i1 : (k : Int) < (xs.length : Int) := by omega
        have i2 : (k : Int) < (ys.length : Int) := by omega
        have i0 : (0 : Int) ≤ (k : Int) := by omega
        by_cases he : gI xs k = gI ys k
        · have hne : (gI xs k != gI ys k) = false := by simp [he]
          have HE := Lib.hid he
          clear hc hA hD hx hy he
          go_wp2
          go_quiet (fail)
          go_wp2
          go_roundw
          case rel => exact ⟨k + 1, by omega, by go_num, ⟨_, rfl⟩, fun j hj => by
            by_cases hjk : j = k
            · subst hjk; exact HE.out
            · exact hall.out j (by omega)⟩
          case measure => simp [intOf]; omega
        · have hne : (gI xs k != gI ys k) = true := by simp [he]
          have hcf : c = false := by
            rw [← hc]
            refine decide_eq_false fun e => he ?_
            rw [e]
          subst hcf
          clear hc hA hD hx hy he
          go_wp2
          go_quiet (fail)
          go_wp2
          go_ret
          exact ⟨rfl, drawn2 _ _ _⟩
      · have hct : c = true := by
          rw [← hc]
          exact decide_eq_true (eq_of_gI HL.out fun j hj => hall.out j (by omega))
        subst hct
        clear hc hA hD hx hy
        go_wp2
        go_ret
        exact ⟨rfl, n, rfl⟩
  · have hln : ((xs.length : Int) != (ys.length : Int)) = true := by simp; omega
    have hcf : c = false := by
      rw [← hc]
      refine decide_eq_false fun e => hl ?_
      rw [e]
    subst hcf
    clear hc hA hD hx hy hl
    go_enter Try.func130, Try.ntmps130
    go_wp2
    go_ret
    exact ⟨rfl, 0, rfl⟩
set_option maxHeartbeats 1000000 in
theorem f6ints_any (v u : Value) (xs ys : List Int) (w : World) (B C : Nat) (hx : Ints w B v xs) (hy : Ints w C u ys) (c : Bool) (hc : decide (xs = ys) = c) :
    Calls Try.prog 66 #[v, u] w fun e w' => e = .returned (.bool c) ∧ ∃ n, w.drewN n = w' := by
  obtain ⟨A, cA, rfl, lA, hA⟩ := hx.open_
  obtain ⟨D, cD, rfl, lD, hD⟩ := hy.open_
  unfold maxLen at lA lD
  by_cases hl : xs.length = ys.length
  · have hln : ((xs.length : Int) != (ys.length : Int)) = false := by simp [hl]
    have hl1 : xs.length ≤ ys.length := by omega
    have hl2 : ys.length ≤ xs.length := by omega
    have HL := Lib.hid hl
    clear hl
    go_enter Try.func66, Try.ntmps66
    go_wp2
    go_loopw [5] (fun i wr => ∃ k : Nat, k ≤ xs.length ∧ i = .int .i64 k ∧ (∃ n, w.drewN n = wr) ∧ Hid (∀ j : Nat, j < k → gI xs j = gI ys j)) (fun i _ => xs.length - (intOf i).toNat)
    case atStart => exact ⟨0, Nat.zero_le _, rfl, ⟨0, rfl⟩, fun j hj => absurd hj (by omega)⟩
    case round =>
      obtain ⟨k, hk, rfl, ⟨n, rfl⟩, hall⟩ := hrel
      by_cases hlt : k < xs.length
      · obtain ⟨g, rfl, _, _⟩ := hA (by omega)
        obtain ⟨g', rfl, _, _⟩ := hD (by omega)
        have c1 := Ints.cell hx (k := k) hlt
        have c2 := Ints.cell hy (k := k) (by omega)
        have i1 : (k : Int) < (xs.length : Int) := by omega
        have i2 : (k : Int) < (ys.length : Int) := by omega
        have i0 : (0 : Int) ≤ (k : Int) := by omega
        by_cases he : gI xs k = gI ys k
        · have hne : (gI xs k != gI ys k) = false := by simp [he]
          have HE := Lib.hid he
          clear hc hA hD hx hy he
          go_wp2
          go_quiet (fail)
          go_wp2
          go_roundw
          case rel => exact ⟨k + 1, by omega, by go_num, ⟨_, rfl⟩, fun j hj => by
            by_cases hjk : j = k
            · subst hjk; exact HE.out
            · exact hall.out j (by omega)⟩
          case measure => simp [intOf]; omega
        · have hne : (gI xs k != gI ys k) = true := by simp [he]
          have hcf : c = false := by
            rw [← hc]
            refine decide_eq_false fun e => he ?_
            rw [e]
          subst hcf
          clear hc hA hD hx hy he
          go_wp2
          go_quiet (fail)
          go_wp2
          go_ret
          exact ⟨rfl, drawn2 _ _ _⟩
      · have hct : c = true := by
          rw [← hc]
          exact decide_eq_true (eq_of_gI HL.out fun j hj => hall.out j (by omega))
        subst hct
        clear hc hA hD hx hy
        go_wp2
        go_ret
        exact ⟨rfl, n, rfl⟩
  · have hln : ((xs.length : Int) != (ys.length : Int)) = true := by simp; omega
    have hcf : c = false := by
      rw [← hc]
      refine decide_eq_false fun e => hl ?_
      rw [e]
    subst hcf
    clear hc hA hD hx hy hl
    go_enter Try.func66, Try.ntmps66
    go_wp2
    go_ret
    exact ⟨rfl, 0, rfl⟩
end Go.Proofs.Ytihfdgnocdphcaa
