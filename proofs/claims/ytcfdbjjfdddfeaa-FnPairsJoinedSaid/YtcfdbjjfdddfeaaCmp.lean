/-
  Lists and panels in order: ComparePanels, by the program and by the reference.
-/
import Derived.Test.YtcfdbjjfdddfeaaVal
import Derived.Test.YtcfdbjjfdddfeaaPlAllC
import Derived.Deep.RegionHeld3
namespace Go.Proofs.Ytcfdbjjfdddfeaa
open Go.RowKit Knot

theorem Ints.two2 (w : World) (y z : Int) : Ints (w.alloc (.cells #[.int .i64 y, .int .i64 z] 2)) w.heap.size (.slice (some ⟨w.heap.size, 0, none⟩) 2 2) [y, z] :=
  ⟨by simp, .inr ⟨w.heap.size, 2, #[.int .i64 y, .int .i64 z], rfl, Nat.le_refl _, heap_alloc_new w _, Nat.le_refl _, by unfold maxLen; omega, rfl, by simp⟩⟩

theorem cell_bl {w w' : World} {p : Addr} {u : Value} (hb : Below w.heap.size w w') (h : w.cell? p = some u) : w'.cell? p = some u := (hb.cell (World.block_lt_of_cell? w _ h)).trans h
theorem cell_al {w : World} {o : Obj} {p : Addr} {u : Value} (h : w.cell? p = some u) : (w.alloc o).cell? p = some u := cell_bl (Joins.below_alloc1 _ _) h

set_option maxHeartbeats 1000000 in
theorem isNaN_any {w : World} {a : Int} :
    Calls Try.prog 126 #[.int .i64 a] w fun e w' => e = .returned (.bool false) ∧ w = w' := by
  have h : (a != a) = false := by simp
  go_enter Try.func126, Try.ntmps126
  go_wp2
  go_ret
  exact ⟨rfl, rfl⟩
set_option maxHeartbeats 1000000 in
theorem cmpCompare_any {w : World} {a b r : Int} (hr : cmpI a b = r) :
    Calls Try.prog 109 #[.int .i64 a, .int .i64 b] w fun e w' => e = .returned (.int .i64 r) ∧ w = w' := by
  unfold cmpI at hr
  by_cases h1 : a < b
  · rw [if_pos h1] at hr
    subst hr
    go_enter Try.func109, Try.ntmps109
    go_wp2_with (go_at_call 126; refine isNaN_any.mono ?_; rintro e w' ⟨rfl, rfl⟩)
    go_ret
    exact ⟨rfl, rfl⟩
  · rw [if_neg h1] at hr
    by_cases h2 : b < a
    · rw [if_pos h2] at hr
      subst hr
      go_enter Try.func109, Try.ntmps109
      go_wp2_with (go_at_call 126; refine isNaN_any.mono ?_; rintro e w' ⟨rfl, rfl⟩)
      go_ret
      exact ⟨rfl, rfl⟩
    · rw [if_neg h2] at hr
      subst hr
      go_enter Try.func109, Try.ntmps109
      go_wp2_with (go_at_call 126; refine isNaN_any.mono ?_; rintro e w' ⟨rfl, rfl⟩)
      go_ret
      exact ⟨rfl, rfl⟩
set_option maxHeartbeats 4000000 in
theorem Compare_any {w : World} {B C : Nat} {v u : Value} {xs ys : List Int} {r : Int} (hx : Ints w B v xs) (hy : Ints w C u ys) (hr : cmpL xs ys = r) :
    Calls Try.prog 93 #[v, u] w fun e w' => e = .returned (.int .i64 r) ∧ w = w' := by
  obtain ⟨A, cA, rfl, lA, hA⟩ := hx.open_
  obtain ⟨D, cD, rfl, lD, hD⟩ := hy.open_
  unfold maxLen at lA lD
  have HR : Hid (cmpL (xs.drop 0) (ys.drop 0) = r) := Lib.hid (by simpa using hr)
  clear hr
  go_enter Try.func93, Try.ntmps93
  go_wp2
  go_loop [11] (fun i => ∃ k : Nat, k ≤ xs.length ∧ i = .int .i64 k ∧ Hid (cmpL (xs.drop k) (ys.drop k) = r)) (fun i => xs.length - (intOf i).toNat)
  case atStart => exact ⟨0, Nat.zero_le _, rfl, HR⟩
  case round =>
    obtain ⟨k, hk, rfl, HK⟩ := hrel
    clear HR
    by_cases hlt : k < xs.length
    · obtain ⟨g, rfl, _, _⟩ := hA (by omega)
      have c1 := Ints.cell hx (k := k) hlt
      have i1 : (k : Int) < (xs.length : Int) := by omega
      by_cases hlt2 : k < ys.length
      · obtain ⟨g', rfl, _, _⟩ := hD (by omega)
        have c2 := Ints.cell hy (k := k) hlt2
        have i2 : (k : Int) < (ys.length : Int) := by omega
        obtain ⟨q, hq⟩ : ∃ q, cmpI (gI xs k) (gI ys k) = q := ⟨_, rfl⟩
        have HQ := Lib.hid hq
        by_cases h0 : q = 0
        · have hn : (q != 0) = false := by simp [h0]
          have HE : Hid (cmpL (xs.drop (k + 1)) (ys.drop (k + 1)) = r) := Lib.hid (by
            rw [← HK.out]
            refine (cmpL_eq hlt hlt2 ?_).symm
            unfold cmpI at hq
            split at hq
            · omega
            · split at hq <;> omega)
          clear hq h0 hA hD hx hy HK
          go_wp2_with (go_at_call 109; refine (cmpCompare_any HQ.out).mono ?_; rintro e w' ⟨rfl, rfl⟩)
          go_round
          case rel => exact ⟨k + 1, by omega, by go_num, HE⟩
          case measure => simp [intOf]; omega
        · have hn : (q != 0) = true := by simp [h0]
          have HE : Hid (q = r) := Lib.hid (by
            rw [← HK.out, ← hq]
            unfold cmpI at hq ⊢
            split
            · rename_i h; exact (cmpL_lt hlt hlt2 h).symm
            · rename_i h
              split
              · rename_i h'; exact (cmpL_gt hlt hlt2 h').symm
              · rename_i h'; rw [if_neg h, if_neg h'] at hq; omega)
          clear hq h0 hA hD hx hy HK
          go_wp2_with (go_at_call 109; refine (cmpCompare_any HQ.out).mono ?_; rintro e w' ⟨rfl, rfl⟩)
          go_ret
          exact ⟨ret_int HE.out, rfl⟩
      · have HE : Hid (1 = r) := Lib.hid (by rw [← HK.out]; exact (cmpL_long hlt (by omega)).symm)
        have i2 : (ys.length : Int) ≤ (k : Int) := by omega
        clear hA hD hx hy HK
        go_wp2
        go_ret
        exact ⟨ret_int HE.out, rfl⟩
    · have e : k = xs.length := by omega
      subst e
      by_cases hl : xs.length < ys.length
      · have HE : Hid (-1 = r) := Lib.hid (by rw [← HK.out]; exact (cmpL_short (Nat.le_refl _) hl).symm)
        clear hA hD hx hy HK
        go_wp2
        go_ret
        exact ⟨ret_int HE.out, rfl⟩
      · have HE : Hid (0 = r) := Lib.hid (by rw [← HK.out]; exact (cmpL_both (Nat.le_refl _) (by omega)).symm)
        clear hA hD hx hy HK
        go_wp2
        go_ret
        exact ⟨ret_int HE.out, rfl⟩

end Go.Proofs.Ytcfdbjjfdddfeaa
