/-
  Helpers of the laws of symmetries: bytes that are too many, equal lists, equal points.
-/
import Derived.Test.YtihfdgnocdphcaaKPts
import Derived.Test.YtihfdgnocdphcaaVal
import Derived.Test.YtihfdgnocdphcaaSym
import Derived.Test.YtihfdgnocdphcaaPlAllD
namespace Go.Proofs.Ytihfdgnocdphcaa
open Go.RowKit Knot

set_option maxHeartbeats 1000000 in
theorem f6big_any (a : Option Addr) (l c : Nat) (w : World) :
    Calls Try.prog 41 #[.slice a l c] w fun e w' => e = .returned (.bool (decide ((4096 : Int) < l))) ∧ w = w' := by
  go_enter Try.func41, Try.ntmps41
  go_wp2
  go_ret
  exact ⟨rfl, rfl⟩
set_option maxHeartbeats 4000000 in
theorem f6ints_yes {w : World} {B C c d : Nat} {A D : Option Addr} {xs : List Int} (h : Ints w B (.slice A xs.length c) xs) (k : Ints w C (.slice D xs.length d) xs) :
    Calls Try.prog 66 #[.slice A xs.length c, .slice D xs.length d] w fun e w' => e = .returned (.bool true) ∧ Below w.heap.size w w' := by
  obtain ⟨A', c', hA, lA, hA2⟩ := h.open_
  injection hA with hA3 hA4 hA5
  subst hA3 hA5
  obtain ⟨D', d', hD, _, hD2⟩ := k.open_
  injection hD with hD3 hD4 hD5
  subst hD3 hD5
  have HH := Lib.hid h
  have KK := Lib.hid k
  have HA := Lib.hid hA2
  have HD := Lib.hid hD2
  have hnn : ((xs.length : Int) != xs.length) = false := by simp
  unfold maxLen at lA
  clear h k hA2 hD2 hA4 hD4
  go_enter Try.func66, Try.ntmps66
  go_wp2
  go_loopw [5] (fun i wr => ∃ k : Nat, k ≤ xs.length ∧ i = .int .i64 k ∧ Below w.heap.size w wr) (fun i _ => xs.length - (intOf i).toNat)
  case atStart => exact ⟨0, Nat.zero_le _, rfl, Below.refl _ _⟩
  case round =>
    obtain ⟨k, hk, rfl, hb⟩ := hrel
    by_cases hlt : k < xs.length
    · have i1 : (k : Int) < xs.length := by omega
      obtain ⟨g, rfl, _, _⟩ := HA.out (by omega)
      obtain ⟨g', rfl, _, _⟩ := HD.out (by omega)
      have c0 := Ints.cell (show Ints wr B (.slice (some ⟨g, 0, none⟩) xs.length c) xs from Row.below HH.out hb) (k := k) hlt
      have d0 := Ints.cell (show Ints wr C (.slice (some ⟨g', 0, none⟩) xs.length d) xs from Row.below KK.out hb) (k := k) hlt
      generalize gI xs (k : Nat) = x at c0 d0
      have HB := Lib.hid hb
      clear hb
      go_wp2_with fail
      go_quiet (fail)
      obtain ⟨nq1, hnq1⟩ : ∃ m, m = nq := ⟨_, rfl⟩
      rw [← hnq1]
      have HB2 : Hid (Below w.heap.size w (wr.drewN nq1)) := Lib.hid (bnext HB.out (below_drewN _ _ _))
      clear hnq1 c0 d0
      go_wp2
      go_roundw
      case rel => exact ⟨k + 1, by omega, by go_num, HB2.out⟩
      case measure => simp [intOf]; omega
    · have e : k = xs.length := by omega
      subst e
      go_wp2
      go_ret
      exact ⟨rfl, hb⟩
set_option maxHeartbeats 4000000 in
theorem f6points_yes {w : World} {B C c d : Nat} {A D : Option Addr} {l : List (Int × Int)} (h : PRow w B (.slice A l.length c) l.length (ptF l)) (k : PRow w C (.slice D l.length d) l.length (ptF l)) :
    Calls Try.prog 67 #[.slice A l.length c, .slice D l.length d] w fun e w' => e = .returned (.bool true) ∧ Below w.heap.size w w' := by
  obtain ⟨A', c', hA, lA, hA2⟩ := h.open_
  injection hA with hA3 hA4 hA5
  subst hA3 hA5
  obtain ⟨D', d', hD, _, hD2⟩ := k.open_
  injection hD with hD3 hD4 hD5
  subst hD3 hD5
  have HH := Lib.hid h
  have KK := Lib.hid k
  have HA := Lib.hid hA2
  have HD := Lib.hid hD2
  have hnn : ((l.length : Int) != l.length) = false := by simp
  unfold maxLen at lA
  clear h k hA2 hD2 hA4 hD4
  go_enter Try.func67, Try.ntmps67
  go_wp2
  go_loopw [5] (fun i wr => ∃ k : Nat, k ≤ l.length ∧ i = .int .i64 k ∧ Below w.heap.size w wr) (fun i _ => l.length - (intOf i).toNat)
  case atStart => exact ⟨0, Nat.zero_le _, rfl, Below.refl _ _⟩
  case round =>
    obtain ⟨k, hk, rfl, hb⟩ := hrel
    by_cases hlt : k < l.length
    · have i1 : (k : Int) < l.length := by omega
      obtain ⟨g, rfl, _, _⟩ := HA.out (by omega)
      obtain ⟨g', rfl, _, _⟩ := HD.out (by omega)
      obtain ⟨c0, c1⟩ := (HH.out.below hb).at_ (i := k) hlt
      obtain ⟨d0, d1⟩ := (KK.out.below hb).at_ (i := k) hlt
      generalize l[k] = x at c0 c1 d0 d1
      obtain ⟨X, Y⟩ := x
      simp only [] at c0 c1 d0 d1
      have hq := ptNeF X Y
      have HB := Lib.hid hb
      clear hb
      go_wp2_with fail
      go_quiet (fail)
      obtain ⟨nq1, hnq1⟩ : ∃ m, m = nq := ⟨_, rfl⟩
      rw [← hnq1]
      have HB2 : Hid (Below w.heap.size w (wr.drewN nq1)) := Lib.hid (bnext HB.out (below_drewN _ _ _))
      clear hnq1 c0 d0 c1 d1 hq
      go_wp2
      go_roundw
      case rel => exact ⟨k + 1, by omega, by go_num, HB2.out⟩
      case measure => simp [intOf]; omega
    · have e : k = l.length := by omega
      subst e
      go_wp2
      go_ret
      exact ⟨rfl, hb⟩
theorem csM_ok {a b : Int} (a0 : 0 ≤ a) (a7 : a ≤ 7) (b0 : 0 ≤ b) (b7 : b ≤ 7) : csM a b = (compK a b, 0) := by
  rcases sym_cases a0 a7 with rfl | rfl | rfl | rfl | rfl | rfl | rfl | rfl <;> rcases sym_cases b0 b7 with rfl | rfl | rfl | rfl | rfl | rfl | rfl | rfl <;> decide +kernel
end Go.Proofs.Ytihfdgnocdphcaa
