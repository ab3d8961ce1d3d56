/-
  Two pairings out of some bytes.
-/
import Derived.Test.YtnldahadldolpaaDraw
import Derived.Test.YtnldahadldolpaaPlTwo
import Derived.Test.YtnldahadldolpaaText
import Derived.Test.YtnldahadldolpaaSame
import Derived.Deep.RegionHeld3
namespace Go.Proofs.Ytnldahadldolpaa
open Go.RowKit Knot

theorem Chg.low {lo hi : Nat} {w w' : World} (h : Chg lo hi w w') (hl : lo ≤ w.heap.size) : Below lo w w' := ⟨h.os, h.tape, h.output, h.size, fun k hk => h.block k (by omega) (.inl hk)⟩
theorem a2Long_any (a : Option Addr) (l c : Nat) (r : Bool) (h : decide ((l : Int) > 3000) = r) (w : World) :
    Calls Try.prog 24 #[.slice a l c, .slice none 0 0] w fun e w' => e = .returned (.bool r) ∧ w = w' := by
  by_cases e : (l : Int) ≤ 3000
  · obtain rfl : false = r := by rw [← h]; simp; omega
    go_enter Try.func24, Try.ntmps24
    go_wp2
    go_ret
    exact ⟨rfl, rfl⟩
  · obtain rfl : true = r := by rw [← h]; simp; omega
    go_enter Try.func24, Try.ntmps24
    go_wp2
    go_ret
    exact ⟨rfl, rfl⟩
set_option maxHeartbeats 2000000 in
theorem A2Pairings_any {w : World} {a : Option Addr} {len cap : Nat} {zs : List Int} (h : IsRow .u8 w a len cap zs) :
    Calls Try.prog 25 #[.slice a len cap] w fun e w' => ∃ (n p : Nat) (D E : Option Addr) (d f : Nat) (xs ys : List Int), e = .returned (.tuple #[.slice D n d, .slice E n f]) ∧ n = 2 * p ∧ (1 ≤ p ∧ p ≤ 6) ∧ Pairing n xs ∧ Pairing n ys ∧ IntsIn w' w.heap.size w'.heap.size (.slice D n d) xs ∧ IntsIn w' w.heap.size w'.heap.size (.slice E n f) ys ∧ Below w.heap.size w w' := by
  go_enter Try.func25, Try.ntmps25
  go_wp2_with fail
  refine (src_from h).mono ?_
  rintro e w1 ⟨rfl, hS, s1, hb1⟩
  clear h
  go_wp2_with fail
  refine (src_pick hS (by omega) (by omega)).mono ?_
  rintro e w2 ⟨x, rfl, x0, x1, _, hS2, hc2⟩
  have x2 := x1 (by omega)
  have hb2 := hb1.trans (hc2.low (by omega))
  have s2 := hc2.size
  clear hS hc2 x1 hb1
  obtain ⟨p, hp⟩ : ∃ p : Nat, 1 + x = p := ⟨(1 + x).toNat, by omega⟩
  have p1 : 1 ≤ p := by omega
  have p6 : p ≤ 6 := by omega
  go_wp2_with fail
  try rw [hp]
  refine (l09Draw_any hS2 (by omega) p1 (by omega)).mono ?_
  rintro e w3 ⟨D, d, xs, rfl, lx, hX, hI, hS3, hc3⟩
  have s3 := hc3.size
  have hb3 := hb2.trans (hc3.low (by omega))
  clear hS2 hb2 hc3
  go_wp2_with fail
  try rw [hp]
  refine (l09Draw_any hS3 (by omega) p1 (by omega)).mono ?_
  rintro e w4 ⟨E, f, ys, rfl, ly, hY, hJ, hS4, hc4⟩
  have s4 := hc4.size
  have hb4 := hb3.trans (hc4.low (by omega))
  have hI2 := Row.chgb hI hc4 (by omega)
  clear hS3 hb3 hc4 hI hS4
  go_wp2_with fail
  go_ret2
  refine ⟨2 * p, p, D, E, d, f, xs, ys, rfl, rfl, ⟨p1, p6⟩, hX, hY, ?_, ?_, hb4⟩
  · have := IntsIn.ofInts (Row.le hI2 (C := w.heap.size) (by omega)) (by omega)
    rwa [lx] at this
  · have := IntsIn.ofInts (Row.le hJ (C := w.heap.size) (by omega)) (by omega)
    rwa [ly] at this
end Go.Proofs.Ytnldahadldolpaa
