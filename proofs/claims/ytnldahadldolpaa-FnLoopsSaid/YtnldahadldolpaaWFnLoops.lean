/-
  The law FnLoops, walked.
-/
import Derived.Test.YtnldahadldolpaaA2P
namespace Go.Proofs.Ytnldahadldolpaa
open Go.RowKit Knot

theorem IsPr.ofPairing {p n : Nat} {xs : List Int} (hn : n = 2 * p) (p1 : 1 ≤ p) (p8 : p ≤ 8) (h : Pairing n xs) : IsPr xs := by
  have hl := h.len
  refine ⟨by omega, by omega, by omega, fun k hk => ?_⟩
  have h0 : (0 : Int) ≤ k := by omega
  have h1 : (k : Int) < n := by omega
  refine ⟨h.lo _ h0 h1, ?_, h.ne _ h0 h1, h.inv _ h0 h1⟩
  rw [hl]
  exact h.hi _ h0 h1
theorem textM_some {xs : List Int} (h : IsPr xs) : textM xs ≠ ⟨#[]⟩ := by
  unfold textM
  rw [if_pos h]
  obtain ⟨l2, _⟩ := h
  obtain ⟨m, hm⟩ : ∃ m, xs.length = m + 1 + 1 := ⟨xs.length - 2, by omega⟩
  rw [hm]
  intro e
  have e2 := congrArg ByteArray.size e
  rw [joinTo, size_app, if_pos (by omega), size_app] at e2
  have h1 : ByteArray.size ⟨#[44]⟩ = 1 := rfl
  have h2 : ByteArray.size ⟨#[]⟩ = 0 := rfl
  omega
theorem bytes_some {s : ByteArray} (h : s ≠ ⟨#[]⟩) : s.toList.isEmpty = false := by
  rw [ByteArray.toList_eq]
  cases e : s.data.toList with
  | nil => exact absurd (ByteArray.ext (Array.ext' e)) h
  | cons a l => rfl
set_option maxRecDepth 100000 in
set_option maxHeartbeats 4000000 in
theorem FnLoops_walk (a0 : Option Addr) (l0 : Nat) (c0 : Nat) (z0 : List Int) (w : World) (r0 : IsRow .u8 w a0 l0 c0 z0) :
    Calls Try.prog 7 #[.slice a0 l0 c0] w fun e w' => e = .returned (.bool true) ∧ Below w.heap.size w w' := by
  by_cases e_0 : (l0 : Int) ≤ 3000
  rotate_left
  · have hd : decide ((l0 : Int) > 3000) = true := by simp; omega
    go_enter Try.func7, Try.ntmps7
    go_wp2_with fail
    refine (a2Long_any a0 l0 c0 true hd _).mono ?_
    rintro e w' ⟨rfl, rfl⟩
    go_wp2_with fail
    go_ret
    exact ⟨rfl, Below.refl _ _⟩
  have hd : decide ((l0 : Int) > 3000) = false := by simp; omega
  go_enter Try.func7, Try.ntmps7
  go_wp2_with fail
  refine (a2Long_any a0 l0 c0 false hd _).mono ?_
  rintro e w' ⟨rfl, rfl⟩
  clear hd e_0
  go_wp2_with fail
  refine (A2Pairings_any r0).mono ?_
  rintro e w1 ⟨n, p, D, E, d, f, xs, ys, rfl, hn, ⟨p1, p6⟩, hX, hY, hI, hJ, bl⟩
  clear r0
  have PX := IsPr.ofPairing hn p1 (by omega) hX
  have PY := IsPr.ofPairing hn p1 (by omega) hY
  have lx := hX.len
  have ly := hY.len
  obtain ⟨x, hx⟩ : ∃ x, loopsOf xs ys n = x := ⟨_, rfl⟩
  have M1 := Lib.hid (show loopM xs ys = (x, 0) by unfold loopM; rw [if_pos ⟨PX, PY⟩, if_pos (by omega), lx, hx])
  have M2 := Lib.hid (show loopM ys xs = (x, 0) by unfold loopM; rw [if_pos ⟨PY, PX⟩, if_pos (by omega), ly, loops_comm hY hX, hx])
  have hs := loops_self hX
  have M3 := Lib.hid (show loopM xs xs = ((p : Int), 0) by unfold loopM; rw [if_pos ⟨PX, PX⟩, if_pos rfl, lx, show loopsOf xs xs n = (p : Int) by omega])
  have x1 : 1 ≤ x := by have := loops_pos hX hY (by omega); omega
  have x2 : x ≤ p := by have := loops_half hX hY; omega
  have hit := loops_iff hX hY
  rw [hx, show loopsOf xs xs n = (p : Int) by omega] at hit
  obtain ⟨s, hsm⟩ : ∃ s, textM xs = s := ⟨_, rfl⟩
  have MT := Lib.hid hsm
  have hse : s ≠ ⟨#[]⟩ := by rw [← hsm]; exact textM_some PX
  have HPX := Lib.hid PX
  clear hsm hs hx PX PY hX hY lx ly
  obtain ⟨r, hr⟩ : ∃ r, decide (xs = ys) = r := ⟨_, rfl⟩
  have HR := Lib.hid hr
  have hq : (n : Int) / 2 = p := by omega
  have hrx : (x == (p : Int)) = r := by rw [← hr]; exact (show (x == (p : Int)) = decide (x = (p : Int)) from rfl).trans (decide_eq_decide.2 hit)
  have HQ := Lib.hid hq
  have HRX := Lib.hid hrx
  have HSE := Lib.hid hse
  have HX1 := Lib.hid x1
  have HX2 := Lib.hid x2
  have HP6 := Lib.hid p6
  have HN := Lib.hid hn
  clear hit hr hq hrx hse x1 x2 hn p1 p6
  go_wp2_with fail
  refine (K_impl_LoopsOf hI hJ M1.out).mono ?_
  rintro e w2 ⟨rfl, hb⟩
  replace hI := hI.below hb
  replace hJ := hJ.below hb
  replace bl := bnext bl hb
  clear hb
  go_wp2_with fail
  refine (K_impl_LoopsOf hJ hI M2.out).mono ?_
  rintro e w3 ⟨rfl, hb⟩
  replace hI := hI.below hb
  replace hJ := hJ.below hb
  replace bl := bnext bl hb
  clear hb
  go_wp2_with fail
  refine (K_impl_LoopsOf hI hI M3.out).mono ?_
  rintro e w4 ⟨rfl, hb⟩
  replace hI := hI.below hb
  replace hJ := hJ.below hb
  replace bl := bnext bl hb
  clear hb
  have x1 := HX1.out
  have x2 := HX2.out
  have hq := HQ.out
  have p6 := HP6.out
  go_wp2_with fail
  refine (a2Same_any _ _ _ _ _ _ _ hI.1 hJ.1 r HR.out).mono ?_
  rintro e w5 ⟨rfl, hb⟩
  replace hb := bdrawn hb
  replace hI := hI.below hb
  replace hJ := hJ.below hb
  replace bl := bnext bl hb
  clear hb
  rw [HRX.out]
  go_wp2_with fail
  refine (IsPairing_any _ _ true (by simpa using HPX.out) _ _ hI.1).mono ?_
  rintro e w6 ⟨rfl, rfl⟩
  go_wp2_with fail
  refine (K_impl_PairingText hI MT.out).mono ?_
  rintro e w6 ⟨rfl, hb⟩
  replace bl := bnext bl hb
  clear hb
  have hse := bytes_some HSE.out
  go_wp2_with fail
  try rw [hse]
  go_ret
  exact ⟨rfl, bl⟩
end Go.Proofs.Ytnldahadldolpaa
