/-
  The greatest common divisor, by the program and by the reference.
-/
import Derived.Test.YtcjjkiajgkicnaaBase
namespace Go.Proofs.Ytcjjkiajgkicnaa
open Go.RowKit Knot

def gcdI (a b : Int) : Int := (Int.gcd a b : Int)
theorem gcdI_zero (a : Int) (h : 0 ≤ a) : gcdI a 0 = a := by unfold gcdI; simp; omega
theorem gcdI_step (a b : Int) (ha : 0 ≤ a) (hb : 0 < b) : gcdI b (a % b) = gcdI a b := by
  obtain ⟨m, rfl⟩ := Int.eq_ofNat_of_zero_le ha
  obtain ⟨n, rfl⟩ := Int.eq_ofNat_of_zero_le (Int.le_of_lt hb)
  unfold gcdI
  rw [← Int.natCast_emod, Int.gcd_natCast_natCast, Int.gcd_natCast_natCast, Nat.gcd_comm m n, Nat.gcd_rec n m, Nat.gcd_comm n (m % n)]
theorem gcdI_pos (a b : Int) (ha : 1 ≤ a) : 1 ≤ gcdI a b := by
  unfold gcdI
  have : 0 < Int.gcd a b := Int.gcd_pos_of_ne_zero_left b (by omega)
  omega
theorem gcdI_le (a b : Int) (ha : 1 ≤ a) : gcdI a b ≤ a := by
  unfold gcdI
  exact Int.le_of_dvd (by omega) (Int.gcd_dvd_left a b)

set_option maxHeartbeats 400000 in
theorem gcd_any (a b : Int) (ha : 0 ≤ a) (hb : 0 ≤ b) (hb2 : b ≤ 9000000000000000000) (ha2 : a ≤ 9000000000000000000) (w : World) :
    Calls Try.prog 52 #[.int .i64 a, .int .i64 b] w fun e w' => e = .returned (.int .i64 (gcdI a b)) ∧ ∃ n, w.drewN n = w' := by
  go_enter Try.func52, Try.ntmps52
  go_wp2
  go_loopw [0, 1] (fun x y wr => ∃ a' b' : Int, 0 ≤ a' ∧ 0 ≤ b' ∧ a' ≤ 9000000000000000000 ∧ b' ≤ 9000000000000000000 ∧ x = .int .i64 a' ∧ y = .int .i64 b' ∧ Hid (gcdI a' b' = gcdI a b) ∧ ∃ n, w.drewN n = wr) (fun _ y _ => (intOf y).toNat)
  case atStart => exact ⟨a, b, ha, hb, ha2, hb2, rfl, rfl, rfl, 0, rfl⟩
  case round =>
    obtain ⟨a', b', h1, h2, h3, h4, rfl, rfl, hg, n, rfl⟩ := hrel
    by_cases hz : 0 < b'
    · have hm0 := Int.emod_nonneg a' (show b' ≠ 0 by omega)
      have hm1 := Int.emod_lt_of_pos a' hz
      have hne : (b' == 0) = false := by simp; omega
      go_wp2
      go_quiet (fail)
      go_wp2
      go_roundw
      case rel => exact ⟨b', a' % b', by omega, by omega, by omega, by omega, rfl, rfl, (gcdI_step a' b' h1 hz).trans hg, _, (World.drewN_drewN w n _).symm⟩
      case measure => simp [intOf]; omega
    · have hb0 : b' = 0 := by omega
      subst hb0
      have hg' : gcdI a b = a' := by rw [← gcdI_zero a' h1]; exact hg.out.symm
      have HG := Lib.hid hg'
      clear hg' hg
      go_wp2
      go_ret
      exact ⟨ret_int HG.out.symm, n, rfl⟩

set_option maxHeartbeats 400000 in
theorem l07Gcd_any (a b : Int) (ha : 0 ≤ a) (hb : 0 ≤ b) (hb2 : b ≤ 9000000000000000000) (ha2 : a ≤ 9000000000000000000) (w : World) :
    Calls Try.prog 50 #[.int .i64 a, .int .i64 b] w fun e w' => e = .returned (.int .i64 (gcdI a b)) ∧ w = w' := by
  go_enter Try.func50, Try.ntmps50
  go_wp2
  go_loop [0, 1] (fun x y => ∃ a' b' : Int, 0 ≤ a' ∧ 0 ≤ b' ∧ a' ≤ 9000000000000000000 ∧ b' ≤ 9000000000000000000 ∧ x = .int .i64 a' ∧ y = .int .i64 b' ∧ Hid (gcdI a' b' = gcdI a b)) (fun _ y => (intOf y).toNat)
  case atStart => exact ⟨a, b, ha, hb, ha2, hb2, rfl, rfl, rfl⟩
  case round =>
    obtain ⟨a', b', h1, h2, h3, h4, rfl, rfl, hg⟩ := hrel
    by_cases hz : 0 < b'
    · have hm0 := Int.emod_nonneg a' (show b' ≠ 0 by omega)
      have hm1 := Int.emod_lt_of_pos a' hz
      have hne : (b' == 0) = false := by simp; omega
      have hne2 : (b' != 0) = true := by simp; omega
      go_wp2
      go_round
      case rel => exact ⟨b', a' % b', by omega, by omega, by omega, by omega, rfl, rfl, (gcdI_step a' b' h1 hz).trans hg⟩
      case measure => simp [intOf]; omega
    · have hb0 : b' = 0 := by omega
      subst hb0
      have hg' : gcdI a b = a' := by rw [← gcdI_zero a' h1]; exact hg.out.symm
      have HG := Lib.hid hg'
      clear hg' hg
      go_wp2
      go_ret
      exact ⟨ret_int HG.out.symm, rfl⟩

end Go.Proofs.Ytcjjkiajgkicnaa
