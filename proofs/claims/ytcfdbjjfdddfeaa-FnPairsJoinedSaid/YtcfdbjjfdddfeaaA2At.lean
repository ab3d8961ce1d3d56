/-
  Helpers of the great laws: bytes that are too long, a number out of a byte.
-/
import Derived.Test.YtcfdbjjfdddfeaaPick
namespace Go.Proofs.Ytcfdbjjfdddfeaa
open Go.RowKit Knot

set_option maxHeartbeats 1000000 in
theorem a2Long2_any (a : Option Addr) (l c : Nat) (b : Option Addr) (m d : Nat) (r : Bool) (h : decide ((l : Int) > 3000 ∨ (m : Int) > 3000) = r) (w : World) :
    Calls Try.prog 37 #[.slice a l c, .slice b m d] w fun e w' => e = .returned (.bool r) ∧ w = w' := by
  by_cases e : (3000 : Int) < l
  · have t1 : decide ((3000 : Int) < l) = true := decide_eq_true e
    obtain rfl : true = r := by rw [← h]; symm; exact decide_eq_true (.inl e)
    clear h e
    go_enter Try.func37, Try.ntmps37
    go_wp2
    all_goals (go_ret; exact ⟨rfl, rfl⟩)
  · have t1 : decide ((3000 : Int) < l) = false := decide_eq_false e
    obtain ⟨t, t2⟩ : ∃ t, decide ((3000 : Int) < m) = t := ⟨_, rfl⟩
    obtain rfl : t = r := by rw [← h, ← t2]; exact decide_eq_decide.2 ⟨fun h => .inr h, fun h => h.resolve_left e⟩
    clear h e
    go_enter Try.func37, Try.ntmps37
    go_wp2
    all_goals (go_ret; exact ⟨rfl, rfl⟩)
set_option maxHeartbeats 2000000 in
theorem a2At_any {w : World} {a : Option Addr} {len cap : Nat} {zs : List Int} (h : IsRow .u8 w a len cap zs) {k n : Int} (k0 : 0 ≤ k) (k1 : k ≤ 1000000) (n1 : 1 ≤ n) (n2 : n ≤ 1000000) :
    Calls Try.prog 39 #[.slice a len cap, .int .i64 k, .int .i64 n] w fun e w' => ∃ x : Int, e = .returned (.int .i64 x) ∧ (0 ≤ x ∧ x < n) ∧ w = w' := by
  have hl := h.len_le
  by_cases hk : k < len
  · obtain ⟨ax, rfl, hc, z0, z1⟩ := row_byte h k0 hk
    have hsp := row_spot h (by omega)
    obtain ⟨bb, off, spot⟩ := ax
    obtain rfl : spot = none := hsp
    rw [add_plain'] at hc
    have hb := World.block_lt_of_cell? w _ hc
    generalize zs.getD k.toNat 0 = z at *
    have HM : Hid (0 ≤ z % n ∧ z % n < n) := Lib.hid ⟨Int.emod_nonneg _ (by omega), Int.emod_lt_of_pos _ (by omega)⟩
    have HT : Hid (z.tmod n = z % n) := Lib.hid (Int.tmod_eq_emod_of_nonneg z0)
    clear h
    go_enter Try.func39, Try.ntmps39
    go_wp2
    go_ret
    exact ⟨_, rfl, HM.out, rfl⟩
  · clear h
    go_enter Try.func39, Try.ntmps39
    go_wp2
    go_ret
    exact ⟨0, rfl, ⟨by omega, by omega⟩, rfl⟩
end Go.Proofs.Ytcfdbjjfdddfeaa
