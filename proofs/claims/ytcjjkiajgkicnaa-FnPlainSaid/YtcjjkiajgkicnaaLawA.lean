/-
  Helpers of the great laws: bytes that are too long, a number out of a byte; curves counted.
-/
import Derived.Test.YtcjjkiajgkicnaaCnt
import Derived.Test.YtcjjkiajgkicnaaPick
import Derived.Test.YtcjjkiajgkicnaaVal
namespace Go.Proofs.Ytcjjkiajgkicnaa
open Go.RowKit Knot

set_option maxHeartbeats 1000000 in
theorem a2Long2_any (a : Option Addr) (l c : Nat) (b : Option Addr) (m d : Nat) (r : Bool) (h : decide ((l : Int) > 3000 ∨ (m : Int) > 3000) = r) (w : World) :
    Calls Try.prog 41 #[.slice a l c, .slice b m d] w fun e w' => e = .returned (.bool r) ∧ w = w' := by
  by_cases e : (3000 : Int) < l
  · have t1 : decide ((3000 : Int) < l) = true := decide_eq_true e
    obtain rfl : true = r := by rw [← h]; symm; exact decide_eq_true (.inl e)
    clear h e
    go_enter Try.func41, Try.ntmps41
    go_wp2
    all_goals (go_ret; exact ⟨rfl, rfl⟩)
  · have t1 : decide ((3000 : Int) < l) = false := decide_eq_false e
    obtain ⟨t, t2⟩ : ∃ t, decide ((3000 : Int) < m) = t := ⟨_, rfl⟩
    obtain rfl : t = r := by rw [← h, ← t2]; exact decide_eq_decide.2 ⟨fun h => .inr h, fun h => h.resolve_left e⟩
    clear h e
    go_enter Try.func41, Try.ntmps41
    go_wp2
    all_goals (go_ret; exact ⟨rfl, rfl⟩)
set_option maxHeartbeats 2000000 in
theorem a2At_any {w : World} {a : Option Addr} {len cap : Nat} {zs : List Int} (h : IsRow .u8 w a len cap zs) {k n : Int} (k0 : 0 ≤ k) (k1 : k ≤ 1000000) (n1 : 1 ≤ n) (n2 : n ≤ 1000000) :
    Calls Try.prog 43 #[.slice a len cap, .int .i64 k, .int .i64 n] w fun e w' => ∃ x : Int, e = .returned (.int .i64 x) ∧ (0 ≤ x ∧ x < n) ∧ w = w' := by
  have hl := h.len_le
  by_cases hk : k < len
  · obtain ⟨ax, rfl, hc, z0, z1⟩ := row_byte h k0 hk
    have hsp := row_spot h (by omega)
    obtain ⟨bb, off, spot⟩ := ax
    obtain rfl : spot = none := hsp
    rw [add_plain'] at hc
    have hb := World.block_lt_of_cell? w _ hc
    generalize zs.getD k.toNat 0 = z at *
    have HM : Hid (0 ≤ z % n ∧ z % n < n) := Lib.hid ⟨Int.emod_nonneg _ (by omega), Int.emod_lt_of_pos _ (by omega)⟩
    have HT : Hid (z.tmod n = z % n) := Lib.hid (Int.tmod_eq_emod_of_nonneg z0)
    clear h
    go_enter Try.func43, Try.ntmps43
    go_wp2
    go_ret
    exact ⟨_, rfl, HM.out, rfl⟩
  · clear h
    go_enter Try.func43, Try.ntmps43
    go_wp2
    go_ret
    exact ⟨0, rfl, ⟨by omega, by omega⟩, rfl⟩
set_option maxHeartbeats 2000000 in
theorem sCountCurves_any {w : World} {lo hi : Nat} {W H : Int} {v : Value} {B : List Int} (hI : IntsIn w lo hi v B) (hp : Ok ⟨W, H, B⟩) :
    Calls Try.prog 44 #[.agg #[.int .i64 W, .int .i64 H, v]] w fun e w' => e = .returned (.tuple #[.int .i64 (cntP ⟨W, H, B⟩), .int .i64 0]) ∧ Below w.heap.size w w' := by
  obtain ⟨A, c, rfl, _, _⟩ := hI.1.open_
  have bl := Joins.below_alloc1 w (.cells #[.int .i64 W, .int .i64 H, .slice A B.length c] 45)
  have ba := Box.new w 45 #[.int .i64 W, .int .i64 H, .slice A B.length c]
  have hv := hI.below bl
  have HP := Lib.hid hp
  clear hI hp
  go_enter Try.func44, Try.ntmps44
  go_wp2_with fail
  refine (l02Ok_any _ W H _ B true (yes_iff HP.out) _ ⟨ba, hv.ints⟩).mono ?_
  rintro e w2 ⟨rfl, hd⟩
  have hb := bdrawn hd
  replace ba := ba.below hb
  replace hv := hv.below hb
  replace bl := bnext bl hb
  clear hb hd
  go_wp2_with fail
  refine (l04Count_any ba hv.1 HP.out).mono ?_
  rintro e w3 ⟨rfl, hb3⟩
  go_wp2
  go_ret2
  exact ⟨rfl, bnext bl hb3⟩
end Go.Proofs.Ytcjjkiajgkicnaa
