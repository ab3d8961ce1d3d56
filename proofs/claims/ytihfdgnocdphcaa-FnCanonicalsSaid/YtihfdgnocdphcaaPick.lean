/-
  The reference's source of choices: a number below a bound, a new source.
-/
import Derived.Test.YtihfdgnocdphcaaSrc
namespace Go.Proofs.Ytihfdgnocdphcaa
open Go.RowKit Knot

set_option maxHeartbeats 2000000 in
theorem src_pick {w : World} {b m : Nat} {n : Int} (h : Src w b m) (hm : m ≤ 1000000000) (n0 : n ≤ 200) :
    Calls Try.prog 103 #[.pointer (some ⟨b, 0, none⟩), .int .i64 n] w fun e w' => ∃ x : Int, e = .returned (.int .i64 x) ∧ 0 ≤ x ∧ (1 ≤ n → x < n) ∧ (n < 1 → x = 0) ∧ Src w' b (m + 1) ∧ Chg b (b + 1) w w' := by
  by_cases h1 : n ≤ 1
  · have H2 := Lib.hid (h.more (Nat.le_succ m))
    clear h
    go_enter Try.func103, Try.ntmps103
    go_wp2
    go_ret
    exact ⟨0, rfl, Int.le_refl _, fun _ => by omega, fun _ => rfl, H2.out, ⟨rfl, rfl, rfl, Nat.le_refl _, fun _ _ _ => rfl⟩⟩
  · go_enter Try.func103, Try.ntmps103
    go_wp2_with fail
    refine (src_next h (by omega)).mono ?_
    rintro e w2 ⟨x, rfl, ⟨x0, x1⟩, hs, hc⟩
    have H2 := Lib.hid hs
    have H3 := Lib.hid hc
    have hx : 0 ≤ x % n ∧ x % n < n := ⟨Int.emod_nonneg _ (by omega), Int.emod_lt_of_pos _ (by omega)⟩
    have HX := Lib.hid hx
    clear hs hc hx h
    go_wp2
    go_ret
    exact ⟨_, rfl, HX.out.1, fun _ => HX.out.2, fun _ => by omega, H2.out, H3.out⟩
set_option maxHeartbeats 2000000 in
theorem src_from {w : World} {a : Option Addr} {len cap : Nat} {zs : List Int} (h : IsRow .u8 w a len cap zs) :
    Calls Try.prog 100 #[.slice a len cap] w fun e w' => e = .returned (.pointer (some ⟨w.heap.size, 0, none⟩)) ∧ Src w' w.heap.size 0 ∧ w.heap.size < w'.heap.size ∧ Below w.heap.size w w' := by
  have bl := Joins.below_alloc1 w (.cells #[.slice a len cap, .int .i64 0, .int .u64 0] 120)
  have bb := Box.new w 120 #[.slice a len cap, .int .i64 0, .int .u64 0]
  have hS : Src (w.alloc (.cells #[.slice a len cap, .int .i64 0, .int .u64 0] 120)) w.heap.size 0 := by
    refine ⟨a, len, cap, zs, 0, 0, bb, h.below bl, by omega, ?_⟩
    rintro x rfl hl
    rcases h with ⟨h, _⟩ | ⟨y, h1, h2, h3, h4, h5, h6⟩
    · cases h
    · cases h1
      have := World.block_lt_of_cell? w _ (h5 0 hl)
      have hb : (x.add 0).block = x.block := by unfold Addr.add; split <;> rfl
      rw [hb] at this
      omega
  have HS := Lib.hid hS
  clear h bb hS
  go_enter Try.func100, Try.ntmps100
  go_wp2
  go_ret
  exact ⟨rfl, HS.out, by simp, bl⟩
end Go.Proofs.Ytihfdgnocdphcaa
