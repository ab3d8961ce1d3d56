/-
  The laws' small helpers over slices of int64: copied, compared, marked, held.
-/
import Derived.Test.YtihfdgnocdphcaaMem
namespace Go.Proofs.Ytihfdgnocdphcaa
open Go.RowKit Knot

theorem addr_of {w : World} {x : Addr} {u : Value} (h : w.cell? (x.add 0) = some u) : ∃ b off, x = ⟨b, off, none⟩ := by
  obtain ⟨b, off, spot⟩ := x
  have : spot = none := by simpa [Addr.add] using World.cell?_spot h
  subst this
  exact ⟨b, off, rfl⟩
theorem add_plain' (b off j : Nat) : (⟨b, off, none⟩ : Addr).add j = ⟨b, off + j, none⟩ := by unfold Addr.add; split <;> simp_all

theorem set_fill {α : Type} (l : List α) (d x : α) (n k : Nat) (hk : k < n) (hn : n ≤ l.length) (hx : l[k]? = some x) : (l.take k ++ List.replicate (n - k) d).set k x = l.take (k + 1) ++ List.replicate (n - (k + 1)) d := by
  have h1 : (l.take k).length = k := by simp; omega
  rw [List.set_append_right _ _ (by omega), h1, Nat.sub_self, show n - k = (n - (k + 1)) + 1 by omega, List.replicate_succ, List.set_cons_zero, List.take_add_one, hx]
  simp

set_option maxHeartbeats 1000000 in
theorem toInt64S_any (a : Option Addr) (len cap : Nat) (zs : List Int) (w : World) (hr : IsRow .i64 w a len cap zs) (hsz : len ≤ 1048576) :
    Calls Try.prog 74 #[.slice a len cap] w fun e w' => ∃ g, e = .returned (.slice (some ⟨g, 0, none⟩) len len) ∧ Ints w' w.heap.size (.slice (some ⟨g, 0, none⟩) len len) (zs.take len) ∧ Below w.heap.size w w' := by
  obtain ⟨i0, hi, hz0, hz1, hz2⟩ := info_parts info_int
  have hlz : len ≤ zs.length := by
    rcases hr with ⟨_, rfl, _, _⟩ | ⟨x, _, h1, _, h3, _⟩ <;> omega
  go_enter Try.func74, Try.ntmps74
  go_wp2_with (at_make; refine wpList_make_full _ rfl _ _ 25 rfl w.heap.size 2 i0 (.int .i64 0) 1 Try.underlying25 hi hz0 hz1 _ _ _ _ len rfl rfl (by omega) (by omega) (by rw [hz2]; omega) (by unfold maxLen; omega) (Nat.le_refl _) ?_)
  intro w1 hown hgrow
  have hb1 : Below w.heap.size w w1 := (Below.refl _ _).grown hgrow (Nat.le_refl _) (by simp)
  have H1 : Ints w1 w.heap.size (.slice (some ⟨w.heap.size, 0, none⟩) len len) (List.replicate len 0) := by
    unfold Ints Row
    rw [List.length_replicate, List.map_replicate]
    simpa [Value.cells, toList_madeCells_one] using hown
  clear hown hgrow
  go_wp2
  go_loopw [4] (fun i wr => ∃ k : Nat, k ≤ len ∧ i = .int .i64 k ∧ Ints wr w.heap.size (.slice (some ⟨w.heap.size, 0, none⟩) len len) (zs.take k ++ List.replicate (len - k) 0) ∧ Below w.heap.size w wr) (fun i _ => len - (intOf i).toNat)
  case atStart => exact ⟨0, Nat.zero_le _, rfl, by simpa using H1, hb1⟩
  case round =>
    obtain ⟨k, hk, rfl, hI, hb⟩ := hrel
    by_cases hlt : k < len
    · rcases hr with ⟨_, rfl, _, _⟩ | ⟨x, rfl, h1, h2, h3, hcell, hwf⟩
      · omega
      · obtain ⟨bb, off, rfl⟩ := addr_of (hcell 0 (by omega))
        have hc0 := hcell k (by omega)
        rw [add_plain'] at hc0
        have hbl : bb < w.heap.size := World.block_lt_of_cell? w _ hc0
        have hc : wr.cell? ⟨bb, off + k, none⟩ = some (.int .i64 (gI zs k)) := (hb.cell (p := ⟨bb, off + k, none⟩) hbl).trans hc0
        have hlen : (zs.take k ++ List.replicate (len - k) 0).length = len := by simp; omega
        have hs := hI.cell (k := k) (by omega)
        have hf := hI.free k
        have hset := hI.set_ k (gI zs k)
        rw [set_fill zs 0 (gI zs k) len k hlt (by omega) (by rw [gI_nat zs k (by omega)]; simp)] at hset
        have hb2 : Below w.heap.size w (wr.setCell ⟨w.heap.size, k, none⟩ (.int .i64 (gI zs k))) := hb.setCell (p := ⟨w.heap.size, k, none⟩) (Nat.le_refl _) _
        clear hI hc0 hcell
        go_wp2
        go_roundw
        case rel => exact ⟨k + 1, by omega, by go_num, hset, hb2⟩
        case measure => simp [intOf]; omega
    · have e : k = len := by omega
      subst e
      simp only [Nat.sub_self, List.replicate_zero, List.append_nil] at hI
      go_wp2
      go_ret
      exact ⟨_, rfl, hI, hb⟩
theorem eq_of_gI {xs ys : List Int} (hl : xs.length = ys.length) (h : ∀ j : Nat, j < xs.length → gI xs j = gI ys j) : xs = ys := by
  refine List.ext_getElem hl fun j h1 h2 => ?_
  have := h j h1
  rwa [gI_nat xs j h1, gI_nat ys j h2] at this

set_option maxHeartbeats 1000000 in
theorem eqInt64S_any (v u : Value) (xs ys : List Int) (w : World) (B C : Nat) (hx : Ints w B v xs) (hy : Ints w C u ys) (c : Bool) (hc : decide (xs = ys) = c) :
    Calls Try.prog 32 #[v, u] w fun e w' => e = .returned (.bool c) ∧ ∃ n, w.drewN n = w' := by
  obtain ⟨A, cA, rfl, lA, hA⟩ := hx.open_
  obtain ⟨D, cD, rfl, lD, hD⟩ := hy.open_
  unfold maxLen at lA lD
  by_cases hl : xs.length = ys.length
  · have hln : ((xs.length : Int) != (ys.length : Int)) = false := by simp [hl]
    have hl1 : xs.length ≤ ys.length := by omega
    have hl2 : ys.length ≤ xs.length := by omega
    have HL := Lib.hid hl
    clear hl
    go_enter Try.func32, Try.ntmps32
    go_wp2
    go_loopw [5] (fun i wr => ∃ k : Nat, k ≤ xs.length ∧ i = .int .i64 k ∧ (∃ n, w.drewN n = wr) ∧ Hid (∀ j : Nat, j < k → gI xs j = gI ys j)) (fun i _ => xs.length - (intOf i).toNat)
    case atStart => exact ⟨0, Nat.zero_le _, rfl, ⟨0, rfl⟩, fun j hj => absurd hj (by omega)⟩
    case round =>
      obtain ⟨k, hk, rfl, ⟨n, rfl⟩, hall⟩ := hrel
      by_cases hlt : k < xs.length
      · obtain ⟨g, rfl, _, _⟩ := hA (by omega)
        obtain ⟨g', rfl, _, _⟩ := hD (by omega)
        have c1 := Ints.cell hx (k := k) hlt
        have c2 := Ints.cell hy (k := k) (by omega)
        have i1 : (k : Int) < (xs.length : Int) := by omega
        have i2 : (k : Int) < (ys.length : Int) := by omega
        have i0 : (0 : Int) ≤ (k : Int) := by omega
        by_cases he : gI xs k = gI ys k
        · have hne : (gI xs k != gI ys k) = false := by simp [he]
          have HE := Lib.hid he
          clear hc hA hD hx hy he
          go_wp2
          go_quiet (fail)
          go_wp2
          go_roundw
          case rel => exact ⟨k + 1, by omega, by go_num, ⟨_, rfl⟩, fun j hj => by
            by_cases hjk : j = k
            · subst hjk; exact HE.out
            · exact hall.out j (by omega)⟩
          case measure => simp [intOf]; omega
        · have hne : (gI xs k != gI ys k) = true := by simp [he]
          have hcf : c = false := by
            rw [← hc]
            refine decide_eq_false fun e => he ?_
            rw [e]
          subst hcf
          clear hc hA hD hx hy he
          go_wp2
          go_quiet (fail)
          go_wp2
          go_ret
          exact ⟨rfl, drawn2 _ _ _⟩
      · have hct : c = true := by
          rw [← hc]
          exact decide_eq_true (eq_of_gI HL.out fun j hj => hall.out j (by omega))
        subst hct
        clear hc hA hD hx hy
        go_wp2
        go_ret
        exact ⟨rfl, n, rfl⟩
  · have hln : ((xs.length : Int) != (ys.length : Int)) = true := by simp; omega
    have hcf : c = false := by
      rw [← hc]
      refine decide_eq_false fun e => hl ?_
      rw [e]
    subst hcf
    clear hc hA hD hx hy hl
    go_enter Try.func32, Try.ntmps32
    go_wp2
    go_ret
    exact ⟨rfl, 0, rfl⟩

/-- The numbers from k on, as many as n. -/
def upFrom (k : Int) (n : Nat) : List Int := (List.range n).map fun j : Nat => k + (j : Int)
theorem upFrom_length (k : Int) (n : Nat) : (upFrom k n).length = n := by simp [upFrom]
theorem upFrom_get (k : Int) (n j : Nat) (h : j < n) : (upFrom k n)[j]? = some (k + j) := by simp [upFrom, h]

set_option maxHeartbeats 1000000 in
theorem markInt64S_any (v : Value) (xs : List Int) (k0 : Int) (w : World) (B : Nat) (hx : Ints w B v xs) (hk0 : 0 ≤ k0) (hk1 : k0 + xs.length ≤ 4000000000000000000) :
    Calls Try.prog 33 #[v, .int .i64 k0] w fun e w' => e = .returned (.int .i64 (k0 + xs.length)) ∧ Ints w' B v (upFrom k0 xs.length) ∧ w.grownBy w' v.ownBlock := by
  obtain ⟨A, cA, rfl, lA, hA⟩ := hx.open_
  unfold maxLen at lA
  go_enter Try.func33, Try.ntmps33
  go_wp2
  go_loopw [1, 5] (fun m i wr => ∃ k : Nat, k ≤ xs.length ∧ m = .int .i64 (k0 + k) ∧ i = .int .i64 k ∧ Ints wr B (.slice A xs.length cA) ((upFrom k0 xs.length).take k ++ xs.drop k) ∧ w.grownBy wr (Value.slice A xs.length cA).ownBlock) (fun _ i _ => xs.length - (intOf i).toNat)
  case atStart => exact ⟨0, Nat.zero_le _, by simp, rfl, by simpa using hx, World.grownBy.refl _ _⟩
  case round =>
    obtain ⟨k, hk, rfl, rfl, hI, hg⟩ := hrel
    by_cases hlt : k < xs.length
    · obtain ⟨g, rfl, _, _⟩ := hA (by omega)
      have hlen : ((upFrom k0 xs.length).take k ++ xs.drop k).length = xs.length := by simp [upFrom_length]; omega
      have hs := hI.cell (k := k) (by omega)
      have hf := hI.free k
      have hset := hI.set_ k (k0 + (k : Int))
      have e1 : ((upFrom k0 xs.length).take k ++ xs.drop k).set k (k0 + (k : Int)) = (upFrom k0 xs.length).take (k + 1) ++ xs.drop (k + 1) := by
        have h1 : ((upFrom k0 xs.length).take k).length = k := by simp [upFrom_length]; omega
        rw [List.set_append_right _ _ (by omega), h1, Nat.sub_self, List.drop_eq_getElem_cons hlt, List.set_cons_zero, List.take_add_one, upFrom_get _ _ _ hlt]
        simp
      rw [e1] at hset
      have hg2 : w.grownBy (wr.setCell ⟨g, k, none⟩ (.int .i64 (k0 + (k : Int)))) (some g) :=
        ⟨hg.os, hg.tape, hg.output, by simpa [World.setCell] using hg.size, fun i hi hne => (Below.heap_setCell wr ⟨g, k, none⟩ _ i (fun e => hne (by rw [e]))).trans (hg.block i hi hne)⟩
      have i1 : (k : Int) < (xs.length : Int) := by omega
      clear hI hA hx e1 hlen
      go_wp2
      go_roundw
      case rel => exact ⟨k + 1, by omega, by go_num, by go_num, hset, hg2⟩
      case measure => simp [intOf]; omega
    · have e : k = xs.length := by omega
      subst e
      simp only [List.drop_length, List.append_nil] at hI
      rw [List.take_of_length_le (by simp [upFrom_length])] at hI
      clear hA hx
      go_wp2
      go_ret
      exact ⟨rfl, hI, hg⟩

set_option maxHeartbeats 1000000 in
theorem heldInt64S_any (v : Value) (n : Nat) (k0 : Int) (w : World) (B : Nat) (hx : Ints w B v (upFrom k0 n)) (hk0 : 0 ≤ k0) (hk1 : k0 + n ≤ 4000000000000000000) :
    Calls Try.prog 34 #[v, .int .i64 k0] w fun e w' => e = .returned (.int .i64 (k0 + n)) ∧ w = w' := by
  obtain ⟨A, cA, rfl, lA, hA⟩ := hx.open_
  rw [upFrom_length] at lA hA hx ⊢
  unfold maxLen at lA
  go_enter Try.func34, Try.ntmps34
  go_wp2
  go_loop [1, 5] (fun m i => ∃ k : Nat, k ≤ n ∧ m = .int .i64 (k0 + k) ∧ i = .int .i64 k) (fun _ i => n - (intOf i).toNat)
  case atStart => exact ⟨0, Nat.zero_le _, by simp, rfl⟩
  case round =>
    obtain ⟨k, hk, rfl, rfl⟩ := hrel
    by_cases hlt : k < n
    · obtain ⟨g, rfl, _, _⟩ := hA (by omega)
      have hs := hx.cell (k := k) (by rw [upFrom_length]; exact hlt)
      have e1 : gI (upFrom k0 n) k = k0 + k := by
        rw [gI_nat _ _ (by rw [upFrom_length]; exact hlt)]
        simp [upFrom]
      rw [e1] at hs
      have i1 : (k : Int) < (n : Int) := by omega
      have hne : (k0 + (k : Int) != k0 + (k : Int)) = false := by simp
      clear hA hx e1
      go_wp2
      go_round
      case rel => exact ⟨k + 1, by omega, by go_num, by go_num⟩
      case measure => simp [intOf]; omega
    · have e : k = n := by omega
      subst e
      clear hA hx
      go_wp2
      go_ret
      exact ⟨rfl, rfl⟩

set_option maxHeartbeats 400000 in
theorem szInt64S_any (a : Option Addr) (len cap : Nat) (left : Int) (w : World) (h0 : 0 ≤ left) (h1 : left ≤ 1048576) (hl : len ≤ 9223372036854775807) :
    Calls Try.prog 72 #[.slice a len cap, .int .i64 left] w fun e w' => e = .returned (.int .i64 (if (len : Int) ≤ left then left - len else -1)) ∧ w = w' := by
  by_cases h : (len : Int) ≤ left
  · rw [if_pos h]
    go_enter Try.func72, Try.ntmps72
    go_wp2
    go_ret
    exact ⟨rfl, rfl⟩
  · rw [if_neg h]
    go_enter Try.func72, Try.ntmps72
    go_wp2
    go_ret
    exact ⟨rfl, rfl⟩
end Go.Proofs.Ytihfdgnocdphcaa
