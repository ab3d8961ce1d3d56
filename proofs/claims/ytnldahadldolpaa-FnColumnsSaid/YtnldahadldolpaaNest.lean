/-
  Nested pairings, by the program and by the reference.
-/
import Derived.Test.YtnldahadldolpaaPair
import Derived.Test.YtnldahadldolpaaKind
import Derived.Deep.RegionHeld3
namespace Go.Proofs.Ytnldahadldolpaa
open Go.RowKit Knot

/-- No pair goes across that of place i. -/
def NestAt (xs : List Int) (i : Nat) : Prop := ∀ j : Nat, i < j → (j : Int) < gI xs i → gI xs j ≤ gI xs i
/-- A pairing without pairs across each other. -/
def NestX (xs : List Int) : Prop := IsPr xs ∧ ∀ i : Nat, i < xs.length → NestAt xs i
theorem Ints.cap_ {w : World} {B g n c : Nat} {xs : List Int} (h : Ints w B (.slice (some ⟨g, 0, none⟩) n c) xs) : xs.length ≤ c ∧ c ≤ maxLen := by
  rcases h with ⟨_, ⟨h1, _⟩ | ⟨g', cap, cur, h1, _, _, h2, h3, _⟩⟩
  · cases h1
  · cases h1
    exact ⟨by simpa using h2, h3⟩
theorem slice_off {g n cA k m : Nat} (u : World) (h1 : k + 1 ≤ m) (h2 : m ≤ cA) : (Instr.slice 22 (.slice (some ⟨g, 0, none⟩) n cA) (some (.int .i64 ((k : Int) + 1))) (some (.int .i64 (m : Int))) none).run Try.prog u = .ok (.slice (if cA = k + 1 then some ⟨g, 0, none⟩ else some ⟨g, k + 1, none⟩) (m - (k + 1)) (cA - (k + 1))) u := by
  have t1 : ((k : Int) + 1).toNat = k + 1 := by omega
  rw [run_slice_lh (w := u) 22 _ _ _ (by kernel_rfl) _ _ _ _ (by omega) (by omega) (by omega)]
  by_cases t7 : cA = k + 1
  · simp [go_sem, t7]
  · simp [go_sem, t7]
theorem nestAt_no {xs : List Int} {i : Nat} (h : ¬ NestAt xs i) : ∃ j : Nat, i < j ∧ (j : Int) < gI xs i ∧ gI xs i < gI xs j := by
  apply Classical.byContradiction
  intro hn
  refine h fun j h1 h2 => ?_
  apply Classical.byContradiction
  intro h3
  exact hn ⟨j, h1, h2, by omega⟩

set_option maxHeartbeats 400000 in
theorem across_any {w : World} {B bl bi g c i : Nat} {xs : List Int} (hx : Ints w B (.slice (some ⟨g, 0, none⟩) xs.length c) xs) (hbl : w.cell? ⟨bl, 0, none⟩ = some (.slice (some ⟨g, 0, none⟩) xs.length c)) (hbi : w.cell? ⟨bi, 0, none⟩ = some (.int .i64 i)) (hi : i < xs.length) (x : Int) (r : Bool) (hr : decide (gI xs i < x) = r) :
    Calls Try.prog 55 #[.int .i64 x, .pointer (some ⟨bl, 0, none⟩), .pointer (some ⟨bi, 0, none⟩)] w fun e w' => e = .returned (.bool r) ∧ w = w' := by
  have c1 := Ints.cell hx (k := i) hi
  have i1 : (i : Int) < (xs.length : Int) := by omega
  subst hr
  clear hx
  go_enter Try.func55, Try.ntmps55
  go_wp2
  all_goals (go_ret; exact ⟨by simp_all, rfl⟩)
set_option maxHeartbeats 1000000 in
theorem indexAcross {w : World} {B bl bi g c i : Nat} {xs : List Int} (hx : Ints w B (.slice (some ⟨g, 0, none⟩) xs.length c) xs) (hbl : w.cell? ⟨bl, 0, none⟩ = some (.slice (some ⟨g, 0, none⟩) xs.length c)) (hbi : w.cell? ⟨bi, 0, none⟩ = some (.int .i64 i)) (hi : i < xs.length) (o m d : Nat) (hm : o + m ≤ xs.length) (hbig : xs.length ≤ 16) :
    Calls Try.prog 85 #[.slice (some ⟨g, o, none⟩) m d, .func (.func 55) #[] #[.pointer (some ⟨bl, 0, none⟩), .pointer (some ⟨bi, 0, none⟩)]] w fun e w' =>
      (∃ r : Int, e = .returned (.int .i64 r) ∧ ((r = -1 ∧ ∀ j, j < m → gI xs ((o + j : Nat) : Int) ≤ gI xs i) ∨ (0 ≤ r ∧ r ≤ 16 ∧ ∃ j, j < m ∧ gI xs i < gI xs ((o + j : Nat) : Int)))) ∧ w = w' := by
  go_enter Try.func85, Try.ntmps85
  go_wp2
  go_loop [5, 8] (fun _ s8 => ∃ k : Nat, k ≤ m ∧ s8 = .int .i64 k ∧ Hid (∀ j : Nat, j < k → gI xs ((o + j : Nat) : Int) ≤ gI xs i)) (fun _ s8 => m - (intOf s8).toNat)
  case atStart => exact ⟨0, Nat.zero_le _, rfl, fun j hj => absurd hj (by omega)⟩
  case round =>
    obtain ⟨k, hk, rfl, hall⟩ := hrel
    by_cases hlt : k < m
    · have i1 : (k : Int) < (m : Int) := by omega
      have c1 := Ints.cell hx (k := o + k) (by omega)
      by_cases hy : gI xs i < gI xs ((o + k : Nat) : Int)
      · have hcall := across_any hx hbl hbi hi (gI xs ((o + k : Nat) : Int)) true (by simpa using hy)
        have HY := Lib.hid hy
        clear hx hbl hbi hy
        generalize hG : gI xs ((o + k : Nat) : Int) = G at c1 hcall
        have HG := Lib.hid hG
        clear hG
        go_wp2_with (go_at_call 55; refine hcall.mono ?_; rintro e w' ⟨rfl, rfl⟩)
        go_ret
        exact ⟨⟨k, rfl, .inr ⟨by omega, by omega, k, hlt, HY.out⟩⟩, rfl⟩
      · have hcall := across_any hx hbl hbi hi (gI xs ((o + k : Nat) : Int)) false (by simpa using hy)
        have HY := Lib.hid hy
        clear hx hbl hbi hy
        generalize hG : gI xs ((o + k : Nat) : Int) = G at c1 hcall
        have HG := Lib.hid hG
        clear hG
        go_wp2_with (go_at_call 55; refine hcall.mono ?_; rintro e w' ⟨rfl, rfl⟩)
        go_round
        case rel => exact ⟨k + 1, by omega, by go_num, fun j hj => by
          by_cases hjk : j = k
          · subst hjk; have := HY.out; omega
          · exact hall.out j (by omega)⟩
        case measure => simp [intOf]; omega
    · have i1 : ¬ (k : Int) < (m : Int) := by omega
      clear hx hbl hbi
      go_wp2
      go_ret
      exact ⟨⟨-1, rfl, .inl ⟨rfl, fun j hj => hall.out j (by omega)⟩⟩, rfl⟩
set_option maxHeartbeats 400000 in
theorem index_none {w : World} (a : Option Addr) (d : Nat) (f : Value) :
    Calls Try.prog 85 #[.slice a 0 d, f] w fun e w' => e = .returned (.int .i64 (-1)) ∧ w = w' := by
  go_enter Try.func85, Try.ntmps85
  go_wp2
  go_loop [5, 8] (fun _ s8 => s8 = .int .i64 0) (fun _ _ => 0)
  case atStart => rfl
  case round =>
    obtain rfl := hrel
    go_wp2
    go_ret
    exact ⟨rfl, rfl⟩
set_option maxHeartbeats 400000 in
theorem contains_none {w : World} (a : Option Addr) (d : Nat) (f : Value) :
    Calls Try.prog 54 #[.slice a 0 d, f] w fun e w' => e = .returned (.bool false) ∧ w = w' := by
  go_enter Try.func54, Try.ntmps54
  go_wp2_with (go_at_call 85; (with_reducible refine (index_none _ _ _).mono ?_); rintro e w' ⟨rfl, rfl⟩)
  go_ret
  exact ⟨rfl, rfl⟩
set_option maxHeartbeats 400000 in
theorem contains_yes {w : World} {B bl bi g c i : Nat} {xs : List Int} (hx : Ints w B (.slice (some ⟨g, 0, none⟩) xs.length c) xs) (hbl : w.cell? ⟨bl, 0, none⟩ = some (.slice (some ⟨g, 0, none⟩) xs.length c)) (hbi : w.cell? ⟨bi, 0, none⟩ = some (.int .i64 i)) (hi : i < xs.length) (o m d : Nat) (hm : o + m ≤ xs.length) (hbig : xs.length ≤ 16) (hh : Hid (∃ j, j < m ∧ gI xs i < gI xs ((o + j : Nat) : Int))) :
    Calls Try.prog 54 #[.slice (some ⟨g, o, none⟩) m d, .func (.func 55) #[] #[.pointer (some ⟨bl, 0, none⟩), .pointer (some ⟨bi, 0, none⟩)]] w fun e w' => e = .returned (.bool true) ∧ w = w' := by
  have hcall : Calls Try.prog 85 #[.slice (some ⟨g, o, none⟩) m d, .func (.func 55) #[] #[.pointer (some ⟨bl, 0, none⟩), .pointer (some ⟨bi, 0, none⟩)]] w fun e w' => (∃ r : Int, e = .returned (.int .i64 r) ∧ 0 ≤ r ∧ r ≤ 16) ∧ w = w' := (indexAcross hx hbl hbi hi o m d hm hbig).mono fun e w' ⟨⟨r, h1, h2⟩, h3⟩ => ⟨⟨r, h1, by
    rcases h2 with ⟨h4, h5⟩ | h2
    · obtain ⟨j, h6, h7⟩ := hh.out
      have := h5 j h6
      omega
    · exact ⟨h2.1, h2.2.1⟩⟩, h3⟩
  clear hx hbl hbi hh
  go_enter Try.func54, Try.ntmps54
  go_wp2_with (go_at_call 85; (with_reducible refine hcall.mono ?_); rintro e w' ⟨⟨r, rfl, r0, r1⟩, rfl⟩)
  go_ret
  exact ⟨rfl, rfl⟩
set_option maxHeartbeats 400000 in
theorem contains_no {w : World} {B bl bi g c i : Nat} {xs : List Int} (hx : Ints w B (.slice (some ⟨g, 0, none⟩) xs.length c) xs) (hbl : w.cell? ⟨bl, 0, none⟩ = some (.slice (some ⟨g, 0, none⟩) xs.length c)) (hbi : w.cell? ⟨bi, 0, none⟩ = some (.int .i64 i)) (hi : i < xs.length) (o m d : Nat) (hm : o + m ≤ xs.length) (hbig : xs.length ≤ 16) (hh : Hid (∀ j, j < m → gI xs ((o + j : Nat) : Int) ≤ gI xs i)) :
    Calls Try.prog 54 #[.slice (some ⟨g, o, none⟩) m d, .func (.func 55) #[] #[.pointer (some ⟨bl, 0, none⟩), .pointer (some ⟨bi, 0, none⟩)]] w fun e w' => e = .returned (.bool false) ∧ w = w' := by
  have hcall : Calls Try.prog 85 #[.slice (some ⟨g, o, none⟩) m d, .func (.func 55) #[] #[.pointer (some ⟨bl, 0, none⟩), .pointer (some ⟨bi, 0, none⟩)]] w fun e w' => e = .returned (.int .i64 (-1)) ∧ w = w' := (indexAcross hx hbl hbi hi o m d hm hbig).mono fun e w' ⟨⟨r, h1, h2⟩, h3⟩ => ⟨by
    rcases h2 with ⟨h4, h5⟩ | ⟨_, _, j, h6, h7⟩
    · rw [h1, h4]
    · have := hh.out j h6
      omega, h3⟩
  clear hx hbl hbi hh
  go_enter Try.func54, Try.ntmps54
  go_wp2_with (go_at_call 85; (with_reducible refine hcall.mono ?_); rintro e w' ⟨rfl, rfl⟩)
  go_ret
  exact ⟨rfl, rfl⟩

set_option maxHeartbeats 4000000 in
theorem IsNested_any {w : World} {B : Nat} {v : Value} {xs : List Int} {c : Bool} (hc : c = true ↔ NestX xs) (hx : Ints w B v xs) :
    Calls Try.prog 19 #[v] w fun e w' => e = .returned (.bool c) ∧ Below w.heap.size w w' := by
  obtain ⟨A, cA, rfl, lA, hA⟩ := hx.open_
  unfold maxLen at lA
  have bl : Below w.heap.size w (w.alloc (.cells #[.slice A xs.length cA] 22)) := (Below.refl _ w).alloc (Nat.le_refl _) _
  by_cases px : IsPr xs
  · obtain ⟨g, rfl, _, gl⟩ := hA (by have := px.1; omega)
    have hp : ∀ w' : World, Ints w' B (.slice (some ⟨g, 0, none⟩) xs.length cA) xs → Calls Try.prog 16 #[.slice (some ⟨g, 0, none⟩) xs.length cA] w' fun e w'' => e = .returned (.bool true) ∧ w' = w'' := fun w' h => IsPairing_any _ xs true (yes_iff px) _ _ h
    have hp := hp _ (hx.below bl)
    have PX := Lib.hid px
    have HC := Lib.hid hc
    have hbox : (w.alloc (.cells #[.slice (some ⟨g, 0, none⟩) xs.length cA] 22)).cell? ⟨w.heap.size, 0, none⟩ = some (.slice (some ⟨g, 0, none⟩) xs.length cA) := by simp
    have hl16 := px.2.1
    have HX := Lib.hid hx
    obtain ⟨lc, lm⟩ := hx.cap_
    unfold maxLen at lm
    clear hA px hc hx
    go_enter Try.func19, Try.ntmps19
    go_wp2_with (go_at_call 16; (with_reducible refine hp.mono ?_); rintro e w' ⟨rfl, rfl⟩)
    clear hp
    have hbx : w.heap.size < (w.alloc (.cells #[.slice (some ⟨g, 0, none⟩) xs.length cA] 22)).heap.size := by simp
    generalize (w.alloc (.cells #[.slice (some ⟨g, 0, none⟩) xs.length cA] 22)) = V at hbx bl hbox ⊢
    go_loopw [3, 9] (fun _ m wr => ∃ k : Nat, k ≤ xs.length ∧ m = .int .i64 k ∧ Below w.heap.size w wr ∧ wr.cell? ⟨w.heap.size, 0, none⟩ = some (.slice (some ⟨g, 0, none⟩) xs.length cA) ∧ w.heap.size < wr.heap.size ∧ Hid (∀ i : Nat, i < k → NestAt xs i)) (fun _ m _ => xs.length - (intOf m).toNat)
    case atStart => exact ⟨0, Nat.zero_le _, rfl, bl, hbox, hbx, fun j hj => absurd hj (by omega)⟩
    case round =>
      obtain ⟨k, hk, rfl, hb, hbox1, hbx1, hall⟩ := hrel
      clear hbox hbx bl
      by_cases hlt : k < xs.length
      · have i1 : (k : Int) < (xs.length : Int) := by omega
        have hx1 := HX.out.below hb
        have c1 : wr.cell? ⟨g, k, none⟩ = some (.int .i64 (gI xs k)) := Ints.cell hx1 hlt
        have hP := PX.out.2.2.2 k hlt
        have b2 : Below wr.heap.size wr (wr.alloc (.cells #[.int .i64 k] 2)) := (Below.refl _ wr).alloc (Nat.le_refl _) _
        have hx2 := hx1.below b2
        have hbox2 : (wr.alloc (.cells #[.int .i64 k] 2)).cell? ⟨w.heap.size, 0, none⟩ = some (.slice (some ⟨g, 0, none⟩) xs.length cA) := (b2.cell (p := ⟨w.heap.size, 0, none⟩) hbx1).trans hbox1
        have hi2 : (wr.alloc (.cells #[.int .i64 k] 2)).cell? ⟨wr.heap.size, 0, none⟩ = some (.int .i64 k) := by simp
        have hb3 : Below w.heap.size w (wr.alloc (.cells #[.int .i64 k] 2)) := hb.alloc hb.size _
        have c2 : (wr.alloc (.cells #[.int .i64 k] 2)).cell? ⟨g, k, none⟩ = some (.int .i64 (gI xs k)) := Ints.cell hx2 hlt
        have hbx2 : w.heap.size < (wr.alloc (.cells #[.int .i64 k] 2)).heap.size := by simp; omega
        have hx3 : Ints (wr.alloc (.cells #[.int .i64 k] 2)).drew B (.slice (some ⟨g, 0, none⟩) xs.length cA) xs := hx2.below (below_drewN _ _ 1)
        have hbox3 : (wr.alloc (.cells #[.int .i64 k] 2)).drew.cell? ⟨w.heap.size, 0, none⟩ = some (.slice (some ⟨g, 0, none⟩) xs.length cA) := hbox2
        have hi3 : (wr.alloc (.cells #[.int .i64 k] 2)).drew.cell? ⟨wr.heap.size, 0, none⟩ = some (.int .i64 k) := hi2
        clear hx1 hx2 b2
        obtain ⟨r0, r1, r2, _⟩ := hP
        obtain ⟨m, hm⟩ := Int.eq_ofNat_of_zero_le r0
        have c2 : (wr.alloc (.cells #[.int .i64 k] 2)).cell? ⟨g, k, none⟩ = some (.int .i64 m) := by rw [← hm]; exact c2
        have m1 : (0 : Int) ≤ m := by omega
        have m2 : (m : Int) ≤ cA := by omega
        have m3 : m ≤ cA := by omega
        have t1 : ((k : Int) + 1).toNat = k + 1 := by omega
        have t2 : (0 : Int) ≤ (k : Int) + 1 := by omega
        have t3 : k + 1 ≤ cA := by omega
        have t4 : (k : Int) + 1 ≤ cA := by omega
        have t5 : (k : Int) < cA := by omega
        have hw : IntKind.i64.wrap ((k : Int) + 1) = (k : Int) + 1 := by rw [IntKind.wrap_i64]; omega
        have t9 : k < cA := by omega
        by_cases hgt : (k : Int) + 1 < m
        · by_cases hn : NestAt xs k
          · have hcall := fun d => contains_no hx3 hbox3 hi3 hlt (k + 1) (m - (k + 1)) d (by omega) hl16 (Lib.hid fun j hj => hn _ (by omega) (by omega))
            have HN : Hid (∀ i : Nat, i < k + 1 → NestAt xs i) := Lib.hid fun i hi => by
              by_cases hik : i = k
              · subst hik; exact hn
              · exact hall.out i (by omega)
            have t6 : (k : Int) + 1 ≤ m := by omega
            have t7 : ¬ cA = k + 1 := by omega
            have t8 : k + 1 ≤ m := by omega
            have u1 : (k : Int) < m := by omega
            have u2 : k < m := by omega
            have u3 : ¬ (m : Int) ≤ k := by omega
            have u4 : ¬ m ≤ k := by omega
            have u5 : ¬ (m : Int) < (k : Int) + 1 := by omega
            clear hx3 hbox3 hi3 hn hm r0 r1 r2 c1
            have hsl : ∀ u : World, (Instr.slice 22 (.slice (some ⟨g, 0, none⟩) xs.length cA) (some (.int .i64 ((k : Int) + 1))) (some (.int .i64 (m : Int))) none).run Try.prog u = .ok (.slice (some ⟨g, k + 1, none⟩) (m - (k + 1)) (cA - (k + 1))) u := fun u => by rw [slice_off u t8 m3, if_neg t7]
            have hmax : ∀ (u : World) (ts : Array TypeId) (t : TypeId), (Builtin.max_ ts t #[.int .i64 (m : Int), .int .i64 ((k : Int) + 1)]).run Try.prog u = .ok (.int .i64 (m : Int)) u := fun u ts t => by rw [run_max_int2, if_neg (by omega)]
            have hcall := hcall (cA - (k + 1))
            generalize Value.slice (some ⟨g, k + 1, none⟩) (m - (k + 1)) (cA - (k + 1)) = Z at hcall hsl
            clear hgt t6 t7 t8 u1 u2 u3 u4 u5 m1 m2 m3 t3 t4 t5 t9
            go_wp2_with fail
            generalize (wr.alloc (.cells #[.int .i64 k] 2)) = V at hbox2 hi2 hb3 c2 hbx2 hcall ⊢
            first
            | go_region_held3 (fun w' => w'.cell? ⟨w.heap.size, 0, none⟩ = some (.slice (some ⟨g, 0, none⟩) xs.length cA) ∧ w'.cell? ⟨wr.heap.size, 0, none⟩ = some (.int .i64 k) ∧ w'.cell? ⟨g, k, none⟩ = some (.int .i64 m))
              (exact ⟨hbox2, hi2, c2⟩)
              ((go_at_call 54; (with_reducible refine hcall.mono ?_); rintro e w5 ⟨rfl, rfl⟩))
            | fail
            all_goals
              go_wp2
              go_round
              · exact ⟨k + 1, by omega, by go_num, hb3.trans ((below_drewN _ V 1).mono hb3.size), hbox2, hbx2, HN⟩
              · simp [intOf]; omega
          · have hcall := fun d => contains_yes hx3 hbox3 hi3 hlt (k + 1) (m - (k + 1)) d (by omega) hl16 (Lib.hid (by
              obtain ⟨j, j1, j2, j3⟩ := nestAt_no hn
              exact ⟨j - (k + 1), by omega, by rw [show k + 1 + (j - (k + 1)) = j by omega]; exact j3⟩))
            have hcf := bool_false HC.out (fun h => hn (h.2 k hlt))
            subst hcf
            have t6 : (k : Int) + 1 ≤ m := by omega
            have t7 : ¬ cA = k + 1 := by omega
            have t8 : k + 1 ≤ m := by omega
            have u1 : (k : Int) < m := by omega
            have u2 : k < m := by omega
            have u3 : ¬ (m : Int) ≤ k := by omega
            have u4 : ¬ m ≤ k := by omega
            have u5 : ¬ (m : Int) < (k : Int) + 1 := by omega
            clear hx3 hbox3 hi3 hn HC hm r0 r1 r2 c1
            have hsl : ∀ u : World, (Instr.slice 22 (.slice (some ⟨g, 0, none⟩) xs.length cA) (some (.int .i64 ((k : Int) + 1))) (some (.int .i64 (m : Int))) none).run Try.prog u = .ok (.slice (some ⟨g, k + 1, none⟩) (m - (k + 1)) (cA - (k + 1))) u := fun u => by rw [slice_off u t8 m3, if_neg t7]
            have hmax : ∀ (u : World) (ts : Array TypeId) (t : TypeId), (Builtin.max_ ts t #[.int .i64 (m : Int), .int .i64 ((k : Int) + 1)]).run Try.prog u = .ok (.int .i64 (m : Int)) u := fun u ts t => by rw [run_max_int2, if_neg (by omega)]
            have hcall := hcall (cA - (k + 1))
            generalize Value.slice (some ⟨g, k + 1, none⟩) (m - (k + 1)) (cA - (k + 1)) = Z at hcall hsl
            clear hgt t6 t7 t8 u1 u2 u3 u4 u5 m1 m2 m3 t3 t4 t5 t9
            go_wp2_with fail
            generalize (wr.alloc (.cells #[.int .i64 k] 2)) = V at hbox2 hi2 hb3 c2 hbx2 hcall ⊢
            first
            | go_region_held3 (fun w' => w'.cell? ⟨w.heap.size, 0, none⟩ = some (.slice (some ⟨g, 0, none⟩) xs.length cA) ∧ w'.cell? ⟨wr.heap.size, 0, none⟩ = some (.int .i64 k) ∧ w'.cell? ⟨g, k, none⟩ = some (.int .i64 m))
              (exact ⟨hbox2, hi2, c2⟩)
              ((go_at_call 54; (with_reducible refine hcall.mono ?_); rintro e w5 ⟨rfl, rfl⟩))
            | fail
            all_goals
              go_wp2
              go_ret
              exact ⟨rfl, hb3.trans ((below_drewN _ V 1).mono hb3.size)⟩
        · have HN : Hid (∀ i : Nat, i < k + 1 → NestAt xs i) := Lib.hid fun i hi => by
            by_cases hik : i = k
            · subst hik; exact fun j j1 j2 => absurd j2 (by omega)
            · exact hall.out i (by omega)
          have hcall : ∀ a d f, _ := fun a d f => contains_none (w := (wr.alloc (.cells #[.int .i64 k] 2)).drew) a d f
          clear hx3 hbox3 hi3 hm r0 r1 r2 c1
          obtain ⟨A', hsl⟩ : ∃ A', ∀ u : World, (Instr.slice 22 (.slice (some ⟨g, 0, none⟩) xs.length cA) (some (.int .i64 ((k : Int) + 1))) (some (.int .i64 ((k : Int) + 1))) none).run Try.prog u = .ok (.slice A' 0 (cA - (k + 1))) u :=
            ⟨_, fun u => by have := slice_off (g := g) (n := xs.length) u (Nat.le_refl (k + 1)) t3; rw [Nat.sub_self] at this; exact this⟩
          rcases Int.lt_or_eq_of_le (Int.not_lt.mp hgt) with hlt2 | heq
          · have u1 : (m : Int) ≤ k := by omega
            have u2 : m ≤ k := by omega
            have u3 : (m : Int) < (k : Int) + 1 := hlt2
            clear hgt hlt2
            go_wp2_with fail
            generalize (wr.alloc (.cells #[.int .i64 k] 2)) = V at hbox2 hi2 hb3 c2 hbx2 hcall ⊢
            go_region_held3 (fun w' => w'.cell? ⟨w.heap.size, 0, none⟩ = some (.slice (some ⟨g, 0, none⟩) xs.length cA) ∧ w'.cell? ⟨wr.heap.size, 0, none⟩ = some (.int .i64 k) ∧ w'.cell? ⟨g, k, none⟩ = some (.int .i64 m))
              (exact ⟨hbox2, hi2, c2⟩)
              ((go_at_call 54; (with_reducible refine (hcall _ _ _).mono ?_); rintro e w5 ⟨rfl, rfl⟩))
            all_goals
              go_wp2
              go_round
              · exact ⟨k + 1, by omega, by go_num, hb3.trans ((below_drewN _ V 1).mono hb3.size), hbox2, hbx2, HN⟩
              · simp [intOf]; omega
          · have u1 : m = k + 1 := by omega
            subst u1
            have c2 : (wr.alloc (.cells #[.int .i64 k] 2)).cell? ⟨g, k, none⟩ = some (.int .i64 ((k : Int) + 1)) := by simpa using c2
            clear hgt heq
            go_wp2_with fail
            generalize (wr.alloc (.cells #[.int .i64 k] 2)) = V at hbox2 hi2 hb3 c2 hbx2 hcall ⊢
            go_region_held3 (fun w' => w'.cell? ⟨w.heap.size, 0, none⟩ = some (.slice (some ⟨g, 0, none⟩) xs.length cA) ∧ w'.cell? ⟨wr.heap.size, 0, none⟩ = some (.int .i64 k) ∧ w'.cell? ⟨g, k, none⟩ = some (.int .i64 ((k : Int) + 1)))
              (exact ⟨hbox2, hi2, c2⟩)
              ((go_at_call 54; (with_reducible refine (hcall _ _ _).mono ?_); rintro e w5 ⟨rfl, rfl⟩))
            all_goals
              go_wp2
              go_round
              · exact ⟨k + 1, by omega, by go_num, hb3.trans ((below_drewN _ V 1).mono hb3.size), hbox2, hbx2, HN⟩
              · simp [intOf]; omega
      · have hk' : k = xs.length := by omega
        have i1 : ¬ (k : Int) < (xs.length : Int) := by omega
        have hct := bool_true HC.out ⟨PX.out, fun i hi => hall.out i (by omega)⟩
        subst hct
        go_wp2
        go_ret
        exact ⟨rfl, hb⟩
  · have hcf := bool_false hc (fun h => px h.1)
    subst hcf
    have hp := IsPairing_any _ xs false (no_iff px) _ _ (hx.below bl)
    clear hx hA hc
    go_enter Try.func19, Try.ntmps19
    go_wp2_with (go_at_call 16; (with_reducible refine hp.mono ?_); rintro e w' ⟨rfl, rfl⟩)
    go_ret
    exact ⟨rfl, bl⟩

set_option maxHeartbeats 4000000 in
theorem sIsNested_any {w : World} {B : Nat} {v : Value} {xs : List Int} {c : Bool} (hc : c = true ↔ NestX xs) (hx : Ints w B v xs) :
    Calls Try.prog 18 #[v] w fun e w' => e = .returned (.bool c) ∧ Below w.heap.size w w' := by
  obtain ⟨A, cA, rfl, lA, hA⟩ := hx.open_
  unfold maxLen at lA
  by_cases px : IsPr xs
  · obtain ⟨g, rfl, _, gl⟩ := hA (by have := px.1; omega)
    have hp := l09Ok_any _ xs true (yes_iff px) _ _ hx
    have PX := Lib.hid px
    have HC := Lib.hid hc
    have hl16 := px.2.1
    have HX := Lib.hid hx
    have b0 := Below.refl w.heap.size w
    clear hA px hc hx
    go_enter Try.func18, Try.ntmps18
    go_wp2_with (go_at_call 52; (with_reducible refine hp.mono ?_); rintro e w' ⟨rfl, rfl⟩)
    clear hp
    go_loopw [3, 4] (fun m _ wr => ∃ k : Nat, k ≤ xs.length ∧ m = .int .i64 k ∧ Below w.heap.size w wr ∧ Hid (∀ i : Nat, i < k → NestAt xs i)) (fun m _ _ => xs.length - (intOf m).toNat)
    case atStart => exact ⟨0, Nat.zero_le _, rfl, b0, fun j hj => absurd hj (by omega)⟩
    case round =>
      obtain ⟨k, hk, rfl, hb, hall⟩ := hrel
      by_cases hlt : k < xs.length
      · have i1 : (k : Int) < (xs.length : Int) := by omega
        have hP := PX.out.2.2.2 k hlt
        obtain ⟨r0, r1, r2, _⟩ := hP
        obtain ⟨m, hm⟩ := Int.eq_ofNat_of_zero_le r0
        have HM := Lib.hid hm
        have m1 : (m : Int) < (xs.length : Int) := by omega
        have m2 : m < xs.length := by omega
        clear hm r0 r1 r2
        obtain ⟨W1, hW1⟩ : ∃ x, x = wr := ⟨wr, rfl⟩
        subst hW1
        go_wp2
        go_loopw [4] (fun q wr => ∃ j : Nat, k < j ∧ q = .int .i64 j ∧ (j ≤ m ∨ j = k + 1) ∧ Below w.heap.size w wr ∧ Hid (∀ i : Nat, k < i → i < j → gI xs i ≤ gI xs k)) (fun q _ => xs.length - (intOf q).toNat)
        case atStart => exact ⟨k + 1, by omega, by go_num, .inr rfl, hb, fun i h1 h2 => absurd h2 (by omega)⟩
        case round =>
          obtain ⟨j, hj, rfl, hj2, hbb, hin⟩ := hrel
          have c1 : wr.cell? ⟨g, k, none⟩ = some (.int .i64 m) := by
            have := Ints.cell (HX.out.below hbb) (k := k) hlt
            rwa [HM.out] at this
          by_cases hjm : j < m
          · have j1 : (j : Int) < (m : Int) := by omega
            have j2 : (j : Int) < (xs.length : Int) := by omega
            have c2 : wr.cell? ⟨g, j, none⟩ = some (.int .i64 (gI xs j)) := Ints.cell (HX.out.below hbb) (k := j) (by omega)
            by_cases hgt : (m : Int) < gI xs j
            · have hcf := bool_false HC.out (fun h => by
                have := h.2 k hlt j hj (by rw [HM.out]; omega)
                rw [HM.out] at this
                omega)
              subst hcf
              clear hj2 hall hin HC
              generalize gI xs j = G at c2 hgt
              go_wp2_with fail
              go_region_held3 (fun w' => w'.cell? ⟨g, k, none⟩ = some (.int .i64 m) ∧ w'.cell? ⟨g, j, none⟩ = some (.int .i64 G)) (exact ⟨c1, c2⟩) (fail)
              all_goals
                go_wp2
                go_ret
                exact ⟨rfl, hbb.trans ((below_drewN _ wr 1).mono hbb.size)⟩
            · have HI : Hid (∀ i : Nat, k < i → i < j + 1 → gI xs i ≤ gI xs k) := Lib.hid fun i h1 h2 => by
                by_cases hij : i = j
                · subst hij; rw [HM.out]; omega
                · exact hin.out i h1 (by omega)
              clear hj2 hall hin
              generalize gI xs j = G at c2 hgt
              go_wp2_with fail
              go_region_held3 (fun w' => w'.cell? ⟨g, k, none⟩ = some (.int .i64 m) ∧ w'.cell? ⟨g, j, none⟩ = some (.int .i64 G)) (exact ⟨c1, c2⟩) (fail)
              all_goals
                go_wp2
                go_round
                · exact ⟨j + 1, by omega, by go_num, .inl (by omega), hbb.trans ((below_drewN _ wr 1).mono hbb.size), HI⟩
                · simp [intOf]; omega
          · have j1 : ¬ (j : Int) < (m : Int) := by omega
            have HN : Hid (∀ i : Nat, i < k + 1 → NestAt xs i) := Lib.hid fun i hi => by
              by_cases hik : i = k
              · subst hik
                exact fun j' h1 h2 => hin.out j' h1 (by rw [HM.out] at h2; omega)
              · exact hall.out i (by omega)
            clear hj2 hin
            go_wp2
            go_round
            case rel => exact ⟨k + 1, by omega, by go_num, hbb, HN⟩
            case measure => simp [intOf]; omega
      · have i1 : ¬ (k : Int) < (xs.length : Int) := by omega
        have hct := bool_true HC.out ⟨PX.out, fun i hi => hall.out i (by omega)⟩
        subst hct
        go_wp2
        go_ret
        exact ⟨rfl, hb⟩
  · have hcf := bool_false hc (fun h => px h.1)
    subst hcf
    have hp := l09Ok_any _ xs false (no_iff px) _ _ hx
    have b0 := Below.refl w.heap.size w
    clear hx hA hc
    go_enter Try.func18, Try.ntmps18
    go_wp2_with (go_at_call 52; (with_reducible refine hp.mono ?_); rintro e w' ⟨rfl, rfl⟩)
    go_ret
    exact ⟨rfl, b0⟩

open Classical in
/-- What IsNested answers. -/
noncomputable def nestM (xs : List Int) : Bool := decide (NestX xs)
theorem nestM_iff {xs : List Int} {r : Bool} (h : nestM xs = r) : r = true ↔ NestX xs := by
  subst h
  simp [nestM]
theorem K_impl_IsNested {w : World} {lo hi : Nat} {v : Value} {xs : List Int} {r : Bool} (hx : IntsIn w lo hi v xs) (hm : nestM xs = r) :
    Calls Try.prog 19 #[v] w fun e w' => e = .returned (.bool r) ∧ Below w.heap.size w w' := IsNested_any (nestM_iff hm) hx.1
theorem K_spec_IsNested {w : World} {lo hi : Nat} {v : Value} {xs : List Int} {r : Bool} (hx : IntsIn w lo hi v xs) (hm : nestM xs = r) :
    Calls Try.prog 18 #[v] w fun e w' => e = .returned (.bool r) ∧ Below w.heap.size w w' := sIsNested_any (nestM_iff hm) hx.1
end Go.Proofs.Ytnldahadldolpaa
