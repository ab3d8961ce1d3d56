/-
  Valid panels, as the program and the reference test them.
-/
import Derived.Test.YtihfdgnocdphcaaKind
import Derived.Test.YtihfdgnocdphcaaPlAllD
namespace Go.Proofs.Ytihfdgnocdphcaa
open Go.RowKit Knot


/-- A panel behind a pointer: block b is its three cells. -/
def PanAt (w : World) (b : Nat) (x y : Int) (v : Value) (xs : List Int) : Prop := Box w b 30 #[.int .i64 x, .int .i64 y, v] ∧ Ints w 0 v xs
theorem PanAt.below {w w' : World} {b : Nat} {x y : Int} {v : Value} {xs : List Int} (h : PanAt w b x y v xs) (hb : Below w.heap.size w w') : PanAt w' b x y v xs := ⟨h.1.below hb, Row.below h.2 hb⟩
theorem PanAt.drewN {w : World} {b : Nat} {x y : Int} {v : Value} {xs : List Int} (h : PanAt w b x y v xs) (n : Nat) : PanAt (w.drewN n) b x y v xs := h
theorem PanAt.alloc {w : World} {b : Nat} {x y : Int} {v : Value} {xs : List Int} (h : PanAt w b x y v xs) (o : Obj) : PanAt (w.alloc o) b x y v xs := ⟨h.1.alloc o, Row.alloc h.2 o⟩

theorem inner_bd {x y : Int} (x1 : 1 ≤ x) (x8 : x ≤ 8) (y1 : 1 ≤ y) (y8 : y ≤ 8) : 0 ≤ x * (y - 1) ∧ x * (y - 1) ≤ 64 ∧ 0 ≤ y * (x - 1) ∧ y * (x - 1) ≤ 64 := by
  have h1 := Int.mul_nonneg (show 0 ≤ x by omega) (show 0 ≤ y - 1 by omega)
  have h2 := Int.mul_nonneg (show 0 ≤ y by omega) (show 0 ≤ x - 1 by omega)
  have h3 : x * (y - 1) ≤ 8 * 8 := Int.mul_le_mul x8 (by omega) (by omega) (by omega)
  have h4 : y * (x - 1) ≤ 8 * 8 := Int.mul_le_mul y8 (by omega) (by omega) (by omega)
  omega

set_option maxHeartbeats 400000 in
theorem validSize_any (x y : Int) (c : Bool) (h : (inR x 1 8 && inR y 1 8) = c) (w : World) :
    Calls Try.prog 119 #[.int .i64 x, .int .i64 y] w fun e w' => e = .returned (.bool c) ∧ w = w' := by
  cases hx : inR x 1 8
  · rw [hx] at h
    simp at h
    subst h
    go_enter Try.func119, Try.ntmps119
    go_wp2_with (go_at_call 116; refine (inRange_any x _ _ _ hx _).mono ?_; rintro e w' ⟨rfl, rfl⟩)
    go_ret
    exact ⟨rfl, rfl⟩
  · rw [hx] at h
    simp at h
    go_enter Try.func119, Try.ntmps119
    go_wp2_with fail
    refine (inRange_any x _ _ _ hx _).mono ?_
    rintro e w' ⟨rfl, rfl⟩
    go_wp2_with fail
    refine (inRange_any y _ _ _ h _).mono ?_
    rintro e w' ⟨rfl, rfl⟩
    go_wp2_with fail
    go_ret
    exact ⟨rfl, rfl⟩
set_option maxHeartbeats 400000 in
theorem l02Side_any (x : Int) (c : Bool) (h : inR x 1 8 = c) (w : World) :
    Calls Try.prog 125 #[.int .i64 x] w fun e w' => e = .returned (.bool c) ∧ w = w' := by
  go_enter Try.func125, Try.ntmps125
  go_wp2_with (go_at_call 115; refine (l00In_any x _ _ _ h _).mono ?_; rintro e w' ⟨rfl, rfl⟩)
  go_ret
  exact ⟨rfl, rfl⟩
set_option maxHeartbeats 400000 in
theorem validBreak_any (x : Int) (c : Bool) (h : inR x 0 2 = c) (w : World) :
    Calls Try.prog 121 #[.int .i64 x] w fun e w' => e = .returned (.bool c) ∧ w = w' := by
  go_enter Try.func121, Try.ntmps121
  go_wp2_with (go_at_call 116; refine (inRange_any x _ _ _ h _).mono ?_; rintro e w' ⟨rfl, rfl⟩)
  go_ret
  exact ⟨rfl, rfl⟩
set_option maxHeartbeats 400000 in
theorem innerPoints_any (x y : Int) (x1 : 1 ≤ x) (x8 : x ≤ 8) (y1 : 1 ≤ y) (y8 : y ≤ 8) (w : World) :
    Calls Try.prog 120 #[.int .i64 x, .int .i64 y] w fun e w' => e = .returned (.int .i64 (inner x y)) ∧ w = w' := by
  obtain ⟨h1, h2, h3, h4⟩ := inner_bd x1 x8 y1 y8
  unfold inner
  go_enter Try.func120, Try.ntmps120
  go_wp2
  go_ret
  exact ⟨rfl, rfl⟩
set_option maxHeartbeats 400000 in
theorem l02Inner_any (x y : Int) (x1 : 1 ≤ x) (x8 : x ≤ 8) (y1 : 1 ≤ y) (y8 : y ≤ 8) (w : World) :
    Calls Try.prog 126 #[.int .i64 x, .int .i64 y] w fun e w' => e = .returned (.int .i64 (inner x y)) ∧ w = w' := by
  obtain ⟨h1, h2, h3, h4⟩ := inner_bd x1 x8 y1 y8
  unfold inner
  go_enter Try.func126, Try.ntmps126
  go_wp2
  go_ret
  exact ⟨rfl, rfl⟩

theorem ok_iff (x y : Int) (xs : List Int) : Ok ⟨x, y, xs⟩ ↔ (1 ≤ x ∧ x ≤ 8) ∧ (1 ≤ y ∧ y ≤ 8) ∧ (xs.length : Int) = inner x y ∧ ∀ k : Nat, k < xs.length → 0 ≤ gI xs k ∧ gI xs k ≤ 2 := by
  constructor
  · intro h
    exact ⟨⟨h.w1, h.w8⟩, ⟨h.h1, h.h8⟩, h.len, fun k hk => by rw [gI_nat xs k hk]; exact h.kind _ (List.getElem_mem _)⟩
  · rintro ⟨⟨a, b⟩, ⟨c, d⟩, e, f⟩
    refine ⟨a, b, c, d, e, fun k hk => ?_⟩
    obtain ⟨j, hj, rfl⟩ := List.getElem_of_mem hk
    have := f j hj
    rwa [gI_nat xs j hj] at this

set_option maxHeartbeats 4000000 in
theorem l02Ok_any (b : Nat) (x y : Int) (v : Value) (xs : List Int) (c : Bool) (hc : c = true ↔ Ok ⟨x, y, xs⟩) (w : World) (hp : PanAt w b x y v xs) :
    Calls Try.prog 85 #[.pointer (some ⟨b, 0, none⟩)] w fun e w' => e = .returned (.bool c) ∧ ∃ n, w.drewN n = w' := by
  rw [ok_iff] at hc
  obtain ⟨hB, hI⟩ := hp
  obtain ⟨A, cA, rfl, lA, hA⟩ := hI.open_
  unfold maxLen at lA
  have k0 := hB.cell 0
  have k1 := hB.cell 1
  have k2 := hB.cell 2
  simp only [List.getElem?_toArray, List.getElem?_cons_zero, List.getElem?_cons_succ] at k0 k1 k2
  by_cases sx : 1 ≤ x ∧ x ≤ 8
  · have HX := Lib.hid (inR_t sx)
    obtain ⟨x1, x8⟩ := sx
    by_cases sy : 1 ≤ y ∧ y ≤ 8
    · have HY := Lib.hid (inR_t sy)
      obtain ⟨y1, y8⟩ := sy
      by_cases sl : (xs.length : Int) = inner x y
      · have HL := Lib.hid sl
        have tl : ((xs.length : Int) != inner x y) = false := by simp [sl]
        clear sl
        go_enter Try.func85, Try.ntmps85
        go_wp2
        go_quiet ((first | (go_at_call 125; first | with_reducible exact qsame (l02Side_any x _ HX.out _) | with_reducible exact qsame (l02Side_any y _ HY.out _)) | (go_at_call 126; exact qsame (l02Inner_any x y x1 x8 y1 y8 _))))
        go_wp2
        go_loop [3] (fun i => ∃ k : Nat, k ≤ xs.length ∧ i = .int .i64 k ∧ Hid (∀ j : Nat, j < k → 0 ≤ gI xs j ∧ gI xs j ≤ 2)) (fun i => xs.length - (intOf i).toNat)
        case atStart => exact ⟨0, Nat.zero_le _, rfl, fun j hj => absurd hj (by omega)⟩
        case round =>
          obtain ⟨k, hk, rfl, hall⟩ := hrel
          by_cases hlt : k < xs.length
          · obtain ⟨g, rfl, _, _⟩ := hA (by omega)
            have c1 := Ints.cell hI (k := k) hlt
            have i1 : (k : Int) < (xs.length : Int) := by omega
            by_cases hr : 0 ≤ gI xs k ∧ gI xs k ≤ 2
            · have HR := Lib.hid (inR_t hr)
              have HK := Lib.hid hr
              clear hc hA hI hB hr tl
              go_wp2_with (go_at_call 115; refine (l00In_any _ _ _ _ HR.out _).mono ?_; rintro e w' ⟨rfl, rfl⟩)
              go_round
              case rel => exact ⟨k + 1, by omega, by go_num, fun j hj => by
                by_cases hjk : j = k
                · subst hjk; exact HK.out
                · exact hall.out j (by omega)⟩
              case measure => simp [intOf]; omega
            · have HR := Lib.hid (inR_f hr)
              have hcf := bool_false hc (fun h => hr (h.2.2.2 k hlt))
              subst hcf
              clear hc hA hI hB hr tl
              go_wp2_with (go_at_call 115; refine (l00In_any _ _ _ _ HR.out _).mono ?_; rintro e w' ⟨rfl, rfl⟩)
              go_ret
              exact ⟨rfl, _, rfl⟩
          · have hct := bool_true hc ⟨⟨x1, x8⟩, ⟨y1, y8⟩, HL.out, fun j hj => hall.out j (by omega)⟩
            subst hct
            clear hc hA hI hB tl
            go_wp2
            go_ret
            exact ⟨rfl, _, rfl⟩
      · have tl : ((xs.length : Int) != inner x y) = true := by simp [sl]
        have hcf := bool_false hc (fun h => sl h.2.2.1)
        subst hcf
        clear hc hA hI hB sl
        go_enter Try.func85, Try.ntmps85
        go_wp2
        go_quiet ((first | (go_at_call 125; first | with_reducible exact qsame (l02Side_any x _ HX.out _) | with_reducible exact qsame (l02Side_any y _ HY.out _)) | (go_at_call 126; exact qsame (l02Inner_any x y x1 x8 y1 y8 _))))
        go_wp2
        go_ret
        exact ⟨rfl, _, rfl⟩
    · have HY := Lib.hid (inR_f sy)
      have hcf := bool_false hc (fun h => sy h.2.1)
      subst hcf
      clear hc hA hI hB sy
      go_enter Try.func85, Try.ntmps85
      go_wp2
      go_quiet ((go_at_call 125; first | with_reducible exact qsame (l02Side_any x _ HX.out _) | with_reducible exact qsame (l02Side_any y _ HY.out _)))
      go_wp2
      go_ret
      exact ⟨rfl, _, rfl⟩
  · have HX := Lib.hid (inR_f sx)
    have hcf := bool_false hc (fun h => sx h.1)
    subst hcf
    clear hc hA hI hB sx
    go_enter Try.func85, Try.ntmps85
    go_wp2
    go_quiet ((go_at_call 125; exact qsame (l02Side_any x _ HX.out _)))
    go_wp2
    go_ret
    exact ⟨rfl, _, rfl⟩
set_option maxHeartbeats 4000000 in
theorem ValidPanel_any (x y : Int) (v : Value) (xs : List Int) (c : Bool) (hc : c = true ↔ Ok ⟨x, y, xs⟩) (w : World) (hI : Ints w 0 v xs) :
    Calls Try.prog 80 #[.agg #[.int .i64 x, .int .i64 y, v]] w fun e w' => e = .returned (.bool c) ∧ Below w.heap.size w w' := by
  rw [ok_iff] at hc
  obtain ⟨A, cA, rfl, lA, hA⟩ := hI.open_
  unfold maxLen at lA
  have bl := Joins.below_alloc1 w (.cells #[.int .i64 x, .int .i64 y, .slice A xs.length cA] 30)
  by_cases s : (inR x 1 8 && inR y 1 8) = true
  · have HS := Lib.hid s
    simp [inR] at s
    obtain ⟨⟨x1, x8⟩, y1, y8⟩ := s
    by_cases sl : (xs.length : Int) = inner x y
    · have HL := Lib.hid sl
      have tl : ((xs.length : Int) != inner x y) = false := by simp [sl]
      clear sl
      go_enter Try.func80, Try.ntmps80
      go_wp2
      go_quiet ((first | (go_at_call 119; exact qsame (validSize_any x y _ HS.out _)) | (go_at_call 120; exact qsame (innerPoints_any x y x1 x8 y1 y8 _))))
      go_wp2
      go_loop [25] (fun i => ∃ k : Nat, k ≤ xs.length ∧ i = .int .i64 k ∧ Hid (∀ j : Nat, j < k → 0 ≤ gI xs j ∧ gI xs j ≤ 2)) (fun i => xs.length - (intOf i).toNat)
      case atStart => exact ⟨0, Nat.zero_le _, rfl, fun j hj => absurd hj (by omega)⟩
      case round =>
        obtain ⟨k, hk, rfl, hall⟩ := hrel
        by_cases hlt : k < xs.length
        · obtain ⟨g, rfl, _, hg⟩ := hA (by omega)
          have c1 := Ints.cell hI (k := k) hlt
          have i1 : (k : Int) < (xs.length : Int) := by omega
          by_cases hr : 0 ≤ gI xs k ∧ gI xs k ≤ 2
          · have HR := Lib.hid (inR_t hr)
            have HK := Lib.hid hr
            clear hc hA hI hr tl
            go_wp2_with (go_at_call 121; refine (validBreak_any _ _ HR.out _).mono ?_; rintro e w' ⟨rfl, rfl⟩)
            go_round
            case rel => exact ⟨k + 1, by omega, by go_num, fun j hj => by
              by_cases hjk : j = k
              · subst hjk; exact HK.out
              · exact hall.out j (by omega)⟩
            case measure => simp [intOf]; omega
          · have HR := Lib.hid (inR_f hr)
            have hcf := bool_false hc (fun h => hr (h.2.2.2 k hlt))
            subst hcf
            clear hc hA hI hr tl
            go_wp2_with (go_at_call 121; refine (validBreak_any _ _ HR.out _).mono ?_; rintro e w' ⟨rfl, rfl⟩)
            go_ret
            exact ⟨rfl, bnext bl (below_drewN _ _ _)⟩
        · have hct := bool_true hc ⟨⟨x1, x8⟩, ⟨y1, y8⟩, HL.out, fun j hj => hall.out j (by omega)⟩
          subst hct
          clear hc hA hI tl
          go_wp2
          go_ret
          exact ⟨rfl, bnext bl (below_drewN _ _ _)⟩
    · have tl : ((xs.length : Int) != inner x y) = true := by simp [sl]
      have hcf := bool_false hc (fun h => sl h.2.2.1)
      subst hcf
      clear hc hA hI sl
      go_enter Try.func80, Try.ntmps80
      go_wp2
      go_quiet ((first | (go_at_call 119; exact qsame (validSize_any x y _ HS.out _)) | (go_at_call 120; exact qsame (innerPoints_any x y x1 x8 y1 y8 _))))
      go_wp2
      go_ret
      exact ⟨rfl, bnext bl (below_drewN _ _ _)⟩
  · have hsf : (inR x 1 8 && inR y 1 8) = false := by simpa using s
    have HS := Lib.hid hsf
    have hcf := bool_false hc (fun h => s (by rw [inR_t h.1, inR_t h.2.1]; rfl))
    subst hcf
    clear hc hA hI s hsf
    go_enter Try.func80, Try.ntmps80
    go_wp2
    go_quiet ((go_at_call 119; exact qsame (validSize_any x y _ HS.out _)))
    go_wp2
    go_ret
    exact ⟨rfl, bnext bl (below_drewN _ _ _)⟩
end Go.Proofs.Ytihfdgnocdphcaa
