/-
  SingleSizes, by the program and by the reference.
-/
import Derived.Test.YtcjjkiajgkicnaaVal
import Derived.Test.YtcjjkiajgkicnaaRect2
namespace Go.Proofs.Ytcjjkiajgkicnaa
open Go.RowKit Knot


/-- The widths up to k with which a panel of the height h has one curve. -/
def singTo (h : Int) : Nat → List Int
  | 0 => []
  | k + 1 => if gcdI ((k : Int) + 1) h = 1 then singTo h k ++ [(k : Int) + 1] else singTo h k
theorem singTo_one {h : Int} {k : Nat} (e : gcdI ((k : Int) + 1) h = 1) : singTo h (k + 1) = singTo h k ++ [(k : Int) + 1] := by rw [singTo, if_pos e]
theorem singTo_no {h : Int} {k : Nat} (e : ¬ gcdI ((k : Int) + 1) h = 1) : singTo h (k + 1) = singTo h k := by rw [singTo, if_neg e]
theorem singTo_len (h : Int) (k : Nat) : (singTo h k).length ≤ k := by
  induction k with
  | zero => exact Nat.le_refl _
  | succ k ih =>
    by_cases e : gcdI ((k : Int) + 1) h = 1
    · rw [singTo_one e, List.length_append]; simp; omega
    · rw [singTo_no e]; omega
def singM (h : Int) : List Int × Int := if 1 ≤ h ∧ h ≤ 8 then (singTo h 8, 0) else ([], 2)
theorem IntsIn.mono' {w : World} {lo : Nat} {v : Value} {xs : List Int} (h : Ints w lo v xs) (hl : xs.length ≤ 2000000) : IntsIn w lo w.heap.size v xs := IntsIn.ofInts h hl

set_option maxHeartbeats 4000000 in
theorem K_impl_SingleSizes {w : World} {h : Int} {xs : List Int} {r1 : Int} (hm : singM h = (xs, r1)) :
    Calls Try.prog 26 #[.int .i64 h] w fun e w' => ∃ A c, e = .returned (.tuple #[.slice A xs.length c, .int .i64 r1]) ∧ IntsIn w' w.heap.size w'.heap.size (.slice A xs.length c) xs ∧ Below w.heap.size w w' := by
  by_cases hr : 1 ≤ h ∧ h ≤ 8
  rotate_left
  · obtain ⟨rfl, rfl⟩ : [] = xs ∧ 2 = r1 := by simpa [singM, hr] using hm
    have HR := Lib.hid (inR_f hr)
    clear hm hr
    go_enter Try.func26, Try.ntmps26
    go_wp2_with fail
    refine (inRange_any h _ _ _ HR.out _).mono ?_
    rintro e w' ⟨rfl, rfl⟩
    go_wp2
    go_ret2
    exact ⟨none, 0, rfl, IntsIn.nil _ _ _ (Nat.le_refl _), Below.refl _ _⟩
  obtain ⟨rfl, rfl⟩ : singTo h 8 = xs ∧ 0 = r1 := by simpa [singM, hr] using hm
  have HR := Lib.hid (inR_t hr)
  obtain ⟨h1, h8⟩ := hr
  clear hm
  have bl := Joins.below_alloc1 w (.cells #[] 2)
  have hL : Ints (w.alloc (.cells #[] 2)) w.heap.size (.slice (some ⟨w.heap.size, 0, none⟩) 0 0) [] := Row.none_ w
  go_enter Try.func26, Try.ntmps26
  go_wp2_with fail
  refine (inRange_any h _ _ _ HR.out _).mono ?_
  rintro e w' ⟨rfl, rfl⟩
  go_wp2
  go_loopw [4, 5] (fun o i wr => ∃ (k : Nat) (A : Option Addr) (c : Nat), k ≤ 8 ∧ o = .slice A (singTo h k).length c ∧ i = .int .i64 ((k : Int) + 1) ∧ Ints wr w.heap.size (.slice A (singTo h k).length c) (singTo h k) ∧ Below w.heap.size w wr) (fun _ i _ => 9 - (intOf i).toNat)
  case atStart => exact ⟨0, _, _, Nat.zero_le _, rfl, rfl, hL, bl⟩
  case round =>
    obtain ⟨k, A, c, hk, rfl, rfl, hI, hb⟩ := hrel
    clear hL bl
    have hlen : (singTo h k).length < 1000000000 := by have := singTo_len h k; omega
    by_cases hlt : k < 8
    · have i1 : (k : Int) + 1 ≤ 8 := by omega
      go_wp2_with fail
      refine (gcd_any _ h (by omega) (by omega) (by omega) (by omega) _).mono ?_
      rintro e w' ⟨rfl, n, rfl⟩
      by_cases hg : gcdI ((k : Int) + 1) h = 1
      · have hgt : (gcdI ((k : Int) + 1) h == 1) = true := by simp [hg]
        have HG := Lib.hid (singTo_one hg)
        have hB : w.heap.size ≤ (wr.drewN n).heap.size := hb.size
        clear hg
        go_wp2_with (at_builtin; refine append_one rfl _ _ rfl w.heap.size _ (singTo h k) ((k : Int) + 1) hI rfl rfl hlen hB ?_)
        intro g c' w2 hI2 hg2
        have hb2 : Below w.heap.size w w2 := (hb.trans (below_drewN _ _ n)).grown hg2 hB (fun j hj => (Row.lt hI hj).1)
        have e1 : (singTo h k).length + 1 = (singTo h (k + 1)).length := by rw [HG.out, List.length_append]; rfl
        rw [e1, ← HG.out] at hI2
        rw [e1]
        clear hI hb hg2
        go_wp2
        go_roundw
        case rel => exact ⟨k + 1, some ⟨g, 0, none⟩, c', by omega, rfl, by go_num, hI2, hb2⟩
        case measure => simp [intOf]; omega
      · have hgt : (gcdI ((k : Int) + 1) h == 1) = false := by simp [hg]
        have HG := Lib.hid (singTo_no hg)
        have hb2 := hb.trans (below_drewN _ _ n)
        clear hg
        go_wp2
        go_roundw
        case rel => exact ⟨k + 1, A, c, by omega, by rw [HG.out], by go_num, by rw [HG.out]; exact hI, hb2⟩
        case measure => simp [intOf]; omega
    · have e : k = 8 := by omega
      subst e
      go_wp2
      go_ret2
      exact ⟨A, c, rfl, IntsIn.mono' hI (by have := singTo_len h 8; omega), hb⟩
set_option maxHeartbeats 4000000 in
theorem K_spec_SingleSizes {w : World} {h : Int} {xs : List Int} {r1 : Int} (hm : singM h = (xs, r1)) :
    Calls Try.prog 25 #[.int .i64 h] w fun e w' => ∃ A c, e = .returned (.tuple #[.slice A xs.length c, .int .i64 r1]) ∧ IntsIn w' w.heap.size w'.heap.size (.slice A xs.length c) xs ∧ Below w.heap.size w w' := by
  by_cases hr : 1 ≤ h ∧ h ≤ 8
  rotate_left
  · obtain ⟨rfl, rfl⟩ : [] = xs ∧ 2 = r1 := by simpa [singM, hr] using hm
    have HR := Lib.hid (inR_f hr)
    clear hm hr
    go_enter Try.func25, Try.ntmps25
    go_wp2_with fail
    refine (l02Side_any h _ HR.out _).mono ?_
    rintro e w' ⟨rfl, rfl⟩
    go_wp2
    go_ret2
    exact ⟨none, 0, rfl, IntsIn.nil _ _ _ (Nat.le_refl _), Below.refl _ _⟩
  obtain ⟨rfl, rfl⟩ : singTo h 8 = xs ∧ 0 = r1 := by simpa [singM, hr] using hm
  have HR := Lib.hid (inR_t hr)
  obtain ⟨h1, h8⟩ := hr
  clear hm
  have bl := Joins.below_alloc1 w (.cells #[] 2)
  have hL : Ints (w.alloc (.cells #[] 2)) w.heap.size (.slice (some ⟨w.heap.size, 0, none⟩) 0 0) [] := Row.none_ w
  go_enter Try.func25, Try.ntmps25
  go_wp2_with fail
  refine (l02Side_any h _ HR.out _).mono ?_
  rintro e w' ⟨rfl, rfl⟩
  go_wp2
  go_loopw [4, 5] (fun o i wr => ∃ (k : Nat) (A : Option Addr) (c : Nat), k ≤ 8 ∧ o = .slice A (singTo h k).length c ∧ i = .int .i64 ((k : Int) + 1) ∧ Ints wr w.heap.size (.slice A (singTo h k).length c) (singTo h k) ∧ Below w.heap.size w wr) (fun _ i _ => 9 - (intOf i).toNat)
  case atStart => exact ⟨0, _, _, Nat.zero_le _, rfl, rfl, hL, bl⟩
  case round =>
    obtain ⟨k, A, c, hk, rfl, rfl, hI, hb⟩ := hrel
    clear hL bl
    have hlen : (singTo h k).length < 1000000000 := by have := singTo_len h k; omega
    by_cases hlt : k < 8
    · have i1 : (k : Int) + 1 ≤ 8 := by omega
      go_wp2_with fail
      refine (l07Gcd_any _ h (by omega) (by omega) (by omega) (by omega) _).mono ?_
      rintro e w' ⟨rfl, rfl⟩
      by_cases hg : gcdI ((k : Int) + 1) h = 1
      · have hgt : (gcdI ((k : Int) + 1) h == 1) = true := by simp [hg]
        have HG := Lib.hid (singTo_one hg)
        have hB : w.heap.size ≤ wr.heap.size := hb.size
        clear hg
        go_wp2_with (at_builtin; refine append_one rfl _ _ rfl w.heap.size _ (singTo h k) ((k : Int) + 1) hI rfl rfl hlen hB ?_)
        intro g c' w2 hI2 hg2
        have hb2 : Below w.heap.size w w2 := (hb).grown hg2 hB (fun j hj => (Row.lt hI hj).1)
        have e1 : (singTo h k).length + 1 = (singTo h (k + 1)).length := by rw [HG.out, List.length_append]; rfl
        rw [e1, ← HG.out] at hI2
        rw [e1]
        clear hI hb hg2
        go_wp2
        go_roundw
        case rel => exact ⟨k + 1, some ⟨g, 0, none⟩, c', by omega, rfl, by go_num, hI2, hb2⟩
        case measure => simp [intOf]; omega
      · have hgt : (gcdI ((k : Int) + 1) h == 1) = false := by simp [hg]
        have HG := Lib.hid (singTo_no hg)
        have hb2 := hb
        clear hg
        go_wp2
        go_roundw
        case rel => exact ⟨k + 1, A, c, by omega, by rw [HG.out], by go_num, by rw [HG.out]; exact hI, hb2⟩
        case measure => simp [intOf]; omega
    · have e : k = 8 := by omega
      subst e
      go_wp2
      go_ret2
      exact ⟨A, c, rfl, IntsIn.mono' hI (by have := singTo_len h 8; omega), hb⟩

end Go.Proofs.Ytcjjkiajgkicnaa
