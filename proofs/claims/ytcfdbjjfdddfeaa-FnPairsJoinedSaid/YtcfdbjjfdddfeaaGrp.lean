/-
  Roots along parents, codes of a Joined and elements; CountGroups and GroupOf.
-/
import Derived.Test.YtcfdbjjfdddfeaaValJ
namespace Go.Proofs.Ytcfdbjjfdddfeaa
open Go.RowKit Knot

/-- '[]int64{y}', '[]int64{y, z}'. -/
theorem Ints.one (w : World) (y : Int) : Ints (w.alloc (.cells #[.int .i64 y] 2)) w.heap.size (.slice (some ⟨w.heap.size, 0, none⟩) 1 1) [y] :=
  ⟨by simp, .inr ⟨w.heap.size, 1, #[.int .i64 y], rfl, Nat.le_refl _, heap_alloc_new w _, Nat.le_refl _, by unfold maxLen; omega, rfl, by simp⟩⟩
theorem Ints.two (w : World) (y z : Int) : Ints (w.alloc (.cells #[.int .i64 y, .int .i64 z] 2)) w.heap.size (.slice (some ⟨w.heap.size, 0, none⟩) 2 2) [y, z] :=
  ⟨by simp, .inr ⟨w.heap.size, 2, #[.int .i64 y, .int .i64 z], rfl, Nat.le_refl _, heap_alloc_new w _, Nat.le_refl _, by unfold maxLen; omega, rfl, by simp⟩⟩

/-- All elements are there. -/
def InJ (xs ks : List Int) (n : Nat) : Prop := ∀ j : Nat, j < n → 0 ≤ gI ks j ∧ gI ks j ≤ (xs.length : Int) - 1
open Classical in
noncomputable def codeJ (xs ys ks : List Int) : Int := if OkJ xs ys then if InJ xs ks ks.length then 0 else 2 else 1
theorem codeJ_bad {xs ys ks : List Int} (h : ¬ OkJ xs ys) : codeJ xs ys ks = 1 := by unfold codeJ; rw [if_neg h]
theorem codeJ_out {xs ys ks : List Int} (h : OkJ xs ys) (h2 : ¬ InJ xs ks ks.length) : codeJ xs ys ks = 2 := by unfold codeJ; rw [if_pos h, if_neg h2]
theorem codeJ_ok {xs ys ks : List Int} (h : OkJ xs ys) (h2 : InJ xs ks ks.length) : codeJ xs ys ks = 0 := by unfold codeJ; rw [if_pos h, if_pos h2]
theorem InJ.nil (xs : List Int) : InJ xs [] 0 := fun j hj => absurd hj (by omega)
theorem InJ_one (xs : List Int) (k : Int) : InJ xs [k] 1 ↔ (0 ≤ k ∧ k ≤ (xs.length : Int) - 1) := by
  constructor
  · intro h
    exact h 0 (by omega)
  · intro h j hj
    have : j = 0 := by omega
    subst this
    exact h
theorem InJ_two (xs : List Int) (k l : Int) : InJ xs [k, l] 2 ↔ (0 ≤ k ∧ k ≤ (xs.length : Int) - 1) ∧ (0 ≤ l ∧ l ≤ (xs.length : Int) - 1) := by
  constructor
  · intro h
    exact ⟨h 0 (by omega), h 1 (by omega)⟩
  · rintro ⟨h1, h2⟩ j hj
    rcases (show j = 0 ∨ j = 1 by omega) with rfl | rfl
    · exact h1
    · exact h2

set_option maxHeartbeats 2000000 in
theorem l08Root_any {w : World} {b : Nat} {v u : Value} {xs ys : List Int} {k : Int} (hj : JAt w b v u xs ys) (ho : OkJ xs ys) (h0 : 0 ≤ k) (h1 : k < xs.length) :
    Calls Try.prog 66 #[.pointer (some ⟨b, 0, none⟩), .int .i64 k] w fun e w' => e = .returned (.int .i64 (root xs k)) ∧ w = w' := by
  obtain ⟨A, cA, rfl, lA, hA⟩ := hj.2.1.open_
  unfold maxLen at lA
  obtain ⟨g, rfl, _, _⟩ := hA (by omega)
  have q0 := hj.1.cell 0
  have q1 := hj.1.cell 1
  have n0 := hj.1.lt
  have HO := Lib.hid ho
  have hI := hj.2.1
  clear hA hj ho
  go_enter Try.func66, Try.ntmps66
  go_wp2
  go_loop [1] (fun i => ∃ j : Int, i = .int .i64 j ∧ 0 ≤ j ∧ j < xs.length ∧ Hid (root xs j = root xs k)) (fun i => htOf ys (intOf i))
  case atStart => exact ⟨k, rfl, h0, h1, rfl⟩
  case round =>
    obtain ⟨j, rfl, j0, j1, hr⟩ := hrel
    have c1 := Ints.cellI hI (i := j) j0 j1
    by_cases he : gI xs j = j
    · have hne : (gI xs j != j) = false := by simp [he]
      have HR : Hid (j = root xs k) := Lib.hid (by rw [← hr.out, root_of_root HO.out.forest j0 j1 he])
      clear he hI
      go_wp2
      go_ret
      exact ⟨ret_int HR.out, rfl⟩
    · have hne : (gI xs j != j) = true := by simp [he]
      have hf := HO.out.forest.falls j j0 j1 he
      have l0 := HO.out.lo j j0 j1
      have l1 := HO.out.hi j j0 j1
      have HR : Hid (root xs (gI xs j) = root xs k) := Lib.hid (by rw [← hr.out, ← root_step HO.out.forest j0 j1])
      clear he hI
      go_wp2
      go_round
      case rel => exact ⟨_, rfl, l0, l1, HR⟩
      case measure => simpa [intOf] using hf
set_option maxHeartbeats 2000000 in
theorem group_any {w : World} {v u : Value} {xs ys : List Int} {k : Int} (hp : Ints w 0 v xs) (hq : Ints w 0 u ys) (ho : OkJ xs ys) (h0 : 0 ≤ k) (h1 : k < xs.length) :
    Calls Try.prog 67 #[.agg #[v, u], .int .i64 k] w fun e w' => e = .returned (.int .i64 (root xs k)) ∧ Below w.heap.size w w' := by
  obtain ⟨A, cA, rfl, lA, hA⟩ := hp.open_
  obtain ⟨D, cD, rfl, _, _⟩ := hq.open_
  unfold maxLen at lA
  obtain ⟨g, rfl, _, _⟩ := hA (by omega)
  have bl := Joins.below_alloc1 w (.cells #[.slice (some ⟨g, 0, none⟩) xs.length cA, .slice D ys.length cD] 27)
  have hI : Ints (w.alloc (.cells #[.slice (some ⟨g, 0, none⟩) xs.length cA, .slice D ys.length cD] 27)) 0 _ xs := Row.below hp bl
  have ba := Box.new w 27 #[.slice (some ⟨g, 0, none⟩) xs.length cA, .slice D ys.length cD]
  have q0 := ba.cell 0
  have q1 := ba.cell 1
  have n0 := ba.lt
  have HO := Lib.hid ho
  clear hA ho hp hq ba
  go_enter Try.func67, Try.ntmps67
  go_wp2
  go_loop [1] (fun i => ∃ j : Int, i = .int .i64 j ∧ 0 ≤ j ∧ j < xs.length ∧ Hid (root xs j = root xs k)) (fun i => htOf ys (intOf i))
  case atStart => exact ⟨k, rfl, h0, h1, rfl⟩
  case round =>
    obtain ⟨j, rfl, j0, j1, hr⟩ := hrel
    have c1 := Ints.cellI hI (i := j) j0 j1
    by_cases he : gI xs j = j
    · have hne : (gI xs j != j) = false := by simp [he]
      have HR : Hid (j = root xs k) := Lib.hid (by rw [← hr.out, root_of_root HO.out.forest j0 j1 he])
      clear he hI
      go_wp2
      go_ret
      exact ⟨ret_int HR.out, bl⟩
    · have hne : (gI xs j != j) = true := by simp [he]
      have hf := HO.out.forest.falls j j0 j1 he
      have l0 := HO.out.lo j j0 j1
      have l1 := HO.out.hi j j0 j1
      have HR : Hid (root xs (gI xs j) = root xs k) := Lib.hid (by rw [← hr.out, ← root_step HO.out.forest j0 j1])
      clear he hI
      go_wp2
      go_round
      case rel => exact ⟨_, rfl, l0, l1, HR⟩
      case measure => simpa [intOf] using hf
set_option maxHeartbeats 2000000 in
theorem joinedCode_any {w : World} {v u z : Value} {xs ys ks : List Int} {r : Int} (hp : Ints w 0 v xs) (hq : Ints w 0 u ys) (hz : Ints w 0 z ks) (hm : codeJ xs ys ks = r) :
    Calls Try.prog 64 #[.agg #[v, u], z] w fun e w' => e = .returned (.int .i64 r) ∧ Below w.heap.size w w' := by
  obtain ⟨A, cA, rfl, lA, hA⟩ := hp.open_
  obtain ⟨D, cD, rfl, _, _⟩ := hq.open_
  obtain ⟨Z, cZ, rfl, lZ, hZ⟩ := hz.open_
  unfold maxLen at lA lZ
  have bl := Joins.below_alloc1 w (.cells #[.slice A xs.length cA, .slice D ys.length cD] 27)
  have hp1 : Ints (w.alloc (.cells #[.slice A xs.length cA, .slice D ys.length cD] 27)) 0 _ xs := Row.below hp bl
  have hq1 : Ints (w.alloc (.cells #[.slice A xs.length cA, .slice D ys.length cD] 27)) 0 _ ys := Row.below hq bl
  have hz1 : Ints (w.alloc (.cells #[.slice A xs.length cA, .slice D ys.length cD] 27)) 0 _ ks := Row.below hz bl
  have ba := Box.new w 27 #[.slice A xs.length cA, .slice D ys.length cD]
  have q0 := ba.cell 0
  have q1 := ba.cell 1
  have n0 := ba.lt
  clear hA hp hq hz
  by_cases ho : OkJ xs ys
  rotate_left
  · rw [codeJ_bad ho] at hm
    subst hm
    have HO := Lib.hid ho
    clear ho
    go_enter Try.func64, Try.ntmps64
    go_wp2_with fail
    refine (ValidJoined_any hp1 hq1 (no_iff HO.out)).mono ?_
    rintro e w2 ⟨rfl, hb⟩
    have bl2 := bnext bl hb
    clear q0 q1 n0
    go_wp2
    go_ret
    exact ⟨rfl, bl2⟩
  have n256 := ho.n2
  have HO := Lib.hid ho
  have HM := Lib.hid hm
  clear ho hm
  go_enter Try.func64, Try.ntmps64
  go_wp2_with fail
  refine (ValidJoined_any hp1 hq1 (yes_iff HO.out)).mono ?_
  rintro e w2 ⟨rfl, hb⟩
  have bl2 := bnext bl hb
  replace ba := ba.below hb
  have hz2 : Ints w2 0 _ ks := Row.below hz1 hb
  clear q0 q1 n0 hz1 hp1 hq1 bl hb
  have q0 := ba.cell 0
  have q1 := ba.cell 1
  have n0 := ba.lt
  go_wp2
  go_loop [12] (fun i => ∃ k : Nat, k ≤ ks.length ∧ i = .int .i64 k ∧ Hid (InJ xs ks k)) (fun i => ks.length - (intOf i).toNat)
  case atStart => exact ⟨0, Nat.zero_le _, rfl, fun j hj => absurd hj (by omega)⟩
  case round =>
    obtain ⟨k, hk, rfl, hall⟩ := hrel
    by_cases hlt : k < ks.length
    · obtain ⟨g, rfl, _, _⟩ := hZ (by omega)
      have c1 := Ints.cell hz2 (k := k) hlt
      have i1 : (k : Int) < (ks.length : Int) := by omega
      by_cases hr : 0 ≤ gI ks k ∧ gI ks k ≤ (xs.length : Int) - 1
      · have HR := Lib.hid (inR_t hr)
        have HF : Hid (InJ xs ks (k + 1)) := fun j hj => by
          by_cases hjk : j = k
          · subst hjk; exact hr
          · exact hall.out j (by omega)
        clear hZ hz2 ba hr
        go_wp2_with (go_at_call 63; refine (hasIndex_any _ _ _ HR.out _ (by omega) (by omega)).mono ?_; rintro e w' ⟨rfl, rfl⟩)
        go_round
        case rel => exact ⟨k + 1, by omega, by go_num, HF⟩
        case measure => simp [intOf]; omega
      · have HR := Lib.hid (inR_f hr)
        have HE : Hid (2 = r) := Lib.hid (by rw [← HM.out, codeJ_out HO.out (fun h => hr (h k hlt))])
        clear hZ hz2 ba hr
        go_wp2_with (go_at_call 63; refine (hasIndex_any _ _ _ HR.out _ (by omega) (by omega)).mono ?_; rintro e w' ⟨rfl, rfl⟩)
        go_ret
        exact ⟨ret_int HE.out, bl2⟩
    · have e : k = ks.length := by omega
      subst e
      have HE : Hid (0 = r) := Lib.hid (by rw [← HM.out, codeJ_ok HO.out hall.out])
      clear hZ hz2 ba
      go_wp2
      go_ret
      exact ⟨ret_int HE.out, bl2⟩
set_option maxHeartbeats 2000000 in
theorem l08Code_any {w : World} {b : Nat} {v u : Value} {xs ys : List Int} {k r : Int} (hj : JAt w b v u xs ys) (hm : codeJ xs ys [k] = r) :
    Calls Try.prog 65 #[.pointer (some ⟨b, 0, none⟩), .int .i64 k] w fun e w' => e = .returned (.int .i64 r) ∧ Below w.heap.size w w' := by
  obtain ⟨A, cA, rfl, lA, hA⟩ := hj.2.1.open_
  unfold maxLen at lA
  clear hA
  by_cases ho : OkJ xs ys
  rotate_left
  · rw [codeJ_bad ho] at hm
    subst hm
    have HO := Lib.hid ho
    clear ho
    go_enter Try.func65, Try.ntmps65
    go_wp2_with fail
    refine (l08Ok_any hj (no_iff HO.out)).mono ?_
    rintro e w2 ⟨rfl, hb⟩
    go_wp2
    go_ret
    exact ⟨rfl, hb⟩
  have HO := Lib.hid ho
  by_cases hr : 0 ≤ k ∧ k ≤ (xs.length : Int) - 1
  · have HR := Lib.hid (inR_t hr)
    rw [codeJ_ok ho ((InJ_one xs k).2 hr)] at hm
    subst hm
    clear ho hr
    go_enter Try.func65, Try.ntmps65
    go_wp2_with fail
    refine (l08Ok_any hj (yes_iff HO.out)).mono ?_
    rintro e w2 ⟨rfl, hb⟩
    have j2 := hj.below hb
    have q0 := j2.1.cell 0
    have q1 := j2.1.cell 1
    have n0 := j2.1.lt
    clear hj j2
    go_wp2_with (go_at_call 57; refine (l00In_any _ _ _ _ HR.out _).mono ?_; rintro e w' ⟨rfl, rfl⟩)
    go_ret
    exact ⟨rfl, hb⟩
  · have HR := Lib.hid (inR_f hr)
    rw [codeJ_out ho (fun h => hr ((InJ_one xs k).1 h))] at hm
    subst hm
    clear ho hr
    go_enter Try.func65, Try.ntmps65
    go_wp2_with fail
    refine (l08Ok_any hj (yes_iff HO.out)).mono ?_
    rintro e w2 ⟨rfl, hb⟩
    have j2 := hj.below hb
    have q0 := j2.1.cell 0
    have q1 := j2.1.cell 1
    have n0 := j2.1.lt
    clear hj j2
    go_wp2_with (go_at_call 57; refine (l00In_any _ _ _ _ HR.out _).mono ?_; rintro e w' ⟨rfl, rfl⟩)
    go_ret
    exact ⟨rfl, hb⟩

open Classical in
/-- What CountGroups answers; what GroupOf answers. -/
noncomputable def cntGM (xs ys : List Int) : Int × Int := if OkJ xs ys then ((xs.length : Int) - ys.length, 0) else (0, 1)
noncomputable def groupM (xs ys : List Int) (k : Int) : Int × Int := if codeJ xs ys [k] = 0 then (root xs k, 0) else (0, codeJ xs ys [k])
open Classical in
noncomputable def validM (xs ys : List Int) : Bool := decide (OkJ xs ys)
theorem validM_iff {xs ys : List Int} {r : Bool} (h : validM xs ys = r) : r = true ↔ OkJ xs ys := by
  subst h
  unfold validM
  simp
theorem codeJ_zero {xs ys ks : List Int} (h : codeJ xs ys ks = 0) : OkJ xs ys ∧ InJ xs ks ks.length := by
  by_cases h1 : OkJ xs ys
  · by_cases h2 : InJ xs ks ks.length
    · exact ⟨h1, h2⟩
    · rw [codeJ_out h1 h2] at h
      exact absurd h (by decide)
  · rw [codeJ_bad h1] at h
    exact absurd h (by decide)
theorem codeJ_nil {xs ys : List Int} (h : ¬ codeJ xs ys [] = 0) : ¬ OkJ xs ys ∧ codeJ xs ys [] = 1 := by
  by_cases h1 : OkJ xs ys
  · exact absurd (codeJ_ok h1 (InJ.nil xs)) h
  · exact ⟨h1, codeJ_bad h1⟩
theorem Ints.nil (w : World) (B : Nat) : Ints w B (.slice none 0 0) [] := Row.nil w B

section
variable {w : World} {lo hi : Nat} {v1 v2 : Value} {xs ys : List Int}
theorem K_impl_ValidJoined {r : Bool} (h : JoinedIn w lo hi v1 v2 xs ys) (hm : validM xs ys = r) :
    Calls Try.prog 25 #[.agg #[v1, v2]] w fun e w' => e = .returned (.bool r) ∧ Below w.heap.size w w' :=
  ValidJoined_any h.1.ints h.2.1.ints (validM_iff hm)
set_option maxHeartbeats 1000000 in
theorem K_spec_ValidJoined {r : Bool} (h : JoinedIn w lo hi v1 v2 xs ys) (hm : validM xs ys = r) :
    Calls Try.prog 24 #[.agg #[v1, v2]] w fun e w' => e = .returned (.bool r) ∧ Below w.heap.size w w' := by
  have bl := Joins.below_alloc1 w (.cells #[v1, v2] 27)
  have j := h.boxed
  obtain ⟨A, cA, rfl, _, _⟩ := h.1.1.open_
  obtain ⟨D, cD, rfl, _, _⟩ := h.2.1.1.open_
  have HM := Lib.hid hm
  clear hm h
  go_enter Try.func24, Try.ntmps24
  go_wp2_with fail
  refine (l08Ok_any j (validM_iff HM.out)).mono ?_
  rintro e w2 ⟨rfl, hb⟩
  go_wp2
  go_ret
  exact ⟨rfl, bnext bl hb⟩
set_option maxHeartbeats 2000000 in
theorem K_impl_CountGroups {r0 r1 : Int} (h : JoinedIn w lo hi v1 v2 xs ys) (hm : cntGM xs ys = (r0, r1)) :
    Calls Try.prog 27 #[.agg #[v1, v2]] w fun e w' => e = .returned (.tuple #[.int .i64 r0, .int .i64 r1]) ∧ Below w.heap.size w w' := by
  have bl := Joins.below_alloc1 w (.cells #[v1, v2] 27)
  have j := h.boxed
  obtain ⟨A, cA, rfl, lA, _⟩ := h.1.1.open_
  obtain ⟨D, cD, rfl, lD, _⟩ := h.2.1.1.open_
  unfold maxLen at lA lD
  have q0 := j.1.cell 0
  have q1 := j.1.cell 1
  have n0 := j.1.lt
  clear h
  by_cases ho : codeJ xs ys [] = 0
  rotate_left
  · obtain ⟨h1, h2⟩ := codeJ_nil ho
    obtain ⟨rfl, rfl⟩ : 0 = r0 ∧ 1 = r1 := by simpa [cntGM, h1] using hm
    have HC := Lib.hid h2
    clear hm h1 h2 ho
    go_enter Try.func27, Try.ntmps27
    go_wp2_with fail
    refine (joinedCode_any j.2.1 j.2.2 (Ints.nil _ _) HC.out).mono ?_
    rintro e w2 ⟨rfl, hb⟩
    clear q0 q1 n0
    go_wp2
    go_ret2
    exact ⟨rfl, bnext bl hb⟩
  have h1 := (codeJ_zero ho).1
  obtain ⟨rfl, rfl⟩ : (xs.length : Int) - ys.length = r0 ∧ 0 = r1 := by simpa [cntGM, h1] using hm
  have HC := Lib.hid ho
  have n256 := h1.n2
  clear hm h1 ho
  go_enter Try.func27, Try.ntmps27
  go_wp2_with fail
  refine (joinedCode_any j.2.1 j.2.2 (Ints.nil _ _) HC.out).mono ?_
  rintro e w2 ⟨rfl, hb⟩
  replace j := j.below hb
  clear q0 q1 n0
  have q0 := j.1.cell 0
  have q1 := j.1.cell 1
  have n0 := j.1.lt
  go_wp2
  go_ret2
  exact ⟨rfl, bnext bl hb⟩
set_option maxHeartbeats 2000000 in
theorem K_spec_CountGroups {r0 r1 : Int} (h : JoinedIn w lo hi v1 v2 xs ys) (hm : cntGM xs ys = (r0, r1)) :
    Calls Try.prog 26 #[.agg #[v1, v2]] w fun e w' => e = .returned (.tuple #[.int .i64 r0, .int .i64 r1]) ∧ Below w.heap.size w w' := by
  have bl := Joins.below_alloc1 w (.cells #[v1, v2] 27)
  have j := h.boxed
  obtain ⟨A, cA, rfl, lA, _⟩ := h.1.1.open_
  obtain ⟨D, cD, rfl, lD, _⟩ := h.2.1.1.open_
  unfold maxLen at lA lD
  clear h
  by_cases ho : OkJ xs ys
  rotate_left
  · obtain ⟨rfl, rfl⟩ : 0 = r0 ∧ 1 = r1 := by simpa [cntGM, ho] using hm
    have HC := Lib.hid ho
    clear hm ho
    go_enter Try.func26, Try.ntmps26
    go_wp2_with fail
    refine (l08Ok_any j (no_iff HC.out)).mono ?_
    rintro e w2 ⟨rfl, hb⟩
    go_wp2
    go_ret2
    exact ⟨rfl, bnext bl hb⟩
  obtain ⟨rfl, rfl⟩ : (xs.length : Int) - ys.length = r0 ∧ 0 = r1 := by simpa [cntGM, ho] using hm
  have HC := Lib.hid ho
  have n256 := ho.n2
  clear hm ho
  go_enter Try.func26, Try.ntmps26
  go_wp2_with fail
  refine (l08Ok_any j (yes_iff HC.out)).mono ?_
  rintro e w2 ⟨rfl, hb⟩
  replace j := j.below hb
  have q0 := j.1.cell 0
  have q1 := j.1.cell 1
  have n0 := j.1.lt
  go_wp2
  go_ret2
  exact ⟨rfl, bnext bl hb⟩
set_option maxHeartbeats 2000000 in
theorem K_impl_GroupOf {k r0 r1 : Int} (h : JoinedIn w lo hi v1 v2 xs ys) (hm : groupM xs ys k = (r0, r1)) :
    Calls Try.prog 29 #[.agg #[v1, v2], .int .i64 k] w fun e w' => e = .returned (.tuple #[.int .i64 r0, .int .i64 r1]) ∧ Below w.heap.size w w' := by
  have bl := Joins.below_alloc2 w (.cells #[v1, v2] 27) (.cells #[.int .i64 k] 2)
  have j := h.boxed.alloc (.cells #[.int .i64 k] 2)
  have hz := Ints.one (w.alloc (.cells #[v1, v2] 27)) k
  rw [World.size_alloc] at hz
  obtain ⟨A, cA, rfl, lA, _⟩ := h.1.1.open_
  obtain ⟨D, cD, rfl, lD, _⟩ := h.2.1.1.open_
  have j0 := h.boxed
  have q0 := j0.1.cell 0
  have q1 := j0.1.cell 1
  have n0 := j0.1.lt
  clear h j0
  obtain ⟨c, hcode⟩ : ∃ c, codeJ xs ys [k] = c := ⟨_, rfl⟩
  have HC := Lib.hid hcode
  by_cases ho : c = 0
  rotate_left
  · have hne : (c != 0) = true := by simp [ho]
    obtain ⟨rfl, rfl⟩ : 0 = r0 ∧ c = r1 := by simpa [groupM, hcode, ho] using hm
    clear hm ho hcode
    go_enter Try.func29, Try.ntmps29
    go_wp2_with fail
    refine (joinedCode_any j.2.1 j.2.2 (Row.le hz (Nat.zero_le _)) HC.out).mono ?_
    rintro e w2 ⟨rfl, hb⟩
    clear q0 q1 n0
    go_wp2
    go_ret2
    exact ⟨rfl, bnext bl hb⟩
  subst ho
  obtain ⟨h1, h2⟩ := codeJ_zero hcode
  obtain ⟨rfl, rfl⟩ : root xs k = r0 ∧ 0 = r1 := by simpa [groupM, hcode] using hm
  have hk := (InJ_one xs k).1 h2
  obtain ⟨hk0, hk1⟩ := hk
  have HO := Lib.hid h1
  clear hm h1 h2 hcode
  go_enter Try.func29, Try.ntmps29
  go_wp2_with fail
  refine (joinedCode_any j.2.1 j.2.2 (Row.le hz (Nat.zero_le _)) HC.out).mono ?_
  rintro e w2 ⟨rfl, hb⟩
  replace j := j.below hb
  replace bl := bnext bl hb
  clear q0 q1 n0 hb
  have q0 := j.1.cell 0
  have q1 := j.1.cell 1
  have n0 := j.1.lt
  go_wp2_with fail
  refine (group_any j.2.1 j.2.2 HO.out hk0 (by omega)).mono ?_
  rintro e w3 ⟨rfl, hb⟩
  clear q0 q1 n0
  go_wp2
  go_ret2
  exact ⟨rfl, bnext bl hb⟩
set_option maxHeartbeats 2000000 in
theorem K_spec_GroupOf {k r0 r1 : Int} (h : JoinedIn w lo hi v1 v2 xs ys) (hm : groupM xs ys k = (r0, r1)) :
    Calls Try.prog 28 #[.agg #[v1, v2], .int .i64 k] w fun e w' => e = .returned (.tuple #[.int .i64 r0, .int .i64 r1]) ∧ Below w.heap.size w w' := by
  have bl := Joins.below_alloc1 w (.cells #[v1, v2] 27)
  have j := h.boxed
  obtain ⟨A, cA, rfl, lA, _⟩ := h.1.1.open_
  obtain ⟨D, cD, rfl, lD, _⟩ := h.2.1.1.open_
  clear h
  obtain ⟨c, hcode⟩ : ∃ c, codeJ xs ys [k] = c := ⟨_, rfl⟩
  have HC := Lib.hid hcode
  by_cases ho : c = 0
  rotate_left
  · have hne : (c != 0) = true := by simp [ho]
    obtain ⟨rfl, rfl⟩ : 0 = r0 ∧ c = r1 := by simpa [groupM, hcode, ho] using hm
    clear hm ho hcode
    go_enter Try.func28, Try.ntmps28
    go_wp2_with fail
    refine (l08Code_any j HC.out).mono ?_
    rintro e w2 ⟨rfl, hb⟩
    go_wp2
    go_ret2
    exact ⟨rfl, bnext bl hb⟩
  subst ho
  obtain ⟨h1, h2⟩ := codeJ_zero hcode
  obtain ⟨rfl, rfl⟩ : root xs k = r0 ∧ 0 = r1 := by simpa [groupM, hcode] using hm
  have hk := (InJ_one xs k).1 h2
  obtain ⟨hk0, hk1⟩ := hk
  have HO := Lib.hid h1
  clear hm h1 h2 hcode
  go_enter Try.func28, Try.ntmps28
  go_wp2_with fail
  refine (l08Code_any j HC.out).mono ?_
  rintro e w2 ⟨rfl, hb⟩
  replace j := j.below hb
  replace bl := bnext bl hb
  clear hb
  go_wp2_with fail
  refine (l08Root_any j HO.out hk0 (by omega)).mono ?_
  rintro e w3 ⟨rfl, rfl⟩
  go_wp2
  go_ret2
  exact ⟨rfl, bl⟩
end
end Go.Proofs.Ytcfdbjjfdddfeaa
