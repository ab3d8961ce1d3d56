/-
  CurvePoints and SharedPoints, by the program and by the reference.
-/
import Derived.Test.YtmagomiehgcbjaaMeet4
namespace Go.Proofs.Ytmagomiehgcbjaa
open Go.RowKit Knot

/-- What CurvePoints answers; what SharedPoints answers. -/
def curM (p : Pan) (a : Int) : List Int × Int := if codeC p [a] = 0 then (meetTo p [a] p.B.length, 0) else ([], codeC p [a])
def shaM (p : Pan) (a b : Int) : List Int × Int := if codeC p [a, b] = 0 then if a = b then ([], 6) else (meetTo p [a, b] p.B.length, 0) else ([], codeC p [a, b])
theorem codeC_ok {p : Pan} {xs : List Int} (h : codeC p xs = 0) : Ok p ∧ ∀ x ∈ xs, (Lit.int .i64 x).wf = true := by
  unfold codeC at h
  split at h
  · rename_i hp
    refine ⟨hp, fun x hx => ?_⟩
    split at h
    · rename_i ha
      have h1 := List.all_eq_true.1 ha x hx
      have h2 := cntP_bd hp
      unfold inR at h1
      simp at h1
      exact WalkArith.wf_i64 (by omega)
    · omega
  · omega
theorem codeC_two (p : Pan) (a b : Int) : codeC p [a, b] = if codeC p [a] = 0 then codeC p [b] else codeC p [a] := by
  unfold codeC
  by_cases hp : Ok p
  · cases h1 : inR a 0 (cntP p - 1) <;> cases h2 : inR b 0 (cntP p - 1) <;> simp [hp, h1, h2]
  · simp [hp]
theorem Ints.one (w : World) (y : Int) : Ints (w.alloc (.cells #[.int .i64 y] 2)) w.heap.size (.slice (some ⟨w.heap.size, 0, none⟩) 1 1) [y] := by
  refine ⟨rfl, .inr ⟨w.heap.size, 1, _, rfl, Nat.le_refl _, heap_alloc_new w _, Nat.le_refl _, by unfold maxLen; omega, rfl, rfl⟩⟩
theorem Ints.two (w : World) (y z : Int) : Ints (w.alloc (.cells #[.int .i64 y, .int .i64 z] 2)) w.heap.size (.slice (some ⟨w.heap.size, 0, none⟩) 2 2) [y, z] := by
  refine ⟨rfl, .inr ⟨w.heap.size, 2, _, rfl, Nat.le_refl _, heap_alloc_new w _, Nat.le_refl _, by unfold maxLen; omega, rfl, rfl⟩⟩
set_option maxHeartbeats 4000000 in
theorem K_impl_CurvePoints {w : World} {lo hi : Nat} {W H a r : Int} {v : Value} {B zs : List Int} (hI : IntsIn w lo hi v B) (hm : curM ⟨W, H, B⟩ a = (zs, r)) :
    Calls Try.prog 29 #[.agg #[.int .i64 W, .int .i64 H, v], .int .i64 a] w fun e w' => ∃ A c, e = .returned (.tuple #[.slice A zs.length c, .int .i64 r]) ∧ IntsIn w' w.heap.size w'.heap.size (.slice A zs.length c) zs ∧ Below w.heap.size w w' := by
  obtain ⟨A, cA, rfl, _, _⟩ := hI.1.open_
  have bl := bnext (Joins.below_alloc1 w (.cells #[.int .i64 W, .int .i64 H, .slice A B.length cA] 28)) (Joins.below_alloc1 _ (.cells #[.int .i64 a] 2))
  have ba := (Box.new w 28 #[.int .i64 W, .int .i64 H, .slice A B.length cA]).alloc (.cells #[.int .i64 a] 2)
  have bo := (Box.new w 28 #[.int .i64 W, .int .i64 H, .slice A B.length cA])
  have hx := IntsIn.ofInts (Ints.one (w.alloc (.cells #[.int .i64 W, .int .i64 H, .slice A B.length cA] 28)) a) (by simp)
  simp only [World.size_alloc] at hx
  have hv := hI.below bl
  clear hI
  have q0 := bo.cell 0
  have q1 := bo.cell 1
  have q2 := bo.cell 2
  have qn := bo.lt
  simp only [List.getElem?_toArray, List.getElem?_cons_zero, List.getElem?_cons_succ] at q0 q1 q2
  obtain ⟨k, hk⟩ : ∃ k, codeC ⟨W, H, B⟩ [a] = k := ⟨_, rfl⟩
  have HK := Lib.hid hk
  unfold curM at hm
  rw [hk] at hm
  simp only [] at hm
  by_cases h0 : k = 0
  · subst h0
    rw [if_pos rfl] at hm
    obtain ⟨hp, hwf⟩ := codeC_ok hk
    have HP := Lib.hid hp
    have HWF := Lib.hid hwf
    obtain ⟨rfl, rfl⟩ : meetTo ⟨W, H, B⟩ [a] B.length = zs ∧ 0 = r := by simpa using hm
    clear hm hk hp hwf bo
    go_enter Try.func29, Try.ntmps29
    go_wp2_with fail
    refine (curveCode_any hv hx HK.out).mono ?_
    rintro e w2 ⟨rfl, hb2⟩
    have bl3 := bnext bl (bnext hb2 (Joins.below_alloc1 w2 (.cells #[.int .i64 a] 2)))
    have hv3 := (hv.below hb2).alloc (.cells #[.int .i64 a] 2)
    have hx3 := IntsIn.ofInts (Ints.one w2 a) (by simp)
    replace ba := ba.below hb2
    have s3 := (bnext bl hb2).size
    clear q0 q1 q2 qn bl hv hx hb2
    have q0 := ba.cell 0
    have q1 := ba.cell 1
    have q2 := ba.cell 2
    have qn := ba.lt
    simp only [List.getElem?_toArray, List.getElem?_cons_zero, List.getElem?_cons_succ] at q0 q1 q2
    go_wp2_with fail
    refine (meeting_any hv3 hx3 HP.out HWF.out).mono ?_
    rintro e w4 ⟨E, f, rfl, hz, hb4⟩
    replace bl3 := bnext bl3 hb4
    have hz2 := Lib.hid (hz.wider (lo' := w.heap.size) (by simp; omega) (Nat.le_refl _) (Nat.le_refl _))
    clear hz hv3 hx3 q0 q1 q2 qn hb4
    go_wp2
    go_ret2
    exact ⟨E, f, rfl, hz2.out, bl3⟩
  · rw [if_neg h0] at hm
    obtain ⟨rfl, rfl⟩ : ([] : List Int) = zs ∧ k = r := by simpa using hm
    have t1 : (k == 0) = false := by simp [h0]
    have t2 : (k != 0) = true := by simp [h0]
    clear hm hk bo h0
    go_enter Try.func29, Try.ntmps29
    go_wp2_with fail
    refine (curveCode_any hv hx HK.out).mono ?_
    rintro e w2 ⟨rfl, hb2⟩
    replace bl := bnext bl hb2
    clear q0 q1 q2 qn hv hx hb2
    go_wp2
    go_ret2
    exact ⟨none, 0, rfl, IntsIn.nil _ _ _ (Nat.le_refl _), bl⟩
set_option maxHeartbeats 4000000 in
theorem K_impl_SharedPoints {w : World} {lo hi : Nat} {W H a b r : Int} {v : Value} {B zs : List Int} (hI : IntsIn w lo hi v B) (hm : shaM ⟨W, H, B⟩ a b = (zs, r)) :
    Calls Try.prog 31 #[.agg #[.int .i64 W, .int .i64 H, v], .int .i64 a, .int .i64 b] w fun e w' => ∃ A c, e = .returned (.tuple #[.slice A zs.length c, .int .i64 r]) ∧ IntsIn w' w.heap.size w'.heap.size (.slice A zs.length c) zs ∧ Below w.heap.size w w' := by
  obtain ⟨A, cA, rfl, _, _⟩ := hI.1.open_
  have bl := bnext (Joins.below_alloc1 w (.cells #[.int .i64 W, .int .i64 H, .slice A B.length cA] 28)) (Joins.below_alloc1 _ (.cells #[.int .i64 a, .int .i64 b] 2))
  have ba := (Box.new w 28 #[.int .i64 W, .int .i64 H, .slice A B.length cA]).alloc (.cells #[.int .i64 a, .int .i64 b] 2)
  have bo := (Box.new w 28 #[.int .i64 W, .int .i64 H, .slice A B.length cA])
  have hx := IntsIn.ofInts (Ints.two (w.alloc (.cells #[.int .i64 W, .int .i64 H, .slice A B.length cA] 28)) a b) (by simp)
  simp only [World.size_alloc] at hx
  have hv := hI.below bl
  clear hI
  have q0 := bo.cell 0
  have q1 := bo.cell 1
  have q2 := bo.cell 2
  have qn := bo.lt
  simp only [List.getElem?_toArray, List.getElem?_cons_zero, List.getElem?_cons_succ] at q0 q1 q2
  obtain ⟨k, hk⟩ : ∃ k, codeC ⟨W, H, B⟩ [a, b] = k := ⟨_, rfl⟩
  have HK := Lib.hid hk
  unfold shaM at hm
  rw [hk] at hm
  simp only [] at hm
  by_cases h0 : k = 0
  · subst h0
    rw [if_pos rfl] at hm
    obtain ⟨hp, hwf⟩ := codeC_ok hk
    have HP := Lib.hid hp
    have HWF := Lib.hid hwf
    by_cases hab : a = b
    · rw [if_pos hab] at hm
      obtain ⟨rfl, rfl⟩ : ([] : List Int) = zs ∧ 6 = r := by simpa using hm
      have t1 : (a == b) = true := by simp [hab]
      clear hm hk hp hwf bo hab
      go_enter Try.func31, Try.ntmps31
      go_wp2_with fail
      refine (curveCode_any hv hx HK.out).mono ?_
      rintro e w2 ⟨rfl, hb2⟩
      replace bl := bnext bl hb2
      clear q0 q1 q2 qn hv hx hb2
      go_wp2
      go_ret2
      exact ⟨none, 0, rfl, IntsIn.nil _ _ _ (Nat.le_refl _), bl⟩
    · rw [if_neg hab] at hm
      obtain ⟨rfl, rfl⟩ : meetTo ⟨W, H, B⟩ [a, b] B.length = zs ∧ 0 = r := by simpa using hm
      have t1 : (a == b) = false := by simp [hab]
      clear hm hk hp hwf bo hab
      go_enter Try.func31, Try.ntmps31
      go_wp2_with fail
      refine (curveCode_any hv hx HK.out).mono ?_
      rintro e w2 ⟨rfl, hb2⟩
      have bl3 := bnext bl (bnext hb2 (Joins.below_alloc1 w2 (.cells #[.int .i64 a, .int .i64 b] 2)))
      have hv3 := (hv.below hb2).alloc (.cells #[.int .i64 a, .int .i64 b] 2)
      have hx3 := IntsIn.ofInts (Ints.two w2 a b) (by simp)
      replace ba := ba.below hb2
      have s3 := (bnext bl hb2).size
      clear q0 q1 q2 qn bl hv hx hb2
      have q0 := ba.cell 0
      have q1 := ba.cell 1
      have q2 := ba.cell 2
      have qn := ba.lt
      simp only [List.getElem?_toArray, List.getElem?_cons_zero, List.getElem?_cons_succ] at q0 q1 q2
      go_wp2_with fail
      refine (meeting_any hv3 hx3 HP.out HWF.out).mono ?_
      rintro e w4 ⟨E, f, rfl, hz, hb4⟩
      replace bl3 := bnext bl3 hb4
      have hz2 := Lib.hid (hz.wider (lo' := w.heap.size) (by simp; omega) (Nat.le_refl _) (Nat.le_refl _))
      clear hz hv3 hx3 q0 q1 q2 qn hb4
      go_wp2
      go_ret2
      exact ⟨E, f, rfl, hz2.out, bl3⟩
  · rw [if_neg h0] at hm
    obtain ⟨rfl, rfl⟩ : ([] : List Int) = zs ∧ k = r := by simpa using hm
    have t1 : (k == 0) = false := by simp [h0]
    have t2 : (k != 0) = true := by simp [h0]
    clear hm hk bo h0
    go_enter Try.func31, Try.ntmps31
    go_wp2_with fail
    refine (curveCode_any hv hx HK.out).mono ?_
    rintro e w2 ⟨rfl, hb2⟩
    replace bl := bnext bl hb2
    clear q0 q1 q2 qn hv hx hb2
    go_wp2
    go_ret2
    exact ⟨none, 0, rfl, IntsIn.nil _ _ _ (Nat.le_refl _), bl⟩
set_option maxHeartbeats 4000000 in
theorem K_spec_CurvePoints {w : World} {lo hi : Nat} {W H a r : Int} {v : Value} {B zs : List Int} (hI : IntsIn w lo hi v B) (hm : curM ⟨W, H, B⟩ a = (zs, r)) :
    Calls Try.prog 28 #[.agg #[.int .i64 W, .int .i64 H, v], .int .i64 a] w fun e w' => ∃ A c, e = .returned (.tuple #[.slice A zs.length c, .int .i64 r]) ∧ IntsIn w' w.heap.size w'.heap.size (.slice A zs.length c) zs ∧ Below w.heap.size w w' := by
  obtain ⟨A, cA, rfl, _, _⟩ := hI.1.open_
  have bl := Joins.below_alloc1 w (.cells #[.int .i64 W, .int .i64 H, .slice A B.length cA] 28)
  have ba := Box.new w 28 #[.int .i64 W, .int .i64 H, .slice A B.length cA]
  have hv := hI.below bl
  clear hI
  obtain ⟨k, hk⟩ : ∃ k, codeC ⟨W, H, B⟩ [a] = k := ⟨_, rfl⟩
  have HK := Lib.hid hk
  unfold curM at hm
  rw [hk] at hm
  simp only [] at hm
  by_cases h0 : k = 0
  · subst h0
    rw [if_pos rfl] at hm
    obtain ⟨hp, hwf⟩ := codeC_ok hk
    have HP := Lib.hid hp
    obtain ⟨rfl, rfl⟩ : meetTo ⟨W, H, B⟩ [a] B.length = zs ∧ 0 = r := by simpa using hm
    have HTW := Lib.hid (meetTo_two ⟨W, H, B⟩ a B.length)
    clear hm hk hp hwf
    go_enter Try.func28, Try.ntmps28
    go_wp2_with fail
    refine (l04Code_any ba hv HK.out).mono ?_
    rintro e w2 ⟨V, rfl, hO, hb2⟩
    have hO2 := hO rfl
    replace bl := bnext bl hb2
    replace ba := ba.below hb2
    replace hv := hv.below hb2
    clear hO hb2
    go_wp2_with fail
    refine (l10Meet_any ba hv hO2 HP.out).mono ?_
    rintro e w3 ⟨E, f, rfl, hz, hb3⟩
    rw [HTW.out] at hz ⊢
    have s3 := bl.size
    replace bl := bnext bl hb3
    have hz2 := Lib.hid (hz.wider (lo' := w.heap.size) s3 (Nat.le_refl _) (Nat.le_refl _))
    clear hz hv hO2 ba hb3
    go_wp2
    go_ret2
    exact ⟨E, f, rfl, hz2.out, bl⟩
  · rw [if_neg h0] at hm
    obtain ⟨rfl, rfl⟩ : ([] : List Int) = zs ∧ k = r := by simpa using hm
    have t1 : (k == 0) = false := by simp [h0]
    have t2 : (k != 0) = true := by simp [h0]
    clear hm hk h0
    go_enter Try.func28, Try.ntmps28
    go_wp2_with fail
    refine (l04Code_any ba hv HK.out).mono ?_
    rintro e w2 ⟨V, rfl, _, hb2⟩
    replace bl := bnext bl hb2
    clear hv hb2 ba
    go_wp2
    go_ret2
    exact ⟨none, 0, rfl, IntsIn.nil _ _ _ (Nat.le_refl _), bl⟩
set_option maxHeartbeats 4000000 in
theorem K_spec_SharedPoints {w : World} {lo hi : Nat} {W H a b r : Int} {v : Value} {B zs : List Int} (hI : IntsIn w lo hi v B) (hm : shaM ⟨W, H, B⟩ a b = (zs, r)) :
    Calls Try.prog 30 #[.agg #[.int .i64 W, .int .i64 H, v], .int .i64 a, .int .i64 b] w fun e w' => ∃ A c, e = .returned (.tuple #[.slice A zs.length c, .int .i64 r]) ∧ IntsIn w' w.heap.size w'.heap.size (.slice A zs.length c) zs ∧ Below w.heap.size w w' := by
  obtain ⟨A, cA, rfl, _, _⟩ := hI.1.open_
  have bl := Joins.below_alloc1 w (.cells #[.int .i64 W, .int .i64 H, .slice A B.length cA] 28)
  have ba := Box.new w 28 #[.int .i64 W, .int .i64 H, .slice A B.length cA]
  have hv := hI.below bl
  clear hI
  obtain ⟨k, hk⟩ : ∃ k, codeC ⟨W, H, B⟩ [a] = k := ⟨_, rfl⟩
  have HK := Lib.hid hk
  unfold shaM at hm
  rw [codeC_two, hk] at hm
  simp only [] at hm
  by_cases h0 : k = 0
  · subst h0
    rw [if_pos rfl] at hm
    obtain ⟨k2, hk2⟩ : ∃ k, codeC ⟨W, H, B⟩ [b] = k := ⟨_, rfl⟩
    have HK2 := Lib.hid hk2
    rw [hk2] at hm
    obtain ⟨hp, hwf⟩ := codeC_ok hk
    have HP := Lib.hid hp
    clear hk hp hwf
    by_cases h2 : k2 = 0
    · subst h2
      rw [if_pos rfl] at hm
      by_cases hab : a = b
      · rw [if_pos hab] at hm
        obtain ⟨rfl, rfl⟩ : ([] : List Int) = zs ∧ 6 = r := by simpa using hm
        have t1 : (a == b) = true := by simp [hab]
        clear hm hk2 hab
        go_enter Try.func30, Try.ntmps30
        go_wp2_with fail
        refine (l04Code_any ba hv HK.out).mono ?_
        rintro e w2 ⟨V, rfl, _, hb2⟩
        replace bl := bnext bl hb2
        replace ba := ba.below hb2
        replace hv := hv.below hb2
        clear hb2
        go_wp2_with fail
        refine (l04Code_any ba hv HK2.out).mono ?_
        rintro e w3 ⟨V2, rfl, _, hb3⟩
        replace bl := bnext bl hb3
        clear hv hb3 ba
        go_wp2
        go_ret2
        exact ⟨none, 0, rfl, IntsIn.nil _ _ _ (Nat.le_refl _), bl⟩
      · rw [if_neg hab] at hm
        obtain ⟨rfl, rfl⟩ : meetTo ⟨W, H, B⟩ [a, b] B.length = zs ∧ 0 = r := by simpa using hm
        have t1 : (a == b) = false := by simp [hab]
        clear hm hk2 hab
        go_enter Try.func30, Try.ntmps30
        go_wp2_with fail
        refine (l04Code_any ba hv HK.out).mono ?_
        rintro e w2 ⟨V, rfl, hO, hb2⟩
        have hO2 := hO rfl
        replace bl := bnext bl hb2
        replace ba := ba.below hb2
        replace hv := hv.below hb2
        clear hO hb2
        go_wp2_with fail
        refine (l04Code_any ba hv HK2.out).mono ?_
        rintro e w3 ⟨V2, rfl, _, hb3⟩
        replace bl := bnext bl hb3
        replace ba := ba.below hb3
        replace hv := hv.below hb3
        replace hO2 := Row.below hO2 hb3
        clear hb3
        go_wp2_with fail
        refine (l10Meet_any ba hv hO2 HP.out).mono ?_
        rintro e w4 ⟨E, f, rfl, hz, hb4⟩
        have s3 := bl.size
        replace bl := bnext bl hb4
        have hz2 := Lib.hid (hz.wider (lo' := w.heap.size) s3 (Nat.le_refl _) (Nat.le_refl _))
        clear hz hv hO2 ba hb4
        go_wp2
        go_ret2
        exact ⟨E, f, rfl, hz2.out, bl⟩
    · rw [if_neg h2] at hm
      obtain ⟨rfl, rfl⟩ : ([] : List Int) = zs ∧ k2 = r := by simpa using hm
      have t1 : (k2 == 0) = false := by simp [h2]
      have t2 : (k2 != 0) = true := by simp [h2]
      clear hm hk2 h2
      go_enter Try.func30, Try.ntmps30
      go_wp2_with fail
      refine (l04Code_any ba hv HK.out).mono ?_
      rintro e w2 ⟨V, rfl, _, hb2⟩
      replace bl := bnext bl hb2
      replace ba := ba.below hb2
      replace hv := hv.below hb2
      clear hb2
      go_wp2_with fail
      refine (l04Code_any ba hv HK2.out).mono ?_
      rintro e w3 ⟨V2, rfl, _, hb3⟩
      replace bl := bnext bl hb3
      clear hv hb3 ba
      go_wp2
      go_ret2
      exact ⟨none, 0, rfl, IntsIn.nil _ _ _ (Nat.le_refl _), bl⟩
  · rw [if_neg h0, if_neg h0] at hm
    obtain ⟨rfl, rfl⟩ : ([] : List Int) = zs ∧ k = r := by simpa using hm
    have t1 : (k == 0) = false := by simp [h0]
    have t2 : (k != 0) = true := by simp [h0]
    clear hm hk h0
    go_enter Try.func30, Try.ntmps30
    go_wp2_with fail
    refine (l04Code_any ba hv HK.out).mono ?_
    rintro e w2 ⟨V, rfl, _, hb2⟩
    replace bl := bnext bl hb2
    clear hv hb2 ba
    go_wp2
    go_ret2
    exact ⟨none, 0, rfl, IntsIn.nil _ _ _ (Nat.le_refl _), bl⟩
end Go.Proofs.Ytmagomiehgcbjaa
