/-
  NewJoined, by the program and by the reference.
-/
import Derived.Test.YtcfdbjjfdddfeaaKJoin
namespace Go.Proofs.Ytcfdbjjfdddfeaa
open Go.RowKit Knot

theorem upFrom_succ (n : Nat) : upFrom 0 n ++ [(n : Int)] = upFrom 0 (n + 1) := by
  unfold upFrom
  rw [List.range_succ, List.map_append]
  simp

set_option maxHeartbeats 2000000 in
theorem NewJoined_any (n : Int) (w : World) :
    Calls Try.prog 21 #[.int .i64 n] w fun e w' => ∃ A c D d, e = .returned (.tuple #[.agg #[.slice A (if inR n 1 256 then n.toNat else 0) c, .slice D 0 d], .int .i64 (if inR n 1 256 then 0 else 2)]) ∧
      JoinedIn w' w.heap.size w'.heap.size (.slice A (if inR n 1 256 then n.toNat else 0) c) (.slice D 0 d) (upFrom 0 (if inR n 1 256 then n.toNat else 0)) [] ∧ Below w.heap.size w w' := by
  cases hr : inR n 1 256
  · go_enter Try.func21, Try.ntmps21
    go_wp2_with (go_at_call 59; refine (inRange_any _ _ _ _ hr _).mono ?_; rintro e w' ⟨rfl, rfl⟩)
    refine bodyPost_ret (v := .tuple #[.agg #[.slice none 0 0, .slice none 0 0], .int .i64 2]) (by simp [results, Try.results21, go_sem]) rfl ⟨none, 0, none, 0, rfl, ?_, ?_⟩
    · exact ⟨⟨Row.nil _ _, fun k hk => by simp [Value.ownBlock] at hk, Nat.le_refl _, by simp [upFrom_length]⟩, ⟨Row.nil _ _, fun k hk => by simp [Value.ownBlock] at hk, Nat.le_refl _, by simp⟩, fun k hk => by simp [Value.ownBlock] at hk⟩
    · exact Joins.below_alloc1 _ _
  · have hn : 1 ≤ n ∧ n ≤ 256 := by simpa [inR] using hr
    obtain ⟨m, rfl⟩ := Int.eq_ofNat_of_zero_le (show 0 ≤ n by omega)
    have x0 := (Box.new w 27 #[.slice none 0 0, .slice none 0 0]).alloc (.cells #[.slice none 0 0, .slice none 0 0] 27)
    have x1 := Box.new (w.alloc (.cells #[.slice none 0 0, .slice none 0 0] 27)) 27 #[.slice none 0 0, .slice none 0 0]
    rw [World.size_alloc] at x1
    have bl := Joins.below_alloc2 w (.cells #[.slice none 0 0, .slice none 0 0] 27) (.cells #[.slice none 0 0, .slice none 0 0] 27)
    go_enter Try.func21, Try.ntmps21
    go_wp2_with (go_at_call 59; refine (inRange_any _ _ _ _ hr _).mono ?_; rintro e w' ⟨rfl, rfl⟩)
    go_loopw [12] (fun i wr => ∃ (k : Nat) (A : Option Addr) (c : Nat), k ≤ m ∧ i = .int .i64 k ∧ Box wr (w.heap.size + 1) 27 #[.slice A k c, .slice none 0 0] ∧ Box wr w.heap.size 27 #[.slice none 0 0, .slice none 0 0] ∧
        Ints wr (w.heap.size + 2) (.slice A k c) (upFrom 0 k) ∧ Below w.heap.size w wr) (fun i _ => m - (intOf i).toNat)
    case atStart => exact ⟨0, none, 0, Nat.zero_le _, rfl, x1, x0, Row.nil _ _, bl⟩
    case round =>
      obtain ⟨k, A, c, hk, rfl, b1, b0, hI, hb⟩ := hrel
      clear x0 x1 bl
      have c0 := b1.cell 0
      have c1 := b1.cell 1
      have d0 := b0.cell 0
      have d1 := b0.cell 1
      have f0 := b1.free 0
      have f1 := b1.free 1
      have e0 := b0.free 0
      have e1 := b0.free 1
      have n1 := b1.lt
      have n0 := b0.lt
      have hlen : (upFrom 0 k).length < 1000000000 := by rw [upFrom_length]; omega
      by_cases hlt : k < m
      · go_wp2_with (at_builtin; refine append_one rfl _ _ rfl (w.heap.size + 2) _ (upFrom 0 k) k hI rfl rfl hlen (by omega) ?_)
        intro g c' w2 hI2 hg2
        rw [upFrom_succ, upFrom_length] at hI2
        rw [upFrom_length]
        have hne : ∀ j : Nat, j < w.heap.size + 2 → some j ≠ (Value.slice A k c).ownBlock := fun j hj e => by
          have := (Row.lt hI e.symm).1
          omega
        have b1' := b1.grown hg2 (hne _ (by omega))
        have b0' := b0.grown hg2 (hne _ (by omega))
        have c0' := b1'.cell 0
        have f0' := b1'.free 0
        have hs := hg2.size
        have hb2 : Below w.heap.size w w2 := hb.grown hg2 (by omega) (fun j hj => by
          have := (Row.lt hI hj).1
          omega)
        have b1s := b1'.set_ 0 (.slice (some ⟨g, 0, none⟩) (k + 1) c')
        have b0s := b0'.far (p := ⟨w.heap.size + 1, 0, none⟩) (by simp) (.slice (some ⟨g, 0, none⟩) (k + 1) c')
        have hIs : Ints (w2.setCell ⟨w.heap.size + 1, 0, none⟩ (.slice (some ⟨g, 0, none⟩) (k + 1) c')) (w.heap.size + 2) (.slice (some ⟨g, 0, none⟩) (k + 1) c') (upFrom 0 (k + 1)) :=
          Row.setCell hI2 (fun j hj => by
            have := (Row.lt hI2 hj).1
            simp
            omega) _
        have hbs := hb2.setCell (p := ⟨w.heap.size + 1, 0, none⟩) (by simp) (.slice (some ⟨g, 0, none⟩) (k + 1) c')
        clear b1 b0 hI hb c0 c1 d0 d1 f0 f1 e0 e1 n1 n0 hg2 hb2 hI2 hne
        go_wp2
        go_roundw
        case rel => exact ⟨k + 1, some ⟨g, 0, none⟩, c', by omega, by go_num, b1s, b0s, hIs, hbs⟩
        case measure => simp [intOf]; omega
      · have e : k = m := by omega
        subst e
        go_wp2
        refine bodyPost_ret (v := .tuple #[.agg #[.slice A k c, .slice none 0 0], .int .i64 0]) (by simp [results, Try.results21, go_sem, n0, n1, c0, c1, d0, d1]) rfl ⟨A, c, none, 0, rfl, ?_, ?_⟩
        · refine ⟨⟨(Row.setCell (Row.setCell hI ?_ _) ?_ _).le (by omega), ?_, Nat.le_refl _, by rw [upFrom_length]; omega⟩, ⟨Row.nil _ _, fun j hj => by simp [Value.ownBlock] at hj, Nat.le_refl _, by simp⟩, fun j _ => by simp [Value.ownBlock]⟩
          · intro j hj; have := (Row.lt hI hj).1; simp; omega
          · intro j hj; have := (Row.lt hI hj).1; simp; omega
          · intro j hj; have := (Row.lt hI hj).2; simp; omega
        · exact (hb.setCell (p := ⟨w.heap.size, 0, none⟩) (Nat.le_refl _) _).setCell (p := ⟨w.heap.size, 1, none⟩) (Nat.le_refl _) _
set_option maxHeartbeats 2000000 in
theorem l08New_any (m : Nat) (hm : m ≤ 256) (w : World) :
    Calls Try.prog 58 #[.int .i64 m] w fun e w' => ∃ A c D d, e = .returned (.agg #[.slice A m c, .slice D 0 d]) ∧
      JoinedIn w' w.heap.size w'.heap.size (.slice A m c) (.slice D 0 d) (upFrom 0 m) [] ∧ Below w.heap.size w w' := by
  have x0 := ((Box.new w 27 #[.slice none 0 0, .slice none 0 0]).alloc (.cells #[] 2)).alloc (.cells #[.slice none 0 0, .slice (some ⟨w.heap.size + 1, 0, none⟩) 0 0] 27)
  have x1 := Box.new ((w.alloc (.cells #[.slice none 0 0, .slice none 0 0] 27)).alloc (.cells #[] 2)) 27 #[.slice none 0 0, .slice (some ⟨w.heap.size + 1, 0, none⟩) 0 0]
  rw [World.size_alloc, World.size_alloc] at x1
  have bl := Joins.below_alloc3 w (.cells #[.slice none 0 0, .slice none 0 0] 27) (.cells #[] 2) (.cells #[.slice none 0 0, .slice (some ⟨w.heap.size + 1, 0, none⟩) 0 0] 27)
  have hD : Ints _ _ _ [] := (Row.none_ (enc := Value.int .i64) (E := 2) (w.alloc (.cells #[.slice none 0 0, .slice none 0 0] 27))).alloc (.cells #[.slice none 0 0, .slice (some ⟨w.heap.size + 1, 0, none⟩) 0 0] 27)
  rw [World.size_alloc] at hD
  go_enter Try.func58, Try.ntmps58
  go_wp2
  go_loopw [4] (fun i wr => ∃ (k : Nat) (A : Option Addr) (c : Nat), k ≤ m ∧ i = .int .i64 k ∧ Box wr (w.heap.size + 1 + 1) 27 #[.slice A k c, .slice (some ⟨w.heap.size + 1, 0, none⟩) 0 0] ∧ Box wr w.heap.size 27 #[.slice none 0 0, .slice none 0 0] ∧
      Ints wr (w.heap.size + 1) (.slice (some ⟨w.heap.size + 1, 0, none⟩) 0 0) [] ∧ Ints wr (w.heap.size + 3) (.slice A k c) (upFrom 0 k) ∧ Below w.heap.size w wr) (fun i _ => m - (intOf i).toNat)
  case atStart => exact ⟨0, none, 0, Nat.zero_le _, rfl, x1, x0, hD, Row.nil _ _, bl⟩
  case round =>
    obtain ⟨k, A, c, hk, rfl, b1, b0, hL, hI, hb⟩ := hrel
    clear x0 x1 bl hD
    have c0 := b1.cell 0
    have c1 := b1.cell 1
    have d0 := b0.cell 0
    have d1 := b0.cell 1
    have f0 := b1.free 0
    have f1 := b1.free 1
    have e0 := b0.free 0
    have e1 := b0.free 1
    have n1 := b1.lt
    have n0 := b0.lt
    have hlen : (upFrom 0 k).length < 1000000000 := by rw [upFrom_length]; omega
    by_cases hlt : k < m
    · go_wp2_with (at_builtin; refine append_one rfl _ _ rfl (w.heap.size + 3) _ (upFrom 0 k) k hI rfl rfl hlen (by omega) ?_)
      intro g c' w2 hI2 hg2
      rw [upFrom_succ, upFrom_length] at hI2
      rw [upFrom_length]
      have hne : ∀ j : Nat, j < w.heap.size + 3 → some j ≠ (Value.slice A k c).ownBlock := fun j hj e => by
        have := (Row.lt hI e.symm).1
        omega
      have b1' := b1.grown hg2 (hne _ (by omega))
      have b0' := b0.grown hg2 (hne _ (by omega))
      have hL' : Ints w2 _ _ [] := Row.grown hL hg2 (fun j hj => hne j (by simp [Value.ownBlock] at hj; omega))
      have c0' := b1'.cell 0
      have f0' := b1'.free 0
      have hs := hg2.size
      have hb2 : Below w.heap.size w w2 := hb.grown hg2 (by omega) (fun j hj => by
        have := (Row.lt hI hj).1
        omega)
      have b1s := b1'.set_ 0 (.slice (some ⟨g, 0, none⟩) (k + 1) c')
      have b0s := b0'.far (p := ⟨w.heap.size + 1 + 1, 0, none⟩) (by simp; omega) (.slice (some ⟨g, 0, none⟩) (k + 1) c')
      have hIs : Ints (w2.setCell ⟨w.heap.size + 1 + 1, 0, none⟩ (.slice (some ⟨g, 0, none⟩) (k + 1) c')) (w.heap.size + 3) (.slice (some ⟨g, 0, none⟩) (k + 1) c') (upFrom 0 (k + 1)) :=
        Row.setCell hI2 (fun j hj => by
          have := (Row.lt hI2 hj).1
          simp
          omega) _
      have hLs : Ints (w2.setCell ⟨w.heap.size + 1 + 1, 0, none⟩ (.slice (some ⟨g, 0, none⟩) (k + 1) c')) (w.heap.size + 1) (.slice (some ⟨w.heap.size + 1, 0, none⟩) 0 0) [] :=
        Row.setCell hL' (fun j hj => by simp [Value.ownBlock] at hj; simp; omega) _
      have hbs := hb2.setCell (p := ⟨w.heap.size + 1 + 1, 0, none⟩) (by simp; omega) (.slice (some ⟨g, 0, none⟩) (k + 1) c')
      clear b1 b0 hI hL hL' hb c0 c1 d0 d1 f0 f1 e0 e1 n1 n0 hg2 hb2 hI2 hne
      go_wp2
      go_roundw
      case rel => exact ⟨k + 1, some ⟨g, 0, none⟩, c', by omega, by go_num, b1s, b0s, hLs, hIs, hbs⟩
      case measure => simp [intOf]; omega
    · have e : k = m := by omega
      subst e
      go_wp2
      refine bodyPost_ret (v := .agg #[.slice A k c, .slice (some ⟨w.heap.size + 1, 0, none⟩) 0 0]) (by simp [results, Try.results58, go_sem, n0, n1, c0, c1, d0, d1]) rfl ⟨A, c, some ⟨w.heap.size + 1, 0, none⟩, 0, rfl, ?_, ?_⟩
      · refine ⟨⟨(Row.setCell (Row.setCell hI ?_ _) ?_ _).le (by omega), ?_, Nat.le_refl _, by rw [upFrom_length]; omega⟩, ⟨(Row.setCell (Row.setCell hL ?_ _) ?_ _).le (by omega), ?_, Nat.le_refl _, by simp⟩, fun j hj => ?_⟩
        · intro j hj; have := (Row.lt hI hj).1; simp; omega
        · intro j hj; have := (Row.lt hI hj).1; simp; omega
        · intro j hj; have := (Row.lt hI hj).2; simp; omega
        · intro j hj; have := (Row.lt hL hj).1; simp; omega
        · intro j hj; have := (Row.lt hL hj).1; simp; omega
        · intro j hj; have := (Row.lt hL hj).2; simp; omega
        · have := (Row.lt hI hj).1; simp [Value.ownBlock]; omega
      · exact (hb.setCell (p := ⟨w.heap.size, 0, none⟩) (Nat.le_refl _) _).setCell (p := ⟨w.heap.size, 1, none⟩) (Nat.le_refl _) _
set_option maxHeartbeats 1000000 in
theorem sNewJoined_any (n : Int) (w : World) :
    Calls Try.prog 20 #[.int .i64 n] w fun e w' => ∃ A c D d, e = .returned (.tuple #[.agg #[.slice A (if inR n 1 256 then n.toNat else 0) c, .slice D 0 d], .int .i64 (if inR n 1 256 then 0 else 2)]) ∧
      JoinedIn w' w.heap.size w'.heap.size (.slice A (if inR n 1 256 then n.toNat else 0) c) (.slice D 0 d) (upFrom 0 (if inR n 1 256 then n.toNat else 0)) [] ∧ Below w.heap.size w w' := by
  cases hr : inR n 1 256
  · go_enter Try.func20, Try.ntmps20
    go_wp2_with (go_at_call 57; refine (l00In_any _ _ _ _ hr _).mono ?_; rintro e w' ⟨rfl, rfl⟩)
    refine bodyPost_ret (v := .tuple #[.agg #[.slice none 0 0, .slice none 0 0], .int .i64 2]) (by simp [results, Try.results20, go_sem]) rfl ⟨none, 0, none, 0, rfl, ?_, ?_⟩
    · exact ⟨⟨Row.nil _ _, fun k hk => by simp [Value.ownBlock] at hk, Nat.le_refl _, by simp [upFrom_length]⟩, ⟨Row.nil _ _, fun k hk => by simp [Value.ownBlock] at hk, Nat.le_refl _, by simp⟩, fun k hk => by simp [Value.ownBlock] at hk⟩
    · exact Joins.below_alloc1 _ _
  · have hn : 1 ≤ n ∧ n ≤ 256 := by simpa [inR] using hr
    obtain ⟨m, rfl⟩ := Int.eq_ofNat_of_zero_le (show 0 ≤ n by omega)
    have x0 := Box.new w 27 #[.slice none 0 0, .slice none 0 0]
    have bl := Joins.below_alloc1 w (.cells #[.slice none 0 0, .slice none 0 0] 27)
    go_enter Try.func20, Try.ntmps20
    go_wp2_with (go_at_call 57; refine (l00In_any _ _ _ _ hr _).mono ?_; rintro e w' ⟨rfl, rfl⟩)
    refine (l08New_any m (by omega) _).mono ?_
    rintro e w1 ⟨A, c, D, d, rfl, hJ, hb⟩
    have b0 := x0.below hb
    have d0 := b0.cell 0
    have d1 := b0.cell 1
    have e0 := b0.free 0
    have e1 := b0.free 1
    have n0 := b0.lt
    have hbb := bnext bl hb
    clear x0
    go_wp2_with fail
    refine bodyPost_ret (v := .tuple #[.agg #[.slice A m c, .slice D 0 d], .int .i64 0]) (by simp [results, Try.results20, go_sem, n0, d0, d1]) rfl ⟨A, c, D, d, rfl, ?_, ?_⟩
    · have hsz := hb.size
      rw [World.size_alloc] at hsz hJ
      have hB2 : Chg w.heap.size (w.heap.size + 1) w1 ((w1.setCell ⟨w.heap.size, 0, none⟩ (.slice A m c)).setCell ⟨w.heap.size, 1, none⟩ (.slice D 0 d)) :=
        ⟨rfl, rfl, rfl, by simp, fun k hk hd => (Below.heap_setCell _ _ _ _ (by show k ≠ w.heap.size; omega)).trans (Below.heap_setCell _ _ _ _ (by show k ≠ w.heap.size; omega))⟩
      have h2 := hJ.chg hB2 (by omega)
      exact ⟨h2.1.wider (by omega) (by simp) (Nat.le_refl _), h2.2.1.wider (by omega) (by simp) (Nat.le_refl _), h2.2.2⟩
    · exact (hbb.setCell (p := ⟨w.heap.size, 0, none⟩) (Nat.le_refl _) _).setCell (p := ⟨w.heap.size, 1, none⟩) (Nat.le_refl _) _
/-- What NewJoined answers. -/
def newM (n : Int) : List Int × List Int × Int := if inR n 1 256 then (upFrom 0 n.toNat, [], 0) else ([], [], 2)
theorem NewJoinedK_any (n : Int) (w : World) (xs ys : List Int) (cd : Int) (h : newM n = (xs, ys, cd)) :
    Calls Try.prog 21 #[.int .i64 n] w fun e w' => ∃ A c D d, e = .returned (.tuple #[.agg #[.slice A xs.length c, .slice D ys.length d], .int .i64 cd]) ∧
      JoinedIn w' w.heap.size w'.heap.size (.slice A xs.length c) (.slice D ys.length d) xs ys ∧ Below w.heap.size w w' := by
  have := NewJoined_any n w
  unfold newM at h
  cases hr : inR n 1 256
  · simp only [hr, Bool.false_eq_true, if_false, Prod.mk.injEq] at h this
    obtain ⟨rfl, rfl, rfl⟩ := h
    exact this
  · simp only [hr, if_true, Prod.mk.injEq] at h this
    obtain ⟨rfl, rfl, rfl⟩ := h
    simpa only [upFrom_length, List.length_nil] using this
theorem sNewJoinedK_any (n : Int) (w : World) (xs ys : List Int) (cd : Int) (h : newM n = (xs, ys, cd)) :
    Calls Try.prog 20 #[.int .i64 n] w fun e w' => ∃ A c D d, e = .returned (.tuple #[.agg #[.slice A xs.length c, .slice D ys.length d], .int .i64 cd]) ∧
      JoinedIn w' w.heap.size w'.heap.size (.slice A xs.length c) (.slice D ys.length d) xs ys ∧ Below w.heap.size w w' := by
  have := sNewJoined_any n w
  unfold newM at h
  cases hr : inR n 1 256
  · simp only [hr, Bool.false_eq_true, if_false, Prod.mk.injEq] at h this
    obtain ⟨rfl, rfl, rfl⟩ := h
    exact this
  · simp only [hr, if_true, Prod.mk.injEq] at h this
    obtain ⟨rfl, rfl, rfl⟩ := h
    simpa only [upFrom_length, List.length_nil] using this
section
variable {n : Int} {w : World} {xs ys : List Int} {cd : Int}
theorem K_impl_NewJoined (h : newM n = (xs, ys, cd)) :
    Calls Try.prog 21 #[.int .i64 n] w fun e w' => ∃ A c D d, e = .returned (.tuple #[.agg #[.slice A xs.length c, .slice D ys.length d], .int .i64 cd]) ∧
      JoinedIn w' w.heap.size w'.heap.size (.slice A xs.length c) (.slice D ys.length d) xs ys ∧ Below w.heap.size w w' := NewJoinedK_any n w xs ys cd h
theorem K_spec_NewJoined (h : newM n = (xs, ys, cd)) :
    Calls Try.prog 20 #[.int .i64 n] w fun e w' => ∃ A c D d, e = .returned (.tuple #[.agg #[.slice A xs.length c, .slice D ys.length d], .int .i64 cd]) ∧
      JoinedIn w' w.heap.size w'.heap.size (.slice A xs.length c) (.slice D ys.length d) xs ys ∧ Below w.heap.size w w' := sNewJoinedK_any n w xs ys cd h
end
end Go.Proofs.Ytcfdbjjfdddfeaa
