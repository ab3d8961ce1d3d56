/-
  Loops of two pairings, by the program and by the reference.
-/
import Derived.Test.YtnldahadldolpaaPair
import Derived.Test.YtnldahadldolpaaKind
import Derived.Test.YtnldahadldolpaaPlAllB
import Derived.Deep.LoopGhost
namespace Go.Proofs.Ytnldahadldolpaa
open Go.RowKit Knot

theorem Bools.free {w : World} {B g n c : Nat} {xs : List Bool} (h : Bools w B (.slice (some ⟨g, 0, none⟩) n c) xs) (k : Nat) : w.frozen? ⟨g, k, none⟩ = false := Row.free h k
theorem Bools.put {w : World} {B g n c : Nat} {xs : List Bool} (h : Bools w B (.slice (some ⟨g, 0, none⟩) n c) xs) (a : Int) : Bools (w.setCell ⟨g, a.toNat, none⟩ (.bool true)) B (.slice (some ⟨g, 0, none⟩) n c) (sB xs a) := Row.set_ h a.toNat true
theorem IsPr.rng {xs : List Int} (h : IsPr xs) {i : Int} (h0 : 0 ≤ i) (h1 : i < xs.length) : PairAt xs i := by
  obtain ⟨k, rfl⟩ := Int.eq_ofNat_of_zero_le h0
  exact h.2.2.2 k (by omega)
theorem IsPr.pairing {xs : List Int} (h : IsPr xs) : Pairing xs.length xs :=
  ⟨rfl, fun i h0 h1 => (h.rng h0 h1).1, fun i h0 h1 => (h.rng h0 h1).2.1, fun i h0 h1 => (h.rng h0 h1).2.2.1, fun i h0 h1 => (h.rng h0 h1).2.2.2⟩
theorem nxt_rng {xs ys : List Int} (px : IsPr xs) (py : IsPr ys) (hl : ys.length = xs.length) : ∀ a : Int, 0 ≤ a → a < xs.length → 0 ≤ nxt xs ys a ∧ nxt xs ys a < xs.length := fun a h0 h1 => by
  have h2 := px.rng h0 h1
  have h3 := py.rng h2.1 (by rw [hl]; exact h2.2.1)
  exact ⟨h3.1, by rw [← hl]; exact h3.2.1⟩
theorem cycTo_at {xs ys : List Int} (k : Nat) : (cycTo xs ys xs.length (List.replicate xs.length false) k).2.length = xs.length := by rw [cycTo_length]; simp
theorem ret_int2 {k : IntKind} {a b : Int} (h : a = b) : Ending.returned (.int k a) = .returned (.int k b) := by rw [h]
set_option maxHeartbeats 4000000 in
theorem loops_any {w : World} {B C : Nat} {v u : Value} {xs ys : List Int} (hx : Ints w B v xs) (hy : Ints w C u ys) (px : IsPr xs) (py : IsPr ys) (hl : ys.length = xs.length) :
    Calls Try.prog 57 #[v, u] w fun e w' => e = .returned (.int .i64 (loopsOf xs ys xs.length)) ∧ Below w.heap.size w w' := by
  obtain ⟨A, cA, rfl, lA, hA⟩ := hx.open_
  obtain ⟨D, cD, rfl, lD, hD⟩ := hy.open_
  unfold maxLen at lA lD
  have l1 := px.1
  have l2 := px.2.1
  obtain ⟨g1, rfl, _, g1l⟩ := hA (by omega)
  obtain ⟨g2, rfl, _, g2l⟩ := hD (by omega)
  have hrg := Lib.hid (nxt_rng px py hl)
  have PX := Lib.hid px
  have PY := Lib.hid py
  have HL := Lib.hid hl
  obtain ⟨i0, hi, hz0, hz1, hz2⟩ := info_parts info_bool
  clear px py hA hD
  go_enter Try.func57, Try.ntmps57
  go_wp2_with (at_make; refine wpList_make_full _ rfl _ _ 94 rfl w.heap.size 4 i0 (.bool false) 1 Try.underlying94 hi hz0 hz1 _ _ _ _ xs.length rfl rfl (by omega) (by omega) (by rw [hz2]; omega) (by unfold maxLen; omega) (Nat.le_refl _) ?_)
  intro w1 hown hgrow
  have hb1 : Below w.heap.size w w1 := (Below.refl _ _).grown hgrow (Nat.le_refl _) (by simp)
  have H1 : Bools w1 w.heap.size (.slice (some ⟨w.heap.size, 0, none⟩) xs.length xs.length) (List.replicate xs.length false) := by
    unfold Bools Row
    rw [List.length_replicate, List.map_replicate]
    simpa [Value.cells, toList_madeCells_one] using hown
  clear hown hgrow hi hz0 hz1 hz2 hl
  go_wp2
  go_loopw [6, 14] (fun m i wr => ∃ k : Nat, k ≤ xs.length ∧ m = .int .i64 (cycTo xs ys xs.length (List.replicate xs.length false) k).1 ∧ i = .int .i64 k ∧ Bools wr w.heap.size (.slice (some ⟨w.heap.size, 0, none⟩) xs.length xs.length) (cycTo xs ys xs.length (List.replicate xs.length false) k).2 ∧ Below w.heap.size w wr) (fun _ i _ => xs.length - (intOf i).toNat)
  case atStart => exact ⟨0, Nat.zero_le _, rfl, rfl, H1, hb1⟩
  case round =>
    obtain ⟨k, hk, rfl, rfl, hS, hb⟩ := hrel
    clear H1 hb1
    have hcl := cycTo_at (xs := xs) (ys := ys) k
    have hbd := cycTo_bd xs ys xs.length (List.replicate xs.length false) k
    obtain ⟨hb0, hb1⟩ := hbd
    by_cases hlt : k < xs.length
    · have i1 : (k : Int) < (xs.length : Int) := by omega
      have i0 : (0 : Int) ≤ (k : Int) := by omega
      have c1 := Bools.cell hS (k := k) (by omega)
      cases hbk : gB (cycTo xs ys xs.length (List.replicate xs.length false) k).2 k
      · rw [hbk] at c1
        have HN := Lib.hid (cycTo_new hbk)
        have HB := Lib.hid hbk
        have HC := Lib.hid hcl
        generalize hQ : (cycTo xs ys xs.length (List.replicate xs.length false) k) = Q at *
        clear hbk hcl hQ
        obtain ⟨W1, hW1⟩ : ∃ x, x = wr := ⟨wr, rfl⟩
        subst hW1
        go_wp2
        go_loopg [8] (unseen Q.2) (fun gk t wr => ∃ (a : Int) (s : List Bool), gk = unseen s ∧ t = .int .i64 a ∧ 0 ≤ a ∧ a < xs.length ∧ s.length = xs.length ∧ Bools wr w.heap.size (.slice (some ⟨w.heap.size, 0, none⟩) xs.length xs.length) s ∧ Below w.heap.size w wr ∧
            Hid (cyc xs ys (unseen s + 1) a s = cyc xs ys (xs.length + 1) k Q.2))
        case atStart => exact ⟨k, Q.2, rfl, rfl, i0, i1, HC.out, hS, hb, Lib.hid (cyc_start hrg.out HC.out i0 i1).symm⟩
        case round =>
          obtain ⟨a, s, rfl, rfl, a0, a1, hs, hT, hbb, hcy⟩ := hrel
          have d1 := Bools.cellI hT (i := a) a0 (by omega)
          cases hga : gB s a
          · rw [hga] at d1
            have p1 := PX.out.rng a0 a1
            have e1 : w.cell? ⟨g1, a.toNat, none⟩ = some (.int .i64 (gI xs a)) := Ints.cellI hx (i := a) a0 a1
            have e2 := Ints.cellI hy (i := gI xs a) p1.1 (by rw [HL.out]; exact p1.2.1)
            have e1' := (hbb.cell (p := ⟨g1, a.toNat, none⟩) g1l).trans e1
            have e2' := (hbb.cell (p := ⟨g2, (gI xs a).toNat, none⟩) g2l).trans e2
            have d2 := Bools.cellI hT (i := gI xs a) p1.1 (by have := p1.2.1; omega)
            have f1 := Bools.free hT a.toNat
            have f2 := Bools.free hT (gI xs a).toNat
            have hT2 := (hT.put a).put (gI xs a)
            have f3 := Bools.free (hT.put a) (gI xs a).toNat
            have d3 := Bools.cellI (hT.put a) (i := gI xs a) p1.1 (by rw [sB_length]; have := p1.2.1; omega)
            have hb3 := (hbb.setCell (p := ⟨w.heap.size, a.toNat, none⟩) (Nat.le_refl _) (.bool true)).setCell (p := ⟨w.heap.size, (gI xs a).toNat, none⟩) (Nat.le_refl _) (.bool true)
            have n1 := hrg.out a a0 a1
            have HS : Hid (cyc xs ys (unseen (sB (sB s a) (gI xs a)) + 1) (nxt xs ys a) (sB (sB s a) (gI xs a)) = cyc xs ys (xs.length + 1) k Q.2) := Lib.hid (by rw [← hcy.out]; exact (cyc_step hrg.out hs a0 a1 hga).symm)
            have HM : Hid (unseen (sB (sB s a) (gI xs a)) < unseen s) := Lib.hid (by have := unseen_set a0 (by omega) hga; have := unseen_set_le (sB s a) (gI xs a); omega)
            have hs2 : Hid ((sB (sB s a) (gI xs a)).length = xs.length) := Lib.hid (by rw [sB_length, sB_length, hs])
            have q1 : (w.heap.size = g1) = False := by simp; omega
            have q2 : (w.heap.size = g2) = False := by simp; omega
            have q1' : (g1 = w.heap.size) = False := by simp; omega
            have q2' : (g2 = w.heap.size) = False := by simp; omega
            obtain ⟨p2, p3, _, _⟩ := p1
            obtain ⟨n2, n3⟩ := n1
            unfold nxt at n2 n3
            have HT2 := Lib.hid hT2
            have HB3 := Lib.hid hb3
            clear hT hT2 hb3 hbb hcy hga hs hS hb c1 e1 e2 HN HB HC
            go_wp2
            go_roundg (unseen (sB (sB s a) (gI xs a)))
            case rel => exact ⟨_, _, rfl, rfl, n2, n3, hs2.out, HT2.out, HB3.out, HS⟩
            case measure => exact HM.out
          · rw [hga] at d1
            have HE : Hid (s = cyc xs ys (xs.length + 1) k Q.2) := Lib.hid (by rw [← hcy.out, cyc_stop _ hga])
            clear hga hcy
            go_wp2
            go_roundw
            case rel => exact ⟨k + 1, by omega, by rw [HN.out], by go_num, by rw [HN.out]; show Bools _ _ _ (cyc _ _ _ _ _); rw [← HE.out]; exact hT, hbb⟩
            case measure => simp [intOf]; omega
      · rw [hbk] at c1
        have HN := Lib.hid (cycTo_seen hbk)
        clear hbk hcl
        go_wp2
        go_roundw
        case rel => exact ⟨k + 1, by omega, by rw [HN.out], by go_num, by rw [HN.out]; exact hS, hb⟩
        case measure => simp [intOf]; omega
    · have e : k = xs.length := by omega
      subst e
      clear hS hcl
      go_wp2
      go_ret
      exact ⟨rfl, hb⟩
set_option maxHeartbeats 4000000 in
theorem l09Loops_any {w : World} {B C : Nat} {v u : Value} {xs ys : List Int} (hx : Ints w B v xs) (hy : Ints w C u ys) (px : IsPr xs) (py : IsPr ys) (hl : ys.length = xs.length) :
    Calls Try.prog 56 #[v, u] w fun e w' => e = .returned (.int .i64 (loopsOf xs ys xs.length)) ∧ Below w.heap.size w w' := by
  obtain ⟨A, cA, rfl, lA, hA⟩ := hx.open_
  obtain ⟨D, cD, rfl, lD, hD⟩ := hy.open_
  unfold maxLen at lA lD
  have l1 := px.1
  have l2 := px.2.1
  obtain ⟨g1, rfl, _, g1l⟩ := hA (by omega)
  obtain ⟨g2, rfl, _, g2l⟩ := hD (by omega)
  have hrg := Lib.hid (nxt_rng px py hl)
  have PX := Lib.hid px
  have PY := Lib.hid py
  have HL := Lib.hid hl
  obtain ⟨i0, hi, hz0, hz1, hz2⟩ := info_parts info_bool
  clear px py hA hD
  go_enter Try.func56, Try.ntmps56
  go_wp2_with (at_make; refine wpList_make_full _ rfl _ _ 94 rfl w.heap.size 4 i0 (.bool false) 1 Try.underlying94 hi hz0 hz1 _ _ _ _ xs.length rfl rfl (by omega) (by omega) (by rw [hz2]; omega) (by unfold maxLen; omega) (Nat.le_refl _) ?_)
  intro w1 hown hgrow
  have hb1 : Below w.heap.size w w1 := (Below.refl _ _).grown hgrow (Nat.le_refl _) (by simp)
  have H1 : Bools w1 w.heap.size (.slice (some ⟨w.heap.size, 0, none⟩) xs.length xs.length) (List.replicate xs.length false) := by
    unfold Bools Row
    rw [List.length_replicate, List.map_replicate]
    simpa [Value.cells, toList_madeCells_one] using hown
  clear hown hgrow hi hz0 hz1 hz2 hl
  go_wp2
  go_loopw [6, 7] (fun m i wr => ∃ k : Nat, k ≤ xs.length ∧ m = .int .i64 (cycTo xs ys xs.length (List.replicate xs.length false) k).1 ∧ i = .int .i64 k ∧ Bools wr w.heap.size (.slice (some ⟨w.heap.size, 0, none⟩) xs.length xs.length) (cycTo xs ys xs.length (List.replicate xs.length false) k).2 ∧ Below w.heap.size w wr) (fun _ i _ => xs.length - (intOf i).toNat)
  case atStart => exact ⟨0, Nat.zero_le _, rfl, rfl, H1, hb1⟩
  case round =>
    obtain ⟨k, hk, rfl, rfl, hS, hb⟩ := hrel
    clear H1 hb1
    have hcl := cycTo_at (xs := xs) (ys := ys) k
    have hbd := cycTo_bd xs ys xs.length (List.replicate xs.length false) k
    obtain ⟨hb0, hb1⟩ := hbd
    by_cases hlt : k < xs.length
    · have i1 : (k : Int) < (xs.length : Int) := by omega
      have i0 : (0 : Int) ≤ (k : Int) := by omega
      have c1 := Bools.cell hS (k := k) (by omega)
      cases hbk : gB (cycTo xs ys xs.length (List.replicate xs.length false) k).2 k
      · rw [hbk] at c1
        have HN := Lib.hid (cycTo_new hbk)
        have HB := Lib.hid hbk
        have HC := Lib.hid hcl
        generalize hQ : (cycTo xs ys xs.length (List.replicate xs.length false) k) = Q at *
        clear hbk hcl hQ
        obtain ⟨W1, hW1⟩ : ∃ x, x = wr := ⟨wr, rfl⟩
        subst hW1
        go_wp2
        go_loopg [8] (unseen Q.2) (fun gk t wr => ∃ (a : Int) (s : List Bool), gk = unseen s ∧ t = .int .i64 a ∧ 0 ≤ a ∧ a < xs.length ∧ s.length = xs.length ∧ Bools wr w.heap.size (.slice (some ⟨w.heap.size, 0, none⟩) xs.length xs.length) s ∧ Below w.heap.size w wr ∧
            Hid (cyc xs ys (unseen s + 1) a s = cyc xs ys (xs.length + 1) k Q.2))
        case atStart => exact ⟨k, Q.2, rfl, rfl, i0, i1, HC.out, hS, hb, Lib.hid (cyc_start hrg.out HC.out i0 i1).symm⟩
        case round =>
          obtain ⟨a, s, rfl, rfl, a0, a1, hs, hT, hbb, hcy⟩ := hrel
          have d1 := Bools.cellI hT (i := a) a0 (by omega)
          cases hga : gB s a
          · rw [hga] at d1
            have p1 := PX.out.rng a0 a1
            have e1 : w.cell? ⟨g1, a.toNat, none⟩ = some (.int .i64 (gI xs a)) := Ints.cellI hx (i := a) a0 a1
            have e2 := Ints.cellI hy (i := gI xs a) p1.1 (by rw [HL.out]; exact p1.2.1)
            have e1' := (hbb.cell (p := ⟨g1, a.toNat, none⟩) g1l).trans e1
            have e2' := (hbb.cell (p := ⟨g2, (gI xs a).toNat, none⟩) g2l).trans e2
            have d2 := Bools.cellI hT (i := gI xs a) p1.1 (by have := p1.2.1; omega)
            have f1 := Bools.free hT a.toNat
            have f2 := Bools.free hT (gI xs a).toNat
            have hT2 := (hT.put a).put (gI xs a)
            have f3 := Bools.free (hT.put a) (gI xs a).toNat
            have d3 := Bools.cellI (hT.put a) (i := gI xs a) p1.1 (by rw [sB_length]; have := p1.2.1; omega)
            have hb3 := (hbb.setCell (p := ⟨w.heap.size, a.toNat, none⟩) (Nat.le_refl _) (.bool true)).setCell (p := ⟨w.heap.size, (gI xs a).toNat, none⟩) (Nat.le_refl _) (.bool true)
            have n1 := hrg.out a a0 a1
            have HS : Hid (cyc xs ys (unseen (sB (sB s a) (gI xs a)) + 1) (nxt xs ys a) (sB (sB s a) (gI xs a)) = cyc xs ys (xs.length + 1) k Q.2) := Lib.hid (by rw [← hcy.out]; exact (cyc_step hrg.out hs a0 a1 hga).symm)
            have HM : Hid (unseen (sB (sB s a) (gI xs a)) < unseen s) := Lib.hid (by have := unseen_set a0 (by omega) hga; have := unseen_set_le (sB s a) (gI xs a); omega)
            have hs2 : Hid ((sB (sB s a) (gI xs a)).length = xs.length) := Lib.hid (by rw [sB_length, sB_length, hs])
            have q1 : (w.heap.size = g1) = False := by simp; omega
            have q2 : (w.heap.size = g2) = False := by simp; omega
            have q1' : (g1 = w.heap.size) = False := by simp; omega
            have q2' : (g2 = w.heap.size) = False := by simp; omega
            obtain ⟨p2, p3, _, _⟩ := p1
            obtain ⟨n2, n3⟩ := n1
            unfold nxt at n2 n3
            have HT2 := Lib.hid hT2
            have HB3 := Lib.hid hb3
            clear hT hT2 hb3 hbb hcy hga hs hS hb c1 e1 e2 HN HB HC
            go_wp2
            go_roundg (unseen (sB (sB s a) (gI xs a)))
            case rel => exact ⟨_, _, rfl, rfl, n2, n3, hs2.out, HT2.out, HB3.out, HS⟩
            case measure => exact HM.out
          · rw [hga] at d1
            have HE : Hid (s = cyc xs ys (xs.length + 1) k Q.2) := Lib.hid (by rw [← hcy.out, cyc_stop _ hga])
            clear hga hcy
            go_wp2
            go_roundw
            case rel => exact ⟨k + 1, by omega, by rw [HN.out], by go_num, by rw [HN.out]; show Bools _ _ _ (cyc _ _ _ _ _); rw [← HE.out]; exact hT, hbb⟩
            case measure => simp [intOf]; omega
      · rw [hbk] at c1
        have HN := Lib.hid (cycTo_seen hbk)
        clear hbk hcl
        go_wp2
        go_roundw
        case rel => exact ⟨k + 1, by omega, by rw [HN.out], by go_num, by rw [HN.out]; exact hS, hb⟩
        case measure => simp [intOf]; omega
    · have e : k = xs.length := by omega
      subst e
      clear hS hcl
      go_wp2
      go_ret
      exact ⟨rfl, hb⟩

open Classical in
/-- What LoopsOf answers. -/
noncomputable def loopM (xs ys : List Int) : Int × Int := if IsPr xs ∧ IsPr ys then if ys.length = xs.length then (loopsOf xs ys xs.length, 0) else (0, 6) else (0, 1)
set_option maxHeartbeats 2000000 in
theorem K_impl_LoopsOf {w : World} {lo hi lo' hi' : Nat} {v u : Value} {xs ys : List Int} {r0 r1 : Int} (hx : IntsIn w lo hi v xs) (hy : IntsIn w lo' hi' u ys) (hm : loopM xs ys = (r0, r1)) :
    Calls Try.prog 21 #[v, u] w fun e w' => e = .returned (.tuple #[.int .i64 r0, .int .i64 r1]) ∧ Below w.heap.size w w' := by
  obtain ⟨A, cA, rfl, lA, hA⟩ := hx.1.open_
  obtain ⟨D, cD, rfl, lD, hD⟩ := hy.1.open_
  unfold maxLen at lA lD
  clear hA hD
  by_cases px : IsPr xs
  rotate_left
  · obtain ⟨rfl, rfl⟩ : 0 = r0 ∧ 1 = r1 := by simpa [loopM, px] using hm
    have PX := Lib.hid px
    clear hm px
    go_enter Try.func21, Try.ntmps21
    go_wp2_with fail
    refine (IsPairing_any _ xs false (no_iff PX.out) _ _ hx.1).mono ?_
    rintro e w' ⟨rfl, rfl⟩
    go_wp2_with fail
    go_ret2
    exact ⟨rfl, Below.refl _ _⟩
  have PX := Lib.hid px
  by_cases py : IsPr ys
  rotate_left
  · obtain ⟨rfl, rfl⟩ : 0 = r0 ∧ 1 = r1 := by simpa [loopM, px, py] using hm
    have PY := Lib.hid py
    clear hm px py
    go_enter Try.func21, Try.ntmps21
    go_wp2_with fail
    refine (IsPairing_any _ xs true (yes_iff PX.out) _ _ hx.1).mono ?_
    rintro e w' ⟨rfl, rfl⟩
    go_wp2_with fail
    refine (IsPairing_any _ ys false (no_iff PY.out) _ _ hy.1).mono ?_
    rintro e w' ⟨rfl, rfl⟩
    go_wp2_with fail
    go_ret2
    exact ⟨rfl, Below.refl _ _⟩
  have PY := Lib.hid py
  by_cases hl : ys.length = xs.length
  rotate_left
  · obtain ⟨rfl, rfl⟩ : 0 = r0 ∧ 6 = r1 := by simpa [loopM, px, py, hl] using hm
    have tn : ((xs.length : Int) != (ys.length : Int)) = true := by simp; omega
    clear hm px py hl
    go_enter Try.func21, Try.ntmps21
    go_wp2_with fail
    refine (IsPairing_any _ xs true (yes_iff PX.out) _ _ hx.1).mono ?_
    rintro e w' ⟨rfl, rfl⟩
    go_wp2_with fail
    refine (IsPairing_any _ ys true (yes_iff PY.out) _ _ hy.1).mono ?_
    rintro e w' ⟨rfl, rfl⟩
    go_wp2_with fail
    go_ret2
    exact ⟨rfl, Below.refl _ _⟩
  obtain ⟨rfl, rfl⟩ : loopsOf xs ys xs.length = r0 ∧ 0 = r1 := by simpa [loopM, px, py, hl] using hm
  have tn : ((xs.length : Int) != (ys.length : Int)) = false := by simp; omega
  have HL := Lib.hid hl
  clear hm px py hl
  go_enter Try.func21, Try.ntmps21
  go_wp2_with fail
  refine (IsPairing_any _ xs true (yes_iff PX.out) _ _ hx.1).mono ?_
  rintro e w' ⟨rfl, rfl⟩
  go_wp2_with fail
  refine (IsPairing_any _ ys true (yes_iff PY.out) _ _ hy.1).mono ?_
  rintro e w' ⟨rfl, rfl⟩
  go_wp2_with fail
  refine (loops_any hx.1 hy.1 PX.out PY.out HL.out).mono ?_
  rintro e w2 ⟨rfl, hb⟩
  go_wp2_with fail
  go_ret2
  exact ⟨rfl, hb⟩
set_option maxHeartbeats 2000000 in
theorem K_spec_LoopsOf {w : World} {lo hi lo' hi' : Nat} {v u : Value} {xs ys : List Int} {r0 r1 : Int} (hx : IntsIn w lo hi v xs) (hy : IntsIn w lo' hi' u ys) (hm : loopM xs ys = (r0, r1)) :
    Calls Try.prog 20 #[v, u] w fun e w' => e = .returned (.tuple #[.int .i64 r0, .int .i64 r1]) ∧ Below w.heap.size w w' := by
  obtain ⟨A, cA, rfl, lA, hA⟩ := hx.1.open_
  obtain ⟨D, cD, rfl, lD, hD⟩ := hy.1.open_
  unfold maxLen at lA lD
  clear hA hD
  by_cases px : IsPr xs
  rotate_left
  · obtain ⟨rfl, rfl⟩ : 0 = r0 ∧ 1 = r1 := by simpa [loopM, px] using hm
    have PX := Lib.hid px
    clear hm px
    go_enter Try.func20, Try.ntmps20
    go_wp2_with fail
    refine (l09Ok_any _ xs false (no_iff PX.out) _ _ hx.1).mono ?_
    rintro e w' ⟨rfl, rfl⟩
    go_wp2_with fail
    go_ret2
    exact ⟨rfl, Below.refl _ _⟩
  have PX := Lib.hid px
  by_cases py : IsPr ys
  rotate_left
  · obtain ⟨rfl, rfl⟩ : 0 = r0 ∧ 1 = r1 := by simpa [loopM, px, py] using hm
    have PY := Lib.hid py
    clear hm px py
    go_enter Try.func20, Try.ntmps20
    go_wp2_with fail
    refine (l09Ok_any _ xs true (yes_iff PX.out) _ _ hx.1).mono ?_
    rintro e w' ⟨rfl, rfl⟩
    go_wp2_with fail
    refine (l09Ok_any _ ys false (no_iff PY.out) _ _ hy.1).mono ?_
    rintro e w' ⟨rfl, rfl⟩
    go_wp2_with fail
    go_ret2
    exact ⟨rfl, Below.refl _ _⟩
  have PY := Lib.hid py
  by_cases hl : ys.length = xs.length
  rotate_left
  · obtain ⟨rfl, rfl⟩ : 0 = r0 ∧ 6 = r1 := by simpa [loopM, px, py, hl] using hm
    have tn : ((xs.length : Int) != (ys.length : Int)) = true := by simp; omega
    clear hm px py hl
    go_enter Try.func20, Try.ntmps20
    go_wp2_with fail
    refine (l09Ok_any _ xs true (yes_iff PX.out) _ _ hx.1).mono ?_
    rintro e w' ⟨rfl, rfl⟩
    go_wp2_with fail
    refine (l09Ok_any _ ys true (yes_iff PY.out) _ _ hy.1).mono ?_
    rintro e w' ⟨rfl, rfl⟩
    go_wp2_with fail
    go_ret2
    exact ⟨rfl, Below.refl _ _⟩
  obtain ⟨rfl, rfl⟩ : loopsOf xs ys xs.length = r0 ∧ 0 = r1 := by simpa [loopM, px, py, hl] using hm
  have tn : ((xs.length : Int) != (ys.length : Int)) = false := by simp; omega
  have HL := Lib.hid hl
  clear hm px py hl
  go_enter Try.func20, Try.ntmps20
  go_wp2_with fail
  refine (l09Ok_any _ xs true (yes_iff PX.out) _ _ hx.1).mono ?_
  rintro e w' ⟨rfl, rfl⟩
  go_wp2_with fail
  refine (l09Ok_any _ ys true (yes_iff PY.out) _ _ hy.1).mono ?_
  rintro e w' ⟨rfl, rfl⟩
  go_wp2_with fail
  refine (l09Loops_any hx.1 hy.1 PX.out PY.out HL.out).mono ?_
  rintro e w2 ⟨rfl, hb⟩
  go_wp2_with fail
  go_ret2
  exact ⟨rfl, hb⟩
end Go.Proofs.Ytnldahadldolpaa
