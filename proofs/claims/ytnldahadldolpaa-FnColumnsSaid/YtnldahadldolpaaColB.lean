/-
  NextColumn, by the program and by the reference.
-/
import Derived.Test.YtnldahadldolpaaColA
namespace Go.Proofs.Ytnldahadldolpaa
open Go.RowKit Knot

open Classical in
/-- What NextColumn answers. -/
noncomputable def nextM (p : Pan) (x : Int) (P : List Int) (cl : Int) : List Int × Int × Int :=
  if colCode p x = 0 then if x = 2 * p.W - 1 then ([], 0, 6) else if IsPr P ∧ (P.length : Int) = 2 * p.H ∧ 0 ≤ cl ∧ cl ≤ 1000 then ((pass P (links p (x + 1)) (colN p)).1, cl + (pass P (links p (x + 1)) (colN p)).2, 0) else ([], 0, 8) else ([], 0, colCode p x)
theorem nextM_code {p : Pan} {x : Int} (h : ¬ colCode p x = 0) (P : List Int) (cl : Int) : nextM p x P cl = ([], 0, colCode p x) := by unfold nextM; rw [if_neg h]
theorem nextM_last {p : Pan} {x : Int} (h : colCode p x = 0) (h2 : x = 2 * p.W - 1) (P : List Int) (cl : Int) : nextM p x P cl = ([], 0, 6) := by unfold nextM; rw [if_pos h, if_pos h2]
theorem nextM_form {p : Pan} {x : Int} (h : colCode p x = 0) (h2 : ¬ x = 2 * p.W - 1) {P : List Int} {cl : Int} (h3 : ¬ (IsPr P ∧ (P.length : Int) = 2 * p.H ∧ 0 ≤ cl ∧ cl ≤ 1000)) : nextM p x P cl = ([], 0, 8) := by unfold nextM; rw [if_pos h, if_neg h2, if_neg h3]
theorem nextM_ok {p : Pan} {x : Int} (h : colCode p x = 0) (h2 : ¬ x = 2 * p.W - 1) {P : List Int} {cl : Int} (h3 : IsPr P ∧ (P.length : Int) = 2 * p.H ∧ 0 ≤ cl ∧ cl ≤ 1000) : nextM p x P cl = ((pass P (links p (x + 1)) (colN p)).1, cl + (pass P (links p (x + 1)) (colN p)).2, 0) := by unfold nextM; rw [if_pos h, if_neg h2, if_pos h3]
theorem colCode_zero {p : Pan} {x : Int} (h : colCode p x = 0) : Ok p ∧ 0 ≤ x ∧ x ≤ 2 * p.W - 1 := by
  unfold colCode at h
  split at h
  · split at h
    · exact ⟨by assumption, by assumption⟩
    · omega
  · omega
theorem colCode_vals (p : Pan) (x : Int) : colCode p x = 0 ∨ colCode p x = 1 ∨ colCode p x = 2 := by
  unfold colCode
  split
  · split <;> simp
  · simp
set_option maxRecDepth 20000 in
set_option maxHeartbeats 8000000 in
theorem K_impl_NextColumn {w : World} {lo hi lo' hi' : Nat} {x y X cl dl r : Int} {v u : Value} {xs ps zs : List Int} (hv : IntsIn w lo hi v xs) (hu : IntsIn w lo' hi' u ps) (hm : nextM ⟨x, y, xs⟩ X ps cl = (zs, dl, r)) :
    Calls Try.prog 48 #[.agg #[.int .i64 x, .int .i64 y, v], .int .i64 X, .agg #[u, .int .i64 cl]] w fun e w' => ∃ A c, e = .returned (.tuple #[.agg #[.slice A zs.length c, .int .i64 dl], .int .i64 r]) ∧
      IntsIn w' w.heap.size w'.heap.size (.slice A zs.length c) zs ∧ Below w.heap.size w w' := by
  obtain ⟨A, cA, rfl, _, _⟩ := hv.1.open_
  obtain ⟨D, cD, rfl, _, _⟩ := hu.1.open_
  have bl := Joins.below_alloc3 w (.cells #[.int .i64 x, .int .i64 y, .slice A xs.length cA] 41) (.cells #[.slice D ps.length cD, .int .i64 cl] 38) (.cells #[.slice none 0 0, .int .i64 0] 38)
  have ba := ((Box.new w 41 #[.int .i64 x, .int .i64 y, .slice A xs.length cA]).alloc (.cells #[.slice D ps.length cD, .int .i64 cl] 38)).alloc (.cells #[.slice none 0 0, .int .i64 0] 38)
  have bc := (Box.new (w.alloc (.cells #[.int .i64 x, .int .i64 y, .slice A xs.length cA] 41)) 38 #[.slice D ps.length cD, .int .i64 cl]).alloc (.cells #[.slice none 0 0, .int .i64 0] 38)
  have br := Box.new ((w.alloc (.cells #[.int .i64 x, .int .i64 y, .slice A xs.length cA] 41)).alloc (.cells #[.slice D ps.length cD, .int .i64 cl] 38)) 38 #[.slice none 0 0, .int .i64 0]
  simp only [World.size_alloc] at bc br
  replace hv := hv.below bl
  replace hu := hu.below bl
  by_cases hc : colCode ⟨x, y, xs⟩ X = 0
  rotate_left
  · rw [nextM_code hc] at hm
    obtain ⟨rfl, rfl, hr⟩ : [] = zs ∧ 0 = dl ∧ colCode ⟨x, y, xs⟩ X = r := by simpa using hm
    have hrv : r = 1 ∨ r = 2 := by
      have := colCode_vals ⟨x, y, xs⟩ X
      omega
    have HR := Lib.hid hr
    clear hm hc hr
    rcases hrv with rfl | rfl
    · skip
      have q0 := ba.cell 0
      have q1 := ba.cell 1
      have q2 := ba.cell 2
      have qn := ba.lt
      have c0 := bc.cell 0
      have c1 := bc.cell 1
      have cn := bc.lt
      simp only [List.getElem?_toArray, List.getElem?_cons_zero, List.getElem?_cons_succ] at q0 q1 q2 c0 c1
      go_enter Try.func48, Try.ntmps48
      go_wp2_with fail
      refine (columnCode_any hv.ints HR.out).mono ?_
      rintro e w2 ⟨rfl, hb⟩
      clear q0 q1 q2 qn c0 c1 cn
      replace ba := ba.below hb
      replace bc := bc.below hb
      replace br := br.below hb
      replace hv := hv.below hb
      replace hu := hu.below hb
      replace bl := bnext bl hb
      clear hb
      have r0 := br.cell 0
      have r1 := br.cell 1
      have rf0 := br.free 0
      have rf1 := br.free 1
      have rn := br.lt
      simp only [List.getElem?_toArray, List.getElem?_cons_zero, List.getElem?_cons_succ] at r0 r1
      go_wp2
      refine bodyPost_ret (v := .tuple #[.agg #[.slice none 0 0, .int .i64 0], .int .i64 1]) (by simp [results, Try.results48, go_sem, r0, r1, rf0, rf1, rn]) rfl ⟨none, 0, rfl, IntsIn.nil _ _ _ (Nat.le_refl _), ?_⟩
      exact (bl.setCell (p := ⟨w.heap.size + 1 + 1, 0, none⟩) (by simp; omega) _).setCell (p := ⟨w.heap.size + 1 + 1, 1, none⟩) (by simp; omega) _
    · skip
      have q0 := ba.cell 0
      have q1 := ba.cell 1
      have q2 := ba.cell 2
      have qn := ba.lt
      have c0 := bc.cell 0
      have c1 := bc.cell 1
      have cn := bc.lt
      simp only [List.getElem?_toArray, List.getElem?_cons_zero, List.getElem?_cons_succ] at q0 q1 q2 c0 c1
      go_enter Try.func48, Try.ntmps48
      go_wp2_with fail
      refine (columnCode_any hv.ints HR.out).mono ?_
      rintro e w2 ⟨rfl, hb⟩
      clear q0 q1 q2 qn c0 c1 cn
      replace ba := ba.below hb
      replace bc := bc.below hb
      replace br := br.below hb
      replace hv := hv.below hb
      replace hu := hu.below hb
      replace bl := bnext bl hb
      clear hb
      have r0 := br.cell 0
      have r1 := br.cell 1
      have rf0 := br.free 0
      have rf1 := br.free 1
      have rn := br.lt
      simp only [List.getElem?_toArray, List.getElem?_cons_zero, List.getElem?_cons_succ] at r0 r1
      go_wp2
      refine bodyPost_ret (v := .tuple #[.agg #[.slice none 0 0, .int .i64 0], .int .i64 2]) (by simp [results, Try.results48, go_sem, r0, r1, rf0, rf1, rn]) rfl ⟨none, 0, rfl, IntsIn.nil _ _ _ (Nat.le_refl _), ?_⟩
      exact (bl.setCell (p := ⟨w.heap.size + 1 + 1, 0, none⟩) (by simp; omega) _).setCell (p := ⟨w.heap.size + 1 + 1, 1, none⟩) (by simp; omega) _
  obtain ⟨ho, hX0, hX1⟩ := colCode_zero hc
  have HO := Lib.hid ho
  have HC := Lib.hid hc
  have hW8 := ho.w8
  have hW1 := ho.w1
  have hH8 := ho.h8
  have hH1 := ho.h1
  simp only [] at hW8 hW1 hH8 hH1 hX1
  by_cases hl : X = 2 * x - 1
  · rw [nextM_last hc hl] at hm
    obtain ⟨rfl, rfl, rfl⟩ : [] = zs ∧ 0 = dl ∧ 6 = r := by simpa using hm
    have hlb : (X == 2 * x - 1) = true := by simp [hl]
    clear hm hc hl ho
    have q0 := ba.cell 0
    have q1 := ba.cell 1
    have q2 := ba.cell 2
    have qn := ba.lt
    have c0 := bc.cell 0
    have c1 := bc.cell 1
    have cn := bc.lt
    simp only [List.getElem?_toArray, List.getElem?_cons_zero, List.getElem?_cons_succ] at q0 q1 q2 c0 c1
    go_enter Try.func48, Try.ntmps48
    go_wp2_with fail
    refine (columnCode_any hv.ints HC.out).mono ?_
    rintro e w2 ⟨rfl, hb⟩
    clear q0 q1 q2 qn c0 c1 cn
    replace ba := ba.below hb
    replace bc := bc.below hb
    replace br := br.below hb
    replace hv := hv.below hb
    replace hu := hu.below hb
    replace bl := bnext bl hb
    clear hb
    have q0 := ba.cell 0
    have q1 := ba.cell 1
    have q2 := ba.cell 2
    have qn := ba.lt
    have c0 := bc.cell 0
    have c1 := bc.cell 1
    have cn := bc.lt
    simp only [List.getElem?_toArray, List.getElem?_cons_zero, List.getElem?_cons_succ] at q0 q1 q2 c0 c1
    have r0 := br.cell 0
    have r1 := br.cell 1
    have rf0 := br.free 0
    have rf1 := br.free 1
    have rn := br.lt
    simp only [List.getElem?_toArray, List.getElem?_cons_zero, List.getElem?_cons_succ] at r0 r1
    go_wp2
    refine bodyPost_ret (v := .tuple #[.agg #[.slice none 0 0, .int .i64 0], .int .i64 6]) (by simp [results, Try.results48, go_sem, r0, r1, rf0, rf1, rn]) rfl ⟨none, 0, rfl, IntsIn.nil _ _ _ (Nat.le_refl _), ?_⟩
    exact (bl.setCell (p := ⟨w.heap.size + 1 + 1, 0, none⟩) (by simp; omega) _).setCell (p := ⟨w.heap.size + 1 + 1, 1, none⟩) (by simp; omega) _
  have hlb : (X == 2 * x - 1) = false := by simp [hl]
  by_cases hp : IsPr ps
  rotate_left
  · rw [nextM_form hc hl (fun h => hp h.1)] at hm
    obtain ⟨rfl, rfl, rfl⟩ : [] = zs ∧ 0 = dl ∧ 8 = r := by simpa using hm
    have HP := Lib.hid hp
    clear hm hc hl ho hp
    have q0 := ba.cell 0
    have q1 := ba.cell 1
    have q2 := ba.cell 2
    have qn := ba.lt
    have c0 := bc.cell 0
    have c1 := bc.cell 1
    have cn := bc.lt
    simp only [List.getElem?_toArray, List.getElem?_cons_zero, List.getElem?_cons_succ] at q0 q1 q2 c0 c1
    go_enter Try.func48, Try.ntmps48
    go_wp2_with fail
    refine (columnCode_any hv.ints HC.out).mono ?_
    rintro e w2 ⟨rfl, hb⟩
    clear q0 q1 q2 qn c0 c1 cn
    replace ba := ba.below hb
    replace bc := bc.below hb
    replace br := br.below hb
    replace hv := hv.below hb
    replace hu := hu.below hb
    replace bl := bnext bl hb
    clear hb
    have q0 := ba.cell 0
    have q1 := ba.cell 1
    have q2 := ba.cell 2
    have qn := ba.lt
    have c0 := bc.cell 0
    have c1 := bc.cell 1
    have cn := bc.lt
    simp only [List.getElem?_toArray, List.getElem?_cons_zero, List.getElem?_cons_succ] at q0 q1 q2 c0 c1
    go_wp2_with fail
    refine (IsPairing_any (.slice D ps.length cD) ps false (no_iff HP.out) _ 0 hu.ints).mono ?_
    rintro e w3 ⟨rfl, rfl⟩
    have r0 := br.cell 0
    have r1 := br.cell 1
    have rf0 := br.free 0
    have rf1 := br.free 1
    have rn := br.lt
    simp only [List.getElem?_toArray, List.getElem?_cons_zero, List.getElem?_cons_succ] at r0 r1
    go_wp2
    refine bodyPost_ret (v := .tuple #[.agg #[.slice none 0 0, .int .i64 0], .int .i64 8]) (by simp [results, Try.results48, go_sem, r0, r1, rf0, rf1, rn]) rfl ⟨none, 0, rfl, IntsIn.nil _ _ _ (Nat.le_refl _), ?_⟩
    exact (bl.setCell (p := ⟨w.heap.size + 1 + 1, 0, none⟩) (by simp; omega) _).setCell (p := ⟨w.heap.size + 1 + 1, 1, none⟩) (by simp; omega) _
  have HP := Lib.hid hp
  by_cases hpl : (ps.length : Int) = 2 * y
  rotate_left
  · rw [nextM_form hc hl (fun h => hpl h.2.1)] at hm
    obtain ⟨rfl, rfl, rfl⟩ : [] = zs ∧ 0 = dl ∧ 8 = r := by simpa using hm
    have hpb : ((ps.length : Int) != 2 * y) = true := by simp [hpl]
    clear hm hc hl ho hp hpl
    have q0 := ba.cell 0
    have q1 := ba.cell 1
    have q2 := ba.cell 2
    have qn := ba.lt
    have c0 := bc.cell 0
    have c1 := bc.cell 1
    have cn := bc.lt
    simp only [List.getElem?_toArray, List.getElem?_cons_zero, List.getElem?_cons_succ] at q0 q1 q2 c0 c1
    go_enter Try.func48, Try.ntmps48
    go_wp2_with fail
    refine (columnCode_any hv.ints HC.out).mono ?_
    rintro e w2 ⟨rfl, hb⟩
    clear q0 q1 q2 qn c0 c1 cn
    replace ba := ba.below hb
    replace bc := bc.below hb
    replace br := br.below hb
    replace hv := hv.below hb
    replace hu := hu.below hb
    replace bl := bnext bl hb
    clear hb
    have q0 := ba.cell 0
    have q1 := ba.cell 1
    have q2 := ba.cell 2
    have qn := ba.lt
    have c0 := bc.cell 0
    have c1 := bc.cell 1
    have cn := bc.lt
    simp only [List.getElem?_toArray, List.getElem?_cons_zero, List.getElem?_cons_succ] at q0 q1 q2 c0 c1
    go_wp2_with fail
    refine (IsPairing_any (.slice D ps.length cD) ps true (yes_iff HP.out) _ 0 hu.ints).mono ?_
    rintro e w3 ⟨rfl, rfl⟩
    have r0 := br.cell 0
    have r1 := br.cell 1
    have rf0 := br.free 0
    have rf1 := br.free 1
    have rn := br.lt
    simp only [List.getElem?_toArray, List.getElem?_cons_zero, List.getElem?_cons_succ] at r0 r1
    go_wp2
    refine bodyPost_ret (v := .tuple #[.agg #[.slice none 0 0, .int .i64 0], .int .i64 8]) (by simp [results, Try.results48, go_sem, r0, r1, rf0, rf1, rn]) rfl ⟨none, 0, rfl, IntsIn.nil _ _ _ (Nat.le_refl _), ?_⟩
    exact (bl.setCell (p := ⟨w.heap.size + 1 + 1, 0, none⟩) (by simp; omega) _).setCell (p := ⟨w.heap.size + 1 + 1, 1, none⟩) (by simp; omega) _
  have hpb : ((ps.length : Int) != 2 * y) = false := by simp [hpl]
  by_cases hcr : 0 ≤ cl ∧ cl ≤ 1000
  rotate_left
  · rw [nextM_form hc hl (fun h => hcr h.2.2)] at hm
    obtain ⟨rfl, rfl, rfl⟩ : [] = zs ∧ 0 = dl ∧ 8 = r := by simpa using hm
    have HCR : Hid (inR cl 0 1000 = false) := Lib.hid (by rw [inR_eq]; exact decide_eq_false hcr)
    clear hm hc hl ho hp hpl hcr
    have q0 := ba.cell 0
    have q1 := ba.cell 1
    have q2 := ba.cell 2
    have qn := ba.lt
    have c0 := bc.cell 0
    have c1 := bc.cell 1
    have cn := bc.lt
    simp only [List.getElem?_toArray, List.getElem?_cons_zero, List.getElem?_cons_succ] at q0 q1 q2 c0 c1
    go_enter Try.func48, Try.ntmps48
    go_wp2_with fail
    refine (columnCode_any hv.ints HC.out).mono ?_
    rintro e w2 ⟨rfl, hb⟩
    clear q0 q1 q2 qn c0 c1 cn
    replace ba := ba.below hb
    replace bc := bc.below hb
    replace br := br.below hb
    replace hv := hv.below hb
    replace hu := hu.below hb
    replace bl := bnext bl hb
    clear hb
    have q0 := ba.cell 0
    have q1 := ba.cell 1
    have q2 := ba.cell 2
    have qn := ba.lt
    have c0 := bc.cell 0
    have c1 := bc.cell 1
    have cn := bc.lt
    simp only [List.getElem?_toArray, List.getElem?_cons_zero, List.getElem?_cons_succ] at q0 q1 q2 c0 c1
    go_wp2_with fail
    refine (IsPairing_any (.slice D ps.length cD) ps true (yes_iff HP.out) _ 0 hu.ints).mono ?_
    rintro e w3 ⟨rfl, rfl⟩
    go_wp2_with fail
    refine (inRange_any cl 0 1000 false HCR.out _).mono ?_
    rintro e w4 ⟨rfl, rfl⟩
    have r0 := br.cell 0
    have r1 := br.cell 1
    have rf0 := br.free 0
    have rf1 := br.free 1
    have rn := br.lt
    simp only [List.getElem?_toArray, List.getElem?_cons_zero, List.getElem?_cons_succ] at r0 r1
    go_wp2
    refine bodyPost_ret (v := .tuple #[.agg #[.slice none 0 0, .int .i64 0], .int .i64 8]) (by simp [results, Try.results48, go_sem, r0, r1, rf0, rf1, rn]) rfl ⟨none, 0, rfl, IntsIn.nil _ _ _ (Nat.le_refl _), ?_⟩
    exact (bl.setCell (p := ⟨w.heap.size + 1 + 1, 0, none⟩) (by simp; omega) _).setCell (p := ⟨w.heap.size + 1 + 1, 1, none⟩) (by simp; omega) _
  rw [nextM_ok hc hl ⟨hp, hpl, hcr⟩] at hm
  obtain ⟨hz, hd, rfl⟩ : (pass ps (links ⟨x, y, xs⟩ (X + 1)) (colN ⟨x, y, xs⟩)).1 = zs ∧ cl + (pass ps (links ⟨x, y, xs⟩ (X + 1)) (colN ⟨x, y, xs⟩)).2 = dl ∧ 0 = r := by simpa using hm
  have HCR : Hid (inR cl 0 1000 = true) := Lib.hid (by rw [inR_eq]; exact decide_eq_true hcr)
  have HCL : Hid (0 ≤ cl ∧ cl ≤ 100000) := Lib.hid (by omega)
  have hcn : colN ⟨x, y, xs⟩ = ps.length := by unfold colN; simp only []; omega
  have HPP : Hid (Pairing (colN ⟨x, y, xs⟩) ps) := Lib.hid (by rw [hcn]; exact hp.pairing)
  have HXX : Hid (0 < X + 1 ∧ X + 1 < 2 * x) := Lib.hid (by omega)
  have HCN := Lib.hid hcn
  obtain ⟨R, hR⟩ : ∃ R, pass ps (links ⟨x, y, xs⟩ (X + 1)) (colN ⟨x, y, xs⟩) = R := ⟨_, rfl⟩
  rw [hR] at hz hd
  subst hz hd
  have HR := Lib.hid hR
  clear hm hc hl ho hp hpl hcr hcn hR
  have q0 := ba.cell 0
  have q1 := ba.cell 1
  have q2 := ba.cell 2
  have qn := ba.lt
  have c0 := bc.cell 0
  have c1 := bc.cell 1
  have cn := bc.lt
  simp only [List.getElem?_toArray, List.getElem?_cons_zero, List.getElem?_cons_succ] at q0 q1 q2 c0 c1
  go_enter Try.func48, Try.ntmps48
  go_wp2_with fail
  refine (columnCode_any hv.ints HC.out).mono ?_
  rintro e w2 ⟨rfl, hb⟩
  clear q0 q1 q2 qn c0 c1 cn
  replace ba := ba.below hb
  replace bc := bc.below hb
  replace br := br.below hb
  replace hv := hv.below hb
  replace hu := hu.below hb
  replace bl := bnext bl hb
  clear hb
  have q0 := ba.cell 0
  have q1 := ba.cell 1
  have q2 := ba.cell 2
  have qn := ba.lt
  have c0 := bc.cell 0
  have c1 := bc.cell 1
  have cn := bc.lt
  simp only [List.getElem?_toArray, List.getElem?_cons_zero, List.getElem?_cons_succ] at q0 q1 q2 c0 c1
  go_wp2_with fail
  refine (IsPairing_any (.slice D ps.length cD) ps true (yes_iff HP.out) _ 0 hu.ints).mono ?_
  rintro e w3 ⟨rfl, rfl⟩
  go_wp2_with fail
  refine (inRange_any cl 0 1000 true HCR.out _).mono ?_
  rintro e w4 ⟨rfl, rfl⟩
  go_wp2_with fail
  refine (nextColumn_any hv.1 HO.out HXX.out hu.1 HPP.out HCN.out HCL.out HR.out).mono ?_
  rintro e w5 ⟨g, c, rfl, hg, hlen, hb⟩
  clear q0 q1 q2 qn c0 c1 cn
  have hsz := hb.size
  have hbl := bl.size
  have hbt := br.lt
  replace ba := ba.below hb
  replace bc := bc.below hb
  replace br := br.below hb
  replace hv := hv.below hb
  replace hu := hu.below hb
  replace bl := bnext bl hb
  clear hb
  have r0 := br.cell 0
  have r1 := br.cell 1
  have rf0 := br.free 0
  have rf1 := br.free 1
  have rn := br.lt
  simp only [List.getElem?_toArray, List.getElem?_cons_zero, List.getElem?_cons_succ] at r0 r1
  have hrl := br.lt
  have hst := fun g' (hg' : (Value.slice (some ⟨g, 0, none⟩) ps.length c).ownBlock = some g') => (Row.lt hg hg').1
  have hfin : Ints ((w5.setCell ⟨w.heap.size + 1 + 1, 0, none⟩ (.slice (some ⟨g, 0, none⟩) ps.length c)).setCell ⟨w.heap.size + 1 + 1, 1, none⟩ (.int .i64 (cl + R.2))) w.heap.size (.slice (some ⟨g, 0, none⟩) ps.length c) R.1 :=
    Row.le (C := w.heap.size) (Row.setCell (p := ⟨w.heap.size + 1 + 1, 1, none⟩) (Row.setCell (p := ⟨w.heap.size + 1 + 1, 0, none⟩) hg (fun g' hg' e' => by have := hst g' hg'; have e2 : g' = w.heap.size + 1 + 1 := e'; omega) _) (fun g' hg' e' => by have := hst g' hg'; have e2 : g' = w.heap.size + 1 + 1 := e'; omega) _) (by omega)
  have blf := (bl.setCell (p := ⟨w.heap.size + 1 + 1, 0, none⟩) (by simp; omega) (.slice (some ⟨g, 0, none⟩) ps.length c)).setCell (p := ⟨w.heap.size + 1 + 1, 1, none⟩) (by simp; omega) (.int .i64 (cl + R.2))
  have hpm : ps.length ≤ 2000000 := hu.len
  clear hg br bl ba bc hv hu hst
  go_wp2
  refine bodyPost_ret (v := .tuple #[.agg #[.slice (some ⟨g, 0, none⟩) ps.length c, .int .i64 (cl + R.2)], .int .i64 0]) (by simp [results, Try.results48, go_sem, r0, r1, rf0, rf1, rn]) rfl ⟨some ⟨g, 0, none⟩, c, by rw [hlen], ?_, blf⟩
  rw [hlen]
  exact IntsIn.ofInts hfin (by rw [hlen]; exact hpm)
set_option maxRecDepth 20000 in
set_option maxHeartbeats 8000000 in
theorem K_spec_NextColumn {w : World} {lo hi lo' hi' : Nat} {x y X cl dl r : Int} {v u : Value} {xs ps zs : List Int} (hv : IntsIn w lo hi v xs) (hu : IntsIn w lo' hi' u ps) (hm : nextM ⟨x, y, xs⟩ X ps cl = (zs, dl, r)) :
    Calls Try.prog 46 #[.agg #[.int .i64 x, .int .i64 y, v], .int .i64 X, .agg #[u, .int .i64 cl]] w fun e w' => ∃ A c, e = .returned (.tuple #[.agg #[.slice A zs.length c, .int .i64 dl], .int .i64 r]) ∧
      IntsIn w' w.heap.size w'.heap.size (.slice A zs.length c) zs ∧ Below w.heap.size w w' := by
  obtain ⟨A, cA, rfl, _, _⟩ := hv.1.open_
  obtain ⟨D, cD, rfl, _, _⟩ := hu.1.open_
  have bl := Joins.below_alloc3 w (.cells #[.int .i64 x, .int .i64 y, .slice A xs.length cA] 41) (.cells #[.slice D ps.length cD, .int .i64 cl] 38) (.cells #[.slice none 0 0, .int .i64 0] 38)
  have ba := ((Box.new w 41 #[.int .i64 x, .int .i64 y, .slice A xs.length cA]).alloc (.cells #[.slice D ps.length cD, .int .i64 cl] 38)).alloc (.cells #[.slice none 0 0, .int .i64 0] 38)
  have bc := (Box.new (w.alloc (.cells #[.int .i64 x, .int .i64 y, .slice A xs.length cA] 41)) 38 #[.slice D ps.length cD, .int .i64 cl]).alloc (.cells #[.slice none 0 0, .int .i64 0] 38)
  have br := Box.new ((w.alloc (.cells #[.int .i64 x, .int .i64 y, .slice A xs.length cA] 41)).alloc (.cells #[.slice D ps.length cD, .int .i64 cl] 38)) 38 #[.slice none 0 0, .int .i64 0]
  simp only [World.size_alloc] at bc br
  replace hv := hv.below bl
  replace hu := hu.below bl
  by_cases hc : colCode ⟨x, y, xs⟩ X = 0
  rotate_left
  · rw [nextM_code hc] at hm
    obtain ⟨rfl, rfl, hr⟩ : [] = zs ∧ 0 = dl ∧ colCode ⟨x, y, xs⟩ X = r := by simpa using hm
    have hrv : r = 1 ∨ r = 2 := by
      have := colCode_vals ⟨x, y, xs⟩ X
      omega
    have HR := Lib.hid hr
    clear hm hc hr
    rcases hrv with rfl | rfl
    · skip
      have q0 := ba.cell 0
      have q1 := ba.cell 1
      have q2 := ba.cell 2
      have qn := ba.lt
      have c0 := bc.cell 0
      have c1 := bc.cell 1
      have cn := bc.lt
      simp only [List.getElem?_toArray, List.getElem?_cons_zero, List.getElem?_cons_succ] at q0 q1 q2 c0 c1
      go_enter Try.func46, Try.ntmps46
      go_wp2_with fail
      refine (l09Code_any ba hv.ints HR.out).mono ?_
      rintro e w2 ⟨rfl, hb⟩
      clear q0 q1 q2 qn c0 c1 cn
      replace ba := ba.below hb
      replace bc := bc.below hb
      replace br := br.below hb
      replace hv := hv.below hb
      replace hu := hu.below hb
      replace bl := bnext bl hb
      clear hb
      have r0 := br.cell 0
      have r1 := br.cell 1
      have rf0 := br.free 0
      have rf1 := br.free 1
      have rn := br.lt
      simp only [List.getElem?_toArray, List.getElem?_cons_zero, List.getElem?_cons_succ] at r0 r1
      go_wp2
      refine bodyPost_ret (v := .tuple #[.agg #[.slice none 0 0, .int .i64 0], .int .i64 1]) (by simp [results, Try.results46, go_sem, r0, r1, rf0, rf1, rn]) rfl ⟨none, 0, rfl, IntsIn.nil _ _ _ (Nat.le_refl _), ?_⟩
      exact (bl.setCell (p := ⟨w.heap.size + 1 + 1, 0, none⟩) (by simp; omega) _).setCell (p := ⟨w.heap.size + 1 + 1, 1, none⟩) (by simp; omega) _
    · skip
      have q0 := ba.cell 0
      have q1 := ba.cell 1
      have q2 := ba.cell 2
      have qn := ba.lt
      have c0 := bc.cell 0
      have c1 := bc.cell 1
      have cn := bc.lt
      simp only [List.getElem?_toArray, List.getElem?_cons_zero, List.getElem?_cons_succ] at q0 q1 q2 c0 c1
      go_enter Try.func46, Try.ntmps46
      go_wp2_with fail
      refine (l09Code_any ba hv.ints HR.out).mono ?_
      rintro e w2 ⟨rfl, hb⟩
      clear q0 q1 q2 qn c0 c1 cn
      replace ba := ba.below hb
      replace bc := bc.below hb
      replace br := br.below hb
      replace hv := hv.below hb
      replace hu := hu.below hb
      replace bl := bnext bl hb
      clear hb
      have r0 := br.cell 0
      have r1 := br.cell 1
      have rf0 := br.free 0
      have rf1 := br.free 1
      have rn := br.lt
      simp only [List.getElem?_toArray, List.getElem?_cons_zero, List.getElem?_cons_succ] at r0 r1
      go_wp2
      refine bodyPost_ret (v := .tuple #[.agg #[.slice none 0 0, .int .i64 0], .int .i64 2]) (by simp [results, Try.results46, go_sem, r0, r1, rf0, rf1, rn]) rfl ⟨none, 0, rfl, IntsIn.nil _ _ _ (Nat.le_refl _), ?_⟩
      exact (bl.setCell (p := ⟨w.heap.size + 1 + 1, 0, none⟩) (by simp; omega) _).setCell (p := ⟨w.heap.size + 1 + 1, 1, none⟩) (by simp; omega) _
  obtain ⟨ho, hX0, hX1⟩ := colCode_zero hc
  have HO := Lib.hid ho
  have HC := Lib.hid hc
  have hW8 := ho.w8
  have hW1 := ho.w1
  have hH8 := ho.h8
  have hH1 := ho.h1
  simp only [] at hW8 hW1 hH8 hH1 hX1
  by_cases hl : X = 2 * x - 1
  · rw [nextM_last hc hl] at hm
    obtain ⟨rfl, rfl, rfl⟩ : [] = zs ∧ 0 = dl ∧ 6 = r := by simpa using hm
    have hlb : (X == 2 * x - 1) = true := by simp [hl]
    clear hm hc hl ho
    have q0 := ba.cell 0
    have q1 := ba.cell 1
    have q2 := ba.cell 2
    have qn := ba.lt
    have c0 := bc.cell 0
    have c1 := bc.cell 1
    have cn := bc.lt
    simp only [List.getElem?_toArray, List.getElem?_cons_zero, List.getElem?_cons_succ] at q0 q1 q2 c0 c1
    go_enter Try.func46, Try.ntmps46
    go_wp2_with fail
    refine (l09Code_any ba hv.ints HC.out).mono ?_
    rintro e w2 ⟨rfl, hb⟩
    clear q0 q1 q2 qn c0 c1 cn
    replace ba := ba.below hb
    replace bc := bc.below hb
    replace br := br.below hb
    replace hv := hv.below hb
    replace hu := hu.below hb
    replace bl := bnext bl hb
    clear hb
    have q0 := ba.cell 0
    have q1 := ba.cell 1
    have q2 := ba.cell 2
    have qn := ba.lt
    have c0 := bc.cell 0
    have c1 := bc.cell 1
    have cn := bc.lt
    simp only [List.getElem?_toArray, List.getElem?_cons_zero, List.getElem?_cons_succ] at q0 q1 q2 c0 c1
    have r0 := br.cell 0
    have r1 := br.cell 1
    have rf0 := br.free 0
    have rf1 := br.free 1
    have rn := br.lt
    simp only [List.getElem?_toArray, List.getElem?_cons_zero, List.getElem?_cons_succ] at r0 r1
    go_wp2
    refine bodyPost_ret (v := .tuple #[.agg #[.slice none 0 0, .int .i64 0], .int .i64 6]) (by simp [results, Try.results46, go_sem, r0, r1, rf0, rf1, rn]) rfl ⟨none, 0, rfl, IntsIn.nil _ _ _ (Nat.le_refl _), ?_⟩
    exact (bl.setCell (p := ⟨w.heap.size + 1 + 1, 0, none⟩) (by simp; omega) _).setCell (p := ⟨w.heap.size + 1 + 1, 1, none⟩) (by simp; omega) _
  have hlb : (X == 2 * x - 1) = false := by simp [hl]
  by_cases hp : IsPr ps
  rotate_left
  · rw [nextM_form hc hl (fun h => hp h.1)] at hm
    obtain ⟨rfl, rfl, rfl⟩ : [] = zs ∧ 0 = dl ∧ 8 = r := by simpa using hm
    have HP := Lib.hid hp
    clear hm hc hl ho hp
    have q0 := ba.cell 0
    have q1 := ba.cell 1
    have q2 := ba.cell 2
    have qn := ba.lt
    have c0 := bc.cell 0
    have c1 := bc.cell 1
    have cn := bc.lt
    simp only [List.getElem?_toArray, List.getElem?_cons_zero, List.getElem?_cons_succ] at q0 q1 q2 c0 c1
    go_enter Try.func46, Try.ntmps46
    go_wp2_with fail
    refine (l09Code_any ba hv.ints HC.out).mono ?_
    rintro e w2 ⟨rfl, hb⟩
    clear q0 q1 q2 qn c0 c1 cn
    replace ba := ba.below hb
    replace bc := bc.below hb
    replace br := br.below hb
    replace hv := hv.below hb
    replace hu := hu.below hb
    replace bl := bnext bl hb
    clear hb
    have q0 := ba.cell 0
    have q1 := ba.cell 1
    have q2 := ba.cell 2
    have qn := ba.lt
    have c0 := bc.cell 0
    have c1 := bc.cell 1
    have cn := bc.lt
    simp only [List.getElem?_toArray, List.getElem?_cons_zero, List.getElem?_cons_succ] at q0 q1 q2 c0 c1
    go_wp2_with fail
    refine (l09Ok_any (.slice D ps.length cD) ps false (no_iff HP.out) _ 0 hu.ints).mono ?_
    rintro e w3 ⟨rfl, rfl⟩
    have r0 := br.cell 0
    have r1 := br.cell 1
    have rf0 := br.free 0
    have rf1 := br.free 1
    have rn := br.lt
    simp only [List.getElem?_toArray, List.getElem?_cons_zero, List.getElem?_cons_succ] at r0 r1
    go_wp2
    refine bodyPost_ret (v := .tuple #[.agg #[.slice none 0 0, .int .i64 0], .int .i64 8]) (by simp [results, Try.results46, go_sem, r0, r1, rf0, rf1, rn]) rfl ⟨none, 0, rfl, IntsIn.nil _ _ _ (Nat.le_refl _), ?_⟩
    exact (bl.setCell (p := ⟨w.heap.size + 1 + 1, 0, none⟩) (by simp; omega) _).setCell (p := ⟨w.heap.size + 1 + 1, 1, none⟩) (by simp; omega) _
  have HP := Lib.hid hp
  by_cases hpl : (ps.length : Int) = 2 * y
  rotate_left
  · rw [nextM_form hc hl (fun h => hpl h.2.1)] at hm
    obtain ⟨rfl, rfl, rfl⟩ : [] = zs ∧ 0 = dl ∧ 8 = r := by simpa using hm
    have hpb : ((ps.length : Int) != 2 * y) = true := by simp [hpl]
    clear hm hc hl ho hp hpl
    have q0 := ba.cell 0
    have q1 := ba.cell 1
    have q2 := ba.cell 2
    have qn := ba.lt
    have c0 := bc.cell 0
    have c1 := bc.cell 1
    have cn := bc.lt
    simp only [List.getElem?_toArray, List.getElem?_cons_zero, List.getElem?_cons_succ] at q0 q1 q2 c0 c1
    go_enter Try.func46, Try.ntmps46
    go_wp2_with fail
    refine (l09Code_any ba hv.ints HC.out).mono ?_
    rintro e w2 ⟨rfl, hb⟩
    clear q0 q1 q2 qn c0 c1 cn
    replace ba := ba.below hb
    replace bc := bc.below hb
    replace br := br.below hb
    replace hv := hv.below hb
    replace hu := hu.below hb
    replace bl := bnext bl hb
    clear hb
    have q0 := ba.cell 0
    have q1 := ba.cell 1
    have q2 := ba.cell 2
    have qn := ba.lt
    have c0 := bc.cell 0
    have c1 := bc.cell 1
    have cn := bc.lt
    simp only [List.getElem?_toArray, List.getElem?_cons_zero, List.getElem?_cons_succ] at q0 q1 q2 c0 c1
    go_wp2_with fail
    refine (l09Ok_any (.slice D ps.length cD) ps true (yes_iff HP.out) _ 0 hu.ints).mono ?_
    rintro e w3 ⟨rfl, rfl⟩
    have r0 := br.cell 0
    have r1 := br.cell 1
    have rf0 := br.free 0
    have rf1 := br.free 1
    have rn := br.lt
    simp only [List.getElem?_toArray, List.getElem?_cons_zero, List.getElem?_cons_succ] at r0 r1
    go_wp2
    refine bodyPost_ret (v := .tuple #[.agg #[.slice none 0 0, .int .i64 0], .int .i64 8]) (by simp [results, Try.results46, go_sem, r0, r1, rf0, rf1, rn]) rfl ⟨none, 0, rfl, IntsIn.nil _ _ _ (Nat.le_refl _), ?_⟩
    exact (bl.setCell (p := ⟨w.heap.size + 1 + 1, 0, none⟩) (by simp; omega) _).setCell (p := ⟨w.heap.size + 1 + 1, 1, none⟩) (by simp; omega) _
  have hpb : ((ps.length : Int) != 2 * y) = false := by simp [hpl]
  by_cases hcr : 0 ≤ cl ∧ cl ≤ 1000
  rotate_left
  · rw [nextM_form hc hl (fun h => hcr h.2.2)] at hm
    obtain ⟨rfl, rfl, rfl⟩ : [] = zs ∧ 0 = dl ∧ 8 = r := by simpa using hm
    have HCR : Hid (inR cl 0 1000 = false) := Lib.hid (by rw [inR_eq]; exact decide_eq_false hcr)
    clear hm hc hl ho hp hpl hcr
    have q0 := ba.cell 0
    have q1 := ba.cell 1
    have q2 := ba.cell 2
    have qn := ba.lt
    have c0 := bc.cell 0
    have c1 := bc.cell 1
    have cn := bc.lt
    simp only [List.getElem?_toArray, List.getElem?_cons_zero, List.getElem?_cons_succ] at q0 q1 q2 c0 c1
    go_enter Try.func46, Try.ntmps46
    go_wp2_with fail
    refine (l09Code_any ba hv.ints HC.out).mono ?_
    rintro e w2 ⟨rfl, hb⟩
    clear q0 q1 q2 qn c0 c1 cn
    replace ba := ba.below hb
    replace bc := bc.below hb
    replace br := br.below hb
    replace hv := hv.below hb
    replace hu := hu.below hb
    replace bl := bnext bl hb
    clear hb
    have q0 := ba.cell 0
    have q1 := ba.cell 1
    have q2 := ba.cell 2
    have qn := ba.lt
    have c0 := bc.cell 0
    have c1 := bc.cell 1
    have cn := bc.lt
    simp only [List.getElem?_toArray, List.getElem?_cons_zero, List.getElem?_cons_succ] at q0 q1 q2 c0 c1
    go_wp2_with fail
    refine (l09Ok_any (.slice D ps.length cD) ps true (yes_iff HP.out) _ 0 hu.ints).mono ?_
    rintro e w3 ⟨rfl, rfl⟩
    go_wp2_with fail
    refine (l00In_any cl 0 1000 false HCR.out _).mono ?_
    rintro e w4 ⟨rfl, rfl⟩
    have r0 := br.cell 0
    have r1 := br.cell 1
    have rf0 := br.free 0
    have rf1 := br.free 1
    have rn := br.lt
    simp only [List.getElem?_toArray, List.getElem?_cons_zero, List.getElem?_cons_succ] at r0 r1
    go_wp2
    refine bodyPost_ret (v := .tuple #[.agg #[.slice none 0 0, .int .i64 0], .int .i64 8]) (by simp [results, Try.results46, go_sem, r0, r1, rf0, rf1, rn]) rfl ⟨none, 0, rfl, IntsIn.nil _ _ _ (Nat.le_refl _), ?_⟩
    exact (bl.setCell (p := ⟨w.heap.size + 1 + 1, 0, none⟩) (by simp; omega) _).setCell (p := ⟨w.heap.size + 1 + 1, 1, none⟩) (by simp; omega) _
  rw [nextM_ok hc hl ⟨hp, hpl, hcr⟩] at hm
  obtain ⟨hz, hd, rfl⟩ : (pass ps (links ⟨x, y, xs⟩ (X + 1)) (colN ⟨x, y, xs⟩)).1 = zs ∧ cl + (pass ps (links ⟨x, y, xs⟩ (X + 1)) (colN ⟨x, y, xs⟩)).2 = dl ∧ 0 = r := by simpa using hm
  have HCR : Hid (inR cl 0 1000 = true) := Lib.hid (by rw [inR_eq]; exact decide_eq_true hcr)
  have HCL : Hid (0 ≤ cl ∧ cl ≤ 100000) := Lib.hid (by omega)
  have hcn : colN ⟨x, y, xs⟩ = ps.length := by unfold colN; simp only []; omega
  have HPP : Hid (Pairing (colN ⟨x, y, xs⟩) ps) := Lib.hid (by rw [hcn]; exact hp.pairing)
  have HXX : Hid (0 < X + 1 ∧ X + 1 < 2 * x) := Lib.hid (by omega)
  have HCN := Lib.hid hcn
  obtain ⟨R, hR⟩ : ∃ R, pass ps (links ⟨x, y, xs⟩ (X + 1)) (colN ⟨x, y, xs⟩) = R := ⟨_, rfl⟩
  rw [hR] at hz hd
  subst hz hd
  have HR := Lib.hid hR
  clear hm hc hl ho hp hpl hcr hcn hR
  have q0 := ba.cell 0
  have q1 := ba.cell 1
  have q2 := ba.cell 2
  have qn := ba.lt
  have c0 := bc.cell 0
  have c1 := bc.cell 1
  have cn := bc.lt
  simp only [List.getElem?_toArray, List.getElem?_cons_zero, List.getElem?_cons_succ] at q0 q1 q2 c0 c1
  go_enter Try.func46, Try.ntmps46
  go_wp2_with fail
  refine (l09Code_any ba hv.ints HC.out).mono ?_
  rintro e w2 ⟨rfl, hb⟩
  clear q0 q1 q2 qn c0 c1 cn
  replace ba := ba.below hb
  replace bc := bc.below hb
  replace br := br.below hb
  replace hv := hv.below hb
  replace hu := hu.below hb
  replace bl := bnext bl hb
  clear hb
  have q0 := ba.cell 0
  have q1 := ba.cell 1
  have q2 := ba.cell 2
  have qn := ba.lt
  have c0 := bc.cell 0
  have c1 := bc.cell 1
  have cn := bc.lt
  simp only [List.getElem?_toArray, List.getElem?_cons_zero, List.getElem?_cons_succ] at q0 q1 q2 c0 c1
  go_wp2_with fail
  refine (l09Ok_any (.slice D ps.length cD) ps true (yes_iff HP.out) _ 0 hu.ints).mono ?_
  rintro e w3 ⟨rfl, rfl⟩
  go_wp2_with fail
  refine (l00In_any cl 0 1000 true HCR.out _).mono ?_
  rintro e w4 ⟨rfl, rfl⟩
  go_wp2_with fail
  refine (l09Next_any ba hv.1 HO.out HXX.out hu.1 HPP.out HCN.out HCL.out HR.out).mono ?_
  rintro e w5 ⟨g, rfl, hg, hlen, hb⟩
  clear q0 q1 q2 qn c0 c1 cn
  have hsz := hb.size
  have hbl := bl.size
  have hbt := br.lt
  replace ba := ba.below hb
  replace bc := bc.below hb
  replace br := br.below hb
  replace hv := hv.below hb
  replace hu := hu.below hb
  replace bl := bnext bl hb
  clear hb
  have r0 := br.cell 0
  have r1 := br.cell 1
  have rf0 := br.free 0
  have rf1 := br.free 1
  have rn := br.lt
  simp only [List.getElem?_toArray, List.getElem?_cons_zero, List.getElem?_cons_succ] at r0 r1
  have hrl := br.lt
  have hst := fun g' (hg' : (Value.slice (some ⟨g, 0, none⟩) ps.length ps.length).ownBlock = some g') => (Row.lt hg hg').1
  have hfin : Ints ((w5.setCell ⟨w.heap.size + 1 + 1, 0, none⟩ (.slice (some ⟨g, 0, none⟩) ps.length ps.length)).setCell ⟨w.heap.size + 1 + 1, 1, none⟩ (.int .i64 (cl + R.2))) w.heap.size (.slice (some ⟨g, 0, none⟩) ps.length ps.length) R.1 :=
    Row.le (C := w.heap.size) (Row.setCell (p := ⟨w.heap.size + 1 + 1, 1, none⟩) (Row.setCell (p := ⟨w.heap.size + 1 + 1, 0, none⟩) hg (fun g' hg' e' => by have := hst g' hg'; have e2 : g' = w.heap.size + 1 + 1 := e'; omega) _) (fun g' hg' e' => by have := hst g' hg'; have e2 : g' = w.heap.size + 1 + 1 := e'; omega) _) (by omega)
  have blf := (bl.setCell (p := ⟨w.heap.size + 1 + 1, 0, none⟩) (by simp; omega) (.slice (some ⟨g, 0, none⟩) ps.length ps.length)).setCell (p := ⟨w.heap.size + 1 + 1, 1, none⟩) (by simp; omega) (.int .i64 (cl + R.2))
  have hpm : ps.length ≤ 2000000 := hu.len
  clear hg br bl ba bc hv hu hst
  go_wp2
  refine bodyPost_ret (v := .tuple #[.agg #[.slice (some ⟨g, 0, none⟩) ps.length ps.length, .int .i64 (cl + R.2)], .int .i64 0]) (by simp [results, Try.results46, go_sem, r0, r1, rf0, rf1, rn]) rfl ⟨some ⟨g, 0, none⟩, ps.length, by rw [hlen], ?_, blf⟩
  rw [hlen]
  exact IntsIn.ofInts hfin (by rw [hlen]; exact hpm)
end Go.Proofs.Ytnldahadldolpaa
