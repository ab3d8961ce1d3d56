/-
  EffectOf and EffectsAt, by the program and by the reference.
-/
import Derived.Test.YtmagomiehgcbjaaEff
namespace Go.Proofs.Ytmagomiehgcbjaa
open Go.RowKit Knot

theorem wrap_small {z : Int} (h : -1000 ≤ z ∧ z ≤ 1000) : IntKind.i64.wrap z = z := by rw [IntKind.wrap_i64]; omega
theorem code_cases {p : Pan} {x y kd : Int} : (codeP p x y = 1 ∧ codeK p x y kd = 1) ∨ (codeP p x y = 2 ∧ codeK p x y kd = 2) ∨ ((codeP p x y = 6 ∨ codeP p x y = 0) ∧ inR kd 0 2 = false ∧ codeK p x y kd = 2) ∨
    (codeP p x y = 6 ∧ inR kd 0 2 = true ∧ codeK p x y kd = 6) ∨ (codeP p x y = 0 ∧ inR kd 0 2 = true ∧ (0 ≤ kd ∧ kd ≤ 2) ∧ codeK p x y kd = 0) := by
  unfold codeK codeP
  by_cases h1 : Ok p
  · by_cases h2 : Has p x y
    · by_cases h4 : 0 ≤ kd ∧ kd ≤ 2
      · by_cases h3 : Knot.Edge p x y
        · simp [h1, h2, h3, h4, inR_t h4]
        · simp [h1, h2, h3, h4, inR_t h4]
      · by_cases h3 : Knot.Edge p x y
        · simp [h1, h2, h3, h4, inR_f h4]
        · simp [h1, h2, h3, h4, inR_f h4]
    · simp [h1, h2]
  · simp [h1]
theorem pan_open {W H x y : Int} {B : List Int} (ho : codeP ⟨W, H, B⟩ x y = 0) : Ok ⟨W, H, B⟩ ∧ (1 ≤ W ∧ W ≤ 8) ∧ (1 ≤ H ∧ H ≤ 8) ∧ (0 ≤ num ⟨W, H, B⟩ x y ∧ num ⟨W, H, B⟩ x y < B.length) ∧ (1 ≤ x ∧ x ≤ 16) ∧ (1 ≤ y ∧ y ≤ 16) ∧ (x + y) % 2 = 1 ∧ rowOf W y + (x - 1) / 2 = num ⟨W, H, B⟩ x y := by
  obtain ⟨h1, h2, h3⟩ := codeP_ok ho
  obtain ⟨a, b, c, d, e, f⟩ := num_in h1 h2 h3
  exact ⟨h1, ⟨h1.w1, h1.w8⟩, ⟨h1.h1, h1.h8⟩, ⟨a, b⟩, c, d, e, f⟩
set_option maxHeartbeats 8000000 in
theorem K_impl_EffectOf {w : World} {lo hi : Nat} {W H x y kd r0 r1 : Int} {v : Value} {B : List Int} (hI : IntsIn w lo hi v B) (hm : effM ⟨W, H, B⟩ x y kd = (r0, r1)) :
    Calls Try.prog 17 #[.agg #[.int .i64 W, .int .i64 H, v], .agg #[.int .i64 x, .int .i64 y], .int .i64 kd] w fun e w' => e = .returned (.tuple #[.int .i64 r0, .int .i64 r1]) ∧ Below w.heap.size w w' := by
  obtain ⟨A, c, rfl, _, _⟩ := hI.1.open_
  have bl := Joins.below_alloc2 w (.cells #[.int .i64 W, .int .i64 H, .slice A B.length c] 28) (.cells #[.int .i64 x, .int .i64 y] 35)
  have ba := (Box.new w 28 #[.int .i64 W, .int .i64 H, .slice A B.length c]).alloc (.cells #[.int .i64 x, .int .i64 y] 35)
  have bb := Box.new (w.alloc (.cells #[.int .i64 W, .int .i64 H, .slice A B.length c] 28)) 35 #[.int .i64 x, .int .i64 y]
  rw [World.size_alloc] at bb
  have hp1 := hI.below bl
  clear hI
  rcases code_cases (p := ⟨W, H, B⟩) (x := x) (y := y) (kd := kd) with ⟨h1, h2⟩ | ⟨h1, h2⟩ | ⟨h1, h3, h2⟩ | ⟨h1, h3, h2⟩ | ⟨h1, h3, hkd, h2⟩
  · obtain ⟨rfl, rfl⟩ : 0 = r0 ∧ 1 = r1 := by simpa [effM, h2] using hm
    have HC := Lib.hid h1
    clear hm h1 h2
    have q0 := ba.cell 0
    have q1 := ba.cell 1
    have q2 := ba.cell 2
    have qn := ba.lt
    simp only [List.getElem?_toArray, List.getElem?_cons_zero, List.getElem?_cons_succ] at q0 q1 q2
    have p0 := bb.cell 0
    have p1 := bb.cell 1
    have pn := bb.lt
    simp only [List.getElem?_toArray, List.getElem?_cons_zero, List.getElem?_cons_succ] at p0 p1
    go_enter Try.func17, Try.ntmps17
    go_wp2_with fail
    refine (innerCode_any hp1 HC.out).mono ?_
    rintro e w2 ⟨rfl, hb⟩
    replace ba := ba.below hb
    replace bb := bb.below hb
    replace hp1 := hp1.below hb
    replace bl := bnext bl hb
    clear hb
    clear q0 q1 q2 qn p0 p1 pn
    go_wp2
    go_ret2
    exact ⟨rfl, bl⟩
  · obtain ⟨rfl, rfl⟩ : 0 = r0 ∧ 2 = r1 := by simpa [effM, h2] using hm
    have HC := Lib.hid h1
    clear hm h1 h2
    have q0 := ba.cell 0
    have q1 := ba.cell 1
    have q2 := ba.cell 2
    have qn := ba.lt
    simp only [List.getElem?_toArray, List.getElem?_cons_zero, List.getElem?_cons_succ] at q0 q1 q2
    have p0 := bb.cell 0
    have p1 := bb.cell 1
    have pn := bb.lt
    simp only [List.getElem?_toArray, List.getElem?_cons_zero, List.getElem?_cons_succ] at p0 p1
    go_enter Try.func17, Try.ntmps17
    go_wp2_with fail
    refine (innerCode_any hp1 HC.out).mono ?_
    rintro e w2 ⟨rfl, hb⟩
    replace ba := ba.below hb
    replace bb := bb.below hb
    replace hp1 := hp1.below hb
    replace bl := bnext bl hb
    clear hb
    clear q0 q1 q2 qn p0 p1 pn
    go_wp2
    go_ret2
    exact ⟨rfl, bl⟩
  · obtain ⟨rfl, rfl⟩ : 0 = r0 ∧ 2 = r1 := by simpa [effM, h2] using hm
    have HK := Lib.hid h3
    rcases h1 with h1 | h1
    · have HC := Lib.hid h1
      clear hm h1 h2 h3
      have q0 := ba.cell 0
      have q1 := ba.cell 1
      have q2 := ba.cell 2
      have qn := ba.lt
      simp only [List.getElem?_toArray, List.getElem?_cons_zero, List.getElem?_cons_succ] at q0 q1 q2
      have p0 := bb.cell 0
      have p1 := bb.cell 1
      have pn := bb.lt
      simp only [List.getElem?_toArray, List.getElem?_cons_zero, List.getElem?_cons_succ] at p0 p1
      go_enter Try.func17, Try.ntmps17
      go_wp2_with fail
      refine (innerCode_any hp1 HC.out).mono ?_
      rintro e w2 ⟨rfl, hb⟩
      replace ba := ba.below hb
      replace bb := bb.below hb
      replace hp1 := hp1.below hb
      replace bl := bnext bl hb
      clear hb
      clear q0 q1 q2 qn p0 p1 pn
      go_wp2_with fail
      refine (validBreak_any kd _ HK.out _).mono ?_
      rintro e w' ⟨rfl, rfl⟩
      go_wp2
      go_ret2
      exact ⟨rfl, bl⟩
    · have HC := Lib.hid h1
      clear hm h1 h2 h3
      have q0 := ba.cell 0
      have q1 := ba.cell 1
      have q2 := ba.cell 2
      have qn := ba.lt
      simp only [List.getElem?_toArray, List.getElem?_cons_zero, List.getElem?_cons_succ] at q0 q1 q2
      have p0 := bb.cell 0
      have p1 := bb.cell 1
      have pn := bb.lt
      simp only [List.getElem?_toArray, List.getElem?_cons_zero, List.getElem?_cons_succ] at p0 p1
      go_enter Try.func17, Try.ntmps17
      go_wp2_with fail
      refine (innerCode_any hp1 HC.out).mono ?_
      rintro e w2 ⟨rfl, hb⟩
      replace ba := ba.below hb
      replace bb := bb.below hb
      replace hp1 := hp1.below hb
      replace bl := bnext bl hb
      clear hb
      clear q0 q1 q2 qn p0 p1 pn
      go_wp2_with fail
      refine (validBreak_any kd _ HK.out _).mono ?_
      rintro e w' ⟨rfl, rfl⟩
      go_wp2
      go_ret2
      exact ⟨rfl, bl⟩
  · obtain ⟨rfl, rfl⟩ : 0 = r0 ∧ 6 = r1 := by simpa [effM, h2] using hm
    have HK := Lib.hid h3
    have HC := Lib.hid h1
    clear hm h1 h2 h3
    have q0 := ba.cell 0
    have q1 := ba.cell 1
    have q2 := ba.cell 2
    have qn := ba.lt
    simp only [List.getElem?_toArray, List.getElem?_cons_zero, List.getElem?_cons_succ] at q0 q1 q2
    have p0 := bb.cell 0
    have p1 := bb.cell 1
    have pn := bb.lt
    simp only [List.getElem?_toArray, List.getElem?_cons_zero, List.getElem?_cons_succ] at p0 p1
    go_enter Try.func17, Try.ntmps17
    go_wp2_with fail
    refine (innerCode_any hp1 HC.out).mono ?_
    rintro e w2 ⟨rfl, hb⟩
    replace ba := ba.below hb
    replace bb := bb.below hb
    replace hp1 := hp1.below hb
    replace bl := bnext bl hb
    clear hb
    clear q0 q1 q2 qn p0 p1 pn
    go_wp2_with fail
    refine (validBreak_any kd _ HK.out _).mono ?_
    rintro e w' ⟨rfl, rfl⟩
    go_wp2
    go_ret2
    exact ⟨rfl, bl⟩
  · obtain ⟨rfl, rfl⟩ : cntP (withP ⟨W, H, B⟩ (num ⟨W, H, B⟩ x y) kd) - cntP ⟨W, H, B⟩ = r0 ∧ 0 = r1 := by simpa [effM, h2] using hm
    have HK := Lib.hid h3
    clear hm h2 h3
    obtain ⟨hp, hW, hH, ⟨m0, m1⟩, hx, hy, ho, hm⟩ := pan_open h1
    obtain ⟨m, hmm⟩ : ∃ m, num ⟨W, H, B⟩ x y = m := ⟨_, rfl⟩
    rw [hmm] at m0 m1 hm
    have HM := Lib.hid hm
    have HX := Lib.hid hx
    have HY := Lib.hid hy
    have HW := Lib.hid hW
    have HOD := Lib.hid ho
    have HP := Lib.hid hp
    have HC := Lib.hid h1
    clear hm hx hy hW hH ho h1
    have HO := Lib.hid (withP_ok HP.out (k := m) hkd)
    have HB : Hid (withP ⟨W, H, B⟩ m kd = ⟨W, H, B.set m.toNat kd⟩) := Lib.hid rfl
    have hc1 := cntP_bd HP.out
    have hc2 := cntP_bd HO.out
    rw [HB.out] at HO
    rw [hmm]
    obtain ⟨c1, hc1e⟩ : ∃ z, cntP ⟨W, H, B⟩ = z := ⟨_, rfl⟩
    obtain ⟨c2, hc2e⟩ : ∃ z, cntP (withP ⟨W, H, B⟩ m kd) = z := ⟨_, rfl⟩
    have HC1 := Lib.hid hc1e
    have HC2 := Lib.hid hc2e
    rw [hc1e] at hc1
    rw [hc2e] at hc2
    rw [hc1e, hc2e]
    rw [HB.out] at HC2
    obtain ⟨a1, a2⟩ := hc1
    obtain ⟨a3, a4⟩ := hc2
    have HWR : Hid (IntKind.i64.wrap (c2 - c1) = c2 - c1) := Lib.hid (wrap_small (by omega))
    clear hc1e hc2e hp hmm hkd
    have q0 := ba.cell 0
    have q1 := ba.cell 1
    have q2 := ba.cell 2
    have qn := ba.lt
    simp only [List.getElem?_toArray, List.getElem?_cons_zero, List.getElem?_cons_succ] at q0 q1 q2
    have p0 := bb.cell 0
    have p1 := bb.cell 1
    have pn := bb.lt
    simp only [List.getElem?_toArray, List.getElem?_cons_zero, List.getElem?_cons_succ] at p0 p1
    go_enter Try.func17, Try.ntmps17
    go_wp2_with fail
    refine (innerCode_any hp1 HC.out).mono ?_
    rintro e w2 ⟨rfl, hb⟩
    replace ba := ba.below hb
    replace bb := bb.below hb
    replace hp1 := hp1.below hb
    replace bl := bnext bl hb
    clear hb
    clear q0 q1 q2 qn p0 p1 pn
    go_wp2_with fail
    refine (validBreak_any kd _ HK.out _).mono ?_
    rintro e w' ⟨rfl, rfl⟩
    have q0 := ba.cell 0
    have q1 := ba.cell 1
    have q2 := ba.cell 2
    have qn := ba.lt
    simp only [List.getElem?_toArray, List.getElem?_cons_zero, List.getElem?_cons_succ] at q0 q1 q2
    have p0 := bb.cell 0
    have p1 := bb.cell 1
    have pn := bb.lt
    simp only [List.getElem?_toArray, List.getElem?_cons_zero, List.getElem?_cons_succ] at p0 p1
    have KS : Hid (∀ w', Below w2.heap.size w2 w' → (Below w2.heap.size w2 w' ∧ w'.cell? ⟨w.heap.size, 0, none⟩ = some (.int .i64 W) ∧ w'.cell? ⟨w.heap.size, 1, none⟩ = some (.int .i64 H) ∧ w'.cell? ⟨w.heap.size, 2, none⟩ = some (.slice A B.length c) ∧ w'.cell? ⟨w.heap.size + 1, 0, none⟩ = some (.int .i64 x) ∧ w'.cell? ⟨w.heap.size + 1, 1, none⟩ = some (.int .i64 y))) := Lib.hid (fun x hx => ⟨hx, (ba.below hx).cell 0, (ba.below hx).cell 1, (ba.below hx).cell 2, (bb.below hx).cell 0, (bb.below hx).cell 1⟩)
    have KI : Hid (∀ w', Below w2.heap.size w2 w' → IntsIn w' lo hi (.slice A B.length c) B) := Lib.hid (fun x hx => hp1.below hx)
    have KJ : Hid (∀ w', Below w2.heap.size w2 w' → Ints w' lo (.slice A B.length c) B) := Lib.hid (fun x hx => (hp1.below hx).1)
    go_wp2
    go_region_held3 (fun w' => Below w2.heap.size w2 w' ∧ w'.cell? ⟨w.heap.size, 0, none⟩ = some (.int .i64 W) ∧ w'.cell? ⟨w.heap.size, 1, none⟩ = some (.int .i64 H) ∧ w'.cell? ⟨w.heap.size, 2, none⟩ = some (.slice A B.length c) ∧ w'.cell? ⟨w.heap.size + 1, 0, none⟩ = some (.int .i64 x) ∧ w'.cell? ⟨w.heap.size + 1, 1, none⟩ = some (.int .i64 y))
      ((refine KS.out _ ?_; first | exact cut_drew | exact hBn | exact hBm | exact hBc | exact hBd))
      (first | (go_at_call 44; go_split_ands; (with_reducible refine (number_any HW.out HX.out HY.out HOD.out HM.out).mono ?_); rintro e w4 ⟨rfl, hb4⟩; have hBn := bnext (w := w2) (by assumption) hb4)
             | (go_at_call 43; go_split_ands; (with_reducible refine (changed_any (KI.out _ (by assumption)) m0 m1).mono ?_); rintro e w5 ⟨E, f, rfl, j1, hb5⟩; have hBm := bnext (w := w2) (by assumption) hb5)
             | (go_at_call 42; go_split_ands; (with_reducible refine (countCurves_any (KJ.out _ (by assumption)) HP.out).mono ?_); rintro e w6 ⟨rfl, hb6⟩; have hBc := bnext (w := w2) (by assumption) hb6; try (replace j1 := j1.below hb6))
             | (go_at_call 42; go_split_ands; have hIE := j1.1; (with_reducible refine (countCurves_any hIE HO.out).mono ?_); rintro e w7 ⟨rfl, hb7⟩; have hBd := bnext (w := w2) (by assumption) hb7))
    all_goals
      rw [HC1.out, HC2.out]
      clear q0 q1 q2 qn p0 p1 pn
      go_wp2
      go_ret2
      first | exact ⟨ret_pair HWR.out rfl, bnext bl hBc⟩ | exact ⟨ret_pair HWR.out rfl, bnext bl hBd⟩
set_option maxHeartbeats 8000000 in
theorem K_spec_EffectOf {w : World} {lo hi : Nat} {W H x y kd r0 r1 : Int} {v : Value} {B : List Int} (hI : IntsIn w lo hi v B) (hm : effM ⟨W, H, B⟩ x y kd = (r0, r1)) :
    Calls Try.prog 15 #[.agg #[.int .i64 W, .int .i64 H, v], .agg #[.int .i64 x, .int .i64 y], .int .i64 kd] w fun e w' => e = .returned (.tuple #[.int .i64 r0, .int .i64 r1]) ∧ Below w.heap.size w w' := by
  obtain ⟨A, c, rfl, _, _⟩ := hI.1.open_
  have bl := Joins.below_alloc2 w (.cells #[.int .i64 W, .int .i64 H, .slice A B.length c] 28) (.cells #[.int .i64 x, .int .i64 y] 35)
  have ba := (Box.new w 28 #[.int .i64 W, .int .i64 H, .slice A B.length c]).alloc (.cells #[.int .i64 x, .int .i64 y] 35)
  have bb := Box.new (w.alloc (.cells #[.int .i64 W, .int .i64 H, .slice A B.length c] 28)) 35 #[.int .i64 x, .int .i64 y]
  rw [World.size_alloc] at bb
  have hp1 := hI.below bl
  clear hI
  by_cases h2 : codeK ⟨W, H, B⟩ x y kd = 0
  rotate_left
  · obtain ⟨rfl, rfl⟩ : 0 = r0 ∧ codeK ⟨W, H, B⟩ x y kd = r1 := by simpa [effM, h2] using hm
    obtain ⟨z, hz⟩ : ∃ z, codeK ⟨W, H, B⟩ x y kd = z := ⟨_, rfl⟩
    rw [hz] at h2 ⊢
    have HC := Lib.hid hz
    have t1 : (z != 0) = true := by simp [h2]
    clear hm h2 hz
    have p0 := bb.cell 0
    have p1 := bb.cell 1
    have pn := bb.lt
    simp only [List.getElem?_toArray, List.getElem?_cons_zero, List.getElem?_cons_succ] at p0 p1
    go_enter Try.func15, Try.ntmps15
    go_wp2_with fail
    refine (l10Code_any ba hp1 HC.out).mono ?_
    rintro e w2 ⟨rfl, hb⟩
    replace ba := ba.below hb
    replace bb := bb.below hb
    replace hp1 := hp1.below hb
    replace bl := bnext bl hb
    clear hb
    clear p0 p1 pn
    go_wp2
    go_ret2
    exact ⟨rfl, bl⟩
  · obtain ⟨rfl, rfl⟩ : cntP (withP ⟨W, H, B⟩ (num ⟨W, H, B⟩ x y) kd) - cntP ⟨W, H, B⟩ = r0 ∧ 0 = r1 := by simpa [effM, h2] using hm
    obtain ⟨h1, hkd⟩ := codeK_ok h2
    have HKD := Lib.hid hkd
    clear hm
    obtain ⟨hp, hW, hH, ⟨m0, m1⟩, hx, hy, ho, hm⟩ := pan_open h1
    obtain ⟨m, hmm⟩ : ∃ m, num ⟨W, H, B⟩ x y = m := ⟨_, rfl⟩
    rw [hmm] at m0 m1 hm
    have HM := Lib.hid hm
    have HX := Lib.hid hx
    have HY := Lib.hid hy
    have HW := Lib.hid hW
    have HOD := Lib.hid ho
    have HP := Lib.hid hp
    have HC := Lib.hid h2
    clear hm hx hy hW hH ho h1 h2
    have hc1 := cntP_bd HP.out
    have hc2 := cntP_bd (withP_ok HP.out (k := m) hkd)
    rw [hmm]
    obtain ⟨c1, hc1e⟩ : ∃ z, cntP ⟨W, H, B⟩ = z := ⟨_, rfl⟩
    obtain ⟨c2, hc2e⟩ : ∃ z, cntP (withP ⟨W, H, B⟩ m kd) = z := ⟨_, rfl⟩
    have HC1 := Lib.hid hc1e
    have HC2 := Lib.hid hc2e
    rw [hc1e] at hc1
    rw [hc2e] at hc2
    rw [hc1e, hc2e]
    obtain ⟨a1, a2⟩ := hc1
    obtain ⟨a3, a4⟩ := hc2
    clear hc1e hc2e hp hmm hkd
    have p0 := bb.cell 0
    have p1 := bb.cell 1
    have pn := bb.lt
    simp only [List.getElem?_toArray, List.getElem?_cons_zero, List.getElem?_cons_succ] at p0 p1
    go_enter Try.func15, Try.ntmps15
    go_wp2_with fail
    refine (l10Code_any ba hp1 HC.out).mono ?_
    rintro e w2 ⟨rfl, hb⟩
    replace ba := ba.below hb
    replace bb := bb.below hb
    replace hp1 := hp1.below hb
    replace bl := bnext bl hb
    clear hb
    clear p0 p1 pn
    have p0 := bb.cell 0
    have p1 := bb.cell 1
    have pn := bb.lt
    simp only [List.getElem?_toArray, List.getElem?_cons_zero, List.getElem?_cons_succ] at p0 p1
    go_wp2_with fail
    refine (l02Number_any ba HW.out HX.out HY.out HM.out).mono ?_
    rintro e w4 ⟨rfl, hb⟩
    replace ba := ba.below hb
    replace bb := bb.below hb
    replace hp1 := hp1.below hb
    replace bl := bnext bl hb
    clear hb
    clear p0 p1 pn
    go_wp2_with fail
    refine (l10With_any ba hp1 HP.out m0 m1 HKD.out).mono ?_
    rintro e w5 ⟨rfl, hb⟩
    replace ba := ba.below hb
    replace bb := bb.below hb
    replace hp1 := hp1.below hb
    replace bl := bnext bl hb
    clear hb
    rw [HC2.out]
    go_wp2_with fail
    refine (l04Count_any ba hp1.1 HP.out).mono ?_
    rintro e w6 ⟨rfl, hb⟩
    replace bl := bnext bl hb
    rw [HC1.out]
    go_wp2
    go_ret2
    exact ⟨rfl, bl⟩
set_option maxHeartbeats 8000000 in
theorem K_impl_EffectsAt {w : World} {lo hi : Nat} {W H x y r : Int} {v : Value} {B zs : List Int} (hI : IntsIn w lo hi v B) (hm : effsM ⟨W, H, B⟩ x y = (zs, r)) :
    Calls Try.prog 27 #[.agg #[.int .i64 W, .int .i64 H, v], .agg #[.int .i64 x, .int .i64 y]] w fun e w' => ∃ A c, e = .returned (.tuple #[.slice A zs.length c, .int .i64 r]) ∧ IntsIn w' w.heap.size w'.heap.size (.slice A zs.length c) zs ∧ Below w.heap.size w w' := by
  obtain ⟨A, c, rfl, _, _⟩ := hI.1.open_
  have bl := Joins.below_alloc2 w (.cells #[.int .i64 W, .int .i64 H, .slice A B.length c] 28) (.cells #[.int .i64 x, .int .i64 y] 35)
  have ba := (Box.new w 28 #[.int .i64 W, .int .i64 H, .slice A B.length c]).alloc (.cells #[.int .i64 x, .int .i64 y] 35)
  have bb := Box.new (w.alloc (.cells #[.int .i64 W, .int .i64 H, .slice A B.length c] 28)) 35 #[.int .i64 x, .int .i64 y]
  rw [World.size_alloc] at bb
  have hp1 := hI.below bl
  clear hI
  by_cases h1 : codeP ⟨W, H, B⟩ x y = 0
  rotate_left
  · obtain ⟨rfl, rfl⟩ : [] = zs ∧ codeP ⟨W, H, B⟩ x y = r := by simpa [effsM, h1] using hm
    obtain ⟨z, hz⟩ : ∃ z, codeP ⟨W, H, B⟩ x y = z := ⟨_, rfl⟩
    rw [hz] at h1 ⊢
    have HC := Lib.hid hz
    have t1 : (z != 0) = true := by simp [h1]
    clear hm h1 hz
    have q0 := ba.cell 0
    have q1 := ba.cell 1
    have q2 := ba.cell 2
    have qn := ba.lt
    simp only [List.getElem?_toArray, List.getElem?_cons_zero, List.getElem?_cons_succ] at q0 q1 q2
    have p0 := bb.cell 0
    have p1 := bb.cell 1
    have pn := bb.lt
    simp only [List.getElem?_toArray, List.getElem?_cons_zero, List.getElem?_cons_succ] at p0 p1
    go_enter Try.func27, Try.ntmps27
    go_wp2_with fail
    refine (innerCode_any hp1 HC.out).mono ?_
    rintro e w2 ⟨rfl, hb⟩
    replace ba := ba.below hb
    replace bb := bb.below hb
    replace hp1 := hp1.below hb
    replace bl := bnext bl hb
    clear hb
    clear q0 q1 q2 qn p0 p1 pn
    go_wp2
    go_ret2
    exact ⟨none, 0, rfl, IntsIn.nil _ _ _ (Nat.le_refl _), bl⟩
  · obtain ⟨rfl, rfl⟩ : effs ⟨W, H, B⟩ (num ⟨W, H, B⟩ x y) = zs ∧ 0 = r := by simpa [effsM, h1] using hm
    clear hm
    obtain ⟨hp, hW, hH, ⟨m0, m1⟩, hx, hy, ho, hm⟩ := pan_open h1
    obtain ⟨m, hmm⟩ : ∃ m, num ⟨W, H, B⟩ x y = m := ⟨_, rfl⟩
    rw [hmm] at m0 m1 hm
    have HM := Lib.hid hm
    have HX := Lib.hid hx
    have HY := Lib.hid hy
    have HW := Lib.hid hW
    have HOD := Lib.hid ho
    have HP := Lib.hid hp
    have HC := Lib.hid h1
    clear hm hx hy hW hH ho h1
    rw [hmm]
    clear hmm hp
    have q0 := ba.cell 0
    have q1 := ba.cell 1
    have q2 := ba.cell 2
    have qn := ba.lt
    simp only [List.getElem?_toArray, List.getElem?_cons_zero, List.getElem?_cons_succ] at q0 q1 q2
    have p0 := bb.cell 0
    have p1 := bb.cell 1
    have pn := bb.lt
    simp only [List.getElem?_toArray, List.getElem?_cons_zero, List.getElem?_cons_succ] at p0 p1
    go_enter Try.func27, Try.ntmps27
    go_wp2_with fail
    refine (innerCode_any hp1 HC.out).mono ?_
    rintro e w2 ⟨rfl, hb⟩
    replace ba := ba.below hb
    replace bb := bb.below hb
    replace hp1 := hp1.below hb
    replace bl := bnext bl hb
    clear hb
    clear q0 q1 q2 qn p0 p1 pn
    have q0 := ba.cell 0
    have q1 := ba.cell 1
    have q2 := ba.cell 2
    have qn := ba.lt
    simp only [List.getElem?_toArray, List.getElem?_cons_zero, List.getElem?_cons_succ] at q0 q1 q2
    have p0 := bb.cell 0
    have p1 := bb.cell 1
    have pn := bb.lt
    simp only [List.getElem?_toArray, List.getElem?_cons_zero, List.getElem?_cons_succ] at p0 p1
    have hsz2 := bl.size
    have KS : Hid (∀ w', Below w2.heap.size w2 w' → (Below w2.heap.size w2 w' ∧ w'.cell? ⟨w.heap.size, 0, none⟩ = some (.int .i64 W) ∧ w'.cell? ⟨w.heap.size, 1, none⟩ = some (.int .i64 H) ∧ w'.cell? ⟨w.heap.size, 2, none⟩ = some (.slice A B.length c) ∧ w'.cell? ⟨w.heap.size + 1, 0, none⟩ = some (.int .i64 x) ∧ w'.cell? ⟨w.heap.size + 1, 1, none⟩ = some (.int .i64 y))) := Lib.hid (fun x hx => ⟨hx, (ba.below hx).cell 0, (ba.below hx).cell 1, (ba.below hx).cell 2, (bb.below hx).cell 0, (bb.below hx).cell 1⟩)
    have KI : Hid (∀ w', Below w2.heap.size w2 w' → IntsIn w' lo hi (.slice A B.length c) B) := Lib.hid (fun x hx => hp1.below hx)
    have KJ : Hid (∀ w', Below w2.heap.size w2 w' → Ints w' lo (.slice A B.length c) B) := Lib.hid (fun x hx => (hp1.below hx).1)
    go_wp2
    go_region_held3 (fun w' => Below w2.heap.size w2 w' ∧ w'.cell? ⟨w.heap.size, 0, none⟩ = some (.int .i64 W) ∧ w'.cell? ⟨w.heap.size, 1, none⟩ = some (.int .i64 H) ∧ w'.cell? ⟨w.heap.size, 2, none⟩ = some (.slice A B.length c) ∧ w'.cell? ⟨w.heap.size + 1, 0, none⟩ = some (.int .i64 x) ∧ w'.cell? ⟨w.heap.size + 1, 1, none⟩ = some (.int .i64 y))
      ((refine KS.out _ ?_; first | exact cut_drew | exact hBn | exact hBm))
      (first | (go_at_call 44; go_split_ands; (with_reducible refine (number_any HW.out HX.out HY.out HOD.out HM.out).mono ?_); rintro e w4 ⟨rfl, hb4⟩; have hBn := bnext (w := w2) (by assumption) hb4)
             | (go_at_call 50; go_split_ands; have hle := cut_le (V := w2) (by assumption); (with_reducible refine (effectsAt_any (KI.out _ (by assumption)) HP.out m0 m1).mono ?_); rintro e w5 ⟨E, f, rfl, j1, hb5⟩; have hBm := bnext (w := w2) (by assumption) hb5))
    have J := Lib.hid (j1.wider (by omega : w.heap.size ≤ _) (Nat.le_refl _) (Nat.le_refl _))
    clear q0 q1 q2 qn p0 p1 pn j1
    go_wp2
    go_ret2
    exact ⟨E, f, rfl, J.out, bnext bl hBm⟩
set_option maxHeartbeats 8000000 in
theorem K_spec_EffectsAt {w : World} {lo hi : Nat} {W H x y r : Int} {v : Value} {B zs : List Int} (hI : IntsIn w lo hi v B) (hm : effsM ⟨W, H, B⟩ x y = (zs, r)) :
    Calls Try.prog 26 #[.agg #[.int .i64 W, .int .i64 H, v], .agg #[.int .i64 x, .int .i64 y]] w fun e w' => ∃ A c, e = .returned (.tuple #[.slice A zs.length c, .int .i64 r]) ∧ IntsIn w' w.heap.size w'.heap.size (.slice A zs.length c) zs ∧ Below w.heap.size w w' := by
  obtain ⟨A, c, rfl, _, _⟩ := hI.1.open_
  have bl := Joins.below_alloc2 w (.cells #[.int .i64 W, .int .i64 H, .slice A B.length c] 28) (.cells #[.int .i64 x, .int .i64 y] 35)
  have ba := (Box.new w 28 #[.int .i64 W, .int .i64 H, .slice A B.length c]).alloc (.cells #[.int .i64 x, .int .i64 y] 35)
  have bb := Box.new (w.alloc (.cells #[.int .i64 W, .int .i64 H, .slice A B.length c] 28)) 35 #[.int .i64 x, .int .i64 y]
  rw [World.size_alloc] at bb
  have hp1 := hI.below bl
  clear hI
  by_cases h1 : codeP ⟨W, H, B⟩ x y = 0
  rotate_left
  · obtain ⟨rfl, rfl⟩ : [] = zs ∧ codeP ⟨W, H, B⟩ x y = r := by simpa [effsM, h1] using hm
    obtain ⟨z, hz⟩ : ∃ z, codeP ⟨W, H, B⟩ x y = z := ⟨_, rfl⟩
    rw [hz] at h1 ⊢
    have HC := Lib.hid hz
    have t1 : (z != 0) = true := by simp [h1]
    clear hm h1 hz
    have p0 := bb.cell 0
    have p1 := bb.cell 1
    have pn := bb.lt
    simp only [List.getElem?_toArray, List.getElem?_cons_zero, List.getElem?_cons_succ] at p0 p1
    go_enter Try.func26, Try.ntmps26
    go_wp2_with fail
    refine (l02Code_any ba hp1 HC.out).mono ?_
    rintro e w2 ⟨rfl, hb⟩
    replace ba := ba.below hb
    replace bb := bb.below hb
    replace hp1 := hp1.below hb
    replace bl := bnext bl hb
    clear hb
    clear p0 p1 pn
    go_wp2
    go_ret2
    exact ⟨none, 0, rfl, IntsIn.nil _ _ _ (Nat.le_refl _), bl⟩
  · obtain ⟨rfl, rfl⟩ : effs ⟨W, H, B⟩ (num ⟨W, H, B⟩ x y) = zs ∧ 0 = r := by simpa [effsM, h1] using hm
    clear hm
    obtain ⟨hp, hW, hH, ⟨m0, m1⟩, hx, hy, ho, hm⟩ := pan_open h1
    obtain ⟨m, hmm⟩ : ∃ m, num ⟨W, H, B⟩ x y = m := ⟨_, rfl⟩
    rw [hmm] at m0 m1 hm
    have HM := Lib.hid hm
    have HX := Lib.hid hx
    have HY := Lib.hid hy
    have HW := Lib.hid hW
    have HOD := Lib.hid ho
    have HP := Lib.hid hp
    have HC := Lib.hid h1
    clear hm hx hy hW hH ho h1
    rw [hmm]
    clear hmm hp
    have p0 := bb.cell 0
    have p1 := bb.cell 1
    have pn := bb.lt
    simp only [List.getElem?_toArray, List.getElem?_cons_zero, List.getElem?_cons_succ] at p0 p1
    go_enter Try.func26, Try.ntmps26
    go_wp2_with fail
    refine (l02Code_any ba hp1 HC.out).mono ?_
    rintro e w2 ⟨rfl, hb⟩
    replace ba := ba.below hb
    replace bb := bb.below hb
    replace hp1 := hp1.below hb
    replace bl := bnext bl hb
    clear hb
    clear p0 p1 pn
    have hsz2 := bl.size
    have ba0 := ba.lt
    have bb0 := bb.lt
    have HV : Hid (∀ w', Below w2.heap.size w2 w' → (Box w' w.heap.size 28 #[.int .i64 W, .int .i64 H, .slice A B.length c] ∧ Box w' (w.heap.size + 1) 35 #[.int .i64 x, .int .i64 y]) ∧ IntsIn w' lo hi (.slice A B.length c) B) := Lib.hid (fun x hx => ⟨⟨ba.below hx, bb.below hx⟩, hp1.below hx⟩)
    have hL : Ints (w2.alloc (.cells #[] 2)) w2.heap.size (.slice (some ⟨w2.heap.size, 0, none⟩) 0 0) [] := Row.none_ w2
    have hb0 := Joins.below_alloc1 w2 (.cells #[] 2)
    clear ba bb hp1
    go_wp2
    go_loopw [7, 8] (fun s t wr => ∃ (i : Nat) (D : Option Addr) (d : Nat), i ≤ 3 ∧ s = .slice D i d ∧ t = .int .i64 i ∧ Ints wr w2.heap.size (.slice D i d) ((effs ⟨W, H, B⟩ m).take i) ∧ Below w2.heap.size w2 wr) (fun _ t _ => 3 - (intOf t).toNat)
    case atStart => exact ⟨0, _, 0, by omega, rfl, rfl, hL, hb0⟩
    case round =>
      obtain ⟨i, D, d, hi, rfl, rfl, hS, hb⟩ := hrel
      clear hL hb0
      have hsz := hb.size
      by_cases hlt : i < 3
      · obtain ⟨⟨ba, bb⟩, hv⟩ := HV.out wr hb
        have i1 : (i : Int) < 3 := by omega
        have HK2 : Hid (0 ≤ (i : Int) ∧ (i : Int) ≤ 2) := Lib.hid (by omega)
        have HE : Hid ((effs ⟨W, H, B⟩ m).take (i + 1) = (effs ⟨W, H, B⟩ m).take i ++ [cntP (withP ⟨W, H, B⟩ m i)]) := Lib.hid (by
          rcases (show i = 0 ∨ i = 1 ∨ i = 2 by omega) with rfl | rfl | rfl <;> rfl)
        have hlen : ((effs ⟨W, H, B⟩ m).take i).length = i := by
          rcases (show i = 0 ∨ i = 1 ∨ i = 2 by omega) with rfl | rfl | rfl <;> rfl
        generalize hE : (effs ⟨W, H, B⟩ m).take i = es at *
        have hlI : es.length < 1000000000 := by omega
        have p0 := bb.cell 0
        have p1 := bb.cell 1
        have pn := bb.lt
        simp only [List.getElem?_toArray, List.getElem?_cons_zero, List.getElem?_cons_succ] at p0 p1
        clear hE
        go_wp2_with fail
        refine (l02Number_any ba HW.out HX.out HY.out HM.out).mono ?_
        rintro e w4 ⟨rfl, hb4⟩
        have hb4' := bnext hb hb4
        have hS4 := Row.below hS hb4
        have hsz4 := hb4.size
        obtain ⟨⟨ba4, _⟩, hv4⟩ := HV.out w4 hb4'
        clear p0 p1 pn hS hb hb4 ba bb hv
        go_wp2_with fail
        refine (l10With_any ba4 hv4 HP.out m0 m1 HK2.out).mono ?_
        rintro e w5 ⟨rfl, hb5⟩
        have hb5' := bnext hb4' hb5
        have hS5 := Row.below hS4 hb5
        have hsz5 := hb5.size
        generalize hcv : cntP (withP ⟨W, H, B⟩ m i) = cv at *
        clear hS4 hb4' hb5 ba4 hv4 hcv
        have hlw : w2.heap.size ≤ w5.heap.size := by omega
        go_wp2_with (at_builtin; refine append_one_at rfl _ _ rfl w2.heap.size _ (.slice D i d) es cv hS5 rfl rfl rfl hlI hlw ?_)
        intro g6 d6 w6 hS6 hg6 _
        have hb6 := hb5'.grown hg6 hlw (fun j hj => (Row.lt hS5 hj).1)
        rw [← HE.out] at hS6
        have HS6 := Lib.hid hS6
        clear hS5 hb5' hg6 hS6
        try rw [hlen]
        go_wp2
        go_roundw
        case rel => exact ⟨i + 1, _, d6, by omega, rfl, by go_num, by have := HS6.out; simpa [hlen] using this, hb6⟩
        case measure => simp [intOf]; omega
      · have e : i = 3 := by omega
        subst e
        have HS3 : Hid (IntsIn wr w.heap.size wr.heap.size (.slice D 3 d) (effs ⟨W, H, B⟩ m)) := Lib.hid ((IntsIn.ofInts (by simpa [effs] using hS) (by simp [effs])).wider (by omega) (Nat.le_refl _) (Nat.le_refl _))
        clear hS
        go_wp2
        go_ret2
        exact ⟨D, d, rfl, HS3.out, bnext bl hb⟩
end Go.Proofs.Ytmagomiehgcbjaa
