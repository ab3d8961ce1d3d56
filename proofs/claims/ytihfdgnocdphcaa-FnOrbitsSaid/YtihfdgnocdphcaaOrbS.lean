/-
  The orbit of a point, by the reference.
-/
import Derived.Test.YtihfdgnocdphcaaOrbI
import Derived.Test.YtihfdgnocdphcaaCut
import Derived.Deep.RegionHeld3
namespace Go.Proofs.Ytihfdgnocdphcaa
open Go.RowKit Knot

/-- 'append(a, b...)' of points. -/
theorem append_pts {ops : Array Oper} {rest : List Oper} {o : Oper} {a : Act} {Q : Exit → Act → World → Prop} {w : World} (hgd : o.guard = none) (s x : Operand)
    (ho : o.op = .call { callee := .builtin .append, args := #[s, x], argTypes := #[66, 66] })
    (B n m c : Nat) (v : Value) (zs ys : List Int) (ad : Addr) (hv : PRow w B v n zs) (hs : a.eval s = v) (hx : a.eval x = .slice (some ad) m c) (hl : ys.length = m * 2) (hcell : ∀ (j : Nat) (hj : j < ys.length), w.cell? (ad.add j) = some (.int .i64 ys[j]))
    (hlen : n + m < 1000000) (hB : B ≤ w.heap.size)
    (h : ∀ A c' w', PRow w' B (.slice A (n + m) c') (n + m) (zs ++ ys) → w.grownBy w' v.ownBlock → wpList Try.prog ops Q rest (a.put o.dst (.slice A (n + m) c')) w') :
    wpList Try.prog ops Q (o :: rest) a w := by
  obtain ⟨i0, hi, hz0, hz1, hz2⟩ := info_parts info_point
  refine wpList_append_own_at _ hgd s x 66 ho B 36 i0 (.agg #[.int .i64 0, .int .i64 0]) 2 16 Try.underlying66 hi hz0 hz1 hz2 rfl (by decide) v n (zs.map (Value.int .i64)) hs hv ad m c (ys.map (Value.int .i64)) hx (by rw [List.length_map, hl])
    (fun j u hj => ?_) (fun u hu => ?_) (by unfold maxLen; omega) (by omega) hB ?_
  · have hj' : j < ys.length := by
      obtain ⟨h1, _⟩ := List.getElem?_eq_some_iff.1 hj
      simpa using h1
    rw [hcell j hj']
    simp [hj'] at hj
    rw [hj]
  · obtain ⟨k, _, rfl⟩ := List.mem_map.1 hu
    rfl
  · intro v' w' hown hgrow _ hat
    have hI : PRow w' B v' (n + m) (zs ++ ys) := by
      unfold PRow
      rw [List.map_append]
      exact hown
    obtain ⟨A, c', rfl, _, _⟩ := hI.open_
    exact h A c' w' hI hgrow
theorem ptF_drop (l : List (Int × Int)) (k : Nat) : ptF (l.drop k) = (ptF l).drop (2 * k) := by
  induction l generalizing k with
  | nil => simp [ptF]
  | cons a t ih =>
    have e : ∀ b m, ptF (b :: m) = b.1 :: b.2 :: ptF m := fun _ _ => rfl
    cases k with
    | zero => simp [ptF]
    | succ k =>
      rw [List.drop_succ_cons, e, ih, show 2 * (k + 1) = 2 * k + 1 + 1 by omega]
      simp
theorem add_pt (g o j : Nat) : (⟨g, o, none⟩ : Addr).add j = ⟨g, o + j, none⟩ := by unfold Addr.add; split <;> simp_all
theorem orb_put {l L : List (Int × Int)} {k m : Nat} {q : Int × Int} (h : SamePts l (L.take k)) (e : L.take (k + 1) = L.take k ++ [q]) : SamePts (l.take m ++ q :: l.drop m) (L.take (k + 1)) := fun r => by
  rw [mem_put, e, List.mem_append, List.mem_singleton, h r]
  constructor
  · rintro (h | h)
    · exact .inr h
    · exact .inl h
  · rintro (h | h)
    · exact .inr h
    · exact .inl h
theorem orb_had {l L : List (Int × Int)} {k : Nat} {q : Int × Int} (h : SamePts l (L.take k)) (e : L.take (k + 1) = L.take k ++ [q]) (hq : q ∈ l) : SamePts l (L.take (k + 1)) := fun r => by
  rw [e, List.mem_append, List.mem_singleton, h r]
  constructor
  · exact .inl
  · rintro (h1 | h1)
    · exact h1
    · subst h1
      exact (h _).1 hq
set_option maxHeartbeats 2000000 in
theorem l06Before_any {w : World} {a1 a2 b1 b2 : Int} {r : Bool} (hr : decide (lt2 (a1, a2) (b1, b2)) = r) :
    Calls Try.prog 111 #[.agg #[.int .i64 a1, .int .i64 a2], .agg #[.int .i64 b1, .int .i64 b2]] w fun e w' => e = .returned (.bool r) ∧ Below w.heap.size w w' := by
  have bl := Joins.below_alloc2 w (.cells #[.int .i64 a1, .int .i64 a2] 36) (.cells #[.int .i64 b1, .int .i64 b2] 36)
  have HR := Lib.hid hr
  clear hr
  by_cases h1 : a2 < b2
  · have hrt : r = true := by rw [← HR.out]; exact decide_eq_true (.inl h1)
    subst hrt
    have t1 : (a2 < b2) = True := eq_true h1
    clear h1
    go_enter Try.func111, Try.ntmps111
    go_wp2
    go_ret
    exact ⟨rfl, bl⟩
  · have t1 : (a2 < b2) = False := eq_false h1
    by_cases h2 : a2 = b2
    · have t2 : (a2 == b2) = true := by simp [h2]
      by_cases h3 : a1 < b1
      · have hrt : r = true := by rw [← HR.out]; exact decide_eq_true (.inr ⟨h2, h3⟩)
        subst hrt
        have t3 : (a1 < b1) = True := eq_true h3
        clear h1 h2 h3
        go_enter Try.func111, Try.ntmps111
        go_wp2
        go_ret
        exact ⟨rfl, bl⟩
      · have hrf : r = false := by rw [← HR.out]; exact decide_eq_false (by unfold lt2; simp only []; omega)
        subst hrf
        have t3 : (a1 < b1) = False := eq_false h3
        clear h1 h2 h3
        go_enter Try.func111, Try.ntmps111
        go_wp2
        go_ret
        exact ⟨rfl, bl⟩
    · have t2 : (a2 == b2) = false := by simp [h2]
      have hrf : r = false := by rw [← HR.out]; exact decide_eq_false (by unfold lt2; simp only []; omega)
      subst hrf
      clear h1 h2
      go_enter Try.func111, Try.ntmps111
      go_wp2
      go_ret
      exact ⟨rfl, bl⟩
set_option maxRecDepth 20000 in
set_option maxHeartbeats 16000000 in
theorem K_spec_PointOrbit {w : World} {lo hi : Nat} {W H x y r1 : Int} {v : Value} {Bs : List Int} {ps : List (Int × Int)} (hI : IntsIn w lo hi v Bs) (hm : orbM ⟨W, H, Bs⟩ x y = (ps, r1)) :
    Calls Try.prog 59 #[.agg #[.int .i64 W, .int .i64 H, v], .agg #[.int .i64 x, .int .i64 y]] w fun e w' => ∃ A c, e = .returned (.tuple #[.slice A ps.length c, .int .i64 r1]) ∧ PtsIn w' w.heap.size w'.heap.size (.slice A ps.length c) ps ∧ Below w.heap.size w w' := by
  obtain ⟨A, c, rfl, _, _⟩ := hI.1.open_
  have bl := Joins.below_alloc2 w (.cells #[.int .i64 W, .int .i64 H, .slice A Bs.length c] 30) (.cells #[.int .i64 x, .int .i64 y] 36)
  have ba := (Box.new w 30 #[.int .i64 W, .int .i64 H, .slice A Bs.length c]).alloc (.cells #[.int .i64 x, .int .i64 y] 36)
  have bb := Box.new (w.alloc (.cells #[.int .i64 W, .int .i64 H, .slice A Bs.length c] 30)) 36 #[.int .i64 x, .int .i64 y]
  rw [World.size_alloc] at bb
  have hv := hI.below bl
  clear hI
  by_cases ho : Ok ⟨W, H, Bs⟩
  rotate_left
  · have HO := Lib.hid ho
    unfold orbM at hm
    rw [if_neg ho] at hm
    injection hm with h1 h2
    subst h1 h2
    clear ho
    have q0 := ba.cell 0
    have q1 := ba.cell 1
    have q2 := ba.cell 2
    have qn := ba.lt
    simp only [List.getElem?_toArray, List.getElem?_cons_zero, List.getElem?_cons_succ] at q0 q1 q2
    have p0 := bb.cell 0
    have p1 := bb.cell 1
    have pn := bb.lt
    simp only [List.getElem?_toArray, List.getElem?_cons_zero, List.getElem?_cons_succ] at p0 p1
    go_enter Try.func59, Try.ntmps59
    go_wp2_with fail
    refine (l02Ok_any _ W H _ Bs false (no_iff HO.out) _ ⟨ba, hv.ints⟩).mono ?_
    rintro e w2 ⟨rfl, hd⟩
    have bl2 := bnext bl (bdrawn hd)
    have hN := PtsIn.nil w2 w.heap.size w2.heap.size (Nat.le_refl _)
    clear q0 q1 q2 qn p0 p1 pn
    go_wp2
    go_ret2
    exact ⟨none, 0, rfl, hN, bl2⟩
  have HO := Lib.hid ho
  have W0 : 0 ≤ W := by have := ho.w1; simp only [] at this; omega
  have W8 : W ≤ 8 := ho.w8
  have H0 : 0 ≤ H := by have := ho.h1; simp only [] at this; omega
  have H8 : H ≤ 8 := ho.h8
  by_cases hh : Has ⟨W, H, Bs⟩ x y
  rotate_left
  · have HH := Lib.hid hh
    unfold orbM at hm
    rw [if_pos ho, if_neg hh] at hm
    injection hm with h1 h2
    subst h1 h2
    clear ho hh
    have q0 := ba.cell 0
    have q1 := ba.cell 1
    have q2 := ba.cell 2
    have qn := ba.lt
    simp only [List.getElem?_toArray, List.getElem?_cons_zero, List.getElem?_cons_succ] at q0 q1 q2
    have p0 := bb.cell 0
    have p1 := bb.cell 1
    have pn := bb.lt
    simp only [List.getElem?_toArray, List.getElem?_cons_zero, List.getElem?_cons_succ] at p0 p1
    go_enter Try.func59, Try.ntmps59
    go_wp2_with fail
    refine (l02Ok_any _ W H _ Bs true (yes_iff HO.out) _ ⟨ba, hv.ints⟩).mono ?_
    rintro e w2 ⟨rfl, hd⟩
    have hb := bdrawn hd
    replace ba := ba.below hb
    replace bb := bb.below hb
    replace bl := bnext bl hb
    clear hb hd q0 q1 q2 qn p0 p1 pn
    have q0 := ba.cell 0
    have q1 := ba.cell 1
    have q2 := ba.cell 2
    have qn := ba.lt
    simp only [List.getElem?_toArray, List.getElem?_cons_zero, List.getElem?_cons_succ] at q0 q1 q2
    have p0 := bb.cell 0
    have p1 := bb.cell 1
    have pn := bb.lt
    simp only [List.getElem?_toArray, List.getElem?_cons_zero, List.getElem?_cons_succ] at p0 p1
    go_wp2_with fail
    refine (l02Has_any (B := Bs) ba ⟨W0, by omega⟩ ⟨H0, by omega⟩ (no_iff HH.out)).mono ?_
    rintro e w3 ⟨rfl, hb⟩
    have bl2 := bnext bl hb
    have hN := PtsIn.nil w3 w.heap.size w3.heap.size (Nat.le_refl _)
    clear q0 q1 q2 qn p0 p1 pn
    go_wp2
    go_ret2
    exact ⟨none, 0, rfl, hN, bl2⟩
  have HH := Lib.hid hh
  unfold orbM at hm
  rw [if_pos ho, if_pos hh] at hm
  injection hm with h1 h2
  have HM := Lib.hid h1
  have HR := Lib.hid h2
  obtain ⟨X0, X1, Y0, Y1, _⟩ := hh
  simp only [] at X1 Y1
  obtain ⟨L, hL⟩ : ∃ L, orbP ⟨W, H, Bs⟩ x y = L := ⟨_, rfl⟩
  obtain ⟨ss, hss⟩ : ∃ ss, symsTo ⟨W, H, Bs⟩ 8 = ss := ⟨_, rfl⟩
  have hLl : L.length = ss.length := by rw [← hL, ← hss]; exact orbP_length _ _ _
  have hs1 : 1 ≤ ss.length := by rw [← hss]; exact symsTo_pos ho
  have hs8 : ss.length ≤ 8 := by rw [← hss]; exact symsTo_length _ _
  have hsk : ∀ (k : Nat) (hk : k < ss.length), symOk ss[k] = true := fun k hk => symsTo_ok ⟨W, H, Bs⟩ (by rw [hss]; exact List.getElem_mem hk)
  have htk : ∀ (k : Nat) (hk : k < ss.length) (a b : Int), mapX W H x y ss[k] = (a, b) → L.take (k + 1) = L.take k ++ [(a, b)] := fun k hk a b hab => by
    subst hss hL
    exact orbP_take hk hab
  have HL := Lib.hid hL
  have HSS := Lib.hid hss
  have HSK := Lib.hid hsk
  have HTK := Lib.hid htk
  have HLL := Lib.hid hLl
  have HS1 := Lib.hid hs1
  clear ho h1 h2 hL hsk htk hLl hs1
  have q0 := ba.cell 0
  have q1 := ba.cell 1
  have q2 := ba.cell 2
  have qn := ba.lt
  simp only [List.getElem?_toArray, List.getElem?_cons_zero, List.getElem?_cons_succ] at q0 q1 q2
  have p0 := bb.cell 0
  have p1 := bb.cell 1
  have pn := bb.lt
  simp only [List.getElem?_toArray, List.getElem?_cons_zero, List.getElem?_cons_succ] at p0 p1
  go_enter Try.func59, Try.ntmps59
  go_wp2_with fail
  refine (l02Ok_any _ W H _ Bs true (yes_iff HO.out) _ ⟨ba, hv.ints⟩).mono ?_
  rintro e w2 ⟨rfl, hd⟩
  have hb := bdrawn hd
  replace ba := ba.below hb
  replace bb := bb.below hb
  replace hv := hv.below hb
  replace bl := bnext bl hb
  clear hb hd q0 q1 q2 qn p0 p1 pn
  have q0 := ba.cell 0
  have q1 := ba.cell 1
  have q2 := ba.cell 2
  have qn := ba.lt
  simp only [List.getElem?_toArray, List.getElem?_cons_zero, List.getElem?_cons_succ] at q0 q1 q2
  have p0 := bb.cell 0
  have p1 := bb.cell 1
  have pn := bb.lt
  simp only [List.getElem?_toArray, List.getElem?_cons_zero, List.getElem?_cons_succ] at p0 p1
  go_wp2_with fail
  refine (l02Has_any (B := Bs) ba ⟨W0, by omega⟩ ⟨H0, by omega⟩ (yes_iff HH.out)).mono ?_
  rintro e w3 ⟨rfl, hb⟩
  replace ba := ba.below hb
  replace bb := bb.below hb
  replace hv := hv.below hb
  replace bl := bnext bl hb
  clear hb q0 q1 q2 qn p0 p1 pn
  go_wp2_with fail
  refine (l06All_any ba hv HO.out).mono ?_
  rw [HSS.out]
  rintro e w4 ⟨S, sc, rfl, hS, hb⟩
  replace ba := ba.below hb
  replace bb := bb.below hb
  replace bl := bnext bl hb
  have hP0 := PRow.none_ w4
  have sz4 := bb.lt
  have sw4 := bl.size
  replace ba := ba.alloc (.cells #[] 36)
  replace bb := bb.alloc (.cells #[] 36)
  have hS1 := (hS.alloc (.cells #[] 36)).1
  replace bl := bnext bl (Joins.below_alloc1 w4 (.cells #[] 36))
  have hP1 := hP0.le (show w.heap.size + 2 ≤ w4.heap.size by omega)
  obtain ⟨p4, hp4⟩ : ∃ p4, w4.heap.size = p4 := ⟨_, rfl⟩
  have hS2 := Row.le hS1 (show 0 ≤ w3.heap.size from Nat.zero_le _)
  clear hb hP0 hv hS hss hS1
  go_wp2
  try rw [hp4]
  rw [hp4] at hP1
  generalize hV : w4.alloc (.cells #[] 36) = V at *
  clear hV
  go_loopw [7, 8] (fun s t wr => ∃ (k : Nat) (l : List (Int × Int)) (g d : Nat), k ≤ ss.length ∧ s = .slice (some ⟨g, 0, none⟩) l.length d ∧ t = .int .i64 k ∧ PRow wr (w.heap.size + 2) (.slice (some ⟨g, 0, none⟩) l.length d) l.length (ptF l) ∧ l.length ≤ k ∧ Hid (Srt l ∧ SamePts l (L.take k)) ∧ Ints wr 0 (.slice S ss.length sc) ss ∧ Box wr w.heap.size 30 #[.int .i64 W, .int .i64 H, .slice A Bs.length c] ∧ Box wr (w.heap.size + 1) 36 #[.int .i64 x, .int .i64 y] ∧ Below w.heap.size w wr) (fun _ t _ => ss.length - (intOf t).toNat)
  case atStart => exact ⟨0, [], _, 0, Nat.zero_le _, rfl, rfl, by simpa [ptF] using hP1, Nat.le_refl _, Lib.hid ⟨by simp, fun q => by simp⟩, hS2, ba, bb, bl⟩
  case round =>
    clear ba bb bl hS2 hP1
    obtain ⟨k, l, g, d, hk, rfl, rfl, hP, hlk, hsr, hS, ba, bb, bl⟩ := hrel
    have bs := bl.size
    by_cases hlt : k < ss.length
    · have i1 : (k : Int) < ss.length := by omega
      obtain ⟨S1, sc1, hSe, _, hS2⟩ := hS.open_
      injection hSe with hSe1 hSe2 hSe3
      subst hSe1 hSe3
      obtain ⟨gs, rfl, _, hgs⟩ := hS2 (by omega)
      have d0 := Ints.cell hS (k := k) hlt
      have hsy := HSK.out k hlt
      have htk := HTK.out k hlt
      rw [gI_nat _ _ hlt] at d0
      generalize ss[k] = s at d0 hsy htk
      obtain ⟨⟨a, b⟩, hab⟩ : ∃ q, mapX W H x y s = q := ⟨_, rfl⟩
      have HTE := Lib.hid (htk a b hab)
      have HAB := Lib.hid hab
      have HSY := Lib.hid hsy
      have HSI := Lib.hid hS
      have HPP := Lib.hid hP
      have HBB := Lib.hid (And.intro ba (And.intro bb bl))
      have bsx := bb.lt
      clear hS2 hSe2 hsy htk hab hS hP
      have q0 := ba.cell 0
      have q1 := ba.cell 1
      have q2 := ba.cell 2
      have qn := ba.lt
      simp only [List.getElem?_toArray, List.getElem?_cons_zero, List.getElem?_cons_succ] at q0 q1 q2
      have p0 := bb.cell 0
      have p1 := bb.cell 1
      have pn := bb.lt
      simp only [List.getElem?_toArray, List.getElem?_cons_zero, List.getElem?_cons_succ] at p0 p1
      have KS : Hid (∀ w', Below wr.heap.size wr w' → (Below wr.heap.size wr w' ∧ w'.cell? ⟨w.heap.size, 0, none⟩ = some (.int .i64 W) ∧ w'.cell? ⟨w.heap.size, 1, none⟩ = some (.int .i64 H) ∧ w'.cell? ⟨w.heap.size + 1, 0, none⟩ = some (.int .i64 x) ∧ w'.cell? ⟨w.heap.size + 1, 1, none⟩ = some (.int .i64 y) ∧ w'.cell? ⟨gs, k, none⟩ = some (.int .i64 s))) :=
        Lib.hid (fun w' hb => ⟨hb, (HBB.out.1.below hb).cell 0, (HBB.out.1.below hb).cell 1, (HBB.out.2.1.below hb).cell 0, (HBB.out.2.1.below hb).cell 1, (hb.cell (p := ⟨gs, k, none⟩) hgs).trans d0⟩)
      clear ba bb bl
      go_wp2
      go_cut [9] (fun s9 wc => ∃ pb : Nat, s9 = .pointer (some ⟨pb, 0, none⟩) ∧ Box wc pb 36 #[.int .i64 a, .int .i64 b] ∧ wr.heap.size ≤ pb ∧ Below wr.heap.size wr wc)
      case first =>
        go_region_held3 (fun w' => Below wr.heap.size wr w' ∧ w'.cell? ⟨w.heap.size, 0, none⟩ = some (.int .i64 W) ∧ w'.cell? ⟨w.heap.size, 1, none⟩ = some (.int .i64 H) ∧ w'.cell? ⟨w.heap.size + 1, 0, none⟩ = some (.int .i64 x) ∧ w'.cell? ⟨w.heap.size + 1, 1, none⟩ = some (.int .i64 y) ∧ w'.cell? ⟨gs, k, none⟩ = some (.int .i64 s))
          ((refine KS.out _ ?_; first | exact cut_drew | exact hBz | exact cut_alloc (by assumption) _ | exact cut_alloc cut_drew _ | (refine cut_set (cut_set (by assumption) ?_ _) ?_ _ <;> (first | exact Nat.le_refl _ | exact cut_le (V := wr) (by assumption))) | assumption))
          ((go_at_call 79; go_split_ands; (with_reducible refine (l06Point_any ⟨W0, by omega⟩ ⟨H0, by omega⟩ ⟨X0, X1⟩ ⟨Y0, Y1⟩ HSY.out HAB.out).mono ?_); rintro e w5 ⟨rfl, hbz⟩; have hBz := bnext (w := wr) (by assumption) hbz; (first | (have hz := (Box.new _ 36 #[.int .i64 0, .int .i64 0]).below hbz) | (have hz := (cut_drewbox (Box.new _ 36 #[.int .i64 0, .int .i64 0])).below hbz) | skip); try (skip; have z0 := hz.cell 0; have y0 := hz.free 0; have z1 := hz.cell 1; have y1 := hz.free 1; have zn := hz.lt)))
        all_goals go_wp2_with fail
        all_goals go_meet
        all_goals exact ⟨_, rfl, by first | exact Box.new _ _ _ | exact cut_box2 hz _ _, by first | exact Nat.le_refl _ | exact cut_le (V := wr) (by assumption), by first | exact cut_alloc (by assumption) _ | exact cut_set (cut_set (by assumption) (by first | exact Nat.le_refl _ | exact cut_le (V := wr) (by assumption)) _) (by first | exact Nat.le_refl _ | exact cut_le (V := wr) (by assumption)) _⟩
      case rest =>
        obtain ⟨pb, rfl, bx, hpb, hbx⟩ := hcut
        have hPx := HPP.out.below hbx
        have hSx : Ints wc 0 (.slice (some ⟨gs, 0, none⟩) ss.length sc) ss := Row.below HSI.out hbx
        have hAx := HBB.out.1.below hbx
        have hTx := HBB.out.2.1.below hbx
        have hLx := bnext HBB.out.2.2 hbx
        have HX := Lib.hid (And.intro hPx (And.intro hSx (And.intro hAx (And.intro hTx (And.intro hLx bx)))))
        have hpw : w.heap.size + 1 < pb := by omega
        obtain ⟨n, hn⟩ : ∃ n, l.length = n := ⟨_, rfl⟩
        have HN := Lib.hid hn
        rw [hn] at hPx hlk ⊢
        have hnd : n ≤ d := by
          rcases hPx.form with ⟨h1, _⟩ | ⟨_, _, h1, _, _, h2, _⟩
          · cases h1
          · cases h1; exact h2
        obtain ⟨W1, hW1⟩ : ∃ z, z = wc := ⟨wc, rfl⟩
        subst hW1
        obtain ⟨V1, hV1⟩ : ∃ z, z = wr := ⟨wr, rfl⟩
        subst hV1
        clear q0 q1 q2 qn p0 p1 pn d0 KS HPP HSI HBB hPx hSx hAx hTx hLx bx hn hbx HAB HSY
        go_wp2
        go_loopw [10] (fun s10 wr => ∃ m : Nat, m ≤ n ∧ s10 = .int .i64 m ∧ Hid (∀ (j : Nat) (hj : j < l.length), m ≤ j → lt2 (a, b) l[j]) ∧ Below W1.heap.size W1 wr) (fun s10 _ => (intOf s10).toNat)
        case atStart => exact ⟨n, Nat.le_refl _, rfl, Lib.hid (fun j hj h => absurd hj (by have := HN.out; omega)), Below.refl _ _⟩
        case round =>
          obtain ⟨m, hm, rfl, hgt, hb⟩ := hrel
          obtain ⟨hP, hS, ba, bt, bl, bx⟩ := HX.out
          rw [HN.out] at hP
          replace hP := hP.below hb
          replace bx := bx.below hb
          have hgl := (hP.lt (g := g) rfl).2
          have u0 := bx.cell 0
          have u1 := bx.cell 1
          have un := bx.lt
          simp only [List.getElem?_toArray, List.getElem?_cons_zero, List.getElem?_cons_succ] at u0 u1
          by_cases h0 : m = 0
          · have g0 : decide (0 < m) = false := decide_eq_false (by omega)
            have g1 : (0 < m) = False := eq_false (by omega)
            have HB2 := Lib.hid hb
            have HZ := Lib.hid h0
            clear hP hS ba bt bl bx hb h0
            go_wp2_with fail
            go_quiet (fail)
            obtain ⟨nq1, hnq1⟩ : ∃ z, z = nq := ⟨_, rfl⟩
            rw [← hnq1]
            go_wp2_with fail
            go_quiet (fail)
            obtain ⟨nq2, hnq2⟩ : ∃ z, z = nq := ⟨_, rfl⟩
            rw [← hnq2]
            have HB3 : Hid (Below W1.heap.size W1 ((wr.drewN nq1).drewN nq2)) := Lib.hid (bnext (bnext HB2.out (below_drewN _ _ _)) (below_drewN _ _ _))
            clear hnq1 hnq2 u0 u1 un g0 g1
            generalize ((wr.drewN nq1).drewN nq2) = W5 at HB3 ⊢
            have HPUT : Hid (Srt (l.take m ++ (a, b) :: l.drop m) ∧ SamePts (l.take m ++ (a, b) :: l.drop m) (L.take (k + 1))) := Lib.hid ⟨srt_put hsr.out.1 (by rw [HN.out]; exact hm) hgt.out (fun h => absurd h (by have := HZ.out; omega)), orb_put hsr.out.2 HTE.out⟩
            obtain ⟨hP, hS, ba, bt, bl, bx⟩ := HX.out
            rw [HN.out] at hP
            replace hP := hP.below HB3.out
            replace hS := Row.below hS HB3.out
            replace ba := ba.below HB3.out
            replace bt := bt.below HB3.out
            replace bx := bx.below HB3.out
            replace bl := bnext bl HB3.out
            have HQ := Lib.hid (And.intro hP (And.intro hS (And.intro ba (And.intro bt (And.intro bl bx)))))
            have hg5 := (hP.lt (g := g) rfl).2
            have hb5 := bx.lt
            have hs5 := bl.size
            have hN0 := PRow.none_ W5
            have b1 := Joins.below_alloc1 W5 (.cells #[] 36)
            have hP1 := hP.alloc (.cells #[] 36)
            have hlM : (ptF (l.take m)).length = m * 2 := by rw [ptF_length, List.length_take, HN.out]; omega
            have hiM : (m : Int) ≤ n := by omega
            have hiD : (m : Int) ≤ d := by omega
            clear hP hS ba bt bl bx
            go_wp2_with (at_builtin; refine append_pts rfl _ _ rfl W5.heap.size 0 m d _ [] (ptF (l.take m)) ⟨g, 0, none⟩ hN0 rfl rfl hlM (fun i hi => by
              rw [hlM] at hi
              rw [add_pt, Nat.zero_add, hP1.cell (j := i) (by omega), gI_nat _ _ (by rw [ptF_length, HN.out]; omega)]
              simp only [ptF_take, List.getElem_take]) (by omega) (by simp) ?_)
            intro A6 c6 w6 hP6 hg6
            try rw [Nat.zero_add, List.nil_append] at hP6
            try rw [Nat.zero_add]
            have hb6 : Below W5.heap.size W5 w6 := b1.grown hg6 (by simp) (fun j hj => by rw [ownBlock_slice] at hj; injection hj with hj; omega)
            have hs6 := hb6.size
            have bx6 := HQ.out.2.2.2.2.2.below hb6
            have u0 := bx6.cell 0
            have u1 := bx6.cell 1
            have un := bx6.lt
            simp only [List.getElem?_toArray, List.getElem?_cons_zero, List.getElem?_cons_succ] at u0 u1
            clear b1 hP1 hg6 hN0 hlM
            go_wp2_with (at_builtin; refine append_pt rfl _ _ rfl W5.heap.size _ m _ (ptF (l.take m)) a b hP6 rfl rfl (by simp) (by omega) (by omega) ?_)
            intro g7 c7 w7 hP7 hg7 _
            have hb7 : Below W5.heap.size W5 w7 := hb6.grown hg7 hs6 (fun j hj => (PRow.lt hP6 hj).1)
            have hs7 := hb7.size
            have hPd := HQ.out.1.below hb7
            have hlD : (ptF (l.drop m)).length = (n - m) * 2 := by rw [ptF_length, List.length_drop, HN.out]; omega
            clear hP6 hg7 hb6 hs6 bx6 u0 u1 un
            have hn1 : ∀ (A8 : Option Addr) (c8 : Nat) (w8 : World), PRow w8 W5.heap.size (.slice A8 (m + 1 + (n - m)) c8) (m + 1 + (n - m)) (ptF (l.take m) ++ a :: b :: ptF (l.drop m)) → w7.grownBy w8 (Value.slice (some ⟨g7, 0, none⟩) (m + 1) c7).ownBlock →
                ∃ g8, A8 = some ⟨g8, 0, none⟩ ∧ (l.take m ++ (a, b) :: l.drop m).length = m + 1 + (n - m) ∧ PRow w8 (w.heap.size + 2) (.slice (some ⟨g8, 0, none⟩) (l.take m ++ (a, b) :: l.drop m).length c8) (l.take m ++ (a, b) :: l.drop m).length (ptF (l.take m ++ (a, b) :: l.drop m)) ∧ Below W5.heap.size W5 w8 := fun A8 c8 w8 hP8 hg8 => by
              have hb8 : Below W5.heap.size W5 w8 := hb7.grown hg8 hs7 (fun j hj => (PRow.lt hP7 hj).1)
              have hlen : (l.take m ++ (a, b) :: l.drop m).length = m + 1 + (n - m) := by
                have := HN.out
                rw [List.length_append, List.length_take, List.length_cons, List.length_drop]
                omega
              have e8 : ptF (l.take m) ++ a :: b :: ptF (l.drop m) = ptF (l.take m ++ (a, b) :: l.drop m) := by
                rw [ptF_append]
                rfl
              rw [e8] at hP8
              obtain ⟨A9, c9, hv9, _, hA9⟩ := hP8.open_
              injection hv9 with hv91 hv92 hv93
              subst hv91
              obtain ⟨g8, rfl, _, _⟩ := hA9 (by omega)
              exact ⟨g8, rfl, hlen, by rw [hlen]; exact hP8.le (by omega), hb8⟩
            have HN1 := Lib.hid hn1
            clear hn1
            have hmD : m + 1 + (n - m) < 1000000 := by omega
            by_cases hdm : d = m
            · skip
              go_wp2_with (at_builtin; refine append_pts rfl _ _ rfl W5.heap.size (m + 1) (n - m) _ _ _ (ptF (l.drop m)) ⟨g, 0, none⟩ hP7 rfl rfl hlD (fun i hi => absurd hi (by rw [hlD]; omega)) hmD (by omega) ?_)
              intro A8 c8 w8 hP8 hg8
              obtain ⟨g8, rfl, hlen8, hP9, hb8⟩ := HN1.out A8 c8 w8 hP8 hg8
              have hS8 : Ints w8 0 (.slice (some ⟨gs, 0, none⟩) ss.length sc) ss := Row.below HQ.out.2.1 hb8
              have ba8 := HQ.out.2.2.1.below hb8
              have bt8 := HQ.out.2.2.2.1.below hb8
              have bl8 := bnext HQ.out.2.2.2.2.1 hb8
              have HE := Lib.hid (And.intro hP9 (And.intro hS8 (And.intro ba8 (And.intro bt8 bl8))))
              have HL8 := Lib.hid hlen8
              clear hP8 hg8 hP9 hb8 hS8 ba8 bt8 bl8 hlen8 hPd hP7 hb7 hlD
              go_wp2
              go_roundw
              case rel => exact ⟨k + 1, l.take m ++ (a, b) :: l.drop m, g8, c8, by omega, by rw [HL8.out], by go_num, HE.out.1, by rw [HL8.out]; omega, HPUT, HE.out.2.1, HE.out.2.2.1, HE.out.2.2.2.1, HE.out.2.2.2.2⟩
              case measure => simp [intOf]; omega
            · skip
              go_wp2_with (at_builtin; refine append_pts rfl _ _ rfl W5.heap.size (m + 1) (n - m) _ _ _ (ptF (l.drop m)) ⟨g, m * 2, none⟩ hP7 rfl rfl hlD (fun i hi => by
                rw [hlD] at hi
                rw [add_pt, hPd.cell (j := m * 2 + i) (by omega), gI_nat _ _ (by rw [ptF_length, HN.out]; omega)]
                simp only [ptF_drop, List.getElem_drop, Nat.mul_comm]) hmD (by omega) ?_)
              intro A8 c8 w8 hP8 hg8
              obtain ⟨g8, rfl, hlen8, hP9, hb8⟩ := HN1.out A8 c8 w8 hP8 hg8
              have hS8 : Ints w8 0 (.slice (some ⟨gs, 0, none⟩) ss.length sc) ss := Row.below HQ.out.2.1 hb8
              have ba8 := HQ.out.2.2.1.below hb8
              have bt8 := HQ.out.2.2.2.1.below hb8
              have bl8 := bnext HQ.out.2.2.2.2.1 hb8
              have HE := Lib.hid (And.intro hP9 (And.intro hS8 (And.intro ba8 (And.intro bt8 bl8))))
              have HL8 := Lib.hid hlen8
              clear hP8 hg8 hP9 hb8 hS8 ba8 bt8 bl8 hlen8 hPd hP7 hb7 hlD
              go_wp2
              go_roundw
              case rel => exact ⟨k + 1, l.take m ++ (a, b) :: l.drop m, g8, c8, by omega, by rw [HL8.out], by go_num, HE.out.1, by rw [HL8.out]; omega, HPUT, HE.out.2.1, HE.out.2.2.1, HE.out.2.2.2.1, HE.out.2.2.2.2⟩
              case measure => simp [intOf]; omega
          · obtain ⟨j, rfl⟩ : ∃ j, m = j + 1 := ⟨m - 1, by omega⟩
            have hjl : j < l.length := by rw [HN.out]; omega
            obtain ⟨e0, e1⟩ := (show PRow wr (w.heap.size + 2) (.slice (some ⟨g, 0, none⟩) n d) l.length (ptF l) by rw [HN.out]; exact hP).at_ (i := j) hjl
            have hgj : ∃ q, l[j] = q := ⟨_, rfl⟩
            obtain ⟨q, hq⟩ := hgj
            obtain ⟨c1, c2⟩ := q
            rw [hq] at e0 e1
            simp only [] at e0 e1
            have HQJ := Lib.hid hq
            have j1 : (j : Int) < n := by omega
            have hjn : ((j : Int) + 1).toNat = j + 1 := by omega
            have hj0 : ((j : Int) + 1 - 1) = j := by omega
            have g0 : ((0 : Int) < (j : Int) + 1) = True := eq_true (by omega)
            have hw1 : IntKind.i64.wrap (j : Int) = j := by rw [IntKind.wrap_i64]; omega
            have HB2 := Lib.hid hb
            clear hP hS ba bt bl bx hb hq
            by_cases hlt2 : lt2 (a, b) (c1, c2)
            · have HLT : Hid (decide (lt2 (a, b) (c1, c2)) = true) := Lib.hid (decide_eq_true hlt2)
              have HGT : Hid (∀ (i : Nat) (hi : i < l.length), j ≤ i → lt2 (a, b) l[i]) := Lib.hid (fun i hi hji => by
                rcases Nat.lt_or_ge j i with h | h
                · exact hgt.out i hi h
                · have e : i = j := by omega
                  subst e
                  rw [HQJ.out]
                  exact hlt2)
              clear hlt2
              go_wp2
              go_region_law (go_simp; go_at_call 111; (with_reducible refine (l06Before_any HLT.out).mono ?_); rintro e w6 ⟨rfl, hb6⟩; have hB6 := bnext (w := wr) cut_drew hb6)
              all_goals
                have HB3 := Lib.hid (bnext HB2.out hB6)
                clear hb6 hB6 e0 e1 u0 u1 un
                go_wp2
                go_roundw
                case rel => exact ⟨j, by omega, by go_num, HGT, HB3.out⟩
                case measure => simp [intOf] <;> omega
            · have HLT : Hid (decide (lt2 (a, b) (c1, c2)) = false) := Lib.hid (decide_eq_false hlt2)
              have HNL := Lib.hid hlt2
              clear hlt2
              go_wp2
              go_region_law (go_simp; go_at_call 111; (with_reducible refine (l06Before_any HLT.out).mono ?_); rintro e w6 ⟨rfl, hb6⟩; have hB6 := bnext (w := wr) cut_drew hb6)
              all_goals
                have v0 := (hB6.cell (p := ⟨g, j * 2, none⟩) hgl).trans e0
                have v1 := (hB6.cell (p := ⟨g, j * 2 + 1, none⟩) hgl).trans e1
                have y0 := (hB6.cell (p := ⟨pb, 0, none⟩) un).trans u0
                have y1 := (hB6.cell (p := ⟨pb, 1, none⟩) un).trans u1
                have hg6 : g < w6.heap.size := by have := hB6.size; omega
                have hp6 : pb < w6.heap.size := by have := hB6.size; omega
                have HB4 := Lib.hid (bnext HB2.out hB6)
                clear hb6 hB6 e0 e1 u0 u1 un hgl
                by_cases heq : c1 = a ∧ c2 = b
                · obtain ⟨rfl, rfl⟩ := heq
                  have hpq := ptEqT c1 c2
                  go_wp2_with fail
                  go_quiet (fail)
                  obtain ⟨nq2, hnq2⟩ : ∃ z, z = nq := ⟨_, rfl⟩
                  rw [← hnq2]
                  have HB3 : Hid (Below W1.heap.size W1 (w6.drewN nq2)) := Lib.hid (bnext HB4.out (below_drewN _ _ _))
                  clear hnq2 v0 v1 y0 y1 hpq hg6 hp6
                  generalize (w6.drewN nq2) = W5 at HB3 ⊢
                  obtain ⟨hP, hS, ba, bt, bl, bx⟩ := HX.out
                  have HE := Lib.hid (And.intro (hP.below HB3.out) (And.intro (Row.below hS HB3.out) (And.intro (ba.below HB3.out) (And.intro (bt.below HB3.out) (bnext bl HB3.out)))))
                  have HSM : Hid (Srt l ∧ SamePts l (L.take (k + 1))) := Lib.hid ⟨hsr.out.1, orb_had hsr.out.2 HTE.out (by rw [← HQJ.out]; exact List.getElem_mem hjl)⟩
                  clear hP hS ba bt bl bx
                  go_wp2
                  go_roundw
                  case rel => exact ⟨k + 1, l, g, d, by omega, by rw [HN.out], by go_num, HE.out.1, by rw [HN.out]; omega, HSM, HE.out.2.1, HE.out.2.2.1, HE.out.2.2.2.1, HE.out.2.2.2.2⟩
                  case measure => simp [intOf]; omega
                · have hpq := ptEqF heq
                  have HNE := Lib.hid heq
                  clear heq
                  go_wp2_with fail
                  go_quiet (fail)
                  obtain ⟨nq2, hnq2⟩ : ∃ z, z = nq := ⟨_, rfl⟩
                  rw [← hnq2]
                  have HB3 : Hid (Below W1.heap.size W1 (w6.drewN nq2)) := Lib.hid (bnext HB4.out (below_drewN _ _ _))
                  clear hnq2 v0 v1 y0 y1 hpq hg6 hp6
                  generalize (w6.drewN nq2) = W5 at HB3 ⊢
                  have HPUT : Hid (Srt (l.take (j + 1) ++ (a, b) :: l.drop (j + 1)) ∧ SamePts (l.take (j + 1) ++ (a, b) :: l.drop (j + 1)) (L.take (k + 1))) := Lib.hid ⟨srt_put hsr.out.1 (by rw [HN.out]; exact hm) hgt.out (fun h => by
                    have e : l[j + 1 - 1]'(by omega) = (c1, c2) := HQJ.out
                    rw [e]
                    exact Classical.byContradiction fun h2 => HNE.out (by have := lt2_tri _ _ h2 HNL.out; injection this with h3 h4; exact ⟨h3, h4⟩)), orb_put hsr.out.2 HTE.out⟩
                  obtain ⟨hP, hS, ba, bt, bl, bx⟩ := HX.out
                  rw [HN.out] at hP
                  replace hP := hP.below HB3.out
                  replace hS := Row.below hS HB3.out
                  replace ba := ba.below HB3.out
                  replace bt := bt.below HB3.out
                  replace bx := bx.below HB3.out
                  replace bl := bnext bl HB3.out
                  have HQ := Lib.hid (And.intro hP (And.intro hS (And.intro ba (And.intro bt (And.intro bl bx)))))
                  have hg5 := (hP.lt (g := g) rfl).2
                  have hb5 := bx.lt
                  have hs5 := bl.size
                  have hN0 := PRow.none_ W5
                  have b1 := Joins.below_alloc1 W5 (.cells #[] 36)
                  have hP1 := hP.alloc (.cells #[] 36)
                  have hlM : (ptF (l.take (j + 1))).length = (j + 1) * 2 := by rw [ptF_length, List.length_take, HN.out]; omega
                  have hiM : ((j + 1) : Int) ≤ n := by omega
                  have hiD : ((j + 1) : Int) ≤ d := by omega
                  clear hP hS ba bt bl bx
                  go_wp2_with (at_builtin; refine append_pts rfl _ _ rfl W5.heap.size 0 (j + 1) d _ [] (ptF (l.take (j + 1))) ⟨g, 0, none⟩ hN0 rfl rfl hlM (fun i hi => by
                    rw [hlM] at hi
                    rw [add_pt, Nat.zero_add, hP1.cell (j := i) (by omega), gI_nat _ _ (by rw [ptF_length, HN.out]; omega)]
                    simp only [ptF_take, List.getElem_take]) (by omega) (by simp) ?_)
                  intro A6 c6 w6 hP6 hg6
                  try rw [Nat.zero_add, List.nil_append] at hP6
                  try rw [Nat.zero_add]
                  have hb6 : Below W5.heap.size W5 w6 := b1.grown hg6 (by simp) (fun j hj => by rw [ownBlock_slice] at hj; injection hj with hj; omega)
                  have hs6 := hb6.size
                  have bx6 := HQ.out.2.2.2.2.2.below hb6
                  have u0 := bx6.cell 0
                  have u1 := bx6.cell 1
                  have un := bx6.lt
                  simp only [List.getElem?_toArray, List.getElem?_cons_zero, List.getElem?_cons_succ] at u0 u1
                  clear b1 hP1 hg6 hN0 hlM
                  go_wp2_with (at_builtin; refine append_pt rfl _ _ rfl W5.heap.size _ (j + 1) _ (ptF (l.take (j + 1))) a b hP6 rfl rfl (by simp) (by omega) (by omega) ?_)
                  intro g7 c7 w7 hP7 hg7 _
                  have hb7 : Below W5.heap.size W5 w7 := hb6.grown hg7 hs6 (fun j hj => (PRow.lt hP6 hj).1)
                  have hs7 := hb7.size
                  have hPd := HQ.out.1.below hb7
                  have hlD : (ptF (l.drop (j + 1))).length = (n - (j + 1)) * 2 := by rw [ptF_length, List.length_drop, HN.out]; omega
                  clear hP6 hg7 hb6 hs6 bx6 u0 u1 un
                  have hn1 : ∀ (A8 : Option Addr) (c8 : Nat) (w8 : World), PRow w8 W5.heap.size (.slice A8 ((j + 1) + 1 + (n - (j + 1))) c8) ((j + 1) + 1 + (n - (j + 1))) (ptF (l.take (j + 1)) ++ a :: b :: ptF (l.drop (j + 1))) → w7.grownBy w8 (Value.slice (some ⟨g7, 0, none⟩) ((j + 1) + 1) c7).ownBlock →
                      ∃ g8, A8 = some ⟨g8, 0, none⟩ ∧ (l.take (j + 1) ++ (a, b) :: l.drop (j + 1)).length = (j + 1) + 1 + (n - (j + 1)) ∧ PRow w8 (w.heap.size + 2) (.slice (some ⟨g8, 0, none⟩) (l.take (j + 1) ++ (a, b) :: l.drop (j + 1)).length c8) (l.take (j + 1) ++ (a, b) :: l.drop (j + 1)).length (ptF (l.take (j + 1) ++ (a, b) :: l.drop (j + 1))) ∧ Below W5.heap.size W5 w8 := fun A8 c8 w8 hP8 hg8 => by
                    have hb8 : Below W5.heap.size W5 w8 := hb7.grown hg8 hs7 (fun j hj => (PRow.lt hP7 hj).1)
                    have hlen : (l.take (j + 1) ++ (a, b) :: l.drop (j + 1)).length = (j + 1) + 1 + (n - (j + 1)) := by
                      have := HN.out
                      rw [List.length_append, List.length_take, List.length_cons, List.length_drop]
                      omega
                    have e8 : ptF (l.take (j + 1)) ++ a :: b :: ptF (l.drop (j + 1)) = ptF (l.take (j + 1) ++ (a, b) :: l.drop (j + 1)) := by
                      rw [ptF_append]
                      rfl
                    rw [e8] at hP8
                    obtain ⟨A9, c9, hv9, _, hA9⟩ := hP8.open_
                    injection hv9 with hv91 hv92 hv93
                    subst hv91
                    obtain ⟨g8, rfl, _, _⟩ := hA9 (by omega)
                    exact ⟨g8, rfl, hlen, by rw [hlen]; exact hP8.le (by omega), hb8⟩
                  have HN1 := Lib.hid hn1
                  clear hn1
                  have hmD : (j + 1) + 1 + (n - (j + 1)) < 1000000 := by omega
                  by_cases hdm : d = (j + 1)
                  · skip
                    go_wp2_with (at_builtin; refine append_pts rfl _ _ rfl W5.heap.size ((j + 1) + 1) (n - (j + 1)) _ _ _ (ptF (l.drop (j + 1))) ⟨g, 0, none⟩ hP7 rfl rfl hlD (fun i hi => absurd hi (by rw [hlD]; omega)) hmD (by omega) ?_)
                    intro A8 c8 w8 hP8 hg8
                    obtain ⟨g8, rfl, hlen8, hP9, hb8⟩ := HN1.out A8 c8 w8 hP8 hg8
                    have hS8 : Ints w8 0 (.slice (some ⟨gs, 0, none⟩) ss.length sc) ss := Row.below HQ.out.2.1 hb8
                    have ba8 := HQ.out.2.2.1.below hb8
                    have bt8 := HQ.out.2.2.2.1.below hb8
                    have bl8 := bnext HQ.out.2.2.2.2.1 hb8
                    have HE := Lib.hid (And.intro hP9 (And.intro hS8 (And.intro ba8 (And.intro bt8 bl8))))
                    have HL8 := Lib.hid hlen8
                    clear hP8 hg8 hP9 hb8 hS8 ba8 bt8 bl8 hlen8 hPd hP7 hb7 hlD
                    go_wp2
                    go_roundw
                    case rel => exact ⟨k + 1, l.take (j + 1) ++ (a, b) :: l.drop (j + 1), g8, c8, by omega, by rw [HL8.out], by go_num, HE.out.1, by rw [HL8.out]; omega, HPUT, HE.out.2.1, HE.out.2.2.1, HE.out.2.2.2.1, HE.out.2.2.2.2⟩
                    case measure => simp [intOf]; omega
                  · skip
                    go_wp2_with (at_builtin; refine append_pts rfl _ _ rfl W5.heap.size ((j + 1) + 1) (n - (j + 1)) _ _ _ (ptF (l.drop (j + 1))) ⟨g, (j + 1) * 2, none⟩ hP7 rfl rfl hlD (fun i hi => by
                      rw [hlD] at hi
                      rw [add_pt, hPd.cell (j := (j + 1) * 2 + i) (by omega), gI_nat _ _ (by rw [ptF_length, HN.out]; omega)]
                      simp only [ptF_drop, List.getElem_drop, Nat.mul_comm]) hmD (by omega) ?_)
                    intro A8 c8 w8 hP8 hg8
                    obtain ⟨g8, rfl, hlen8, hP9, hb8⟩ := HN1.out A8 c8 w8 hP8 hg8
                    have hS8 : Ints w8 0 (.slice (some ⟨gs, 0, none⟩) ss.length sc) ss := Row.below HQ.out.2.1 hb8
                    have ba8 := HQ.out.2.2.1.below hb8
                    have bt8 := HQ.out.2.2.2.1.below hb8
                    have bl8 := bnext HQ.out.2.2.2.2.1 hb8
                    have HE := Lib.hid (And.intro hP9 (And.intro hS8 (And.intro ba8 (And.intro bt8 bl8))))
                    have HL8 := Lib.hid hlen8
                    clear hP8 hg8 hP9 hb8 hS8 ba8 bt8 bl8 hlen8 hPd hP7 hb7 hlD
                    go_wp2
                    go_roundw
                    case rel => exact ⟨k + 1, l.take (j + 1) ++ (a, b) :: l.drop (j + 1), g8, c8, by omega, by rw [HL8.out], by go_num, HE.out.1, by rw [HL8.out]; omega, HPUT, HE.out.2.1, HE.out.2.2.1, HE.out.2.2.2.1, HE.out.2.2.2.2⟩
                    case measure => simp [intOf]; omega
    · have e : k = ss.length := by omega
      subst e
      have hLt : L.take ss.length = L := List.take_of_length_le (by rw [HLL.out]; exact Nat.le_refl _)
      have he : l = ps := by
        rw [← HM.out, HL.out]
        have h2 := hsr.out.2
        rw [hLt] at h2
        exact orbL_is hsr.out.1 h2
      subst he
      have hr1 := HR.out
      subst hr1
      have HPE : Hid (PtsIn wr w.heap.size wr.heap.size (.slice (some ⟨g, 0, none⟩) l.length d) l) := Lib.hid ⟨hP.le (by omega), fun k hk => (hP.lt hk).2, Nat.le_refl _, by omega⟩
      have HBE := Lib.hid bl
      clear hP bl ba bb hS hLt
      go_wp2
      go_ret2
      exact ⟨_, d, rfl, HPE.out, HBE.out⟩
end Go.Proofs.Ytihfdgnocdphcaa
