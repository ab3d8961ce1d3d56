/-
  Words and laws of memory of this seat, in one text.
-/
import Derived.Test.YtihfdgnocdphcaaDrw
import Derived.Test.YtihfdgnocdphcaaSymG
import Derived.Test.YtihfdgnocdphcaaVal
import Derived.Test.YtihfdgnocdphcaaNum
namespace Go.Proofs.Ytihfdgnocdphcaa
open Go.RowKit Knot

theorem symP_any {w : World} {lo hi : Nat} {x y : Int} {v : Value} {xs : List Int} (hp : IntsIn w lo hi v xs) (s : Int) :
    Calls Try.prog 35 #[.agg #[.int .i64 x, .int .i64 y, v], .int .i64 s] w fun e w' => ∃ (px py r : Int) (A : Option Addr) (c : Nat) (zs : List Int), e = .returned (.tuple #[.agg #[.int .i64 px, .int .i64 py, .slice A zs.length c], .int .i64 r]) ∧
      IntsIn w' w.heap.size w'.heap.size (.slice A zs.length c) zs ∧ Below w.heap.size w w' := by
  obtain ⟨⟨px, py, zs, r⟩, hm⟩ : ∃ q, symM ⟨x, y, xs⟩ s = q := ⟨_, rfl⟩
  refine (K_spec_SymmetricPanel hp hm).mono ?_
  rintro e w' ⟨A, c, rfl, h1, h2⟩
  exact ⟨px, py, r, A, c, zs, rfl, h1, h2⟩
theorem Chg.allocc {lo hi : Nat} {w a : World} (h : Chg lo hi w a) (o : Obj) : Chg lo hi w (a.alloc o) := h.trans (Chg.ofBelow (Joins.below_alloc1 a o))
theorem chg_drew (b : Nat) (V : World) : Chg b (b + 1) V V.drew := Chg.ofBelow (below_drewN _ _ 1)
/-- A panel laid into a new variable's box. -/
theorem pan_put {w3 w7 : World} {b k lo M c : Nat} {A : Option Addr} {X Y : Int} {B : List Int} (hz : Box w7 k 30 #[.int .i64 0, .int .i64 0, .slice none 0 0]) (hI : IntsIn w7 lo w7.heap.size (.slice A B.length c) B) (hk : k < lo) (hS : Src w7 b M) (hb : b < k) (hc : Chg b (b + 1) w3 w7) (h3 : w3.heap.size ≤ k) :
    Box (((w7.setCell ⟨k, 0, none⟩ (.int .i64 X)).setCell ⟨k, 1, none⟩ (.int .i64 Y)).setCell ⟨k, 2, none⟩ (.slice A B.length c)) k 30 #[.int .i64 X, .int .i64 Y, .slice A B.length c] ∧
    IntsIn (((w7.setCell ⟨k, 0, none⟩ (.int .i64 X)).setCell ⟨k, 1, none⟩ (.int .i64 Y)).setCell ⟨k, 2, none⟩ (.slice A B.length c)) w3.heap.size (((w7.setCell ⟨k, 0, none⟩ (.int .i64 X)).setCell ⟨k, 1, none⟩ (.int .i64 Y)).setCell ⟨k, 2, none⟩ (.slice A B.length c)).heap.size (.slice A B.length c) B ∧
    Src (((w7.setCell ⟨k, 0, none⟩ (.int .i64 X)).setCell ⟨k, 1, none⟩ (.int .i64 Y)).setCell ⟨k, 2, none⟩ (.slice A B.length c)) b M ∧ Chg b (b + 1) w3 (((w7.setCell ⟨k, 0, none⟩ (.int .i64 X)).setCell ⟨k, 1, none⟩ (.int .i64 Y)).setCell ⟨k, 2, none⟩ (.slice A B.length c)) := by
  have hne : ∀ g' : Nat, (Value.slice A B.length c).ownBlock = some g' → g' ≠ k := fun g' hg' => by have := (Row.lt hI.1 hg').1; omega
  refine ⟨cut_box3 hz _ _ _, ⟨Row.le (Row.setCell (Row.setCell (Row.setCell hI.1 (p := ⟨k, 0, none⟩) hne _) (p := ⟨k, 1, none⟩) hne _) (p := ⟨k, 2, none⟩) hne _) (by omega), fun j hj => by simp only [World.size_setCell]; exact hI.2.1 j hj, Nat.le_refl _, hI.len⟩, ?_, ?_⟩
  · exact ((hS.put (p := ⟨k, 0, none⟩) hb _).put (p := ⟨k, 1, none⟩) hb _).put (p := ⟨k, 2, none⟩) hb _
  · exact ((hc.put (p := ⟨k, 0, none⟩) h3 _).put (p := ⟨k, 1, none⟩) h3 _).put (p := ⟨k, 2, none⟩) h3 _
set_option maxRecDepth 20000 in
set_option maxHeartbeats 8000000 in
theorem l06Draw_any {w : World} {b m : Nat} (hs : Src w b m) (hm : m ≤ 1000000) :
    Calls Try.prog 99 #[.pointer (some ⟨b, 0, none⟩)] w fun e w' => ∃ (X Y : Int) (A : Option Addr) (c : Nat) (B : List Int), e = .returned (.agg #[.int .i64 X, .int .i64 Y, .slice A B.length c]) ∧
      IntsIn w' w.heap.size w'.heap.size (.slice A B.length c) B ∧ Src w' b (m + 3000) ∧ Chg b (b + 1) w w' := by
  have hbw := hs.lt
  have ZO := Box.new w 30 #[.int .i64 0, .int .i64 0, .slice none 0 0]
  have hs0 := hs.below (Joins.below_alloc1 w (.cells #[.int .i64 0, .int .i64 0, .slice none 0 0] 30))
  have hc0 : Chg b (b + 1) w (w.alloc (.cells #[.int .i64 0, .int .i64 0, .slice none 0 0] 30)) := Chg.ofBelow (Joins.below_alloc1 w _)
  have hz1 : w.heap.size + 1 ≤ (w.alloc (.cells #[.int .i64 0, .int .i64 0, .slice none 0 0] 30)).heap.size := by simp
  clear hs
  go_enter Try.func99, Try.ntmps99
  go_wp2_with fail
  generalize (w.alloc (.cells #[.int .i64 0, .int .i64 0, .slice none 0 0] 30)) = V at ZO hs0 hc0 hz1 ⊢
  refine (l02Draw_any hs0 (by omega) (by omega) (by omega)).mono ?_
  rintro e w2 ⟨X, Y, g, B, rfl, hok, _, hI, hS2, hc2⟩
  replace ZO := ZO.chgb hc2 (by omega)
  replace hc0 := hc0.trans hc2
  have sz2 := hc2.size
  have bp := Box.new w2 30 #[.int .i64 X, .int .i64 Y, .slice (some ⟨g, 0, none⟩) B.length B.length]
  replace ZO := ZO.alloc (.cells #[.int .i64 X, .int .i64 Y, .slice (some ⟨g, 0, none⟩) B.length B.length] 30)
  replace hI := hI.alloc (.cells #[.int .i64 X, .int .i64 Y, .slice (some ⟨g, 0, none⟩) B.length B.length] 30)
  replace hS2 := hS2.below (Joins.below_alloc1 w2 (.cells #[.int .i64 X, .int .i64 Y, .slice (some ⟨g, 0, none⟩) B.length B.length] 30))
  replace hc0 := Chg.new hc0 (.cells #[.int .i64 X, .int .i64 Y, .slice (some ⟨g, 0, none⟩) B.length B.length] 30)
  obtain ⟨pp, hpp⟩ : ∃ pp, w2.heap.size = pp := ⟨_, rfl⟩
  rw [hpp] at bp hI sz2
  clear hok hs0 hc2
  go_wp2_with fail
  try rw [hpp]
  generalize hV : w2.alloc (.cells #[.int .i64 X, .int .i64 Y, .slice (some ⟨g, 0, none⟩) B.length B.length] 30) = V2 at *
  clear hV
  refine (src_one hS2 (by omega) (by omega)).mono ?_
  rintro e w3 ⟨r0, rfl, hS3, hc3⟩
  replace ZO := ZO.chgb hc3 (by omega)
  replace bp := bp.chgb hc3 (by omega)
  replace hI := hI.chgb hc3 (by omega)
  replace hc0 := hc0.trans hc3
  have sz3 := bp.lt
  clear hS2 hc3
  have hbp : b < pp := by omega
  have hzp : w.heap.size < pp := by omega
  have hb3 : b < w3.heap.size := by omega
  have hpb : pp ≠ b := by omega
  have HK : Hid (∀ (r1 : Bool) (w4 : World) (M : Nat), Chg b (b + 1) w3 w4 → Src w4 b M → True) := Lib.hid (fun _ _ _ _ _ => trivial)
  have HBB : Hid (∀ w', Chg b (b + 1) w3 w' → Box w' w.heap.size 30 #[.int .i64 0, .int .i64 0, .slice none 0 0] ∧ Box w' pp 30 #[.int .i64 X, .int .i64 Y, .slice (some ⟨g, 0, none⟩) B.length B.length] ∧ IntsIn w' V.heap.size pp (.slice (some ⟨g, 0, none⟩) B.length B.length) B ∧ Chg b (b + 1) w w') :=
    Lib.hid (fun w' hc => ⟨ZO.chgb hc (by omega), bp.chgb hc hpb, hI.chgb hc (by omega), hc0.trans hc⟩)
  have HS := Lib.hid hS3
  have HW : Hid (V.heap.size ≤ pp ∧ w.heap.size + 1 ≤ V.heap.size) := Lib.hid ⟨sz2, hz1⟩
  clear HK ZO bp hI hc0 hS3 sz2 hz1 hpp
  have key : ∀ (w4 : World) (M : Nat), Chg b (b + 1) w3 w4 → Src w4 b M → M ≤ m + 1100 → Calls Try.prog 102 #[.pointer (some ⟨b, 0, none⟩), .int .i64 8] w4 fun e w' => ∃ r : Bool, e = .returned (.bool r) ∧ Src w' b (M + 1) ∧ Chg b (b + 1) w3 w' := fun w4 M hc hS hM => by
    refine (src_one hS (by omega) (by omega)).mono ?_
    rintro e w' ⟨r, rfl, hS', hc'⟩
    exact ⟨r, rfl, hS', hc.trans hc'⟩
  have HKEY := Lib.hid key
  clear key
  cases r0
  · skip
    go_wp2_with fail
    refine (HKEY.out _ _ (Chg.ofBelow (Below.refl _ _)) (HS.out) (by omega)).mono ?_
    rintro e w8 ⟨r8, rfl, hS8, hc8⟩
    cases r8
    · obtain ⟨ZO, bp, hI, hc0⟩ := HBB.out w8 hc8
      have p0 := bp.cell 0
      have p1 := bp.cell 1
      have p2 := bp.cell 2
      have pn := bp.lt
      simp only [List.getElem?_toArray, List.getElem?_cons_zero, List.getElem?_cons_succ] at p0 p1 p2
      have z0 := ZO.cell 0
      have z1 := ZO.cell 1
      have z2 := ZO.cell 2
      have zf0 := ZO.free 0
      have zf1 := ZO.free 1
      have zf2 := ZO.free 2
      have zn := ZO.lt
      simp only [List.getElem?_toArray, List.getElem?_cons_zero, List.getElem?_cons_succ] at z0 z1 z2
      have HE := Lib.hid (pan_end (X := X) (Y := Y) hbw (hI.wider HW.out.2 hI.2.2.1 (Nat.le_refl _)) hS8 hc0)
      have hp1 : pp ≠ w.heap.size := by omega
      clear bp ZO hI hS8 hc0 hc8
      go_wp2_with fail
      refine bodyPost_ret (v := .agg #[.int .i64 X, .int .i64 Y, .slice (some ⟨g, 0, none⟩) B.length B.length]) ?_ rfl ?_
      · simp [results, Try.results99, go_sem, zn, z0, z1, z2, p0, p1, p2]
      · exact ⟨X, Y, _, _, B, rfl, HE.out.1, HE.out.2.1.more (by omega), HE.out.2.2⟩
    · go_wp2_with fail
      refine (l02Bent_any hS8 (by omega)).mono ?_
      rintro e w9 ⟨X2, Y2, A2, c2, B2, rfl, hI2, hS9, hc9⟩
      obtain ⟨ZO, _, _, hc0⟩ := HBB.out w9 (hc8.trans hc9)
      have sz8 := hc8.size
      have z0 := ZO.cell 0
      have z1 := ZO.cell 1
      have z2 := ZO.cell 2
      have zf0 := ZO.free 0
      have zf1 := ZO.free 1
      have zf2 := ZO.free 2
      have zn := ZO.lt
      simp only [List.getElem?_toArray, List.getElem?_cons_zero, List.getElem?_cons_succ] at z0 z1 z2
      have HE := Lib.hid (pan_end (X := X2) (Y := Y2) hbw (hI2.wider (by omega) (Nat.le_refl _) (Nat.le_refl _)) hS9 hc0)
      clear ZO hI2 hS9 hc0 hc8 hc9 hS8
      go_wp2_with fail
      refine bodyPost_ret (v := .agg #[.int .i64 X2, .int .i64 Y2, .slice A2 B2.length c2]) ?_ rfl ?_
      · simp [results, Try.results99, go_sem, zn, z0, z1, z2]
      · exact ⟨X2, Y2, A2, c2, B2, rfl, HE.out.1, HE.out.2.1.more (by omega), HE.out.2.2⟩
  · skip
    obtain ⟨h1, h2, h3, h4⟩ := HBB.out w3 (Chg.ofBelow (Below.refl _ _))
    have p0 := h2.cell 0
    have p1 := h2.cell 1
    have p2 := h2.cell 2
    have pn := h2.lt
    simp only [List.getElem?_toArray, List.getElem?_cons_zero, List.getElem?_cons_succ] at p0 p1 p2
    have HS0 : Hid (Src w3.drew b (m + 1001)) := Lib.hid (HS.out.drewN 1)
    have HS1 : Hid (Src (w3.alloc (.cells #[.int .i64 0, .int .i64 0, .slice none 0 0] 30)).drew b (m + 1001)) := Lib.hid ((HS.out.below (Joins.below_alloc1 _ _)).drewN 1)
    have KS : Hid (∀ w', Chg b (b + 1) w3 w' → (Chg b (b + 1) w3 w' ∧ w'.cell? ⟨pp, 0, none⟩ = some (.int .i64 X) ∧ w'.cell? ⟨pp, 1, none⟩ = some (.int .i64 Y) ∧ w'.cell? ⟨pp, 2, none⟩ = some (.slice (some ⟨g, 0, none⟩) B.length B.length))) :=
      Lib.hid (fun w' hc => ⟨hc, (HBB.out w' hc).2.1.cell 0, (HBB.out w' hc).2.1.cell 1, (HBB.out w' hc).2.1.cell 2⟩)
    have HIK : Hid (∀ w', Chg b (b + 1) w3 w' → IntsIn w' V.heap.size pp (.slice (some ⟨g, 0, none⟩) B.length B.length) B) := Lib.hid (fun w' hc => (HBB.out w' hc).2.2.1)
    have hm1 : m + 1001 ≤ 1000000000 := by omega
    have hzb : w3.heap.size ≠ b := by omega
    clear h1 h2 h3 h4
    go_wp2
    go_cut [4, 5] (fun s4 s5 wc => ∃ (px : Nat) (X1 Y1 r1 : Int) (A1 : Option Addr) (c1 : Nat) (B1 : List Int), s4 = .pointer (some ⟨px, 0, none⟩) ∧ s5 = .int .i64 r1 ∧ Box wc px 30 #[.int .i64 X1, .int .i64 Y1, .slice A1 B1.length c1] ∧ IntsIn wc w3.heap.size wc.heap.size (.slice A1 B1.length c1) B1 ∧ Src wc b (m + 1002) ∧ w3.heap.size ≤ px ∧ Chg b (b + 1) w3 wc)
    case first =>
      go_region_held3 (fun w' => Chg b (b + 1) w3 w' ∧ w'.cell? ⟨pp, 0, none⟩ = some (.int .i64 X) ∧ w'.cell? ⟨pp, 1, none⟩ = some (.int .i64 Y) ∧ w'.cell? ⟨pp, 2, none⟩ = some (.slice (some ⟨g, 0, none⟩) B.length B.length))
        ((refine KS.out _ ?_; first | exact hC7 | exact hC6 | exact chg_drew _ _ | exact Chg.allocc hC7 _ | exact Chg.allocc hC6 _ | exact Chg.allocc (chg_drew _ _) _ | exact Chg.trans (Chg.allocc (Chg.ofBelow (Below.refl _ _)) _) (chg_drew _ _) | exact Chg.allocc (by assumption) _ | (refine Chg.put (Chg.put (Chg.put (by assumption) ?_ _) ?_ _) ?_ _ <;> (first | exact Nat.le_refl _ | exact hC6.size)) | assumption))
        (first
          | (go_at_call 103; go_split_ands; first
              | ((with_reducible refine (src_pick HS0.out hm1 (by omega)).mono ?_); rintro e w6 ⟨i, rfl, i0, i1, _, hS6, hc6⟩; have hC6 := Chg.trans (chg_drew b w3) hc6)
              | ((with_reducible refine (src_pick HS1.out hm1 (by omega)).mono ?_); rintro e w6 ⟨i, rfl, i0, i1, _, hS6, hc6⟩; have hs6 : w3.heap.size + 1 ≤ w6.heap.size := (by have := hc6.size; simp only [World.size_drew, World.size_alloc] at this; exact this); have hC6 := Chg.trans (Chg.trans (Chg.allocc (Chg.ofBelow (Below.refl _ w3)) _) (chg_drew b _)) hc6; have hz := Box.chgb (cut_drewbox (Box.new w3 30 #[.int .i64 0, .int .i64 0, .slice none 0 0])) hc6 hzb))
          | (go_at_call 35; go_split_ands; have hsz6 := hC6.size; (with_reducible refine (symP_any (HIK.out _ (by assumption)) _).mono ?_); rintro e w7 ⟨X1, Y1, r1, A1, c1, B1, rfl, rh, hb7⟩; have hsz7 := hb7.size; have hC7 := Chg.trans (b := _) (by assumption) (Chg.ofBelow (lo := b) (hi := b + 1) hb7); (first | (have hS7 := hS6.below hb7) | (have hS7 := (hS6.below (Joins.below_alloc1 _ _)).below hb7)); (first | (replace hz := hz.below hb7) | (have hz := (Box.new _ 30 #[.int .i64 0, .int .i64 0, .slice none 0 0]).below hb7) | skip); try (skip; have hzl := hz.lt; have z0 := hz.cell 0; have y0 := hz.free 0; have z1 := hz.cell 1; have y1 := hz.free 1; have z2 := hz.cell 2; have y2 := hz.free 2; have zn := hz.lt)))
      all_goals go_wp2_with fail
      all_goals go_meet
      all_goals first
        | exact ⟨_, X1, Y1, r1, A1, c1, B1, rfl, rfl, Box.new _ _ _, (rh.alloc _).wider (by omega) (by simp) (Nat.le_refl _), hS7.below (Joins.below_alloc1 _ _), by omega, Chg.allocc hC7 _⟩
        | (have hp := pan_put (X := X1) (Y := Y1) hz rh (by (try simp only [World.size_alloc]); omega) hS7 (by omega) hC7 (by omega); exact ⟨_, X1, Y1, r1, A1, c1, B1, rfl, rfl, hp.1, hp.2.1, hp.2.2.1, by omega, hp.2.2.2⟩)
    case rest =>
      obtain ⟨px, X1, Y1, r1, A1, c1, B1, rfl, rfl, bx, hI1, hS4, hpx, hc4⟩ := hcut
      obtain ⟨w4, hW4⟩ : ∃ x, x = wc := ⟨wc, rfl⟩
      subst hW4
      clear p0 p1 p2 pn KS HIK HS0 HS1
      by_cases hr1 : r1 = 0
      · subst hr1
        obtain ⟨ZO, _, _, hc0⟩ := HBB.out w4 hc4
        have p0 := bx.cell 0
        have p1 := bx.cell 1
        have p2 := bx.cell 2
        have pn := bx.lt
        simp only [List.getElem?_toArray, List.getElem?_cons_zero, List.getElem?_cons_succ] at p0 p1 p2
        have z0 := ZO.cell 0
        have z1 := ZO.cell 1
        have z2 := ZO.cell 2
        have zf0 := ZO.free 0
        have zf1 := ZO.free 1
        have zf2 := ZO.free 2
        have zn := ZO.lt
        simp only [List.getElem?_toArray, List.getElem?_cons_zero, List.getElem?_cons_succ] at z0 z1 z2
        have HE := Lib.hid (pan_end (X := X1) (Y := Y1) hbw (hI1.wider (by omega) (Nat.le_refl _) (Nat.le_refl _)) hS4 hc0)
        have hp1 : px ≠ w.heap.size := by omega
        clear bx ZO hI1 hS4
        go_wp2_with fail
        refine bodyPost_ret (v := .agg #[.int .i64 X1, .int .i64 Y1, .slice A1 B1.length c1]) ?_ rfl ?_
        · simp [results, Try.results99, go_sem, zn, z0, z1, z2, p0, p1, p2]
        · exact ⟨X1, Y1, A1, c1, B1, rfl, HE.out.1, HE.out.2.1.more (by omega), HE.out.2.2⟩
      · have b0 : (r1 == 0) = false := beq_eq_false_iff_ne.2 hr1
        clear bx hI1 hr1
        go_wp2_with fail
        refine (HKEY.out _ _ hc4 (hS4) (by omega)).mono ?_
        rintro e w8 ⟨r8, rfl, hS8, hc8⟩
        cases r8
        · obtain ⟨ZO, bp, hI, hc0⟩ := HBB.out w8 hc8
          have p0 := bp.cell 0
          have p1 := bp.cell 1
          have p2 := bp.cell 2
          have pn := bp.lt
          simp only [List.getElem?_toArray, List.getElem?_cons_zero, List.getElem?_cons_succ] at p0 p1 p2
          have z0 := ZO.cell 0
          have z1 := ZO.cell 1
          have z2 := ZO.cell 2
          have zf0 := ZO.free 0
          have zf1 := ZO.free 1
          have zf2 := ZO.free 2
          have zn := ZO.lt
          simp only [List.getElem?_toArray, List.getElem?_cons_zero, List.getElem?_cons_succ] at z0 z1 z2
          have HE := Lib.hid (pan_end (X := X) (Y := Y) hbw (hI.wider HW.out.2 hI.2.2.1 (Nat.le_refl _)) hS8 hc0)
          have hp1 : pp ≠ w.heap.size := by omega
          clear bp ZO hI hS8 hc0 hc8
          go_wp2_with fail
          refine bodyPost_ret (v := .agg #[.int .i64 X, .int .i64 Y, .slice (some ⟨g, 0, none⟩) B.length B.length]) ?_ rfl ?_
          · simp [results, Try.results99, go_sem, zn, z0, z1, z2, p0, p1, p2]
          · exact ⟨X, Y, _, _, B, rfl, HE.out.1, HE.out.2.1.more (by omega), HE.out.2.2⟩
        · go_wp2_with fail
          refine (l02Bent_any hS8 (by omega)).mono ?_
          rintro e w9 ⟨X2, Y2, A2, c2, B2, rfl, hI2, hS9, hc9⟩
          obtain ⟨ZO, _, _, hc0⟩ := HBB.out w9 (hc8.trans hc9)
          have sz8 := hc8.size
          have z0 := ZO.cell 0
          have z1 := ZO.cell 1
          have z2 := ZO.cell 2
          have zf0 := ZO.free 0
          have zf1 := ZO.free 1
          have zf2 := ZO.free 2
          have zn := ZO.lt
          simp only [List.getElem?_toArray, List.getElem?_cons_zero, List.getElem?_cons_succ] at z0 z1 z2
          have HE := Lib.hid (pan_end (X := X2) (Y := Y2) hbw (hI2.wider (by omega) (Nat.le_refl _) (Nat.le_refl _)) hS9 hc0)
          clear ZO hI2 hS9 hc0 hc8 hc9 hS8
          go_wp2_with fail
          refine bodyPost_ret (v := .agg #[.int .i64 X2, .int .i64 Y2, .slice A2 B2.length c2]) ?_ rfl ?_
          · simp [results, Try.results99, go_sem, zn, z0, z1, z2]
          · exact ⟨X2, Y2, A2, c2, B2, rfl, HE.out.1, HE.out.2.1.more (by omega), HE.out.2.2⟩
end Go.Proofs.Ytihfdgnocdphcaa

namespace Go.Proofs.Ytihfdgnocdphcaa
open Go.RowKit Knot

theorem pt_end {w W9 : World} {b M : Nat} {x y : Int} (hbz : b < w.heap.size) (hS : Src W9 b M) (hc : Chg b (b + 1) w W9) :
    Src ((W9.setCell ⟨w.heap.size, 0, none⟩ (.int .i64 x)).setCell ⟨w.heap.size, 1, none⟩ (.int .i64 y)) b M ∧ Chg b (b + 1) w ((W9.setCell ⟨w.heap.size, 0, none⟩ (.int .i64 x)).setCell ⟨w.heap.size, 1, none⟩ (.int .i64 y)) :=
  ⟨(hS.put (p := ⟨w.heap.size, 0, none⟩) hbz _).put (p := ⟨w.heap.size, 1, none⟩) hbz _, (hc.put (p := ⟨w.heap.size, 0, none⟩) (Nat.le_refl _) _).put (p := ⟨w.heap.size, 1, none⟩) (Nat.le_refl _) _⟩
set_option maxRecDepth 20000 in
set_option maxHeartbeats 8000000 in
theorem l02DrawPoint_any {w : World} {b m bq lo hi : Nat} {X Y : Int} {v : Value} {B : List Int} (hs : Src w b m) (hq : Box w bq 30 #[.int .i64 X, .int .i64 Y, v]) (hI : IntsIn w lo hi v B) (hbl : b < lo) (hbq : bq ≠ b) (hm : m ≤ 1000000) :
    Calls Try.prog 108 #[.pointer (some ⟨b, 0, none⟩), .pointer (some ⟨bq, 0, none⟩)] w fun e w' => ∃ x y : Int, e = .returned (.agg #[.int .i64 x, .int .i64 y]) ∧ Src w' b (m + 10) ∧ Chg b (b + 1) w w' := by
  obtain ⟨A, c, rfl, _, hA⟩ := hI.1.open_
  have hbw := hs.lt
  have hql := hq.lt
  have O := Joins.below_alloc1 w (.cells #[.int .i64 0, .int .i64 0] 36)
  have ZO := Box.new w 36 #[.int .i64 0, .int .i64 0]
  have hs0 := hs.below O
  have hq0 := hq.below O
  have hI0 := hI.below O
  have hc0 : Chg b (b + 1) w (w.alloc (.cells #[.int .i64 0, .int .i64 0] 36)) := Chg.ofBelow O
  clear hs hq hI O hA
  by_cases hok : Ok ⟨X, Y, B⟩
  rotate_left
  · have HO := Lib.hid hok
    clear hok
    go_enter Try.func108, Try.ntmps108
    go_wp2_with fail
    generalize (w.alloc (.cells #[.int .i64 0, .int .i64 0] 36)) = V at *
    refine (l02Ok_any _ X Y _ B false (no_iff HO.out) _ ⟨hq0, hI0.ints⟩).mono ?_
    rintro e w2 ⟨rfl, hd⟩
    have hb := bdrawn hd
    have hS2 := hs0.below hb
    have ZO2 := ZO.below hb
    have hc2 := hc0.trans (Chg.ofBelow hb)
    clear hb hd hs0 ZO hc0 hq0 hI0
    go_wp2_with fail
    refine (src_pick hS2 (by omega) (by omega)).mono ?_
    rintro e w3 ⟨x, rfl, x0, x1, _, hS3, hc3⟩
    have x2 := x1 (by omega)
    have hZ3 := ZO2.chgb hc3 (by omega)
    have hc33 := hc2.trans hc3
    clear hS2 ZO2 hc2 hc3 x1
    go_wp2_with fail
    refine (src_pick hS3 (by omega) (by omega)).mono ?_
    rintro e w4 ⟨y, rfl, y0, y1, _, hS4, hc4⟩
    have y2 := y1 (by omega)
    have hZ4 := (hZ3.chgb hc4 (by omega)).alloc (.cells #[.int .i64 (x - 1), .int .i64 (y - 1)] 36)
    have hc44 := (hc33.trans hc4).allocc (.cells #[.int .i64 (x - 1), .int .i64 (y - 1)] 36)
    have hS44 := hS4.below (Joins.below_alloc1 w4 (.cells #[.int .i64 (x - 1), .int .i64 (y - 1)] 36))
    have bt := Box.new w4 36 #[.int .i64 (x - 1), .int .i64 (y - 1)]
    have hlt4 := (hc33.trans hc4).size
    have hbs4 := hS4.lt
    have hzl4 := (hZ3.chgb hc4 (by omega)).lt
    obtain ⟨pt, hpt⟩ : ∃ pt, w4.heap.size = pt := ⟨_, rfl⟩
    rw [hpt] at bt hlt4 hbs4 hzl4
    clear hS3 hZ3 hc33 hc4 hS4 y1
    go_wp2_with fail
    try rw [hpt]
    generalize hV4 : w4.alloc (.cells #[.int .i64 (x - 1), .int .i64 (y - 1)] 36) = V4 at *
    clear hV4
    refine (src_one hS44 (by omega) (by omega)).mono ?_
    rintro e w5 ⟨r, rfl, hS5, hc5⟩
    have hZ5 := hZ4.chgb hc5 (by omega)
    have bt5 := bt.chgb hc5 (by omega)
    have hc55 := hc44.trans hc5
    clear hZ4 bt hc44 hS44 hc5
    cases r
    · skip
      have z0 := hZ5.cell 0
      have z1 := hZ5.cell 1
      have zf0 := hZ5.free 0
      have zf1 := hZ5.free 1
      have zn := hZ5.lt
      simp only [List.getElem?_toArray, List.getElem?_cons_zero, List.getElem?_cons_succ] at z0 z1
      have u0 := bt5.cell 0
      have u1 := bt5.cell 1
      have un := bt5.lt
      simp only [List.getElem?_toArray, List.getElem?_cons_zero, List.getElem?_cons_succ] at u0 u1
      have HE := Lib.hid (pt_end (x := x - 1) (y := y - 1) hbw hS5 hc55)
      have hp1 : pt ≠ w.heap.size := by omega
      clear hZ5 bt5 hS5 hc55
      go_wp2_with fail
      refine bodyPost_ret (v := .agg #[.int .i64 (x - 1), .int .i64 (y - 1)]) ?_ rfl ?_
      · simp [results, Try.results108, go_sem, zn, z0, z1, u0, u1]
      · exact ⟨_, _, rfl, HE.out.1.more (by omega), HE.out.2⟩
    · have hl := lit2 w5 (-9223372036854775808) 9223372036854775807
      have hS6 := hS5.below (Joins.below_alloc1 w5 (.cells #[.int .i64 (-9223372036854775808), .int .i64 9223372036854775807] 2))
      have hZ6 := hZ5.alloc (.cells #[.int .i64 (-9223372036854775808), .int .i64 9223372036854775807] 2)
      have bt6 := bt5.alloc (.cells #[.int .i64 (-9223372036854775808), .int .i64 9223372036854775807] 2)
      have hc6 := hc55.allocc (.cells #[.int .i64 (-9223372036854775808), .int .i64 9223372036854775807] 2)
      have hb5 := hS5.lt
      clear hS5 hZ5 bt5 hc55
      go_wp2_with fail
      refine (src_among (xs := [-9223372036854775808, 9223372036854775807]) hS6 hl hb5 rfl (by decide) (by decide) (by omega)).mono ?_
      rintro e w7 ⟨u, rfl, hS7, hc7⟩
      have hZ7 := hZ6.chgb hc7 (by omega)
      have bt7 := bt6.chgb hc7 (by omega)
      have hc77 := hc6.trans hc7
      have hzp : w.heap.size ≠ pt := by omega
      have z0 := hZ7.cell 0
      have z1 := hZ7.cell 1
      have zf0 := hZ7.free 0
      have zf1 := hZ7.free 1
      have zn := hZ7.lt
      simp only [List.getElem?_toArray, List.getElem?_cons_zero, List.getElem?_cons_succ] at z0 z1
      have u0 := bt7.cell 0
      have u1 := bt7.cell 1
      have uf0 := bt7.free 0
      have uf1 := bt7.free 1
      have un := bt7.lt
      simp only [List.getElem?_toArray, List.getElem?_cons_zero, List.getElem?_cons_succ] at u0 u1
      have k0 := cell_f (q := ⟨pt, 0, none⟩) (x := .int .i64 u) hzp z0
      have k1 := cell_f (q := ⟨pt, 0, none⟩) (x := .int .i64 u) hzp z1
      have HE := Lib.hid (pt_end (x := u) (y := y - 1) hbw (hS7.put (p := ⟨pt, 0, none⟩) (by show b < pt; omega) (.int .i64 u)) (hc77.put (p := ⟨pt, 0, none⟩) (by show w.heap.size ≤ pt; omega) (.int .i64 u)))
      have hp1 : pt ≠ w.heap.size := by omega
      clear hZ6 bt6 hZ7 bt7 hS6 hS7 hc6 hc7 hc77 hl
      go_wp2_with fail
      refine bodyPost_ret (v := .agg #[.int .i64 u, .int .i64 (y - 1)]) ?_ rfl ?_
      · simp [results, Try.results108, go_sem, zn, k0, k1, u0, u1]
      · exact ⟨_, _, rfl, HE.out.1.more (by omega), HE.out.2⟩
  have HO := Lib.hid hok
  have hW : 1 ≤ X ∧ X ≤ 8 := ⟨hok.w1, hok.w8⟩
  have hH : 1 ≤ Y ∧ Y ≤ 8 := ⟨hok.h1, hok.h8⟩
  have hln : (B.length : Int) = inner X Y := hok.len
  have hbd := inner_bd hok.w1 hok.w8 hok.h1 hok.h8
  have hl150 : B.length ≤ 150 := by
    have h1 := hok.len
    unfold inner at h1
    simp only [] at h1 hbd
    omega
  obtain ⟨n, hn⟩ : ∃ n, B.length = n := ⟨_, rfl⟩
  rw [hn] at hln hl150
  have HWH := Lib.hid (And.intro hW (And.intro hH hln))
  clear hok hW hH hbd hln
  by_cases hn0 : n = 0
  · subst hn0
    rw [hn] at hq0 hI0
    have HN := Lib.hid hn
    clear hn
    have q2 := hq0.cell 2
    simp only [List.getElem?_toArray, List.getElem?_cons_zero, List.getElem?_cons_succ] at q2
    go_enter Try.func108, Try.ntmps108
    go_wp2_with fail
    generalize (w.alloc (.cells #[.int .i64 0, .int .i64 0] 36)) = V at *
    refine (l02Ok_any _ X Y _ B true (yes_iff HO.out) _ ⟨hq0, hI0.ints⟩).mono ?_
    rintro e w2 ⟨rfl, hd⟩
    have hb := bdrawn hd
    have hS2 := hs0.below hb
    have ZO2 := ZO.below hb
    have hc2 := hc0.trans (Chg.ofBelow hb)
    have hq2 := hq0.below hb
    clear q2
    have q2 := hq2.cell 2
    have qn := hq2.lt
    simp only [List.getElem?_toArray, List.getElem?_cons_zero, List.getElem?_cons_succ] at q2
    clear hb hd hs0 ZO hc0 hq0 hI0 hq2
    go_wp2_with fail
    refine (src_pick hS2 (by omega) (by omega)).mono ?_
    rintro e w3 ⟨x, rfl, x0, x1, _, hS3, hc3⟩
    have x2 := x1 (by omega)
    have hZ3 := ZO2.chgb hc3 (by omega)
    have hc33 := hc2.trans hc3
    clear hS2 ZO2 hc2 hc3 x1
    go_wp2_with fail
    refine (src_pick hS3 (by omega) (by omega)).mono ?_
    rintro e w4 ⟨y, rfl, y0, y1, _, hS4, hc4⟩
    have y2 := y1 (by omega)
    have hZ4 := (hZ3.chgb hc4 (by omega)).alloc (.cells #[.int .i64 (x - 1), .int .i64 (y - 1)] 36)
    have hc44 := (hc33.trans hc4).allocc (.cells #[.int .i64 (x - 1), .int .i64 (y - 1)] 36)
    have hS44 := hS4.below (Joins.below_alloc1 w4 (.cells #[.int .i64 (x - 1), .int .i64 (y - 1)] 36))
    have bt := Box.new w4 36 #[.int .i64 (x - 1), .int .i64 (y - 1)]
    have hlt4 := (hc33.trans hc4).size
    have hbs4 := hS4.lt
    have hzl4 := (hZ3.chgb hc4 (by omega)).lt
    obtain ⟨pt, hpt⟩ : ∃ pt, w4.heap.size = pt := ⟨_, rfl⟩
    rw [hpt] at bt hlt4 hbs4 hzl4
    clear hS3 hZ3 hc33 hc4 hS4 y1
    go_wp2_with fail
    try rw [hpt]
    generalize hV4 : w4.alloc (.cells #[.int .i64 (x - 1), .int .i64 (y - 1)] 36) = V4 at *
    clear hV4
    refine (src_one hS44 (by omega) (by omega)).mono ?_
    rintro e w5 ⟨r, rfl, hS5, hc5⟩
    have hZ5 := hZ4.chgb hc5 (by omega)
    have bt5 := bt.chgb hc5 (by omega)
    have hc55 := hc44.trans hc5
    clear hZ4 bt hc44 hS44 hc5
    cases r
    · skip
      have z0 := hZ5.cell 0
      have z1 := hZ5.cell 1
      have zf0 := hZ5.free 0
      have zf1 := hZ5.free 1
      have zn := hZ5.lt
      simp only [List.getElem?_toArray, List.getElem?_cons_zero, List.getElem?_cons_succ] at z0 z1
      have u0 := bt5.cell 0
      have u1 := bt5.cell 1
      have un := bt5.lt
      simp only [List.getElem?_toArray, List.getElem?_cons_zero, List.getElem?_cons_succ] at u0 u1
      have HE := Lib.hid (pt_end (x := x - 1) (y := y - 1) hbw hS5 hc55)
      have hp1 : pt ≠ w.heap.size := by omega
      clear hZ5 bt5 hS5 hc55
      go_wp2_with fail
      refine bodyPost_ret (v := .agg #[.int .i64 (x - 1), .int .i64 (y - 1)]) ?_ rfl ?_
      · simp [results, Try.results108, go_sem, zn, z0, z1, u0, u1]
      · exact ⟨_, _, rfl, HE.out.1.more (by omega), HE.out.2⟩
    · have hl := lit2 w5 (-9223372036854775808) 9223372036854775807
      have hS6 := hS5.below (Joins.below_alloc1 w5 (.cells #[.int .i64 (-9223372036854775808), .int .i64 9223372036854775807] 2))
      have hZ6 := hZ5.alloc (.cells #[.int .i64 (-9223372036854775808), .int .i64 9223372036854775807] 2)
      have bt6 := bt5.alloc (.cells #[.int .i64 (-9223372036854775808), .int .i64 9223372036854775807] 2)
      have hc6 := hc55.allocc (.cells #[.int .i64 (-9223372036854775808), .int .i64 9223372036854775807] 2)
      have hb5 := hS5.lt
      clear hS5 hZ5 bt5 hc55
      go_wp2_with fail
      refine (src_among (xs := [-9223372036854775808, 9223372036854775807]) hS6 hl hb5 rfl (by decide) (by decide) (by omega)).mono ?_
      rintro e w7 ⟨u, rfl, hS7, hc7⟩
      have hZ7 := hZ6.chgb hc7 (by omega)
      have bt7 := bt6.chgb hc7 (by omega)
      have hc77 := hc6.trans hc7
      have hzp : w.heap.size ≠ pt := by omega
      have z0 := hZ7.cell 0
      have z1 := hZ7.cell 1
      have zf0 := hZ7.free 0
      have zf1 := hZ7.free 1
      have zn := hZ7.lt
      simp only [List.getElem?_toArray, List.getElem?_cons_zero, List.getElem?_cons_succ] at z0 z1
      have u0 := bt7.cell 0
      have u1 := bt7.cell 1
      have uf0 := bt7.free 0
      have uf1 := bt7.free 1
      have un := bt7.lt
      simp only [List.getElem?_toArray, List.getElem?_cons_zero, List.getElem?_cons_succ] at u0 u1
      have k0 := cell_f (q := ⟨pt, 0, none⟩) (x := .int .i64 u) hzp z0
      have k1 := cell_f (q := ⟨pt, 0, none⟩) (x := .int .i64 u) hzp z1
      have HE := Lib.hid (pt_end (x := u) (y := y - 1) hbw (hS7.put (p := ⟨pt, 0, none⟩) (by show b < pt; omega) (.int .i64 u)) (hc77.put (p := ⟨pt, 0, none⟩) (by show w.heap.size ≤ pt; omega) (.int .i64 u)))
      have hp1 : pt ≠ w.heap.size := by omega
      clear hZ6 bt6 hZ7 bt7 hS6 hS7 hc6 hc7 hc77 hl
      go_wp2_with fail
      refine bodyPost_ret (v := .agg #[.int .i64 u, .int .i64 (y - 1)]) ?_ rfl ?_
      · simp [results, Try.results108, go_sem, zn, k0, k1, u0, u1]
      · exact ⟨_, _, rfl, HE.out.1.more (by omega), HE.out.2⟩
  have hnI : (0 : Int) < n := by omega
  have hnp : 0 < n := by omega
  rw [hn] at hq0 hI0
  have HN := Lib.hid hn
  go_enter Try.func108, Try.ntmps108
  clear hn hn0
  go_wp2_with fail
  generalize (w.alloc (.cells #[.int .i64 0, .int .i64 0] 36)) = V at *
  refine (l02Ok_any _ X Y _ B true (yes_iff HO.out) _ ⟨hq0, hI0.ints⟩).mono ?_
  rintro e w2 ⟨rfl, hd⟩
  have hb := bdrawn hd
  have hS2 := hs0.below hb
  have ZO2 := ZO.below hb
  have hc2 := hc0.trans (Chg.ofBelow hb)
  have hq2 := hq0.below hb
  have q2 := hq2.cell 2
  have qn := hq2.lt
  simp only [List.getElem?_toArray, List.getElem?_cons_zero, List.getElem?_cons_succ] at q2
  clear hb hd hs0 ZO hc0 hq0 hI0
  go_wp2_with fail
  refine (src_one hS2 (by omega) (by omega)).mono ?_
  rintro e w3 ⟨r, rfl, hS3, hc3⟩
  have ZO3 := ZO2.chgb hc3 (by omega)
  have hq3 := hq2.chgb hc3 hbq
  have hc33 := hc2.trans hc3
  clear q2 qn hS2 ZO2 hc2 hq2 hc3
  cases r
  · skip
    have hS2 := hS3.more (Nat.le_refl _)
    have ZO2 := ZO3
    have hc2 := hc33
    clear hS3 ZO3 hc33 hq3
    obtain ⟨w2, hw2⟩ : ∃ z, z = w3 := ⟨_, rfl⟩
    subst hw2
    go_wp2_with fail
    refine (src_pick hS2 (by omega) (by omega)).mono ?_
    rintro e w3 ⟨x, rfl, x0, x1, _, hS3, hc3⟩
    have x2 := x1 (by omega)
    have hZ3 := ZO2.chgb hc3 (by omega)
    have hc33 := hc2.trans hc3
    clear hS2 ZO2 hc2 hc3 x1
    go_wp2_with fail
    refine (src_pick hS3 (by omega) (by omega)).mono ?_
    rintro e w4 ⟨y, rfl, y0, y1, _, hS4, hc4⟩
    have y2 := y1 (by omega)
    have hZ4 := (hZ3.chgb hc4 (by omega)).alloc (.cells #[.int .i64 (x - 1), .int .i64 (y - 1)] 36)
    have hc44 := (hc33.trans hc4).allocc (.cells #[.int .i64 (x - 1), .int .i64 (y - 1)] 36)
    have hS44 := hS4.below (Joins.below_alloc1 w4 (.cells #[.int .i64 (x - 1), .int .i64 (y - 1)] 36))
    have bt := Box.new w4 36 #[.int .i64 (x - 1), .int .i64 (y - 1)]
    have hlt4 := (hc33.trans hc4).size
    have hbs4 := hS4.lt
    have hzl4 := (hZ3.chgb hc4 (by omega)).lt
    obtain ⟨pt, hpt⟩ : ∃ pt, w4.heap.size = pt := ⟨_, rfl⟩
    rw [hpt] at bt hlt4 hbs4 hzl4
    clear hS3 hZ3 hc33 hc4 hS4 y1
    go_wp2_with fail
    try rw [hpt]
    generalize hV4 : w4.alloc (.cells #[.int .i64 (x - 1), .int .i64 (y - 1)] 36) = V4 at *
    clear hV4
    refine (src_one hS44 (by omega) (by omega)).mono ?_
    rintro e w5 ⟨r, rfl, hS5, hc5⟩
    have hZ5 := hZ4.chgb hc5 (by omega)
    have bt5 := bt.chgb hc5 (by omega)
    have hc55 := hc44.trans hc5
    clear hZ4 bt hc44 hS44 hc5
    cases r
    · skip
      have z0 := hZ5.cell 0
      have z1 := hZ5.cell 1
      have zf0 := hZ5.free 0
      have zf1 := hZ5.free 1
      have zn := hZ5.lt
      simp only [List.getElem?_toArray, List.getElem?_cons_zero, List.getElem?_cons_succ] at z0 z1
      have u0 := bt5.cell 0
      have u1 := bt5.cell 1
      have un := bt5.lt
      simp only [List.getElem?_toArray, List.getElem?_cons_zero, List.getElem?_cons_succ] at u0 u1
      have HE := Lib.hid (pt_end (x := x - 1) (y := y - 1) hbw hS5 hc55)
      have hp1 : pt ≠ w.heap.size := by omega
      clear hZ5 bt5 hS5 hc55
      go_wp2_with fail
      refine bodyPost_ret (v := .agg #[.int .i64 (x - 1), .int .i64 (y - 1)]) ?_ rfl ?_
      · simp [results, Try.results108, go_sem, zn, z0, z1, u0, u1]
      · exact ⟨_, _, rfl, HE.out.1.more (by omega), HE.out.2⟩
    · have hl := lit2 w5 (-9223372036854775808) 9223372036854775807
      have hS6 := hS5.below (Joins.below_alloc1 w5 (.cells #[.int .i64 (-9223372036854775808), .int .i64 9223372036854775807] 2))
      have hZ6 := hZ5.alloc (.cells #[.int .i64 (-9223372036854775808), .int .i64 9223372036854775807] 2)
      have bt6 := bt5.alloc (.cells #[.int .i64 (-9223372036854775808), .int .i64 9223372036854775807] 2)
      have hc6 := hc55.allocc (.cells #[.int .i64 (-9223372036854775808), .int .i64 9223372036854775807] 2)
      have hb5 := hS5.lt
      clear hS5 hZ5 bt5 hc55
      go_wp2_with fail
      refine (src_among (xs := [-9223372036854775808, 9223372036854775807]) hS6 hl hb5 rfl (by decide) (by decide) (by omega)).mono ?_
      rintro e w7 ⟨u, rfl, hS7, hc7⟩
      have hZ7 := hZ6.chgb hc7 (by omega)
      have bt7 := bt6.chgb hc7 (by omega)
      have hc77 := hc6.trans hc7
      have hzp : w.heap.size ≠ pt := by omega
      have z0 := hZ7.cell 0
      have z1 := hZ7.cell 1
      have zf0 := hZ7.free 0
      have zf1 := hZ7.free 1
      have zn := hZ7.lt
      simp only [List.getElem?_toArray, List.getElem?_cons_zero, List.getElem?_cons_succ] at z0 z1
      have u0 := bt7.cell 0
      have u1 := bt7.cell 1
      have uf0 := bt7.free 0
      have uf1 := bt7.free 1
      have un := bt7.lt
      simp only [List.getElem?_toArray, List.getElem?_cons_zero, List.getElem?_cons_succ] at u0 u1
      have k0 := cell_f (q := ⟨pt, 0, none⟩) (x := .int .i64 u) hzp z0
      have k1 := cell_f (q := ⟨pt, 0, none⟩) (x := .int .i64 u) hzp z1
      have HE := Lib.hid (pt_end (x := u) (y := y - 1) hbw (hS7.put (p := ⟨pt, 0, none⟩) (by show b < pt; omega) (.int .i64 u)) (hc77.put (p := ⟨pt, 0, none⟩) (by show w.heap.size ≤ pt; omega) (.int .i64 u)))
      have hp1 : pt ≠ w.heap.size := by omega
      clear hZ6 bt6 hZ7 bt7 hS6 hS7 hc6 hc7 hc77 hl
      go_wp2_with fail
      refine bodyPost_ret (v := .agg #[.int .i64 u, .int .i64 (y - 1)]) ?_ rfl ?_
      · simp [results, Try.results108, go_sem, zn, k0, k1, u0, u1]
      · exact ⟨_, _, rfl, HE.out.1.more (by omega), HE.out.2⟩
  · have q2 := hq3.cell 2
    have qn := hq3.lt
    simp only [List.getElem?_toArray, List.getElem?_cons_zero, List.getElem?_cons_succ] at q2
    go_wp2_with fail
    refine (src_pick hS3 (by omega) (by omega)).mono ?_
    rintro e w4 ⟨k, rfl, k0, k1, _, hS4, hc4⟩
    have k2 := k1 (by omega)
    have ZO4 := ZO3.chgb hc4 (by omega)
    have hq4 := hq3.chgb hc4 hbq
    have hc44 := hc33.trans hc4
    clear q2 qn hS3 ZO3 hq3 hc33 hc4 k1
    go_wp2_with fail
    refine (l02Point_any hq4 HWH.out.1 HWH.out.2.1 k0 (by have := HWH.out.2.2; omega)).mono ?_
    rintro e w5 ⟨rfl, hb⟩
    have ZO5 := ZO4.below hb
    have hS5 := hS4.below hb
    have hc5 := hc44.trans (Chg.ofBelow hb)
    have z0 := ZO5.cell 0
    have z1 := ZO5.cell 1
    have zf0 := ZO5.free 0
    have zf1 := ZO5.free 1
    have zn := ZO5.lt
    simp only [List.getElem?_toArray, List.getElem?_cons_zero, List.getElem?_cons_succ] at z0 z1
    have HE := Lib.hid (pt_end (x := ptX X k) (y := ptY X k) hbw hS5 hc5)
    generalize ptX X k = px at *
    generalize ptY X k = py at *
    clear ZO4 ZO5 hS4 hS5 hc44 hc5 hb hq4
    go_wp2_with fail
    refine bodyPost_ret (v := .agg #[.int .i64 px, .int .i64 py]) ?_ rfl ?_
    · simp [results, Try.results108, go_sem, zn, z0, z1]
    · exact ⟨px, py, rfl, HE.out.1.more (by omega), HE.out.2⟩
end Go.Proofs.Ytihfdgnocdphcaa

namespace Go.Proofs.Ytihfdgnocdphcaa
open Go.RowKit Knot

theorem chg_low {b : Nat} {w w1 w2 : World} {B : Nat} (h : Below B w w1) (k : Chg b (b + 1) w1 w2) (hb : B ≤ b) (hs : B ≤ w1.heap.size) : Below B w w2 := h.trans (k.toBelow hb hs)
set_option maxHeartbeats 4000000 in
theorem DrawSymmetriesOf_any {w : World} {a : Option Addr} {len cap : Nat} {zs : List Int} (h : IsRow .u8 w a len cap zs) :
    Calls Try.prog 64 #[.slice a len cap] w fun e w' => ∃ (X Y : Int) (A : Option Addr) (c : Nat) (B : List Int), e = .returned (.agg #[.int .i64 X, .int .i64 Y, .slice A B.length c]) ∧
      IntsIn w' w.heap.size w'.heap.size (.slice A B.length c) B ∧ Below w.heap.size w w' := by
  have bl := Joins.below_alloc1 w (.cells #[.int .i64 0, .int .i64 0, .slice none 0 0] 30)
  have r1 := Box.new w 30 #[.int .i64 0, .int .i64 0, .slice none 0 0]
  have h1 := h.below bl
  clear h
  go_enter Try.func64, Try.ntmps64
  go_wp2_with fail
  refine (src_from h1).mono ?_
  rintro e w1 ⟨rfl, hS, s1, hb1⟩
  simp only [World.size_alloc] at hS s1
  obtain ⟨b, hb⟩ : ∃ b, w.heap.size + 1 = b := ⟨_, rfl⟩
  rw [hb] at hS s1
  simp only [World.size_alloc, hb]
  replace r1 := r1.below hb1
  replace bl := bnext bl hb1
  clear h1 hb1
  go_wp2_with fail
  refine (l06Draw_any hS (by omega)).mono ?_
  rintro e w2 ⟨X, Y, A, c, B, rfl, hI, hS2, hc2⟩
  replace r1 := r1.chgb hc2 (by omega)
  replace bl := chg_low bl hc2 (by omega) (by omega)
  have z0 := r1.cell 0
  have z1 := r1.cell 1
  have z2 := r1.cell 2
  have zf0 := r1.free 0
  have zf1 := r1.free 1
  have zf2 := r1.free 2
  have zn := r1.lt
  simp only [List.getElem?_toArray, List.getElem?_cons_zero, List.getElem?_cons_succ] at z0 z1 z2
  have hne : ∀ g' : Nat, (Value.slice A B.length c).ownBlock = some g' → g' ≠ w.heap.size := fun g' hg' => by have := (Row.lt hI.1 hg').1; omega
  have HE : Hid (IntsIn (((w2.setCell ⟨w.heap.size, 0, none⟩ (.int .i64 X)).setCell ⟨w.heap.size, 1, none⟩ (.int .i64 Y)).setCell ⟨w.heap.size, 2, none⟩ (.slice A B.length c)) w.heap.size (((w2.setCell ⟨w.heap.size, 0, none⟩ (.int .i64 X)).setCell ⟨w.heap.size, 1, none⟩ (.int .i64 Y)).setCell ⟨w.heap.size, 2, none⟩ (.slice A B.length c)).heap.size (.slice A B.length c) B ∧
      Below w.heap.size w (((w2.setCell ⟨w.heap.size, 0, none⟩ (.int .i64 X)).setCell ⟨w.heap.size, 1, none⟩ (.int .i64 Y)).setCell ⟨w.heap.size, 2, none⟩ (.slice A B.length c))) := Lib.hid
    ⟨⟨Row.le (Row.setCell (Row.setCell (Row.setCell hI.1 (p := ⟨w.heap.size, 0, none⟩) hne _) (p := ⟨w.heap.size, 1, none⟩) hne _) (p := ⟨w.heap.size, 2, none⟩) hne _) (by omega), fun j hj => by simp only [World.size_setCell]; exact hI.2.1 j hj, Nat.le_refl _, hI.len⟩,
      ((bl.setCell (p := ⟨w.heap.size, 0, none⟩) (Nat.le_refl _) _).setCell (p := ⟨w.heap.size, 1, none⟩) (Nat.le_refl _) _).setCell (p := ⟨w.heap.size, 2, none⟩) (Nat.le_refl _) _⟩
  clear hI hS hS2 hc2 r1 bl hne
  go_wp2_with fail
  refine bodyPost_ret (v := .agg #[.int .i64 X, .int .i64 Y, .slice A B.length c]) ?_ rfl ?_
  · simp [results, Try.results64, go_sem, zn, z0, z1, z2]
  · exact ⟨X, Y, A, c, B, rfl, HE.out.1, HE.out.2⟩
set_option maxHeartbeats 4000000 in
theorem DrawCanonicalPanel_any {w : World} {a : Option Addr} {len cap : Nat} {zs : List Int} (h : IsRow .u8 w a len cap zs) :
    Calls Try.prog 42 #[.slice a len cap] w fun e w' => ∃ (X Y : Int) (A : Option Addr) (c : Nat) (B : List Int), e = .returned (.agg #[.int .i64 X, .int .i64 Y, .slice A B.length c]) ∧
      IntsIn w' w.heap.size w'.heap.size (.slice A B.length c) B ∧ Below w.heap.size w w' := by
  have bl := Joins.below_alloc1 w (.cells #[.int .i64 0, .int .i64 0, .slice none 0 0] 30)
  have r1 := Box.new w 30 #[.int .i64 0, .int .i64 0, .slice none 0 0]
  have h1 := h.below bl
  clear h
  go_enter Try.func42, Try.ntmps42
  go_wp2_with fail
  refine (src_from h1).mono ?_
  rintro e w1 ⟨rfl, hS, s1, hb1⟩
  simp only [World.size_alloc] at hS s1
  obtain ⟨b, hb⟩ : ∃ b, w.heap.size + 1 = b := ⟨_, rfl⟩
  rw [hb] at hS s1
  simp only [World.size_alloc, hb]
  replace r1 := r1.below hb1
  replace bl := bnext bl hb1
  clear h1 hb1
  go_wp2_with fail
  refine (l06Draw_any hS (by omega)).mono ?_
  rintro e w2 ⟨X, Y, A, c, B, rfl, hI, hS2, hc2⟩
  replace r1 := r1.chgb hc2 (by omega)
  replace bl := chg_low bl hc2 (by omega) (by omega)
  have z0 := r1.cell 0
  have z1 := r1.cell 1
  have z2 := r1.cell 2
  have zf0 := r1.free 0
  have zf1 := r1.free 1
  have zf2 := r1.free 2
  have zn := r1.lt
  simp only [List.getElem?_toArray, List.getElem?_cons_zero, List.getElem?_cons_succ] at z0 z1 z2
  have hne : ∀ g' : Nat, (Value.slice A B.length c).ownBlock = some g' → g' ≠ w.heap.size := fun g' hg' => by have := (Row.lt hI.1 hg').1; omega
  have HE : Hid (IntsIn (((w2.setCell ⟨w.heap.size, 0, none⟩ (.int .i64 X)).setCell ⟨w.heap.size, 1, none⟩ (.int .i64 Y)).setCell ⟨w.heap.size, 2, none⟩ (.slice A B.length c)) w.heap.size (((w2.setCell ⟨w.heap.size, 0, none⟩ (.int .i64 X)).setCell ⟨w.heap.size, 1, none⟩ (.int .i64 Y)).setCell ⟨w.heap.size, 2, none⟩ (.slice A B.length c)).heap.size (.slice A B.length c) B ∧
      Below w.heap.size w (((w2.setCell ⟨w.heap.size, 0, none⟩ (.int .i64 X)).setCell ⟨w.heap.size, 1, none⟩ (.int .i64 Y)).setCell ⟨w.heap.size, 2, none⟩ (.slice A B.length c))) := Lib.hid
    ⟨⟨Row.le (Row.setCell (Row.setCell (Row.setCell hI.1 (p := ⟨w.heap.size, 0, none⟩) hne _) (p := ⟨w.heap.size, 1, none⟩) hne _) (p := ⟨w.heap.size, 2, none⟩) hne _) (by omega), fun j hj => by simp only [World.size_setCell]; exact hI.2.1 j hj, Nat.le_refl _, hI.len⟩,
      ((bl.setCell (p := ⟨w.heap.size, 0, none⟩) (Nat.le_refl _) _).setCell (p := ⟨w.heap.size, 1, none⟩) (Nat.le_refl _) _).setCell (p := ⟨w.heap.size, 2, none⟩) (Nat.le_refl _) _⟩
  clear hI hS hS2 hc2 r1 bl hne
  go_wp2_with fail
  refine bodyPost_ret (v := .agg #[.int .i64 X, .int .i64 Y, .slice A B.length c]) ?_ rfl ?_
  · simp [results, Try.results42, go_sem, zn, z0, z1, z2]
  · exact ⟨X, Y, A, c, B, rfl, HE.out.1, HE.out.2⟩
set_option maxRecDepth 20000 in
set_option maxHeartbeats 8000000 in
theorem DrawPointOrbit_any {w : World} {a : Option Addr} {len cap : Nat} {zs : List Int} (h : IsRow .u8 w a len cap zs) :
    Calls Try.prog 65 #[.slice a len cap] w fun e w' => ∃ (X Y x y : Int) (A : Option Addr) (c : Nat) (B : List Int), e = .returned (.tuple #[.agg #[.int .i64 X, .int .i64 Y, .slice A B.length c], .agg #[.int .i64 x, .int .i64 y]]) ∧
      IntsIn w' w.heap.size w'.heap.size (.slice A B.length c) B ∧ Below w.heap.size w w' := by
  have bl := Joins.below_alloc2 w (.cells #[.int .i64 0, .int .i64 0, .slice none 0 0] 30) (.cells #[.int .i64 0, .int .i64 0] 36)
  have r1 := (Box.new w 30 #[.int .i64 0, .int .i64 0, .slice none 0 0]).alloc (.cells #[.int .i64 0, .int .i64 0] 36)
  have r2 := Box.new (w.alloc (.cells #[.int .i64 0, .int .i64 0, .slice none 0 0] 30)) 36 #[.int .i64 0, .int .i64 0]
  rw [World.size_alloc] at r2
  have h1 := h.below bl
  clear h
  go_enter Try.func65, Try.ntmps65
  go_wp2_with fail
  refine (src_from h1).mono ?_
  rintro e w1 ⟨rfl, hS, s1, hb1⟩
  simp only [World.size_alloc] at hS s1
  obtain ⟨b, hb⟩ : ∃ b, w.heap.size + 1 + 1 = b := ⟨_, rfl⟩
  rw [hb] at hS s1
  simp only [World.size_alloc, hb]
  replace r1 := r1.below hb1
  replace r2 := r2.below hb1
  replace bl := bnext bl hb1
  clear h1 hb1
  go_wp2_with fail
  refine (l06Draw_any hS (by omega)).mono ?_
  rintro e w2 ⟨X, Y, A, c, B, rfl, hI, hS2, hc2⟩
  replace r1 := (r1.chgb hc2 (by omega)).alloc (.cells #[.int .i64 X, .int .i64 Y, .slice A B.length c] 30)
  replace r2 := (r2.chgb hc2 (by omega)).alloc (.cells #[.int .i64 X, .int .i64 Y, .slice A B.length c] 30)
  replace bl := (chg_low bl hc2 (by omega) (by omega)).alloc (by have := hc2.size; omega) (.cells #[.int .i64 X, .int .i64 Y, .slice A B.length c] 30)
  have bp := Box.new w2 30 #[.int .i64 X, .int .i64 Y, .slice A B.length c]
  replace hI := hI.alloc (.cells #[.int .i64 X, .int .i64 Y, .slice A B.length c] 30)
  replace hS2 := hS2.below (Joins.below_alloc1 w2 (.cells #[.int .i64 X, .int .i64 Y, .slice A B.length c] 30))
  have sz2 := hc2.size
  obtain ⟨pp, hpp⟩ : ∃ pp, w2.heap.size = pp := ⟨_, rfl⟩
  rw [hpp] at bp hI sz2
  clear hS hc2
  have hpz : pp ≠ w.heap.size := by omega
  have hpy : pp ≠ w.heap.size + 1 := by omega
  have hyz : w.heap.size + 1 ≠ w.heap.size := by omega
  have hzy : w.heap.size ≠ w.heap.size + 1 := by omega
  have hbz : b ≠ w.heap.size := by omega
  have hpb : pp ≠ b := by omega
  have hzb : w.heap.size ≠ b := by omega
  have hyb : w.heap.size + 1 ≠ b := by omega
  have hm0 : 0 + 3000 ≤ 1000000 := by omega
  go_wp2_with fail
  try rw [hpp]
  generalize hV : w2.alloc (.cells #[.int .i64 X, .int .i64 Y, .slice A B.length c] 30) = V at *
  clear hV
  have p0 := bp.cell 0
  have p1 := bp.cell 1
  have p2 := bp.cell 2
  have pn := bp.lt
  simp only [List.getElem?_toArray, List.getElem?_cons_zero, List.getElem?_cons_succ] at p0 p1 p2
  have KS : Hid (∀ w', Chg b (b + 1) V w' → (w'.cell? ⟨pp, 0, none⟩ = some (.int .i64 X) ∧ w'.cell? ⟨pp, 1, none⟩ = some (.int .i64 Y) ∧ w'.cell? ⟨pp, 2, none⟩ = some (.slice A B.length c))) := Lib.hid (fun w' hc => ⟨(bp.chgb hc hpb).cell 0, (bp.chgb hc hpb).cell 1, (bp.chgb hc hpb).cell 2⟩)
  have S0 : Hid (Src V.drew b (0 + 3000)) := Lib.hid (hS2.drewN 1)
  have hb0 : Below V.heap.size V V.drew := below_drewN _ _ 1
  have HB := Lib.hid (And.intro (bp.below hb0) (hI.below hb0))
  have HR := Lib.hid (And.intro r1 (And.intro r2 (And.intro hI bl)))
  clear r1 r2 bp hI hS2 bl hb0
  go_wp2
  go_region_held3 (fun w' => w'.cell? ⟨pp, 0, none⟩ = some (.int .i64 X) ∧ w'.cell? ⟨pp, 1, none⟩ = some (.int .i64 Y) ∧ w'.cell? ⟨pp, 2, none⟩ = some (.slice A B.length c))
    (first | (with_reducible exact KS.out _ hC6) | (with_reducible exact KS.out _ (chg_drew _ _)) | (with_reducible exact ⟨cell_f hpz (cell_f hpz (cell_f hpz k0)), cell_f hpz (cell_f hpz (cell_f hpz k1)), cell_f hpz (cell_f hpz (cell_f hpz k2))⟩) | (with_reducible exact ⟨cell_f hpy (cell_f hpy (cell_f hpz (cell_f hpz (cell_f hpz k0)))), cell_f hpy (cell_f hpy (cell_f hpz (cell_f hpz (cell_f hpz k1)))), cell_f hpy (cell_f hpy (cell_f hpz (cell_f hpz (cell_f hpz k2))))⟩) | assumption)
    ((go_at_call 108; (with_reducible refine (l02DrawPoint_any S0.out HB.out.1 HB.out.2 s1 hpb hm0).mono ?_); rintro e w6 ⟨x, y, rfl, hS6, hc6⟩; have hC6 := Chg.trans (chg_drew b V) hc6; obtain ⟨k0, k1, k2⟩ := KS.out _ hC6; have hz6 := HR.out.1.chgb hC6 hzb; have z0 := hz6.cell 0; have z1 := hz6.cell 1; have z2 := hz6.cell 2; have zf0 := hz6.free 0; have zf1 := hz6.free 1; have zf2 := hz6.free 2; have zn := hz6.lt; have hy6 := HR.out.2.1.chgb hC6 hyb; have y0 := hy6.cell 0; have yf0 := hy6.free 0; have y1 := hy6.cell 1; have yf1 := hy6.free 1; have yn := hy6.lt))
  all_goals
    have hI6 := HR.out.2.2.1.chgb hC6 (by omega)
    have hs6 := hC6.size
    have hL6 := chg_low HR.out.2.2.2 hC6 (by omega) (by have := HR.out.2.2.2.size; exact this)
    have HE : Hid (IntsIn (((((w6.setCell ⟨w.heap.size, 0, none⟩ (.int .i64 X)).setCell ⟨w.heap.size, 1, none⟩ (.int .i64 Y)).setCell ⟨w.heap.size, 2, none⟩ (.slice A B.length c)).setCell ⟨w.heap.size + 1, 0, none⟩ (.int .i64 x)).setCell ⟨w.heap.size + 1, 1, none⟩ (.int .i64 y)) w.heap.size (((((w6.setCell ⟨w.heap.size, 0, none⟩ (.int .i64 X)).setCell ⟨w.heap.size, 1, none⟩ (.int .i64 Y)).setCell ⟨w.heap.size, 2, none⟩ (.slice A B.length c)).setCell ⟨w.heap.size + 1, 0, none⟩ (.int .i64 x)).setCell ⟨w.heap.size + 1, 1, none⟩ (.int .i64 y)).heap.size (.slice A B.length c) B ∧ Below w.heap.size w (((((w6.setCell ⟨w.heap.size, 0, none⟩ (.int .i64 X)).setCell ⟨w.heap.size, 1, none⟩ (.int .i64 Y)).setCell ⟨w.heap.size, 2, none⟩ (.slice A B.length c)).setCell ⟨w.heap.size + 1, 0, none⟩ (.int .i64 x)).setCell ⟨w.heap.size + 1, 1, none⟩ (.int .i64 y))) := Lib.hid ⟨((((((hI6.at_store (p := ⟨w.heap.size, 0, none⟩) (by show w.heap.size < _; omega) _).at_store (p := ⟨w.heap.size, 1, none⟩) (by show w.heap.size < _; omega) _).at_store (p := ⟨w.heap.size, 2, none⟩) (by show w.heap.size < _; omega) _).at_store (p := ⟨w.heap.size + 1, 0, none⟩) (by show w.heap.size + 1 < _; omega) _).at_store (p := ⟨w.heap.size + 1, 1, none⟩) (by show w.heap.size + 1 < _; omega) _)).wider (by omega) (((((hI6.at_store (p := ⟨w.heap.size, 0, none⟩) (by show w.heap.size < _; omega) _).at_store (p := ⟨w.heap.size, 1, none⟩) (by show w.heap.size < _; omega) _).at_store (p := ⟨w.heap.size, 2, none⟩) (by show w.heap.size < _; omega) _).at_store (p := ⟨w.heap.size + 1, 0, none⟩) (by show w.heap.size + 1 < _; omega) _).at_store (p := ⟨w.heap.size + 1, 1, none⟩) (by show w.heap.size + 1 < _; omega) _).2.2.1 (Nat.le_refl _), (((((hL6.setCell (p := ⟨w.heap.size, 0, none⟩) (by show _ ≤ w.heap.size; omega) _).setCell (p := ⟨w.heap.size, 1, none⟩) (by show _ ≤ w.heap.size; omega) _).setCell (p := ⟨w.heap.size, 2, none⟩) (by show _ ≤ w.heap.size; omega) _).setCell (p := ⟨w.heap.size + 1, 0, none⟩) (by show _ ≤ w.heap.size + 1; omega) _).setCell (p := ⟨w.heap.size + 1, 1, none⟩) (by show _ ≤ w.heap.size + 1; omega) _)⟩
    clear hI6 hL6 hS6 hc6 hC6 KS S0 HB HR hz6 hy6
    go_wp2_with fail
    refine bodyPost_ret (v := .tuple #[.agg #[.int .i64 X, .int .i64 Y, .slice A B.length c], .agg #[.int .i64 x, .int .i64 y]]) ?_ rfl ?_
    · simp [results, Try.results65, go_sem, zn, z0, z1, z2, yn, y0, y1]
    · exact ⟨X, Y, x, y, A, c, B, rfl, HE.out.1, HE.out.2⟩
end Go.Proofs.Ytihfdgnocdphcaa

namespace Go.Proofs.Ytihfdgnocdphcaa
open Go.RowKit Knot

set_option maxRecDepth 20000 in
set_option maxHeartbeats 8000000 in
theorem DrawMapPanel_any {w : World} {a : Option Addr} {len cap : Nat} {zs : List Int} (h : IsRow .u8 w a len cap zs) :
    Calls Try.prog 51 #[.slice a len cap] w fun e w' => ∃ (X Y : Int) (A : Option Addr) (c : Nat) (B : List Int) (s : Int), e = .returned (.tuple #[.agg #[.int .i64 X, .int .i64 Y, .slice A B.length c], .int .i64 s]) ∧ IntsIn w' w.heap.size w'.heap.size (.slice A B.length c) B ∧ Below w.heap.size w w' := by
  have bl := Joins.below_alloc1 w (.cells #[.int .i64 0, .int .i64 0, .slice none 0 0] 30)
  have r1 := (Box.new w 30 #[.int .i64 0, .int .i64 0, .slice none 0 0])
  have h1 := h.below bl
  clear h
  go_enter Try.func51, Try.ntmps51
  go_wp2_with fail
  refine (src_from h1).mono ?_
  rintro e w1 ⟨rfl, hS, s1, hb1⟩
  simp only [World.size_alloc] at hS s1
  obtain ⟨b, hb⟩ : ∃ b, w.heap.size + 1 = b := ⟨_, rfl⟩
  rw [hb] at hS s1
  simp only [World.size_alloc, hb]
  replace r1 := r1.below hb1
  replace bl := bnext bl hb1
  clear h1 hb1
  go_wp2_with fail
  refine (l02Bent_any hS (by omega)).mono ?_
  rintro e w2 ⟨X, Y, A, c, B, rfl, hI, hS2, hc2⟩
  replace r1 := (r1.chgb hc2 (by omega)).alloc (.cells #[.int .i64 X, .int .i64 Y, .slice A B.length c] 30)
  replace bl := (chg_low bl hc2 (by omega) (by omega)).alloc (by have := hc2.size; omega) (.cells #[.int .i64 X, .int .i64 Y, .slice A B.length c] 30)
  have bp := Box.new w2 30 #[.int .i64 X, .int .i64 Y, .slice A B.length c]
  replace hI := hI.alloc (.cells #[.int .i64 X, .int .i64 Y, .slice A B.length c] 30)
  replace hS2 := hS2.below (Joins.below_alloc1 w2 (.cells #[.int .i64 X, .int .i64 Y, .slice A B.length c] 30))
  have sz2 := hc2.size
  obtain ⟨pp, hpp⟩ : ∃ pp, w2.heap.size = pp := ⟨_, rfl⟩
  rw [hpp] at bp hI sz2
  clear hS hc2
  have pl := bp.lt
  go_wp2_with fail
  try rw [hpp]
  generalize hV : w2.alloc (.cells #[.int .i64 X, .int .i64 Y, .slice A B.length c] 30) = V at *
  clear hV
  have hm0 : 0 + 1010 ≤ 100000000 := by omega
  have KS : Hid (∀ w', Chg b (b + 1) V w' → (w'.cell? ⟨pp, 0, none⟩ = some (.int .i64 X) ∧ w'.cell? ⟨pp, 1, none⟩ = some (.int .i64 Y) ∧ w'.cell? ⟨pp, 2, none⟩ = some (.slice A B.length c))) := Lib.hid (fun w' hc => ⟨(bp.chgb hc (by omega)).cell 0, (bp.chgb hc (by omega)).cell 1, (bp.chgb hc (by omega)).cell 2⟩)
  have S0 : Hid (Src V.drew b (0 + 1010)) := Lib.hid (hS2.drewN 1)
  have hb0 : Below V.heap.size V V.drew := below_drewN _ _ 1
  have Dbp := Lib.hid (bp.below hb0)
  have DhI := Lib.hid (hI.below hb0)
  have EhI := Lib.hid hI
  have Er1 := Lib.hid r1
  have EL := Lib.hid bl
  have nbpr1 : (pp : Nat) ≠ w.heap.size := by omega
  have mr1 : (w.heap.size : Nat) ≠ b := by omega
  have bp0_ := bp.cell 0
  have bp1_ := bp.cell 1
  have bp2_ := bp.cell 2
  have bpn_ := bp.lt
  simp only [List.getElem?_toArray, List.getElem?_cons_zero, List.getElem?_cons_succ] at bp0_ bp1_ bp2_
  clear bp hI r1 hS2 bl hb0
  go_wp2
  go_region_held3 (fun w' => w'.cell? ⟨pp, 0, none⟩ = some (.int .i64 X) ∧ w'.cell? ⟨pp, 1, none⟩ = some (.int .i64 Y) ∧ w'.cell? ⟨pp, 2, none⟩ = some (.slice A B.length c))
    (first | (with_reducible exact ⟨cell_f nbpr1 (cell_f nbpr1 (cell_f nbpr1 (k0))), cell_f nbpr1 (cell_f nbpr1 (cell_f nbpr1 (k1))), cell_f nbpr1 (cell_f nbpr1 (cell_f nbpr1 (k2)))⟩) | (with_reducible exact KS.out _ hC6) | (with_reducible exact KS.out _ (chg_drew _ _)) | (with_reducible assumption))
    ((go_at_call 106; (with_reducible refine (l06DrawSym_any S0.out hm0).mono ?_); rintro e w6 ⟨s, rfl, hS6, hc6⟩; have hC6 := Chg.trans (chg_drew b V) hc6; obtain ⟨k0, k1, k2⟩ := KS.out _ hC6; have fr1 := Er1.out.chgb hC6 mr1; have z0 := fr1.cell 0; have zf0 := fr1.free 0; have z1 := fr1.cell 1; have zf1 := fr1.free 1; have z2 := fr1.cell 2; have zf2 := fr1.free 2; have zn := fr1.lt))
  all_goals
    have QhI := EhI.out.chgb hC6 (by omega)
    have hs6 := hC6.size
    have hd6 : V.drew.heap.size = V.heap.size := rfl
    have hL6 := chg_low EL.out hC6 (by omega) (by have := EL.out.size; exact this)
    obtain ⟨W9, hW9⟩ : ∃ z, z = (((w6.setCell ⟨w.heap.size, 0, none⟩ (.int .i64 X)).setCell ⟨w.heap.size, 1, none⟩ (.int .i64 Y)).setCell ⟨w.heap.size, 2, none⟩ (.slice A B.length c)) := ⟨_, rfl⟩
    have HQhI : Hid (IntsIn (((w6.setCell ⟨w.heap.size, 0, none⟩ (.int .i64 X)).setCell ⟨w.heap.size, 1, none⟩ (.int .i64 Y)).setCell ⟨w.heap.size, 2, none⟩ (.slice A B.length c)) w.heap.size ((((w6.setCell ⟨w.heap.size, 0, none⟩ (.int .i64 X)).setCell ⟨w.heap.size, 1, none⟩ (.int .i64 Y)).setCell ⟨w.heap.size, 2, none⟩ (.slice A B.length c))).heap.size (.slice A B.length c) B) := Lib.hid (((((QhI.at_store (p := ⟨w.heap.size, 0, none⟩) (by show w.heap.size < _; omega) _).at_store (p := ⟨w.heap.size, 1, none⟩) (by show w.heap.size < _; omega) _).at_store (p := ⟨w.heap.size, 2, none⟩) (by show w.heap.size < _; omega) _)).wider (lo' := w.heap.size) (by omega) ((((QhI.at_store (p := ⟨w.heap.size, 0, none⟩) (by show w.heap.size < _; omega) _).at_store (p := ⟨w.heap.size, 1, none⟩) (by show w.heap.size < _; omega) _).at_store (p := ⟨w.heap.size, 2, none⟩) (by show w.heap.size < _; omega) _)).2.2.1 (Nat.le_refl _))
    have HL : Hid (Below w.heap.size w (((w6.setCell ⟨w.heap.size, 0, none⟩ (.int .i64 X)).setCell ⟨w.heap.size, 1, none⟩ (.int .i64 Y)).setCell ⟨w.heap.size, 2, none⟩ (.slice A B.length c))) := Lib.hid ((((hL6.setCell (p := ⟨w.heap.size, 0, none⟩) (by show _ ≤ w.heap.size; omega) _).setCell (p := ⟨w.heap.size, 1, none⟩) (by show _ ≤ w.heap.size; omega) _).setCell (p := ⟨w.heap.size, 2, none⟩) (by show _ ≤ w.heap.size; omega) _))
    clear hL6 hS6 hc6 hC6 KS S0 EL hW9 QhI EhI DhI Dbp Er1 fr1
    go_wp2_with fail
    refine bodyPost_ret (v := .tuple #[.agg #[.int .i64 X, .int .i64 Y, .slice A B.length c], .int .i64 s]) ?_ rfl ?_
    · simp [results, Try.results51, go_sem, zn, z0, z1, z2]
    · exact ⟨X, Y, A, c, B, s, rfl, HQhI.out, HL.out⟩
set_option maxHeartbeats 4000000 in
theorem DrawComposeSyms_any {w : World} {a : Option Addr} {len cap : Nat} {zs : List Int} (h : IsRow .u8 w a len cap zs) :
    Calls Try.prog 47 #[.slice a len cap] w fun e w' => ∃ x y : Int, e = .returned (.tuple #[.int .i64 x, .int .i64 y]) ∧ Below w.heap.size w w' := by
  go_enter Try.func47, Try.ntmps47
  go_wp2_with fail
  refine (src_from h).mono ?_
  rintro e w1 ⟨rfl, hS, s1, hb1⟩
  obtain ⟨b, hb⟩ : ∃ b, w.heap.size = b := ⟨_, rfl⟩
  rw [hb] at hS s1 hb1 ⊢
  clear h
  go_wp2_with fail
  refine (l06DrawSym_any hS (by omega)).mono ?_
  rintro e w2 ⟨x, rfl, hS2, hc2⟩
  go_wp2_with fail
  refine (l06DrawSym_any hS2 (by omega)).mono ?_
  rintro e w3 ⟨y, rfl, hS3, hc3⟩
  have HE := Lib.hid (chg_low (chg_low hb1 hc2 (Nat.le_refl _) (by omega)) hc3 (Nat.le_refl _) (by have := hc2.size; omega))
  clear hS hS2 hS3 hc2 hc3 hb1
  go_wp2
  go_ret2
  exact ⟨x, y, rfl, by rw [hb]; exact HE.out⟩
set_option maxHeartbeats 4000000 in
theorem DrawInverseSym_any {w : World} {a : Option Addr} {len cap : Nat} {zs : List Int} (h : IsRow .u8 w a len cap zs) :
    Calls Try.prog 48 #[.slice a len cap] w fun e w' => ∃ x : Int, e = .returned (.int .i64 x) ∧ Below w.heap.size w w' := by
  go_enter Try.func48, Try.ntmps48
  go_wp2_with fail
  refine (src_from h).mono ?_
  rintro e w1 ⟨rfl, hS, s1, hb1⟩
  obtain ⟨b, hb⟩ : ∃ b, w.heap.size = b := ⟨_, rfl⟩
  rw [hb] at hS s1 hb1 ⊢
  clear h
  go_wp2_with fail
  refine (l06DrawSym_any hS (by omega)).mono ?_
  rintro e w2 ⟨x, rfl, hS2, hc2⟩
  have HE := Lib.hid (chg_low hb1 hc2 (Nat.le_refl _) (by omega))
  clear hS hS2 hc2 hb1
  go_wp2
  go_ret
  exact ⟨x, rfl, by rw [hb]; exact HE.out⟩
set_option maxHeartbeats 4000000 in
theorem DrawSymName_any {w : World} {a : Option Addr} {len cap : Nat} {zs : List Int} (h : IsRow .u8 w a len cap zs) :
    Calls Try.prog 53 #[.slice a len cap] w fun e w' => ∃ x : Int, e = .returned (.int .i64 x) ∧ (-1 ≤ x ∧ x ≤ 9) ∧ Below w.heap.size w w' := by
  go_enter Try.func53, Try.ntmps53
  go_wp2_with fail
  refine (src_from h).mono ?_
  rintro e w1 ⟨rfl, hS, s1, hb1⟩
  obtain ⟨b, hb⟩ : ∃ b, w.heap.size = b := ⟨_, rfl⟩
  rw [hb] at hS s1 hb1 ⊢
  clear h
  go_wp2_with fail
  refine (src_pick hS (by omega) (by omega)).mono ?_
  rintro e w2 ⟨x, rfl, x0, x1, _, hS2, hc2⟩
  have x2 := x1 (by omega)
  have HE := Lib.hid (chg_low hb1 hc2 (Nat.le_refl _) (by omega))
  clear hS hS2 hc2 hb1 x1
  go_wp2
  go_ret
  exact ⟨x - 1, rfl, by omega, by rw [hb]; exact HE.out⟩
set_option maxRecDepth 20000 in
set_option maxHeartbeats 8000000 in
theorem DrawMapPoint_any {w : World} {a : Option Addr} {len cap : Nat} {zs : List Int} (h : IsRow .u8 w a len cap zs) :
    Calls Try.prog 52 #[.slice a len cap] w fun e w' => ∃ (X Y : Int) (A : Option Addr) (c : Nat) (B : List Int) (x y s : Int), e = .returned (.tuple #[.agg #[.int .i64 X, .int .i64 Y, .slice A B.length c], .agg #[.int .i64 x, .int .i64 y], .int .i64 s]) ∧ IntsIn w' w.heap.size w'.heap.size (.slice A B.length c) B ∧ Below w.heap.size w w' := by
  have bl := Joins.below_alloc2 w (.cells #[.int .i64 0, .int .i64 0, .slice none 0 0] 30) (.cells #[.int .i64 0, .int .i64 0] 36)
  have r1 := ((Box.new w 30 #[.int .i64 0, .int .i64 0, .slice none 0 0]).alloc (.cells #[.int .i64 0, .int .i64 0] 36))
  have r2 := (Box.new (w.alloc (.cells #[.int .i64 0, .int .i64 0, .slice none 0 0] 30)) 36 #[.int .i64 0, .int .i64 0])
  rw [World.size_alloc] at r2
  have h1 := h.below bl
  clear h
  go_enter Try.func52, Try.ntmps52
  go_wp2_with fail
  refine (src_from h1).mono ?_
  rintro e w1 ⟨rfl, hS, s1, hb1⟩
  simp only [World.size_alloc] at hS s1
  obtain ⟨b, hb⟩ : ∃ b, w.heap.size + 1 + 1 = b := ⟨_, rfl⟩
  rw [hb] at hS s1
  simp only [World.size_alloc, hb]
  replace r1 := r1.below hb1
  replace r2 := r2.below hb1
  replace bl := bnext bl hb1
  clear h1 hb1
  go_wp2_with fail
  refine (l02Bent_any hS (by omega)).mono ?_
  rintro e w2 ⟨X, Y, A, c, B, rfl, hI, hS2, hc2⟩
  replace r1 := (r1.chgb hc2 (by omega)).alloc (.cells #[.int .i64 X, .int .i64 Y, .slice A B.length c] 30)
  replace r2 := (r2.chgb hc2 (by omega)).alloc (.cells #[.int .i64 X, .int .i64 Y, .slice A B.length c] 30)
  replace bl := (chg_low bl hc2 (by omega) (by omega)).alloc (by have := hc2.size; omega) (.cells #[.int .i64 X, .int .i64 Y, .slice A B.length c] 30)
  have bp := Box.new w2 30 #[.int .i64 X, .int .i64 Y, .slice A B.length c]
  replace hI := hI.alloc (.cells #[.int .i64 X, .int .i64 Y, .slice A B.length c] 30)
  replace hS2 := hS2.below (Joins.below_alloc1 w2 (.cells #[.int .i64 X, .int .i64 Y, .slice A B.length c] 30))
  have sz2 := hc2.size
  obtain ⟨pp, hpp⟩ : ∃ pp, w2.heap.size = pp := ⟨_, rfl⟩
  rw [hpp] at bp hI sz2
  clear hS hc2
  have pl := bp.lt
  go_wp2_with fail
  try rw [hpp]
  generalize hV : w2.alloc (.cells #[.int .i64 X, .int .i64 Y, .slice A B.length c] 30) = V at *
  clear hV
  refine (l02DrawPoint_any hS2 bp hI (by omega) (by omega) (by omega)).mono ?_
  rintro e w3 ⟨x, y, rfl, hS3, hc3⟩
  replace bp := (bp.chgb hc3 (by omega)).alloc (.cells #[.int .i64 x, .int .i64 y] 36)
  replace hI := (hI.chgb hc3 (by omega)).alloc (.cells #[.int .i64 x, .int .i64 y] 36)
  replace r1 := (r1.chgb hc3 (by omega)).alloc (.cells #[.int .i64 x, .int .i64 y] 36)
  replace r2 := (r2.chgb hc3 (by omega)).alloc (.cells #[.int .i64 x, .int .i64 y] 36)
  replace bl := (chg_low bl hc3 (by omega) (by have := bl.size; exact this)).alloc (by have := hc3.size; have := bl.size; omega) (.cells #[.int .i64 x, .int .i64 y] 36)
  have bt := Box.new w3 36 #[.int .i64 x, .int .i64 y]
  have sz3 := hc3.size
  clear hS2
  have hS2 := hS3.below (Joins.below_alloc1 w3 (.cells #[.int .i64 x, .int .i64 y] 36))
  obtain ⟨pt, hpt⟩ : ∃ pt, w3.heap.size = pt := ⟨_, rfl⟩
  rw [hpt] at bt sz3
  clear hS3 hc3
  have hm0 : 0 + 1010 + 10 ≤ 100000000 := by omega
  go_wp2_with fail
  try rw [hpt]
  generalize hV : w3.alloc (.cells #[.int .i64 x, .int .i64 y] 36) = V3 at *
  clear hV
  obtain ⟨V, hV⟩ : ∃ z, z = V3 := ⟨_, rfl⟩
  subst hV
  have KS : Hid (∀ w', Chg b (b + 1) V w' → (w'.cell? ⟨pp, 0, none⟩ = some (.int .i64 X) ∧ w'.cell? ⟨pp, 1, none⟩ = some (.int .i64 Y) ∧ w'.cell? ⟨pp, 2, none⟩ = some (.slice A B.length c) ∧ w'.cell? ⟨pt, 0, none⟩ = some (.int .i64 x) ∧ w'.cell? ⟨pt, 1, none⟩ = some (.int .i64 y))) := Lib.hid (fun w' hc => ⟨(bp.chgb hc (by omega)).cell 0, (bp.chgb hc (by omega)).cell 1, (bp.chgb hc (by omega)).cell 2, (bt.chgb hc (by omega)).cell 0, (bt.chgb hc (by omega)).cell 1⟩)
  have S0 : Hid (Src V.drew b (0 + 1010 + 10)) := Lib.hid (hS2.drewN 1)
  have hb0 : Below V.heap.size V V.drew := below_drewN _ _ 1
  have Dbp := Lib.hid (bp.below hb0)
  have Dbt := Lib.hid (bt.below hb0)
  have DhI := Lib.hid (hI.below hb0)
  have EhI := Lib.hid hI
  have Er1 := Lib.hid r1
  have Er2 := Lib.hid r2
  have EL := Lib.hid bl
  have nbpr1 : (pp : Nat) ≠ w.heap.size := by omega
  have nbpr2 : (pp : Nat) ≠ w.heap.size + 1 := by omega
  have nbtr1 : (pt : Nat) ≠ w.heap.size := by omega
  have nbtr2 : (pt : Nat) ≠ w.heap.size + 1 := by omega
  have mr1 : (w.heap.size : Nat) ≠ b := by omega
  have mr2 : (w.heap.size + 1 : Nat) ≠ b := by omega
  have bp0_ := bp.cell 0
  have bp1_ := bp.cell 1
  have bp2_ := bp.cell 2
  have bpn_ := bp.lt
  have bt0_ := bt.cell 0
  have bt1_ := bt.cell 1
  have btn_ := bt.lt
  simp only [List.getElem?_toArray, List.getElem?_cons_zero, List.getElem?_cons_succ] at bp0_ bp1_ bp2_ bt0_ bt1_
  clear bp bt hI r1 r2 hS2 bl hb0
  go_wp2
  go_region_held3 (fun w' => w'.cell? ⟨pp, 0, none⟩ = some (.int .i64 X) ∧ w'.cell? ⟨pp, 1, none⟩ = some (.int .i64 Y) ∧ w'.cell? ⟨pp, 2, none⟩ = some (.slice A B.length c) ∧ w'.cell? ⟨pt, 0, none⟩ = some (.int .i64 x) ∧ w'.cell? ⟨pt, 1, none⟩ = some (.int .i64 y))
    (first | (with_reducible exact ⟨cell_f nbpr2 (cell_f nbpr2 (cell_f nbpr1 (cell_f nbpr1 (cell_f nbpr1 (k0))))), cell_f nbpr2 (cell_f nbpr2 (cell_f nbpr1 (cell_f nbpr1 (cell_f nbpr1 (k1))))), cell_f nbpr2 (cell_f nbpr2 (cell_f nbpr1 (cell_f nbpr1 (cell_f nbpr1 (k2))))), cell_f nbtr2 (cell_f nbtr2 (cell_f nbtr1 (cell_f nbtr1 (cell_f nbtr1 (k3))))), cell_f nbtr2 (cell_f nbtr2 (cell_f nbtr1 (cell_f nbtr1 (cell_f nbtr1 (k4)))))⟩) | (with_reducible exact ⟨cell_f nbpr1 (cell_f nbpr1 (cell_f nbpr1 (k0))), cell_f nbpr1 (cell_f nbpr1 (cell_f nbpr1 (k1))), cell_f nbpr1 (cell_f nbpr1 (cell_f nbpr1 (k2))), cell_f nbtr1 (cell_f nbtr1 (cell_f nbtr1 (k3))), cell_f nbtr1 (cell_f nbtr1 (cell_f nbtr1 (k4)))⟩) | (with_reducible exact KS.out _ hC6) | (with_reducible exact KS.out _ (chg_drew _ _)) | (with_reducible assumption))
    ((go_at_call 106; (with_reducible refine (l06DrawSym_any S0.out hm0).mono ?_); rintro e w6 ⟨s, rfl, hS6, hc6⟩; have hC6 := Chg.trans (chg_drew b V) hc6; obtain ⟨k0, k1, k2, k3, k4⟩ := KS.out _ hC6; have fr1 := Er1.out.chgb hC6 mr1; have z0 := fr1.cell 0; have zf0 := fr1.free 0; have z1 := fr1.cell 1; have zf1 := fr1.free 1; have z2 := fr1.cell 2; have zf2 := fr1.free 2; have zn := fr1.lt; have fr2 := Er2.out.chgb hC6 mr2; have y0 := fr2.cell 0; have yf0 := fr2.free 0; have y1 := fr2.cell 1; have yf1 := fr2.free 1; have yn := fr2.lt))
  all_goals
    have QhI := EhI.out.chgb hC6 (by omega)
    have hs6 := hC6.size
    have hd6 : V.drew.heap.size = V.heap.size := rfl
    have hL6 := chg_low EL.out hC6 (by omega) (by have := EL.out.size; exact this)
    obtain ⟨W9, hW9⟩ : ∃ z, z = (((((w6.setCell ⟨w.heap.size, 0, none⟩ (.int .i64 X)).setCell ⟨w.heap.size, 1, none⟩ (.int .i64 Y)).setCell ⟨w.heap.size, 2, none⟩ (.slice A B.length c)).setCell ⟨w.heap.size + 1, 0, none⟩ (.int .i64 x)).setCell ⟨w.heap.size + 1, 1, none⟩ (.int .i64 y)) := ⟨_, rfl⟩
    have HQhI : Hid (IntsIn (((((w6.setCell ⟨w.heap.size, 0, none⟩ (.int .i64 X)).setCell ⟨w.heap.size, 1, none⟩ (.int .i64 Y)).setCell ⟨w.heap.size, 2, none⟩ (.slice A B.length c)).setCell ⟨w.heap.size + 1, 0, none⟩ (.int .i64 x)).setCell ⟨w.heap.size + 1, 1, none⟩ (.int .i64 y)) w.heap.size ((((((w6.setCell ⟨w.heap.size, 0, none⟩ (.int .i64 X)).setCell ⟨w.heap.size, 1, none⟩ (.int .i64 Y)).setCell ⟨w.heap.size, 2, none⟩ (.slice A B.length c)).setCell ⟨w.heap.size + 1, 0, none⟩ (.int .i64 x)).setCell ⟨w.heap.size + 1, 1, none⟩ (.int .i64 y))).heap.size (.slice A B.length c) B) := Lib.hid (((((((QhI.at_store (p := ⟨w.heap.size, 0, none⟩) (by show w.heap.size < _; omega) _).at_store (p := ⟨w.heap.size, 1, none⟩) (by show w.heap.size < _; omega) _).at_store (p := ⟨w.heap.size, 2, none⟩) (by show w.heap.size < _; omega) _).at_store (p := ⟨w.heap.size + 1, 0, none⟩) (by show w.heap.size + 1 < _; omega) _).at_store (p := ⟨w.heap.size + 1, 1, none⟩) (by show w.heap.size + 1 < _; omega) _)).wider (lo' := w.heap.size) (by omega) ((((((QhI.at_store (p := ⟨w.heap.size, 0, none⟩) (by show w.heap.size < _; omega) _).at_store (p := ⟨w.heap.size, 1, none⟩) (by show w.heap.size < _; omega) _).at_store (p := ⟨w.heap.size, 2, none⟩) (by show w.heap.size < _; omega) _).at_store (p := ⟨w.heap.size + 1, 0, none⟩) (by show w.heap.size + 1 < _; omega) _).at_store (p := ⟨w.heap.size + 1, 1, none⟩) (by show w.heap.size + 1 < _; omega) _)).2.2.1 (Nat.le_refl _))
    have HL : Hid (Below w.heap.size w (((((w6.setCell ⟨w.heap.size, 0, none⟩ (.int .i64 X)).setCell ⟨w.heap.size, 1, none⟩ (.int .i64 Y)).setCell ⟨w.heap.size, 2, none⟩ (.slice A B.length c)).setCell ⟨w.heap.size + 1, 0, none⟩ (.int .i64 x)).setCell ⟨w.heap.size + 1, 1, none⟩ (.int .i64 y))) := Lib.hid ((((((hL6.setCell (p := ⟨w.heap.size, 0, none⟩) (by show _ ≤ w.heap.size; omega) _).setCell (p := ⟨w.heap.size, 1, none⟩) (by show _ ≤ w.heap.size; omega) _).setCell (p := ⟨w.heap.size, 2, none⟩) (by show _ ≤ w.heap.size; omega) _).setCell (p := ⟨w.heap.size + 1, 0, none⟩) (by show _ ≤ w.heap.size + 1; omega) _).setCell (p := ⟨w.heap.size + 1, 1, none⟩) (by show _ ≤ w.heap.size + 1; omega) _))
    clear hL6 hS6 hc6 hC6 KS S0 EL hW9 QhI EhI DhI Dbp Dbt Er1 Er2 fr1 fr2
    go_wp2_with fail
    refine bodyPost_ret (v := .tuple #[.agg #[.int .i64 X, .int .i64 Y, .slice A B.length c], .agg #[.int .i64 x, .int .i64 y], .int .i64 s]) ?_ rfl ?_
    · simp [results, Try.results52, go_sem, zn, z0, z1, z2, yn, y0, y1]
    · exact ⟨X, Y, A, c, B, x, y, s, rfl, HQhI.out, HL.out⟩
end Go.Proofs.Ytihfdgnocdphcaa
