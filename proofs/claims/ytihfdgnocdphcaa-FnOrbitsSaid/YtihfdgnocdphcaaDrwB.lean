/-
  A panel that often has symmetries, and a point, as the reference draws them.
-/
import Derived.Test.YtihfdgnocdphcaaDrw
import Derived.Test.YtihfdgnocdphcaaSymG
import Derived.Test.YtihfdgnocdphcaaVal
namespace Go.Proofs.Ytihfdgnocdphcaa
open Go.RowKit Knot

theorem symP_any {w : World} {lo hi : Nat} {x y : Int} {v : Value} {xs : List Int} (hp : IntsIn w lo hi v xs) (s : Int) :
    Calls Try.prog 35 #[.agg #[.int .i64 x, .int .i64 y, v], .int .i64 s] w fun e w' => ∃ (px py r : Int) (A : Option Addr) (c : Nat) (zs : List Int), e = .returned (.tuple #[.agg #[.int .i64 px, .int .i64 py, .slice A zs.length c], .int .i64 r]) ∧
      IntsIn w' w.heap.size w'.heap.size (.slice A zs.length c) zs ∧ Below w.heap.size w w' := by
  obtain ⟨⟨px, py, zs, r⟩, hm⟩ : ∃ q, symM ⟨x, y, xs⟩ s = q := ⟨_, rfl⟩
  refine (K_spec_SymmetricPanel hp hm).mono ?_
  rintro e w' ⟨A, c, rfl, h1, h2⟩
  exact ⟨px, py, r, A, c, zs, rfl, h1, h2⟩
theorem Chg.allocc {lo hi : Nat} {w a : World} (h : Chg lo hi w a) (o : Obj) : Chg lo hi w (a.alloc o) := h.trans (Chg.ofBelow (Joins.below_alloc1 a o))
theorem chg_drew (b : Nat) (V : World) : Chg b (b + 1) V V.drew := Chg.ofBelow (below_drewN _ _ 1)
/-- A panel laid into a new variable's box. -/
theorem pan_put {w3 w7 : World} {b k lo M c : Nat} {A : Option Addr} {X Y : Int} {B : List Int} (hz : Box w7 k 30 #[.int .i64 0, .int .i64 0, .slice none 0 0]) (hI : IntsIn w7 lo w7.heap.size (.slice A B.length c) B) (hk : k < lo) (hS : Src w7 b M) (hb : b < k) (hc : Chg b (b + 1) w3 w7) (h3 : w3.heap.size ≤ k) :
    Box (((w7.setCell ⟨k, 0, none⟩ (.int .i64 X)).setCell ⟨k, 1, none⟩ (.int .i64 Y)).setCell ⟨k, 2, none⟩ (.slice A B.length c)) k 30 #[.int .i64 X, .int .i64 Y, .slice A B.length c] ∧
    IntsIn (((w7.setCell ⟨k, 0, none⟩ (.int .i64 X)).setCell ⟨k, 1, none⟩ (.int .i64 Y)).setCell ⟨k, 2, none⟩ (.slice A B.length c)) w3.heap.size (((w7.setCell ⟨k, 0, none⟩ (.int .i64 X)).setCell ⟨k, 1, none⟩ (.int .i64 Y)).setCell ⟨k, 2, none⟩ (.slice A B.length c)).heap.size (.slice A B.length c) B ∧
    Src (((w7.setCell ⟨k, 0, none⟩ (.int .i64 X)).setCell ⟨k, 1, none⟩ (.int .i64 Y)).setCell ⟨k, 2, none⟩ (.slice A B.length c)) b M ∧ Chg b (b + 1) w3 (((w7.setCell ⟨k, 0, none⟩ (.int .i64 X)).setCell ⟨k, 1, none⟩ (.int .i64 Y)).setCell ⟨k, 2, none⟩ (.slice A B.length c)) := by
  have hne : ∀ g' : Nat, (Value.slice A B.length c).ownBlock = some g' → g' ≠ k := fun g' hg' => by have := (Row.lt hI.1 hg').1; omega
  refine ⟨cut_box3 hz _ _ _, ⟨Row.le (Row.setCell (Row.setCell (Row.setCell hI.1 (p := ⟨k, 0, none⟩) hne _) (p := ⟨k, 1, none⟩) hne _) (p := ⟨k, 2, none⟩) hne _) (by omega), fun j hj => by simp only [World.size_setCell]; exact hI.2.1 j hj, Nat.le_refl _, hI.len⟩, ?_, ?_⟩
  · exact ((hS.put (p := ⟨k, 0, none⟩) hb _).put (p := ⟨k, 1, none⟩) hb _).put (p := ⟨k, 2, none⟩) hb _
  · exact ((hc.put (p := ⟨k, 0, none⟩) h3 _).put (p := ⟨k, 1, none⟩) h3 _).put (p := ⟨k, 2, none⟩) h3 _
set_option maxRecDepth 20000 in
set_option maxHeartbeats 8000000 in
theorem l06Draw_any {w : World} {b m : Nat} (hs : Src w b m) (hm : m ≤ 1000000) :
    Calls Try.prog 99 #[.pointer (some ⟨b, 0, none⟩)] w fun e w' => ∃ (X Y : Int) (A : Option Addr) (c : Nat) (B : List Int), e = .returned (.agg #[.int .i64 X, .int .i64 Y, .slice A B.length c]) ∧
      IntsIn w' w.heap.size w'.heap.size (.slice A B.length c) B ∧ Src w' b (m + 3000) ∧ Chg b (b + 1) w w' := by
  have hbw := hs.lt
  have ZO := Box.new w 30 #[.int .i64 0, .int .i64 0, .slice none 0 0]
  have hs0 := hs.below (Joins.below_alloc1 w (.cells #[.int .i64 0, .int .i64 0, .slice none 0 0] 30))
  have hc0 : Chg b (b + 1) w (w.alloc (.cells #[.int .i64 0, .int .i64 0, .slice none 0 0] 30)) := Chg.ofBelow (Joins.below_alloc1 w _)
  have hz1 : w.heap.size + 1 ≤ (w.alloc (.cells #[.int .i64 0, .int .i64 0, .slice none 0 0] 30)).heap.size := by simp
  clear hs
  go_enter Try.func99, Try.ntmps99
  go_wp2_with fail
  generalize (w.alloc (.cells #[.int .i64 0, .int .i64 0, .slice none 0 0] 30)) = V at ZO hs0 hc0 hz1 ⊢
  refine (l02Draw_any hs0 (by omega) (by omega) (by omega)).mono ?_
  rintro e w2 ⟨X, Y, g, B, rfl, hok, _, hI, hS2, hc2⟩
  replace ZO := ZO.chgb hc2 (by omega)
  replace hc0 := hc0.trans hc2
  have sz2 := hc2.size
  have bp := Box.new w2 30 #[.int .i64 X, .int .i64 Y, .slice (some ⟨g, 0, none⟩) B.length B.length]
  replace ZO := ZO.alloc (.cells #[.int .i64 X, .int .i64 Y, .slice (some ⟨g, 0, none⟩) B.length B.length] 30)
  replace hI := hI.alloc (.cells #[.int .i64 X, .int .i64 Y, .slice (some ⟨g, 0, none⟩) B.length B.length] 30)
  replace hS2 := hS2.below (Joins.below_alloc1 w2 (.cells #[.int .i64 X, .int .i64 Y, .slice (some ⟨g, 0, none⟩) B.length B.length] 30))
  replace hc0 := Chg.new hc0 (.cells #[.int .i64 X, .int .i64 Y, .slice (some ⟨g, 0, none⟩) B.length B.length] 30)
  obtain ⟨pp, hpp⟩ : ∃ pp, w2.heap.size = pp := ⟨_, rfl⟩
  rw [hpp] at bp hI sz2
  clear hok hs0 hc2
  go_wp2_with fail
  try rw [hpp]
  generalize hV : w2.alloc (.cells #[.int .i64 X, .int .i64 Y, .slice (some ⟨g, 0, none⟩) B.length B.length] 30) = V2 at *
  clear hV
  refine (src_one hS2 (by omega) (by omega)).mono ?_
  rintro e w3 ⟨r0, rfl, hS3, hc3⟩
  replace ZO := ZO.chgb hc3 (by omega)
  replace bp := bp.chgb hc3 (by omega)
  replace hI := hI.chgb hc3 (by omega)
  replace hc0 := hc0.trans hc3
  have sz3 := bp.lt
  clear hS2 hc3
  have hbp : b < pp := by omega
  have hzp : w.heap.size < pp := by omega
  have hb3 : b < w3.heap.size := by omega
  have hpb : pp ≠ b := by omega
  have HK : Hid (∀ (r1 : Bool) (w4 : World) (M : Nat), Chg b (b + 1) w3 w4 → Src w4 b M → True) := Lib.hid (fun _ _ _ _ _ => trivial)
  have HBB : Hid (∀ w', Chg b (b + 1) w3 w' → Box w' w.heap.size 30 #[.int .i64 0, .int .i64 0, .slice none 0 0] ∧ Box w' pp 30 #[.int .i64 X, .int .i64 Y, .slice (some ⟨g, 0, none⟩) B.length B.length] ∧ IntsIn w' V.heap.size pp (.slice (some ⟨g, 0, none⟩) B.length B.length) B ∧ Chg b (b + 1) w w') :=
    Lib.hid (fun w' hc => ⟨ZO.chgb hc (by omega), bp.chgb hc hpb, hI.chgb hc (by omega), hc0.trans hc⟩)
  have HS := Lib.hid hS3
  have HW : Hid (V.heap.size ≤ pp ∧ w.heap.size + 1 ≤ V.heap.size) := Lib.hid ⟨sz2, hz1⟩
  clear HK ZO bp hI hc0 hS3 sz2 hz1 hpp
  have key : ∀ (w4 : World) (M : Nat), Chg b (b + 1) w3 w4 → Src w4 b M → M ≤ m + 1100 → Calls Try.prog 102 #[.pointer (some ⟨b, 0, none⟩), .int .i64 8] w4 fun e w' => ∃ r : Bool, e = .returned (.bool r) ∧ Src w' b (M + 1) ∧ Chg b (b + 1) w3 w' := fun w4 M hc hS hM => by
    refine (src_one hS (by omega) (by omega)).mono ?_
    rintro e w' ⟨r, rfl, hS', hc'⟩
    exact ⟨r, rfl, hS', hc.trans hc'⟩
  have HKEY := Lib.hid key
  clear key
  cases r0
  · skip
    go_wp2_with fail
    refine (HKEY.out _ _ (Chg.ofBelow (Below.refl _ _)) (HS.out) (by omega)).mono ?_
    rintro e w8 ⟨r8, rfl, hS8, hc8⟩
    cases r8
    · obtain ⟨ZO, bp, hI, hc0⟩ := HBB.out w8 hc8
      have p0 := bp.cell 0
      have p1 := bp.cell 1
      have p2 := bp.cell 2
      have pn := bp.lt
      simp only [List.getElem?_toArray, List.getElem?_cons_zero, List.getElem?_cons_succ] at p0 p1 p2
      have z0 := ZO.cell 0
      have z1 := ZO.cell 1
      have z2 := ZO.cell 2
      have zf0 := ZO.free 0
      have zf1 := ZO.free 1
      have zf2 := ZO.free 2
      have zn := ZO.lt
      simp only [List.getElem?_toArray, List.getElem?_cons_zero, List.getElem?_cons_succ] at z0 z1 z2
      have HE := Lib.hid (pan_end (X := X) (Y := Y) hbw (hI.wider HW.out.2 hI.2.2.1 (Nat.le_refl _)) hS8 hc0)
      have hp1 : pp ≠ w.heap.size := by omega
      clear bp ZO hI hS8 hc0 hc8
      go_wp2_with fail
      refine bodyPost_ret (v := .agg #[.int .i64 X, .int .i64 Y, .slice (some ⟨g, 0, none⟩) B.length B.length]) ?_ rfl ?_
      · simp [results, Try.results99, go_sem, zn, z0, z1, z2, p0, p1, p2]
      · exact ⟨X, Y, _, _, B, rfl, HE.out.1, HE.out.2.1.more (by omega), HE.out.2.2⟩
    · go_wp2_with fail
      refine (l02Bent_any hS8 (by omega)).mono ?_
      rintro e w9 ⟨X2, Y2, A2, c2, B2, rfl, hI2, hS9, hc9⟩
      obtain ⟨ZO, _, _, hc0⟩ := HBB.out w9 (hc8.trans hc9)
      have sz8 := hc8.size
      have z0 := ZO.cell 0
      have z1 := ZO.cell 1
      have z2 := ZO.cell 2
      have zf0 := ZO.free 0
      have zf1 := ZO.free 1
      have zf2 := ZO.free 2
      have zn := ZO.lt
      simp only [List.getElem?_toArray, List.getElem?_cons_zero, List.getElem?_cons_succ] at z0 z1 z2
      have HE := Lib.hid (pan_end (X := X2) (Y := Y2) hbw (hI2.wider (by omega) (Nat.le_refl _) (Nat.le_refl _)) hS9 hc0)
      clear ZO hI2 hS9 hc0 hc8 hc9 hS8
      go_wp2_with fail
      refine bodyPost_ret (v := .agg #[.int .i64 X2, .int .i64 Y2, .slice A2 B2.length c2]) ?_ rfl ?_
      · simp [results, Try.results99, go_sem, zn, z0, z1, z2]
      · exact ⟨X2, Y2, A2, c2, B2, rfl, HE.out.1, HE.out.2.1.more (by omega), HE.out.2.2⟩
  · skip
    obtain ⟨h1, h2, h3, h4⟩ := HBB.out w3 (Chg.ofBelow (Below.refl _ _))
    have p0 := h2.cell 0
    have p1 := h2.cell 1
    have p2 := h2.cell 2
    have pn := h2.lt
    simp only [List.getElem?_toArray, List.getElem?_cons_zero, List.getElem?_cons_succ] at p0 p1 p2
    have HS0 : Hid (Src w3.drew b (m + 1001)) := Lib.hid (HS.out.drewN 1)
    have HS1 : Hid (Src (w3.alloc (.cells #[.int .i64 0, .int .i64 0, .slice none 0 0] 30)).drew b (m + 1001)) := Lib.hid ((HS.out.below (Joins.below_alloc1 _ _)).drewN 1)
    have KS : Hid (∀ w', Chg b (b + 1) w3 w' → (Chg b (b + 1) w3 w' ∧ w'.cell? ⟨pp, 0, none⟩ = some (.int .i64 X) ∧ w'.cell? ⟨pp, 1, none⟩ = some (.int .i64 Y) ∧ w'.cell? ⟨pp, 2, none⟩ = some (.slice (some ⟨g, 0, none⟩) B.length B.length))) :=
      Lib.hid (fun w' hc => ⟨hc, (HBB.out w' hc).2.1.cell 0, (HBB.out w' hc).2.1.cell 1, (HBB.out w' hc).2.1.cell 2⟩)
    have HIK : Hid (∀ w', Chg b (b + 1) w3 w' → IntsIn w' V.heap.size pp (.slice (some ⟨g, 0, none⟩) B.length B.length) B) := Lib.hid (fun w' hc => (HBB.out w' hc).2.2.1)
    have hm1 : m + 1001 ≤ 1000000000 := by omega
    have hzb : w3.heap.size ≠ b := by omega
    clear h1 h2 h3 h4
    go_wp2
    go_cut [4, 5] (fun s4 s5 wc => ∃ (px : Nat) (X1 Y1 r1 : Int) (A1 : Option Addr) (c1 : Nat) (B1 : List Int), s4 = .pointer (some ⟨px, 0, none⟩) ∧ s5 = .int .i64 r1 ∧ Box wc px 30 #[.int .i64 X1, .int .i64 Y1, .slice A1 B1.length c1] ∧ IntsIn wc w3.heap.size wc.heap.size (.slice A1 B1.length c1) B1 ∧ Src wc b (m + 1002) ∧ w3.heap.size ≤ px ∧ Chg b (b + 1) w3 wc)
    case first =>
      go_region_held3 (fun w' => Chg b (b + 1) w3 w' ∧ w'.cell? ⟨pp, 0, none⟩ = some (.int .i64 X) ∧ w'.cell? ⟨pp, 1, none⟩ = some (.int .i64 Y) ∧ w'.cell? ⟨pp, 2, none⟩ = some (.slice (some ⟨g, 0, none⟩) B.length B.length))
        ((refine KS.out _ ?_; first | exact hC7 | exact hC6 | exact chg_drew _ _ | exact Chg.allocc hC7 _ | exact Chg.allocc hC6 _ | exact Chg.allocc (chg_drew _ _) _ | exact Chg.trans (Chg.allocc (Chg.ofBelow (Below.refl _ _)) _) (chg_drew _ _) | exact Chg.allocc (by assumption) _ | (refine Chg.put (Chg.put (Chg.put (by assumption) ?_ _) ?_ _) ?_ _ <;> (first | exact Nat.le_refl _ | exact hC6.size)) | assumption))
        (first
          | (go_at_call 103; go_split_ands; first
              | ((with_reducible refine (src_pick HS0.out hm1 (by omega)).mono ?_); rintro e w6 ⟨i, rfl, i0, i1, _, hS6, hc6⟩; have hC6 := Chg.trans (chg_drew b w3) hc6)
              | ((with_reducible refine (src_pick HS1.out hm1 (by omega)).mono ?_); rintro e w6 ⟨i, rfl, i0, i1, _, hS6, hc6⟩; have hs6 : w3.heap.size + 1 ≤ w6.heap.size := (by have := hc6.size; simp only [World.size_drew, World.size_alloc] at this; exact this); have hC6 := Chg.trans (Chg.trans (Chg.allocc (Chg.ofBelow (Below.refl _ w3)) _) (chg_drew b _)) hc6; have hz := Box.chgb (cut_drewbox (Box.new w3 30 #[.int .i64 0, .int .i64 0, .slice none 0 0])) hc6 hzb))
          | (go_at_call 35; go_split_ands; have hsz6 := hC6.size; (with_reducible refine (symP_any (HIK.out _ (by assumption)) _).mono ?_); rintro e w7 ⟨X1, Y1, r1, A1, c1, B1, rfl, rh, hb7⟩; have hsz7 := hb7.size; have hC7 := Chg.trans (b := _) (by assumption) (Chg.ofBelow (lo := b) (hi := b + 1) hb7); (first | (have hS7 := hS6.below hb7) | (have hS7 := (hS6.below (Joins.below_alloc1 _ _)).below hb7)); (first | (replace hz := hz.below hb7) | (have hz := (Box.new _ 30 #[.int .i64 0, .int .i64 0, .slice none 0 0]).below hb7) | skip); try (skip; have hzl := hz.lt; have z0 := hz.cell 0; have y0 := hz.free 0; have z1 := hz.cell 1; have y1 := hz.free 1; have z2 := hz.cell 2; have y2 := hz.free 2; have zn := hz.lt)))
      all_goals go_wp2_with fail
      all_goals go_meet
      all_goals first
        | exact ⟨_, X1, Y1, r1, A1, c1, B1, rfl, rfl, Box.new _ _ _, (rh.alloc _).wider (by omega) (by simp) (Nat.le_refl _), hS7.below (Joins.below_alloc1 _ _), by omega, Chg.allocc hC7 _⟩
        | (have hp := pan_put (X := X1) (Y := Y1) hz rh (by (try simp only [World.size_alloc]); omega) hS7 (by omega) hC7 (by omega); exact ⟨_, X1, Y1, r1, A1, c1, B1, rfl, rfl, hp.1, hp.2.1, hp.2.2.1, by omega, hp.2.2.2⟩)
    case rest =>
      obtain ⟨px, X1, Y1, r1, A1, c1, B1, rfl, rfl, bx, hI1, hS4, hpx, hc4⟩ := hcut
      obtain ⟨w4, hW4⟩ : ∃ x, x = wc := ⟨wc, rfl⟩
      subst hW4
      clear p0 p1 p2 pn KS HIK HS0 HS1
      by_cases hr1 : r1 = 0
      · subst hr1
        obtain ⟨ZO, _, _, hc0⟩ := HBB.out w4 hc4
        have p0 := bx.cell 0
        have p1 := bx.cell 1
        have p2 := bx.cell 2
        have pn := bx.lt
        simp only [List.getElem?_toArray, List.getElem?_cons_zero, List.getElem?_cons_succ] at p0 p1 p2
        have z0 := ZO.cell 0
        have z1 := ZO.cell 1
        have z2 := ZO.cell 2
        have zf0 := ZO.free 0
        have zf1 := ZO.free 1
        have zf2 := ZO.free 2
        have zn := ZO.lt
        simp only [List.getElem?_toArray, List.getElem?_cons_zero, List.getElem?_cons_succ] at z0 z1 z2
        have HE := Lib.hid (pan_end (X := X1) (Y := Y1) hbw (hI1.wider (by omega) (Nat.le_refl _) (Nat.le_refl _)) hS4 hc0)
        have hp1 : px ≠ w.heap.size := by omega
        clear bx ZO hI1 hS4
        go_wp2_with fail
        refine bodyPost_ret (v := .agg #[.int .i64 X1, .int .i64 Y1, .slice A1 B1.length c1]) ?_ rfl ?_
        · simp [results, Try.results99, go_sem, zn, z0, z1, z2, p0, p1, p2]
        · exact ⟨X1, Y1, A1, c1, B1, rfl, HE.out.1, HE.out.2.1.more (by omega), HE.out.2.2⟩
      · have b0 : (r1 == 0) = false := beq_eq_false_iff_ne.2 hr1
        clear bx hI1 hr1
        go_wp2_with fail
        refine (HKEY.out _ _ hc4 (hS4) (by omega)).mono ?_
        rintro e w8 ⟨r8, rfl, hS8, hc8⟩
        cases r8
        · obtain ⟨ZO, bp, hI, hc0⟩ := HBB.out w8 hc8
          have p0 := bp.cell 0
          have p1 := bp.cell 1
          have p2 := bp.cell 2
          have pn := bp.lt
          simp only [List.getElem?_toArray, List.getElem?_cons_zero, List.getElem?_cons_succ] at p0 p1 p2
          have z0 := ZO.cell 0
          have z1 := ZO.cell 1
          have z2 := ZO.cell 2
          have zf0 := ZO.free 0
          have zf1 := ZO.free 1
          have zf2 := ZO.free 2
          have zn := ZO.lt
          simp only [List.getElem?_toArray, List.getElem?_cons_zero, List.getElem?_cons_succ] at z0 z1 z2
          have HE := Lib.hid (pan_end (X := X) (Y := Y) hbw (hI.wider HW.out.2 hI.2.2.1 (Nat.le_refl _)) hS8 hc0)
          have hp1 : pp ≠ w.heap.size := by omega
          clear bp ZO hI hS8 hc0 hc8
          go_wp2_with fail
          refine bodyPost_ret (v := .agg #[.int .i64 X, .int .i64 Y, .slice (some ⟨g, 0, none⟩) B.length B.length]) ?_ rfl ?_
          · simp [results, Try.results99, go_sem, zn, z0, z1, z2, p0, p1, p2]
          · exact ⟨X, Y, _, _, B, rfl, HE.out.1, HE.out.2.1.more (by omega), HE.out.2.2⟩
        · go_wp2_with fail
          refine (l02Bent_any hS8 (by omega)).mono ?_
          rintro e w9 ⟨X2, Y2, A2, c2, B2, rfl, hI2, hS9, hc9⟩
          obtain ⟨ZO, _, _, hc0⟩ := HBB.out w9 (hc8.trans hc9)
          have sz8 := hc8.size
          have z0 := ZO.cell 0
          have z1 := ZO.cell 1
          have z2 := ZO.cell 2
          have zf0 := ZO.free 0
          have zf1 := ZO.free 1
          have zf2 := ZO.free 2
          have zn := ZO.lt
          simp only [List.getElem?_toArray, List.getElem?_cons_zero, List.getElem?_cons_succ] at z0 z1 z2
          have HE := Lib.hid (pan_end (X := X2) (Y := Y2) hbw (hI2.wider (by omega) (Nat.le_refl _) (Nat.le_refl _)) hS9 hc0)
          clear ZO hI2 hS9 hc0 hc8 hc9 hS8
          go_wp2_with fail
          refine bodyPost_ret (v := .agg #[.int .i64 X2, .int .i64 Y2, .slice A2 B2.length c2]) ?_ rfl ?_
          · simp [results, Try.results99, go_sem, zn, z0, z1, z2]
          · exact ⟨X2, Y2, A2, c2, B2, rfl, HE.out.1, HE.out.2.1.more (by omega), HE.out.2.2⟩
end Go.Proofs.Ytihfdgnocdphcaa
