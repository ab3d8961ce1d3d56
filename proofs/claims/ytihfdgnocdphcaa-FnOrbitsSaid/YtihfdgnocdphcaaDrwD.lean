/-
  What the laws of symmetries draw from bytes.
-/
import Derived.Test.YtihfdgnocdphcaaDrwC
namespace Go.Proofs.Ytihfdgnocdphcaa
open Go.RowKit Knot

theorem chg_low {b : Nat} {w w1 w2 : World} {B : Nat} (h : Below B w w1) (k : Chg b (b + 1) w1 w2) (hb : B ≤ b) (hs : B ≤ w1.heap.size) : Below B w w2 := h.trans (k.toBelow hb hs)
set_option maxHeartbeats 4000000 in
theorem DrawSymmetriesOf_any {w : World} {a : Option Addr} {len cap : Nat} {zs : List Int} (h : IsRow .u8 w a len cap zs) :
    Calls Try.prog 64 #[.slice a len cap] w fun e w' => ∃ (X Y : Int) (A : Option Addr) (c : Nat) (B : List Int), e = .returned (.agg #[.int .i64 X, .int .i64 Y, .slice A B.length c]) ∧
      IntsIn w' w.heap.size w'.heap.size (.slice A B.length c) B ∧ Below w.heap.size w w' := by
  have bl := Joins.below_alloc1 w (.cells #[.int .i64 0, .int .i64 0, .slice none 0 0] 30)
  have r1 := Box.new w 30 #[.int .i64 0, .int .i64 0, .slice none 0 0]
  have h1 := h.below bl
  clear h
  go_enter Try.func64, Try.ntmps64
  go_wp2_with fail
  refine (src_from h1).mono ?_
  rintro e w1 ⟨rfl, hS, s1, hb1⟩
  simp only [World.size_alloc] at hS s1
  obtain ⟨b, hb⟩ : ∃ b, w.heap.size + 1 = b := ⟨_, rfl⟩
  rw [hb] at hS s1
  simp only [World.size_alloc, hb]
  replace r1 := r1.below hb1
  replace bl := bnext bl hb1
  clear h1 hb1
  go_wp2_with fail
  refine (l06Draw_any hS (by omega)).mono ?_
  rintro e w2 ⟨X, Y, A, c, B, rfl, hI, hS2, hc2⟩
  replace r1 := r1.chgb hc2 (by omega)
  replace bl := chg_low bl hc2 (by omega) (by omega)
  have z0 := r1.cell 0
  have z1 := r1.cell 1
  have z2 := r1.cell 2
  have zf0 := r1.free 0
  have zf1 := r1.free 1
  have zf2 := r1.free 2
  have zn := r1.lt
  simp only [List.getElem?_toArray, List.getElem?_cons_zero, List.getElem?_cons_succ] at z0 z1 z2
  have hne : ∀ g' : Nat, (Value.slice A B.length c).ownBlock = some g' → g' ≠ w.heap.size := fun g' hg' => by have := (Row.lt hI.1 hg').1; omega
  have HE : Hid (IntsIn (((w2.setCell ⟨w.heap.size, 0, none⟩ (.int .i64 X)).setCell ⟨w.heap.size, 1, none⟩ (.int .i64 Y)).setCell ⟨w.heap.size, 2, none⟩ (.slice A B.length c)) w.heap.size (((w2.setCell ⟨w.heap.size, 0, none⟩ (.int .i64 X)).setCell ⟨w.heap.size, 1, none⟩ (.int .i64 Y)).setCell ⟨w.heap.size, 2, none⟩ (.slice A B.length c)).heap.size (.slice A B.length c) B ∧
      Below w.heap.size w (((w2.setCell ⟨w.heap.size, 0, none⟩ (.int .i64 X)).setCell ⟨w.heap.size, 1, none⟩ (.int .i64 Y)).setCell ⟨w.heap.size, 2, none⟩ (.slice A B.length c))) := Lib.hid
    ⟨⟨Row.le (Row.setCell (Row.setCell (Row.setCell hI.1 (p := ⟨w.heap.size, 0, none⟩) hne _) (p := ⟨w.heap.size, 1, none⟩) hne _) (p := ⟨w.heap.size, 2, none⟩) hne _) (by omega), fun j hj => by simp only [World.size_setCell]; exact hI.2.1 j hj, Nat.le_refl _, hI.len⟩,
      ((bl.setCell (p := ⟨w.heap.size, 0, none⟩) (Nat.le_refl _) _).setCell (p := ⟨w.heap.size, 1, none⟩) (Nat.le_refl _) _).setCell (p := ⟨w.heap.size, 2, none⟩) (Nat.le_refl _) _⟩
  clear hI hS hS2 hc2 r1 bl hne
  go_wp2_with fail
  refine bodyPost_ret (v := .agg #[.int .i64 X, .int .i64 Y, .slice A B.length c]) ?_ rfl ?_
  · simp [results, Try.results64, go_sem, zn, z0, z1, z2]
  · exact ⟨X, Y, A, c, B, rfl, HE.out.1, HE.out.2⟩
set_option maxHeartbeats 4000000 in
theorem DrawCanonicalPanel_any {w : World} {a : Option Addr} {len cap : Nat} {zs : List Int} (h : IsRow .u8 w a len cap zs) :
    Calls Try.prog 42 #[.slice a len cap] w fun e w' => ∃ (X Y : Int) (A : Option Addr) (c : Nat) (B : List Int), e = .returned (.agg #[.int .i64 X, .int .i64 Y, .slice A B.length c]) ∧
      IntsIn w' w.heap.size w'.heap.size (.slice A B.length c) B ∧ Below w.heap.size w w' := by
  have bl := Joins.below_alloc1 w (.cells #[.int .i64 0, .int .i64 0, .slice none 0 0] 30)
  have r1 := Box.new w 30 #[.int .i64 0, .int .i64 0, .slice none 0 0]
  have h1 := h.below bl
  clear h
  go_enter Try.func42, Try.ntmps42
  go_wp2_with fail
  refine (src_from h1).mono ?_
  rintro e w1 ⟨rfl, hS, s1, hb1⟩
  simp only [World.size_alloc] at hS s1
  obtain ⟨b, hb⟩ : ∃ b, w.heap.size + 1 = b := ⟨_, rfl⟩
  rw [hb] at hS s1
  simp only [World.size_alloc, hb]
  replace r1 := r1.below hb1
  replace bl := bnext bl hb1
  clear h1 hb1
  go_wp2_with fail
  refine (l06Draw_any hS (by omega)).mono ?_
  rintro e w2 ⟨X, Y, A, c, B, rfl, hI, hS2, hc2⟩
  replace r1 := r1.chgb hc2 (by omega)
  replace bl := chg_low bl hc2 (by omega) (by omega)
  have z0 := r1.cell 0
  have z1 := r1.cell 1
  have z2 := r1.cell 2
  have zf0 := r1.free 0
  have zf1 := r1.free 1
  have zf2 := r1.free 2
  have zn := r1.lt
  simp only [List.getElem?_toArray, List.getElem?_cons_zero, List.getElem?_cons_succ] at z0 z1 z2
  have hne : ∀ g' : Nat, (Value.slice A B.length c).ownBlock = some g' → g' ≠ w.heap.size := fun g' hg' => by have := (Row.lt hI.1 hg').1; omega
  have HE : Hid (IntsIn (((w2.setCell ⟨w.heap.size, 0, none⟩ (.int .i64 X)).setCell ⟨w.heap.size, 1, none⟩ (.int .i64 Y)).setCell ⟨w.heap.size, 2, none⟩ (.slice A B.length c)) w.heap.size (((w2.setCell ⟨w.heap.size, 0, none⟩ (.int .i64 X)).setCell ⟨w.heap.size, 1, none⟩ (.int .i64 Y)).setCell ⟨w.heap.size, 2, none⟩ (.slice A B.length c)).heap.size (.slice A B.length c) B ∧
      Below w.heap.size w (((w2.setCell ⟨w.heap.size, 0, none⟩ (.int .i64 X)).setCell ⟨w.heap.size, 1, none⟩ (.int .i64 Y)).setCell ⟨w.heap.size, 2, none⟩ (.slice A B.length c))) := Lib.hid
    ⟨⟨Row.le (Row.setCell (Row.setCell (Row.setCell hI.1 (p := ⟨w.heap.size, 0, none⟩) hne _) (p := ⟨w.heap.size, 1, none⟩) hne _) (p := ⟨w.heap.size, 2, none⟩) hne _) (by omega), fun j hj => by simp only [World.size_setCell]; exact hI.2.1 j hj, Nat.le_refl _, hI.len⟩,
      ((bl.setCell (p := ⟨w.heap.size, 0, none⟩) (Nat.le_refl _) _).setCell (p := ⟨w.heap.size, 1, none⟩) (Nat.le_refl _) _).setCell (p := ⟨w.heap.size, 2, none⟩) (Nat.le_refl _) _⟩
  clear hI hS hS2 hc2 r1 bl hne
  go_wp2_with fail
  refine bodyPost_ret (v := .agg #[.int .i64 X, .int .i64 Y, .slice A B.length c]) ?_ rfl ?_
  · simp [results, Try.results42, go_sem, zn, z0, z1, z2]
  · exact ⟨X, Y, A, c, B, rfl, HE.out.1, HE.out.2⟩
set_option maxRecDepth 20000 in
set_option maxHeartbeats 8000000 in
theorem DrawPointOrbit_any {w : World} {a : Option Addr} {len cap : Nat} {zs : List Int} (h : IsRow .u8 w a len cap zs) :
    Calls Try.prog 65 #[.slice a len cap] w fun e w' => ∃ (X Y x y : Int) (A : Option Addr) (c : Nat) (B : List Int), e = .returned (.tuple #[.agg #[.int .i64 X, .int .i64 Y, .slice A B.length c], .agg #[.int .i64 x, .int .i64 y]]) ∧
      IntsIn w' w.heap.size w'.heap.size (.slice A B.length c) B ∧ Below w.heap.size w w' := by
  have bl := Joins.below_alloc2 w (.cells #[.int .i64 0, .int .i64 0, .slice none 0 0] 30) (.cells #[.int .i64 0, .int .i64 0] 36)
  have r1 := (Box.new w 30 #[.int .i64 0, .int .i64 0, .slice none 0 0]).alloc (.cells #[.int .i64 0, .int .i64 0] 36)
  have r2 := Box.new (w.alloc (.cells #[.int .i64 0, .int .i64 0, .slice none 0 0] 30)) 36 #[.int .i64 0, .int .i64 0]
  rw [World.size_alloc] at r2
  have h1 := h.below bl
  clear h
  go_enter Try.func65, Try.ntmps65
  go_wp2_with fail
  refine (src_from h1).mono ?_
  rintro e w1 ⟨rfl, hS, s1, hb1⟩
  simp only [World.size_alloc] at hS s1
  obtain ⟨b, hb⟩ : ∃ b, w.heap.size + 1 + 1 = b := ⟨_, rfl⟩
  rw [hb] at hS s1
  simp only [World.size_alloc, hb]
  replace r1 := r1.below hb1
  replace r2 := r2.below hb1
  replace bl := bnext bl hb1
  clear h1 hb1
  go_wp2_with fail
  refine (l06Draw_any hS (by omega)).mono ?_
  rintro e w2 ⟨X, Y, A, c, B, rfl, hI, hS2, hc2⟩
  replace r1 := (r1.chgb hc2 (by omega)).alloc (.cells #[.int .i64 X, .int .i64 Y, .slice A B.length c] 30)
  replace r2 := (r2.chgb hc2 (by omega)).alloc (.cells #[.int .i64 X, .int .i64 Y, .slice A B.length c] 30)
  replace bl := (chg_low bl hc2 (by omega) (by omega)).alloc (by have := hc2.size; omega) (.cells #[.int .i64 X, .int .i64 Y, .slice A B.length c] 30)
  have bp := Box.new w2 30 #[.int .i64 X, .int .i64 Y, .slice A B.length c]
  replace hI := hI.alloc (.cells #[.int .i64 X, .int .i64 Y, .slice A B.length c] 30)
  replace hS2 := hS2.below (Joins.below_alloc1 w2 (.cells #[.int .i64 X, .int .i64 Y, .slice A B.length c] 30))
  have sz2 := hc2.size
  obtain ⟨pp, hpp⟩ : ∃ pp, w2.heap.size = pp := ⟨_, rfl⟩
  rw [hpp] at bp hI sz2
  clear hS hc2
  have hpz : pp ≠ w.heap.size := by omega
  have hpy : pp ≠ w.heap.size + 1 := by omega
  have hyz : w.heap.size + 1 ≠ w.heap.size := by omega
  have hzy : w.heap.size ≠ w.heap.size + 1 := by omega
  have hbz : b ≠ w.heap.size := by omega
  have hpb : pp ≠ b := by omega
  have hzb : w.heap.size ≠ b := by omega
  have hyb : w.heap.size + 1 ≠ b := by omega
  have hm0 : 0 + 3000 ≤ 1000000 := by omega
  go_wp2_with fail
  try rw [hpp]
  generalize hV : w2.alloc (.cells #[.int .i64 X, .int .i64 Y, .slice A B.length c] 30) = V at *
  clear hV
  have p0 := bp.cell 0
  have p1 := bp.cell 1
  have p2 := bp.cell 2
  have pn := bp.lt
  simp only [List.getElem?_toArray, List.getElem?_cons_zero, List.getElem?_cons_succ] at p0 p1 p2
  have KS : Hid (∀ w', Chg b (b + 1) V w' → (w'.cell? ⟨pp, 0, none⟩ = some (.int .i64 X) ∧ w'.cell? ⟨pp, 1, none⟩ = some (.int .i64 Y) ∧ w'.cell? ⟨pp, 2, none⟩ = some (.slice A B.length c))) := Lib.hid (fun w' hc => ⟨(bp.chgb hc hpb).cell 0, (bp.chgb hc hpb).cell 1, (bp.chgb hc hpb).cell 2⟩)
  have S0 : Hid (Src V.drew b (0 + 3000)) := Lib.hid (hS2.drewN 1)
  have hb0 : Below V.heap.size V V.drew := below_drewN _ _ 1
  have HB := Lib.hid (And.intro (bp.below hb0) (hI.below hb0))
  have HR := Lib.hid (And.intro r1 (And.intro r2 (And.intro hI bl)))
  clear r1 r2 bp hI hS2 bl hb0
  go_wp2
  go_region_held3 (fun w' => w'.cell? ⟨pp, 0, none⟩ = some (.int .i64 X) ∧ w'.cell? ⟨pp, 1, none⟩ = some (.int .i64 Y) ∧ w'.cell? ⟨pp, 2, none⟩ = some (.slice A B.length c))
    (first | (with_reducible exact KS.out _ hC6) | (with_reducible exact KS.out _ (chg_drew _ _)) | (with_reducible exact ⟨cell_f hpz (cell_f hpz (cell_f hpz k0)), cell_f hpz (cell_f hpz (cell_f hpz k1)), cell_f hpz (cell_f hpz (cell_f hpz k2))⟩) | (with_reducible exact ⟨cell_f hpy (cell_f hpy (cell_f hpz (cell_f hpz (cell_f hpz k0)))), cell_f hpy (cell_f hpy (cell_f hpz (cell_f hpz (cell_f hpz k1)))), cell_f hpy (cell_f hpy (cell_f hpz (cell_f hpz (cell_f hpz k2))))⟩) | assumption)
    ((go_at_call 108; (with_reducible refine (l02DrawPoint_any S0.out HB.out.1 HB.out.2 s1 hpb hm0).mono ?_); rintro e w6 ⟨x, y, rfl, hS6, hc6⟩; have hC6 := Chg.trans (chg_drew b V) hc6; obtain ⟨k0, k1, k2⟩ := KS.out _ hC6; have hz6 := HR.out.1.chgb hC6 hzb; have z0 := hz6.cell 0; have z1 := hz6.cell 1; have z2 := hz6.cell 2; have zf0 := hz6.free 0; have zf1 := hz6.free 1; have zf2 := hz6.free 2; have zn := hz6.lt; have hy6 := HR.out.2.1.chgb hC6 hyb; have y0 := hy6.cell 0; have yf0 := hy6.free 0; have y1 := hy6.cell 1; have yf1 := hy6.free 1; have yn := hy6.lt))
  all_goals
    have hI6 := HR.out.2.2.1.chgb hC6 (by omega)
    have hs6 := hC6.size
    have hL6 := chg_low HR.out.2.2.2 hC6 (by omega) (by have := HR.out.2.2.2.size; exact this)
    have HE : Hid (IntsIn (((((w6.setCell ⟨w.heap.size, 0, none⟩ (.int .i64 X)).setCell ⟨w.heap.size, 1, none⟩ (.int .i64 Y)).setCell ⟨w.heap.size, 2, none⟩ (.slice A B.length c)).setCell ⟨w.heap.size + 1, 0, none⟩ (.int .i64 x)).setCell ⟨w.heap.size + 1, 1, none⟩ (.int .i64 y)) w.heap.size (((((w6.setCell ⟨w.heap.size, 0, none⟩ (.int .i64 X)).setCell ⟨w.heap.size, 1, none⟩ (.int .i64 Y)).setCell ⟨w.heap.size, 2, none⟩ (.slice A B.length c)).setCell ⟨w.heap.size + 1, 0, none⟩ (.int .i64 x)).setCell ⟨w.heap.size + 1, 1, none⟩ (.int .i64 y)).heap.size (.slice A B.length c) B ∧ Below w.heap.size w (((((w6.setCell ⟨w.heap.size, 0, none⟩ (.int .i64 X)).setCell ⟨w.heap.size, 1, none⟩ (.int .i64 Y)).setCell ⟨w.heap.size, 2, none⟩ (.slice A B.length c)).setCell ⟨w.heap.size + 1, 0, none⟩ (.int .i64 x)).setCell ⟨w.heap.size + 1, 1, none⟩ (.int .i64 y))) := Lib.hid ⟨((((((hI6.at_store (p := ⟨w.heap.size, 0, none⟩) (by show w.heap.size < _; omega) _).at_store (p := ⟨w.heap.size, 1, none⟩) (by show w.heap.size < _; omega) _).at_store (p := ⟨w.heap.size, 2, none⟩) (by show w.heap.size < _; omega) _).at_store (p := ⟨w.heap.size + 1, 0, none⟩) (by show w.heap.size + 1 < _; omega) _).at_store (p := ⟨w.heap.size + 1, 1, none⟩) (by show w.heap.size + 1 < _; omega) _)).wider (by omega) (((((hI6.at_store (p := ⟨w.heap.size, 0, none⟩) (by show w.heap.size < _; omega) _).at_store (p := ⟨w.heap.size, 1, none⟩) (by show w.heap.size < _; omega) _).at_store (p := ⟨w.heap.size, 2, none⟩) (by show w.heap.size < _; omega) _).at_store (p := ⟨w.heap.size + 1, 0, none⟩) (by show w.heap.size + 1 < _; omega) _).at_store (p := ⟨w.heap.size + 1, 1, none⟩) (by show w.heap.size + 1 < _; omega) _).2.2.1 (Nat.le_refl _), (((((hL6.setCell (p := ⟨w.heap.size, 0, none⟩) (by show _ ≤ w.heap.size; omega) _).setCell (p := ⟨w.heap.size, 1, none⟩) (by show _ ≤ w.heap.size; omega) _).setCell (p := ⟨w.heap.size, 2, none⟩) (by show _ ≤ w.heap.size; omega) _).setCell (p := ⟨w.heap.size + 1, 0, none⟩) (by show _ ≤ w.heap.size + 1; omega) _).setCell (p := ⟨w.heap.size + 1, 1, none⟩) (by show _ ≤ w.heap.size + 1; omega) _)⟩
    clear hI6 hL6 hS6 hc6 hC6 KS S0 HB HR hz6 hy6
    go_wp2_with fail
    refine bodyPost_ret (v := .tuple #[.agg #[.int .i64 X, .int .i64 Y, .slice A B.length c], .agg #[.int .i64 x, .int .i64 y]]) ?_ rfl ?_
    · simp [results, Try.results65, go_sem, zn, z0, z1, z2, yn, y0, y1]
    · exact ⟨X, Y, x, y, A, c, B, rfl, HE.out.1, HE.out.2⟩
end Go.Proofs.Ytihfdgnocdphcaa
