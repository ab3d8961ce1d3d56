/-
  Panels made symmetric, by the program.
-/
import Derived.Test.YtihfdgnocdphcaaSymG
import Derived.Test.YtihfdgnocdphcaaCut
import Derived.Deep.RegionHeld3
import Derived.Deep.DeepCutAuto
import Derived.Laws.MakeOwn
import Derived.BigRegion
namespace Go.Proofs.Ytihfdgnocdphcaa
open Go.RowKit Knot

set_option maxHeartbeats 4000000 in
theorem clonePanel_any {w : World} {lo hi : Nat} {W H : Int} {v : Value} {xs : List Int} (hp : IntsIn w lo hi v xs) :
    Calls Try.prog 91 #[.agg #[.int .i64 W, .int .i64 H, v]] w fun e w' => ∃ A c, e = .returned (.agg #[.int .i64 W, .int .i64 H, .slice A xs.length c]) ∧
      IntsIn w' w.heap.size w'.heap.size (.slice A xs.length c) xs ∧ Below w.heap.size w w' := by
  obtain ⟨A1, c1, rfl, _, _⟩ := hp.1.open_
  have bl := Joins.below_alloc2 w (.cells #[.int .i64 W, .int .i64 H, .slice A1 xs.length c1] 30) (.cells #[.int .i64 0, .int .i64 0, .slice none 0 0] 30)
  have ba := (Box.new w 30 #[.int .i64 W, .int .i64 H, .slice A1 xs.length c1]).alloc (.cells #[.int .i64 0, .int .i64 0, .slice none 0 0] 30)
  have br := Box.new (w.alloc (.cells #[.int .i64 W, .int .i64 H, .slice A1 xs.length c1] 30)) 30 #[.int .i64 0, .int .i64 0, .slice none 0 0]
  rw [World.size_alloc] at br
  have hp1 := hp.below bl
  have q0 := ba.cell 0
  have q1 := ba.cell 1
  have q2 := ba.cell 2
  have qn := ba.lt
  simp only [List.getElem?_toArray, List.getElem?_cons_zero, List.getElem?_cons_succ] at q0 q1 q2
  go_enter Try.func91, Try.ntmps91
  go_wp2_with fail
  refine (Clone_any hp1).mono ?_
  rintro e w2 ⟨D, d, rfl, i1, hb⟩
  have sz := hb.size
  simp only [World.size_alloc] at sz i1
  replace ba := ba.below hb
  replace br := br.below hb
  replace bl := bnext bl hb
  clear hb q0 q1 q2 qn hp hp1
  have q0 := ba.cell 0
  have q1 := ba.cell 1
  have q2 := ba.cell 2
  have qf0 := ba.free 0
  have qf1 := ba.free 1
  have qf2 := ba.free 2
  have qn := ba.lt
  simp only [List.getElem?_toArray, List.getElem?_cons_zero, List.getElem?_cons_succ] at q0 q1 q2
  have r0 := br.cell 0
  have r1 := br.cell 1
  have r2 := br.cell 2
  have rf0 := br.free 0
  have rf1 := br.free 1
  have rf2 := br.free 2
  have rn := br.lt
  simp only [List.getElem?_toArray, List.getElem?_cons_zero, List.getElem?_cons_succ] at r0 r1 r2
  have k1 : (w.heap.size = w.heap.size + 1) = False := by simp
  have k2 : (w.heap.size + 1 = w.heap.size) = False := by simp
  go_wp2
  refine bodyPost_ret (v := .agg #[.int .i64 W, .int .i64 H, .slice D xs.length d]) (by simp [results, Try.results91, go_sem, r0, r1, r2, rf0, rf1, rf2, rn]) rfl ⟨D, d, rfl, ?_, ?_⟩
  · exact ((((i1.at_store (p := ⟨w.heap.size, 2, none⟩) (by simp <;> omega) _).at_store (p := ⟨w.heap.size + 1, 0, none⟩) (by simp <;> omega) _).at_store (p := ⟨w.heap.size + 1, 1, none⟩) (by simp <;> omega) _).at_store (p := ⟨w.heap.size + 1, 2, none⟩) (by simp <;> omega) _).wider (by omega) (by simp) (Nat.le_refl _)
  · exact (((bl.setCell (p := ⟨w.heap.size, 2, none⟩) (by simp) _).setCell (p := ⟨w.heap.size + 1, 0, none⟩) (by simp) _).setCell (p := ⟨w.heap.size + 1, 1, none⟩) (by simp) _).setCell (p := ⟨w.heap.size + 1, 2, none⟩) (by simp) _

/-- What stands behind the making of the two rows. -/
def TwoRows (V wc : World) (x y : Int) (xs : List Int) (s6 s7 : Value) : Prop := ∃ (pb sb : Nat) (D : Option Addr) (d : Nat), s6 = .pointer (some ⟨pb, 0, none⟩) ∧ s7 = .slice (some ⟨sb, 0, none⟩) xs.length xs.length ∧
  Box wc pb 30 #[.int .i64 x, .int .i64 y, .slice D xs.length d] ∧ Ints wc V.heap.size (.slice D xs.length d) xs ∧ Bools wc V.heap.size (.slice (some ⟨sb, 0, none⟩) xs.length xs.length) (List.replicate xs.length false) ∧
  V.heap.size ≤ pb ∧ V.heap.size ≤ sb ∧ pb ≠ sb ∧ (∀ g, (Value.slice D xs.length d).ownBlock = some g → g ≠ pb ∧ g ≠ sb) ∧ Below V.heap.size V wc
theorem Chg.putn {lo hi : Nat} {w a : World} (h : Chg lo hi w a) {p : Addr} (hp : w.heap.size ≤ p.block) (u : Value) : Chg lo hi w (a.setCell p u) :=
  ⟨h.os, h.tape, h.output, by simpa [World.setCell] using h.size, fun k hk hd => (Below.heap_setCell a p u k (by omega)).trans (h.block k hk hd)⟩
theorem pt_eqF {X Y x y : Int} (h : ¬ (X = x ∧ Y = y)) (u : World) :
    (binOp .eql 36 (.agg #[.int .i64 X, .int .i64 Y]) (.agg #[.int .i64 x, .int .i64 y])).run Try.prog u = .ok (.bool false) u := by
  by_cases h1 : X = x
  · have h2 : ¬ Y = y := fun h2 => h ⟨h1, h2⟩
    simp [go_sem, h1, h2]
  · simp [go_sem, h1]
theorem bdrew1 {B : Nat} {V u : World} (h : Below B V u) : Below B V u.drew := h.trans (below_drewN _ u 1)
theorem make_bools (n : Nat) (hn : n ≤ 200) : ∃ M : Array Value, (∀ u : World, (Instr.makeSlice 92 (.int .i64 (n : Int)) (.int .i64 (n : Int))).run Try.prog u = .ok (.slice (some ⟨u.heap.size, 0, none⟩) n n) (u.alloc (.cells M 4))) ∧
    ∀ u : World, Bools (u.alloc (.cells M 4)) u.heap.size (.slice (some ⟨u.heap.size, 0, none⟩) n n) (List.replicate n false) := by
  obtain ⟨j0, hinf, hz0, hz1, hz2⟩ := info_parts info_bool
  refine ⟨madeCells (Value.bool false).cells (n * 1), fun u => ?_, fun u => ?_⟩
  · have h := run_make (P := Try.prog) u 92 4 j0 (.bool false) Try.underlying92 hinf hz0 .i64 .i64 n n (by omega) (Int.le_refl _) (by rw [hz2]; omega) (by omega)
    rw [hz1] at h
    simpa using h
  · have h := World.ownsRow_lit (base := u.heap.size) (e := 4) (size := 1) u (madeCells (Value.bool false).cells (n * 1)) n (Nat.le_refl _) (by unfold maxLen; omega) (size_madeCells _ _)
    unfold Bools Row
    rw [List.length_replicate, List.map_replicate]
    simpa [Value.cells, toList_madeCells_one] using h
section
variable {V w5 : World} {x y : Int} {xs : List Int} {D : Option Addr} {d pb sb : Nat} {M : Array Value}
theorem two1 (hD : Ints w5 V.heap.size (.slice D xs.length d) xs) (hl : ∀ g, (Value.slice D xs.length d).ownBlock = some g → g < w5.heap.size) (hb : Below V.heap.size V w5)
    (hM : ∀ u : World, Bools (u.alloc (.cells M 4)) u.heap.size (.slice (some ⟨u.heap.size, 0, none⟩) xs.length xs.length) (List.replicate xs.length false)) :
    TwoRows V ((w5.alloc (.cells M 4)).alloc (.cells #[.int .i64 x, .int .i64 y, .slice D xs.length d] 30)) x y xs (.pointer (some ⟨w5.heap.size + 1, 0, none⟩)) (.slice (some ⟨w5.heap.size, 0, none⟩) xs.length xs.length) := by
  have b1 := Box.new (w5.alloc (.cells M 4)) 30 #[.int .i64 x, .int .i64 y, .slice D xs.length d]
  rw [World.size_alloc] at b1
  have hs := hb.size
  exact ⟨_, _, D, d, rfl, rfl, b1, Row.alloc (Row.alloc hD _) _, Row.alloc (Row.le (hM w5) hs) _, by omega, hs, by omega, fun g hg => by have := hl g hg; omega, (hb.alloc hs _).alloc (by rw [World.size_alloc]; omega) _⟩
theorem two2 (hD : Ints w5 V.heap.size (.slice D xs.length d) xs) (hl : ∀ g, (Value.slice D xs.length d).ownBlock = some g → g < w5.heap.size) (hb : Below V.heap.size V w5)
    (hM : ∀ u : World, Bools (u.alloc (.cells M 4)) u.heap.size (.slice (some ⟨u.heap.size, 0, none⟩) xs.length xs.length) (List.replicate xs.length false)) :
    TwoRows V ((w5.alloc (.cells #[.int .i64 x, .int .i64 y, .slice D xs.length d] 30)).alloc (.cells M 4)) x y xs (.pointer (some ⟨w5.heap.size, 0, none⟩)) (.slice (some ⟨w5.heap.size + 1, 0, none⟩) xs.length xs.length) := by
  have m2 := hM (w5.alloc (.cells #[.int .i64 x, .int .i64 y, .slice D xs.length d] 30))
  rw [World.size_alloc] at m2
  have hs := hb.size
  exact ⟨_, _, D, d, rfl, rfl, (Box.new w5 30 #[.int .i64 x, .int .i64 y, .slice D xs.length d]).alloc _, Row.alloc (Row.alloc hD _) _, Row.le m2 (by omega), hs, by omega, by omega, fun g hg => by have := hl g hg; omega, (hb.alloc hs _).alloc (by rw [World.size_alloc]; omega) _⟩
theorem two4 (hD : Ints w5 V.heap.size (.slice D xs.length d) xs) (hl : ∀ g, (Value.slice D xs.length d).ownBlock = some g → g < w5.heap.size) (hb : Below V.heap.size V w5)
    (h4 : Bools w5 V.heap.size (.slice (some ⟨sb, 0, none⟩) xs.length xs.length) (List.replicate xs.length false)) (hne : ∀ g, (Value.slice D xs.length d).ownBlock = some g → g ≠ sb) :
    TwoRows V (w5.alloc (.cells #[.int .i64 x, .int .i64 y, .slice D xs.length d] 30)) x y xs (.pointer (some ⟨w5.heap.size, 0, none⟩)) (.slice (some ⟨sb, 0, none⟩) xs.length xs.length) := by
  have hs := hb.size
  have h9 := Row.lt h4 (g := sb) rfl
  exact ⟨_, _, D, d, rfl, rfl, Box.new w5 30 #[.int .i64 x, .int .i64 y, .slice D xs.length d], Row.alloc hD _, Row.alloc h4 _, hs, h9.1, by omega, fun g hg => by have := hl g hg; exact ⟨by omega, hne g hg⟩, hb.alloc hs _⟩
theorem two5 {u0 u1 u2 : Value} (hD : Ints w5 V.heap.size (.slice D xs.length d) xs) (hb : Below V.heap.size V w5) (hy : Box w5 pb 30 #[u0, u1, u2]) (hp : V.heap.size ≤ pb)
    (h4 : Bools w5 V.heap.size (.slice (some ⟨sb, 0, none⟩) xs.length xs.length) (List.replicate xs.length false)) (hps : pb ≠ sb) (hne : ∀ g, (Value.slice D xs.length d).ownBlock = some g → g ≠ pb ∧ g ≠ sb) :
    TwoRows V (((w5.setCell ⟨pb, 0, none⟩ (.int .i64 x)).setCell ⟨pb, 1, none⟩ (.int .i64 y)).setCell ⟨pb, 2, none⟩ (.slice D xs.length d)) x y xs (.pointer (some ⟨pb, 0, none⟩)) (.slice (some ⟨sb, 0, none⟩) xs.length xs.length) := by
  have h9 := Row.lt h4 (g := sb) rfl
  have hq : ∀ g, (Value.slice (some ⟨sb, 0, none⟩) xs.length xs.length).ownBlock = some g → g ≠ pb := fun g hg => by rw [ownBlock_slice] at hg; injection hg with hg; omega
  exact ⟨_, _, D, d, rfl, rfl, Box.set3 hy _ _ _, Row.setCell (p := ⟨pb, 2, none⟩) (Row.setCell (p := ⟨pb, 1, none⟩) (Row.setCell (p := ⟨pb, 0, none⟩) hD (fun g hg => (hne g hg).1) _) (fun g hg => (hne g hg).1) _) (fun g hg => (hne g hg).1) _,
    Row.setCell (p := ⟨pb, 2, none⟩) (Row.setCell (p := ⟨pb, 1, none⟩) (Row.setCell (p := ⟨pb, 0, none⟩) h4 hq _) hq _) hq _, hp, h9.1, hps, hne, ((hb.setCell (p := ⟨pb, 0, none⟩) hp _).setCell (p := ⟨pb, 1, none⟩) hp _).setCell (p := ⟨pb, 2, none⟩) hp _⟩
theorem two6 {u0 u1 u2 : Value} (hD : Ints w5 V.heap.size (.slice D xs.length d) xs) (hl : ∀ g, (Value.slice D xs.length d).ownBlock = some g → g < w5.heap.size) (hb : Below V.heap.size V w5) (hy : Box w5 pb 30 #[u0, u1, u2]) (hp : V.heap.size ≤ pb)
    (hM : ∀ u : World, Bools (u.alloc (.cells M 4)) u.heap.size (.slice (some ⟨u.heap.size, 0, none⟩) xs.length xs.length) (List.replicate xs.length false)) (hne : ∀ g, (Value.slice D xs.length d).ownBlock = some g → g ≠ pb) :
    TwoRows V ((((w5.setCell ⟨pb, 0, none⟩ (.int .i64 x)).setCell ⟨pb, 1, none⟩ (.int .i64 y)).setCell ⟨pb, 2, none⟩ (.slice D xs.length d)).alloc (.cells M 4)) x y xs (.pointer (some ⟨pb, 0, none⟩)) (.slice (some ⟨w5.heap.size, 0, none⟩) xs.length xs.length) := by
  have hs := hb.size
  have hyl := hy.lt
  have m := hM (((w5.setCell ⟨pb, 0, none⟩ (.int .i64 x)).setCell ⟨pb, 1, none⟩ (.int .i64 y)).setCell ⟨pb, 2, none⟩ (.slice D xs.length d))
  rw [World.size_setCell, World.size_setCell, World.size_setCell] at m
  have hb3 := ((hb.setCell (p := ⟨pb, 0, none⟩) hp (.int .i64 x)).setCell (p := ⟨pb, 1, none⟩) hp (.int .i64 y)).setCell (p := ⟨pb, 2, none⟩) hp (.slice D xs.length d)
  exact ⟨_, _, D, d, rfl, rfl, (Box.set3 hy _ _ _).alloc _, Row.alloc (Row.setCell (p := ⟨pb, 2, none⟩) (Row.setCell (p := ⟨pb, 1, none⟩) (Row.setCell (p := ⟨pb, 0, none⟩) hD (fun g hg => hne g hg) _) (fun g hg => hne g hg) _) (fun g hg => hne g hg) _) _,
    Row.le m hs, hp, hs, by omega, fun g hg => by have := hl g hg; exact ⟨hne g hg, by omega⟩, hb3.alloc hb3.size _⟩
end
set_option maxRecDepth 20000 in
set_option maxHeartbeats 16000000 in
theorem K_impl_SymmetricPanel {w : World} {lo hi : Nat} {x y s px py r : Int} {v : Value} {xs zs : List Int} (hp : IntsIn w lo hi v xs) (hm : symM ⟨x, y, xs⟩ s = (px, py, zs, r)) :
    Calls Try.prog 36 #[.agg #[.int .i64 x, .int .i64 y, v], .int .i64 s] w fun e w' => ∃ A c, e = .returned (.tuple #[.agg #[.int .i64 px, .int .i64 py, .slice A zs.length c], .int .i64 r]) ∧
      IntsIn w' w.heap.size w'.heap.size (.slice A zs.length c) zs ∧ Below w.heap.size w w' := by
  obtain ⟨A, cA, rfl, _, hA⟩ := hp.1.open_
  have bl := Joins.below_alloc2 w (.cells #[.int .i64 x, .int .i64 y, .slice A xs.length cA] 30) (.cells #[.int .i64 0, .int .i64 0, .slice none 0 0] 30)
  have ba := (Box.new w 30 #[.int .i64 x, .int .i64 y, .slice A xs.length cA]).alloc (.cells #[.int .i64 0, .int .i64 0, .slice none 0 0] 30)
  have br := Box.new (w.alloc (.cells #[.int .i64 x, .int .i64 y, .slice A xs.length cA] 30)) 30 #[.int .i64 0, .int .i64 0, .slice none 0 0]
  rw [World.size_alloc] at br
  have hp1 := hp.below bl
  have hph := hp.2.2.1
  clear hp
  by_cases ho : Ok ⟨x, y, xs⟩
  rotate_left
  · rw [symM_inv ho] at hm
    obtain ⟨rfl, rfl, rfl, rfl⟩ : 0 = px ∧ 0 = py ∧ [] = zs ∧ 1 = r := by simpa using hm
    clear hm
    have HO := Lib.hid ho
    clear ho
    have q0 := ba.cell 0
    have q1 := ba.cell 1
    have q2 := ba.cell 2
    have qn := ba.lt
    simp only [List.getElem?_toArray, List.getElem?_cons_zero, List.getElem?_cons_succ] at q0 q1 q2
    go_enter Try.func36, Try.ntmps36
    go_wp2_with fail
    refine (ValidPanel_any x y _ xs false (no_iff HO.out) _ hp1.ints).mono ?_
    rintro e w2 ⟨rfl, hb⟩
    have s2 := hb.size
    simp only [World.size_alloc] at s2
    replace ba := ba.below hb
    replace br := br.below hb
    replace bl := bnext bl hb
    replace hp1 := hp1.below hb
    clear hb
    clear q0 q1 q2 qn
    have r0 := br.cell 0
    have r1 := br.cell 1
    have r2 := br.cell 2
    have rf0 := br.free 0
    have rf1 := br.free 1
    have rf2 := br.free 2
    have rn := br.lt
    go_wp2
    refine bodyPost_ret (v := .tuple #[.agg #[.int .i64 0, .int .i64 0, .slice none 0 0], .int .i64 1]) (by simp [results, Try.results36, go_sem, r0, r1, r2, rf0, rf1, rf2, rn]) rfl ⟨none, 0, rfl, IntsIn.nil _ _ _ (Nat.le_refl _), ?_⟩
    exact ((bl.setCell (p := ⟨w.heap.size + 1, 0, none⟩) (by simp) _).setCell (p := ⟨w.heap.size + 1, 1, none⟩) (by simp) _).setCell (p := ⟨w.heap.size + 1, 2, none⟩) (by simp) _
  cases hs : symOk s
  · rw [symM_rng ho hs] at hm
    obtain ⟨rfl, rfl, rfl, rfl⟩ : 0 = px ∧ 0 = py ∧ [] = zs ∧ 2 = r := by simpa using hm
    clear hm
    have HO := Lib.hid ho
    have HS := Lib.hid hs
    clear ho hs
    have q0 := ba.cell 0
    have q1 := ba.cell 1
    have q2 := ba.cell 2
    have qn := ba.lt
    simp only [List.getElem?_toArray, List.getElem?_cons_zero, List.getElem?_cons_succ] at q0 q1 q2
    go_enter Try.func36, Try.ntmps36
    go_wp2_with fail
    refine (ValidPanel_any x y _ xs true (yes_iff HO.out) _ hp1.ints).mono ?_
    rintro e w2 ⟨rfl, hb⟩
    have s2 := hb.size
    simp only [World.size_alloc] at s2
    replace ba := ba.below hb
    replace br := br.below hb
    replace bl := bnext bl hb
    replace hp1 := hp1.below hb
    clear hb
    clear q0 q1 q2 qn
    go_wp2_with fail
    refine (validSym_any s false HS.out _).mono ?_
    rintro e w' ⟨rfl, rfl⟩
    have r0 := br.cell 0
    have r1 := br.cell 1
    have r2 := br.cell 2
    have rf0 := br.free 0
    have rf1 := br.free 1
    have rf2 := br.free 2
    have rn := br.lt
    go_wp2
    refine bodyPost_ret (v := .tuple #[.agg #[.int .i64 0, .int .i64 0, .slice none 0 0], .int .i64 2]) (by simp [results, Try.results36, go_sem, r0, r1, r2, rf0, rf1, rf2, rn]) rfl ⟨none, 0, rfl, IntsIn.nil _ _ _ (Nat.le_refl _), ?_⟩
    exact ((bl.setCell (p := ⟨w.heap.size + 1, 0, none⟩) (by simp) _).setCell (p := ⟨w.heap.size + 1, 1, none⟩) (by simp) _).setCell (p := ⟨w.heap.size + 1, 2, none⟩) (by simp) _
  have hsb := symOk_bd hs
  obtain ⟨s0, s7⟩ := hsb
  have HO := Lib.hid ho
  have HS := Lib.hid hs
  by_cases hq : 4 ≤ s ∧ x ≠ y
  · rw [symM_sta ho hs hq] at hm
    obtain ⟨rfl, rfl, rfl, rfl⟩ : 0 = px ∧ 0 = py ∧ [] = zs ∧ 6 = r := by simpa using hm
    clear hm
    obtain ⟨h4, hxy0⟩ := hq
    have hxy : (x != y) = true := bne_iff_ne.2 hxy0
    clear ho hs hxy0
    have q0 := ba.cell 0
    have q1 := ba.cell 1
    have q2 := ba.cell 2
    have qn := ba.lt
    simp only [List.getElem?_toArray, List.getElem?_cons_zero, List.getElem?_cons_succ] at q0 q1 q2
    go_enter Try.func36, Try.ntmps36
    go_wp2_with fail
    refine (ValidPanel_any x y _ xs true (yes_iff HO.out) _ hp1.ints).mono ?_
    rintro e w2 ⟨rfl, hb⟩
    have s2 := hb.size
    simp only [World.size_alloc] at s2
    replace ba := ba.below hb
    replace br := br.below hb
    replace bl := bnext bl hb
    replace hp1 := hp1.below hb
    clear hb
    clear q0 q1 q2 qn
    go_wp2_with fail
    refine (validSym_any s true HS.out _).mono ?_
    rintro e w' ⟨rfl, rfl⟩
    have q0 := ba.cell 0
    have q1 := ba.cell 1
    have q2 := ba.cell 2
    have qn := ba.lt
    simp only [List.getElem?_toArray, List.getElem?_cons_zero, List.getElem?_cons_succ] at q0 q1 q2
    have r0 := br.cell 0
    have r1 := br.cell 1
    have r2 := br.cell 2
    have rf0 := br.free 0
    have rf1 := br.free 1
    have rf2 := br.free 2
    have rn := br.lt
    go_wp2
    refine bodyPost_ret (v := .tuple #[.agg #[.int .i64 0, .int .i64 0, .slice none 0 0], .int .i64 6]) (by simp [results, Try.results36, go_sem, r0, r1, r2, rf0, rf1, rf2, rn]) rfl ⟨none, 0, rfl, IntsIn.nil _ _ _ (Nat.le_refl _), ?_⟩
    exact ((bl.setCell (p := ⟨w.heap.size + 1, 0, none⟩) (by simp) _).setCell (p := ⟨w.heap.size + 1, 1, none⟩) (by simp) _).setCell (p := ⟨w.heap.size + 1, 2, none⟩) (by simp) _
  rw [symM_ok ho hs hq] at hm
  obtain ⟨rfl, rfl, rfl, rfl⟩ : x = px ∧ y = py ∧ (symTo x y s xs xs.length).1 = zs ∧ 0 = r := by simpa using hm
  have HW : Hid (1 ≤ x ∧ x ≤ 8) := Lib.hid ⟨ho.w1, ho.w8⟩
  have HH : Hid (1 ≤ y ∧ y ≤ 8) := Lib.hid ⟨ho.h1, ho.h8⟩
  have HQ : Hid (4 ≤ s → x = y) := Lib.hid (fun h => by omega)
  have HN : Hid (inner x y = (xs.length : Int)) := Lib.hid ho.len.symm
  have HK : Hid (∀ k : Nat, k < xs.length → 0 ≤ gI xs k ∧ gI xs k ≤ 2) := Lib.hid ((ok_iff x y xs).1 ho).2.2.2
  have hl := pan_l ho
  obtain ⟨M, hM1, hM2⟩ := make_bools xs.length hl
  have HM2 := Lib.hid hM2
  clear hm ho hs hq hM2
  by_cases h4 : 4 ≤ s
  · skip
    have hxy : (x != y) = false := by simp [HQ.out h4]
    have q0 := ba.cell 0
    have q1 := ba.cell 1
    have q2 := ba.cell 2
    have qn := ba.lt
    simp only [List.getElem?_toArray, List.getElem?_cons_zero, List.getElem?_cons_succ] at q0 q1 q2
    go_enter Try.func36, Try.ntmps36
    go_wp2_with fail
    refine (ValidPanel_any x y _ xs true (yes_iff HO.out) _ hp1.ints).mono ?_
    rintro e w2 ⟨rfl, hb⟩
    have s2 := hb.size
    simp only [World.size_alloc] at s2
    replace ba := ba.below hb
    replace br := br.below hb
    replace bl := bnext bl hb
    replace hp1 := hp1.below hb
    clear hb
    clear q0 q1 q2 qn
    go_wp2_with fail
    refine (validSym_any s true HS.out _).mono ?_
    rintro e w' ⟨rfl, rfl⟩
    generalize hV : w2 = V at *
    clear hV
    have q0 := ba.cell 0
    have q1 := ba.cell 1
    have q2 := ba.cell 2
    have qn := ba.lt
    simp only [List.getElem?_toArray, List.getElem?_cons_zero, List.getElem?_cons_succ] at q0 q1 q2
    go_wp2
    go_cut [6, 7] (fun s6 s7 wc => TwoRows V wc x y xs s6 s7)
    case first =>
      have hpd : IntsIn V.drew lo hi (.slice A xs.length cA) xs := hp1.below (below_drewN _ V 1)
      have HKC : Hid (∀ w', Below V.heap.size V w' → Below V.heap.size V w' ∧ w'.cell? ⟨w.heap.size, 0, none⟩ = some (.int .i64 x) ∧ w'.cell? ⟨w.heap.size, 1, none⟩ = some (.int .i64 y) ∧ w'.cell? ⟨w.heap.size, 2, none⟩ = some (.slice A xs.length cA)) := Lib.hid (fun w' hb => ⟨hb, (hb.cell (World.block_lt_of_cell? V _ q0)).trans q0, (hb.cell (World.block_lt_of_cell? V _ q1)).trans q1, (hb.cell (World.block_lt_of_cell? V _ q2)).trans q2⟩)
      have hb0 := below_drewN V.heap.size V 1
      go_region_held3 (fun w' => Below V.heap.size V w' ∧ w'.cell? ⟨w.heap.size, 0, none⟩ = some (.int .i64 x) ∧ w'.cell? ⟨w.heap.size, 1, none⟩ = some (.int .i64 y) ∧ w'.cell? ⟨w.heap.size, 2, none⟩ = some (.slice A xs.length cA))
        (exact HKC.out _ (by (repeat (first | exact hb5 | exact hb0 | exact Below.refl _ _ | refine bdrew1 ?_ | refine Below.alloc ?_ (by first | omega | (simp; omega) | simp) _ | refine Below.setCell ?_ (by first | omega | (simp; omega) | simp) _))))
        (first | (go_at_call 91; (with_reducible refine (clonePanel_any (hp1.below (show Below V.heap.size V _ by (repeat (first | exact hb5 | exact hb0 | exact Below.refl _ _ | refine bdrew1 ?_ | refine Below.alloc ?_ (by first | omega | (simp; omega) | simp) _ | refine Below.setCell ?_ (by first | omega | (simp; omega) | simp) _))))).mono ?_); rintro e w5 ⟨D, d, rfl, hD, hb⟩; have hb5 := bnext (w := V) (by (repeat (first | exact hb5 | exact hb0 | exact Below.refl _ _ | refine bdrew1 ?_ | refine Below.alloc ?_ (by first | omega | (simp; omega) | simp) _ | refine Below.setCell ?_ (by first | omega | (simp; omega) | simp) _))) hb; have hs5 := hb5.size; (first | (have hy : Box w5 V.heap.size 30 #[.int .i64 0, .int .i64 0, .slice none 0 0] := Box.below (w := (V.alloc (.cells #[.int .i64 0, .int .i64 0, .slice none 0 0] 30)).drew) (Box.drew1 (Box.new V 30 #[.int .i64 0, .int .i64 0, .slice none 0 0])) hb; have z0 := hy.cell 0; have z1 := hy.cell 1; have z2 := hy.cell 2; have y0 := hy.free 0; have y1 := hy.free 1; have y2 := hy.free 2; have zn := hy.lt; (try simp only [World.size_alloc] at z0 z1 z2 y0 y1 y2 zn hy)) | (have hy : Box w5 (V.alloc (.cells M 4)).heap.size 30 #[.int .i64 0, .int .i64 0, .slice none 0 0] := Box.below (w := ((V.alloc (.cells M 4)).alloc (.cells #[.int .i64 0, .int .i64 0, .slice none 0 0] 30)).drew) (Box.drew1 (Box.new (V.alloc (.cells M 4)) 30 #[.int .i64 0, .int .i64 0, .slice none 0 0])) hb; have z0 := hy.cell 0; have z1 := hy.cell 1; have z2 := hy.cell 2; have y0 := hy.free 0; have y1 := hy.free 1; have y2 := hy.free 2; have zn := hy.lt; (try simp only [World.size_alloc] at z0 z1 z2 y0 y1 y2 zn hy)) | (have hy : Box w5 V.heap.size 30 #[.int .i64 0, .int .i64 0, .slice none 0 0] := Box.below (w := ((V.alloc (.cells #[.int .i64 0, .int .i64 0, .slice none 0 0] 30)).alloc (.cells M 4)).drew) (Box.drew1 ((Box.new V 30 #[.int .i64 0, .int .i64 0, .slice none 0 0]).alloc (.cells M 4))) hb; have z0 := hy.cell 0; have z1 := hy.cell 1; have z2 := hy.cell 2; have y0 := hy.free 0; have y1 := hy.free 1; have y2 := hy.free 2; have zn := hy.lt; (try simp only [World.size_alloc] at z0 z1 z2 y0 y1 y2 zn hy)) | skip)))
      all_goals
        go_wp2_with fail
        go_meet
        case rel =>
          have hD5 : Ints w5 V.heap.size (.slice D xs.length d) xs := Row.le hD.1 (by simp <;> omega)
          have hlow : ∀ g, (Value.slice D xs.length d).ownBlock = some g → V.heap.size ≤ g ∧ g < w5.heap.size := fun g hg => ⟨(Row.lt hD5 hg).1, hD.2.1 g hg⟩
          have hl5 : ∀ g, (Value.slice D xs.length d).ownBlock = some g → g < w5.heap.size := fun g hg => (hlow g hg).2
          have hlo := fun g (hg : (Value.slice D xs.length d).ownBlock = some g) => (Row.lt hD.1 hg).1
          simp only [World.size_drew, World.size_alloc] at hlo
          first
            | with_reducible exact two1 hD5 hl5 hb5 HM2.out
            | with_reducible exact two2 hD5 hl5 hb5 HM2.out
            | with_reducible exact two6 hD5 hl5 hb5 hy (by omega) HM2.out (fun g hg => by have := hlo g hg; omega)
            | ((with_reducible have hb' : Below (V.alloc (.cells M 4)).drew.heap.size (V.alloc (.cells M 4)).drew w5 := hb)
               have h4 : Bools w5 V.heap.size (.slice (some ⟨V.heap.size, 0, none⟩) xs.length xs.length) (List.replicate xs.length false) := Row.below (w := (V.alloc (.cells M 4)).drew) (HM2.out V) hb'
               with_reducible exact two4 hD5 hl5 hb5 h4 (fun g hg => by have := hlo g hg; omega))
            | ((with_reducible have hb' : Below ((V.alloc (.cells M 4)).alloc (.cells #[.int .i64 0, .int .i64 0, .slice none 0 0] 30)).drew.heap.size ((V.alloc (.cells M 4)).alloc (.cells #[.int .i64 0, .int .i64 0, .slice none 0 0] 30)).drew w5 := hb)
               have h4 : Bools w5 V.heap.size (.slice (some ⟨V.heap.size, 0, none⟩) xs.length xs.length) (List.replicate xs.length false) := Row.below (w := ((V.alloc (.cells M 4)).alloc (.cells #[.int .i64 0, .int .i64 0, .slice none 0 0] 30)).drew) (Row.alloc (HM2.out V) _) hb'
               with_reducible exact two5 hD5 hb5 hy (by omega) h4 (by omega) (fun g hg => by have := hlo g hg; omega))
            | ((with_reducible have hb' : Below ((V.alloc (.cells #[.int .i64 0, .int .i64 0, .slice none 0 0] 30)).alloc (.cells M 4)).drew.heap.size ((V.alloc (.cells #[.int .i64 0, .int .i64 0, .slice none 0 0] 30)).alloc (.cells M 4)).drew w5 := hb)
               have m7 := HM2.out (V.alloc (.cells #[.int .i64 0, .int .i64 0, .slice none 0 0] 30))
               rw [World.size_alloc] at m7
               have h4 : Bools w5 V.heap.size (.slice (some ⟨V.heap.size + 1, 0, none⟩) xs.length xs.length) (List.replicate xs.length false) := Row.le (Row.below (w := ((V.alloc (.cells #[.int .i64 0, .int .i64 0, .slice none 0 0] 30)).alloc (.cells M 4)).drew) m7 hb') (by omega)
               with_reducible exact two5 hD5 hb5 hy (by omega) h4 (by omega) (fun g hg => by have := hlo g hg; omega))
    case rest =>
      obtain ⟨pb, sb, D, d, rfl, rfl, bo, hR, hS, hpb, hsb, hps, hne, hb⟩ := hcut
      obtain ⟨W4, hW4⟩ : ∃ z, z = wc := ⟨wc, rfl⟩
      subst hW4
      have sW := hb.size
      replace ba := ba.below hb
      replace br := br.below hb
      replace bl := bnext bl hb
      replace hp1 := hp1.below hb
      clear hb q0 q1 q2 qn hM1
      have q0 := ba.cell 0
      have q1 := ba.cell 1
      have q2 := ba.cell 2
      have qn := ba.lt
      simp only [List.getElem?_toArray, List.getElem?_cons_zero, List.getElem?_cons_succ] at q0 q1 q2
      go_wp2_with fail
      refine (points_any (v := .slice A xs.length cA) HW.out HH.out HN.out rfl).mono ?_
      rintro e w6 ⟨P, cP, rfl, hP, hb⟩
      have s6 := hb.size
      have pbl := bo.lt
      have sbl := (Row.lt hS (g := sb) rfl).2
      have hD : ∀ g, (Value.slice D xs.length d).ownBlock = some g → V.heap.size ≤ g ∧ g < W4.heap.size := fun g hg => Row.lt hR hg
      replace ba := ba.below hb
      replace br := br.below hb
      replace bo := bo.below hb
      replace bl := bnext bl hb
      replace hp1 := hp1.below hb
      replace hR := Row.below hR hb
      replace hS := Row.below hS hb
      clear hb q0 q1 q2 qn
      have KX : Hid (∀ wr, Chg V.heap.size W4.heap.size w6 wr → Box wr w.heap.size 30 #[.int .i64 x, .int .i64 y, .slice A xs.length cA] ∧ Box wr (w.heap.size + 1) 30 #[.int .i64 0, .int .i64 0, .slice none 0 0] ∧ IntsIn wr lo hi (.slice A xs.length cA) xs ∧ Below w.heap.size w wr ∧ PRow wr W4.heap.size (.slice P xs.length cP) xs.length (ptsTo x xs.length)) :=
        Lib.hid (fun wr hc => ⟨ba.chg hc (.inl (by omega)), br.chg hc (.inl (by omega)), hp1.chg hc (.inl (by omega)), bl.trans (hc.toBelow (by omega) bl.size), hP.keep (fun g hg hgl => hc.block g hgl (.inr (PRow.lt hP hg).1))⟩)
      have HNE := Lib.hid hne
      have HD := Lib.hid hD
      clear ba br bl hp1 hP hne hD
      have hc0 : Chg V.heap.size W4.heap.size w6 w6 := Chg.ofBelow (Below.refl _ _)
      go_wp2
      go_loopw [43] (fun i wr => ∃ k : Nat, k ≤ xs.length ∧ i = .int .i64 k ∧ Ints wr V.heap.size (.slice D xs.length d) (symTo x y s xs k).1 ∧ Bools wr V.heap.size (.slice (some ⟨sb, 0, none⟩) xs.length xs.length) (symTo x y s xs k).2 ∧
          Box wr pb 30 #[.int .i64 x, .int .i64 y, .slice D xs.length d] ∧ Chg V.heap.size W4.heap.size w6 wr) (fun i _ => xs.length - (intOf i).toNat)
      case atStart => exact ⟨0, Nat.zero_le _, rfl, hR, hS, bo, hc0⟩
      case round =>
        obtain ⟨k, hk, rfl, hR, hS, bo, hc⟩ := hrel
        clear hc0
        obtain ⟨ba, br, hp1, bl, hP⟩ := KX.out _ hc
        obtain ⟨hl1, hl2⟩ := symTo_len x y s xs k
        by_cases hlt : k < xs.length
        · have i1 : (k : Int) < (xs.length : Int) := by omega
          have i0 : (0 : Int) ≤ (k : Int) := by omega
          have cS := Bools.cell hS (k := k) (by omega)
          obtain ⟨gp, rfl⟩ : ∃ gp, P = some ⟨gp, 0, none⟩ := by
            obtain ⟨A', c', e, _, h⟩ := hP.open_
            cases e
            obtain ⟨g, h1, _⟩ := h (by omega)
            exact ⟨g, h1⟩
          have c1 := hP.cell (j := 2 * k) (by omega)
          have c2 := hP.cell (j := 2 * k + 1) (by omega)
          rw [(ptsTo_get x xs.length k hlt).1] at c1
          rw [(ptsTo_get x xs.length k hlt).2] at c2
          rw [Nat.mul_comm 2 k] at c1 c2
          have bt := Box.new wr 36 #[.int .i64 (ptX x k), .int .i64 (ptY x k)]
          have hz := Joins.below_alloc1 wr (.cells #[.int .i64 (ptX x k), .int .i64 (ptY x k)] 36)
          have hR2 := Row.below hR hz
          have hS2 := Row.below hS hz
          have bo2 := bo.below hz
          have hc2 := hc.trans (Chg.ofBelow hz)
          have cS2 := cell_b hz cS
          clear hz
          cases hbk : gB (symTo x y s xs k).2 k
          · rw [hbk] at cS cS2
            have HNX := Lib.hid (symTo_no hbk)
            obtain ⟨W0, hW0⟩ : ∃ z, z = wr := ⟨wr, rfl⟩
            subst hW0
            have HIK : Hid ((k : Int) < inner x y) := Lib.hid (by rw [HN.out]; exact i1)
            obtain ⟨ga, rfl, _, _⟩ := hA (by omega)
            have c3 := cell_b (Joins.below_alloc1 W0 (.cells #[.int .i64 (ptX x k), .int .i64 (ptY x k)] 36)) (Ints.cell hp1.1 (k := k) hlt)
            have ba2 := ba.alloc (.cells #[.int .i64 (ptX x k), .int .i64 (ptY x k)] 36)
            have d2 := ba2.cell 2
            have dn := ba2.lt
            simp only [List.getElem?_toArray, List.getElem?_cons_zero, List.getElem?_cons_succ] at d2
            have wrs := hc.size
            generalize hQ : symTo x y s xs k = Q at *
            clear hbk hR hS bo hc hQ ba br hp1 bl
            go_wp2_with fail
            generalize hW5 : W0.alloc (.cells #[.int .i64 (ptX x k), .int .i64 (ptY x k)] 36) = W5 at *
            have s5 : W5.heap.size = W0.heap.size + 1 := by rw [← hW5]; simp
            clear hW5 cS
            have c3e := cell_b (Joins.below_alloc1 W5 (.cells #[] 2)) c3
            have d2e := cell_b (Joins.below_alloc1 W5 (.cells #[] 2)) d2
            have c3f : (W5.alloc (.cells #[] 2)).drew.cell? ⟨ga, k, none⟩ = some (.int .i64 (gI xs k)) := c3e
            have d2f : (W5.alloc (.cells #[] 2)).drew.cell? ⟨w.heap.size, 2, none⟩ = some (.slice (some ⟨ga, 0, none⟩) xs.length cA) := d2e
            have hE0 : Ints (W5.alloc (.cells #[] 2)).drew W5.heap.size (.slice (some ⟨W5.heap.size, 0, none⟩) 0 0) [] := Row.none_ W5
            have hz : Below W5.heap.size W5 (W5.alloc (.cells #[] 2)).drew := (Joins.below_alloc1 W5 (.cells #[] 2)).trans (below_drewN W5.heap.size (W5.alloc (.cells #[] 2)) 1)
            replace bt := bt.below hz
            replace hR2 := Row.below hR2 hz
            replace hS2 := Row.below hS2 hz
            replace bo2 := bo2.below hz
            replace hc2 := hc2.trans (Chg.ofBelow hz)
            have s7' : (W5.alloc (.cells #[] 2)).drew.heap.size = W5.heap.size + 1 := by simp
            have HB := Lib.hid (And.intro hE0 (And.intro bt (And.intro hR2 (And.intro hS2 (And.intro bo2 hc2)))))
            clear hE0 bt hR2 hS2 bo2 hc2 hz
            go_region
            generalize hW7 : (W5.alloc (.cells #[] 2)).drew = W7 at *
            clear hW7 c3e d2e c3f d2f c3 d2 dn cS2
            obtain ⟨hE0, bt, hR2, hS2, bo2, hc2⟩ := HB.out
            clear HB
            have p0 := bt.cell 0
            have p1 := bt.cell 1
            have pn := bt.lt
            simp only [List.getElem?_toArray, List.getElem?_cons_zero, List.getElem?_cons_succ] at p0 p1
            obtain ⟨T, hT⟩ : ∃ T, perN x y s k = T := ⟨_, rfl⟩
            have T4 := (per_is HW.out HH.out s0 s7 HQ.out i0 HIK.out).1
            rw [hT] at T4
            have HT := Lib.hid hT
            clear hT
            have bx := Box.new W7 36 #[.int .i64 (ptX x k), .int .i64 (ptY x k)]
            have hz := Joins.below_alloc1 W7 (.cells #[.int .i64 (ptX x k), .int .i64 (ptY x k)] 36)
            replace bt := bt.below hz
            replace hR2 := Row.below hR2 hz
            replace hS2 := Row.below hS2 hz
            replace bo2 := bo2.below hz
            replace hc2 := hc2.trans (Chg.ofBelow hz)
            replace hE0 := Row.below hE0 hz
            have hne0 : (Value.slice (some ⟨W5.heap.size, 0, none⟩) 0 0).ownBlock ≠ some W7.heap.size := by rw [ownBlock_slice]; intro e; injection e with e; omega
            clear hz
            go_wp2
            clear p0 p1 pn
            rw [s7', s5] at bx hne0
            rw [s5] at hE0
            go_loopw [10, 11, 12, 13] (fun s10 s11 s12 _ wr => ∃ (m : Nat) (E : Option Addr) (ec xb : Nat), m < T ∧ s10 = .slice E m ec ∧ s11 = .int .i64 (itK s (gI xs k) m) ∧ s12 = .pointer (some ⟨xb, 0, none⟩) ∧ Ints wr (W0.heap.size + 1) (.slice E m ec) (cycL x y s k m) ∧ (Value.slice E m ec).ownBlock ≠ some xb ∧ W0.heap.size + 1 ≤ xb ∧
                Box wr xb 36 #[.int .i64 (ptX x (itN x y s k m)), .int .i64 (ptY x (itN x y s k m))] ∧ Box wr W0.heap.size 36 #[.int .i64 (ptX x k), .int .i64 (ptY x k)] ∧ Ints wr V.heap.size (.slice D xs.length d) (wrS x y s k (gI xs k) Q.1 m) ∧
                Bools wr V.heap.size (.slice (some ⟨sb, 0, none⟩) xs.length xs.length) (mkS x y s k Q.2 m) ∧ Box wr pb 30 #[.int .i64 x, .int .i64 y, .slice D xs.length d] ∧ Chg V.heap.size W4.heap.size w6 wr) (fun s10 _ _ _ _ => T - lenV s10)
            case atStart => exact ⟨0, _, _, _, by omega, rfl, rfl, rfl, hE0, hne0, by omega, bx, bt, hR2, hS2, bo2, hc2⟩
            case round =>
              obtain ⟨m, E, ec, xb, hm, rfl, rfl, rfl, hE, hne, hxb, bx, bt, hR, hS, bo, hc⟩ := hrel
              clear hE0 hne0 hR2 hS2 bo2 hc2
              obtain ⟨ba, br, hp1, bl, hP⟩ := KX.out _ hc
              have hj := itN_in HW.out HH.out s0 s7 i0 HIK.out m
              obtain ⟨pi1, pi2, pi3, pi4, pi5⟩ := pt_in (H := y) HW.out.1 HW.out.2 hj.1 hj.2
              have hnum := pt_num HW.out.1 HW.out.2 hj.1
              rw [HN.out] at hj
              obtain ⟨j, hjj⟩ : ∃ j, itN x y s k m = j := ⟨_, rfl⟩
              have HJ := Lib.hid hjj
              rw [hjj] at hj pi1 pi2 pi3 pi4 pi5 hnum bx
              obtain ⟨a, ha⟩ : ∃ a, ptX x j = a := ⟨_, rfl⟩
              obtain ⟨b, hb⟩ : ∃ b, ptY x j = b := ⟨_, rfl⟩
              rw [hb] at pi1 pi2
              rw [ha] at pi3 pi4
              rw [ha, hb] at pi5 hnum bx
              have HAB := Lib.hid (And.intro ha hb)
              have HNM := Lib.hid hnum
              have HPA := Lib.hid pi5
              obtain ⟨j0, j1⟩ := hj
              have hwl := wrS_len x y s k (gI xs k) Q.1 m
              have hml := mkS_len x y s k Q.2 m
              obtain ⟨gd, rfl⟩ : ∃ gd, D = some ⟨gd, 0, none⟩ := by
                rcases hR.form with ⟨_, h2⟩ | ⟨g, c, h2, _⟩
                · exfalso
                  have : xs.length = 0 := by rw [← hl1, ← hwl, h2]; rfl
                  omega
                · injection h2 with h2 _ _
                  exact ⟨g, h2⟩
              have HX16 : Hid (1 ≤ a ∧ a ≤ 16) := Lib.hid ⟨by omega, by have := HW.out.2; omega⟩
              have HY16 : Hid (1 ≤ b ∧ b ≤ 16) := Lib.hid ⟨by omega, by have := HH.out.2; omega⟩
              obtain ⟨kd, hkd⟩ : ∃ kd, itK s (gI xs k) m = kd := ⟨_, rfl⟩
              have HKD := Lib.hid hkd
              rw [hkd]
              clear hjj ha hb pi5 hnum hkd
              have q0 := ba.cell 0
              have q1 := ba.cell 1
              have q2 := ba.cell 2
              have qn := ba.lt
              have x0 := bx.cell 0
              have x1 := bx.cell 1
              have xn := bx.lt
              simp only [List.getElem?_toArray, List.getElem?_cons_zero, List.getElem?_cons_succ] at q0 q1 q2 x0 x1
              go_wp2_with fail
              refine (number_any HW.out HX16.out HY16.out HPA.out HNM.out).mono ?_
              rintro e w8 ⟨rfl, hb⟩
              replace bx := bx.below hb
              replace bt := bt.below hb
              replace hR := Row.below hR hb
              replace hS := Row.below hS hb
              replace hE := Row.below hE hb
              replace bo := bo.below hb
              replace hc := hc.trans (Chg.ofBelow hb)
              clear hb q0 q1 q2 qn x0 x1 xn ba br hp1 bl hP
              have hg1 : gd ≠ sb := (HNE.out gd rfl).2
              have hg2 : gd ≠ pb := (HNE.out gd rfl).1
              have hg3 := (HD.out gd rfl).2
              have bxl := bx.lt
              have hEl : ∀ g, (Value.slice E m ec).ownBlock = some g → W0.heap.size + 1 ≤ g := fun g hg => (Row.lt hE hg).1
              have hR9 : Ints ((w8.setCell ⟨gd, j.toNat, none⟩ (.int .i64 kd)).setCell ⟨sb, j.toNat, none⟩ (.bool true)) V.heap.size (.slice (some ⟨gd, 0, none⟩) xs.length d) (wrS x y s k (gI xs k) Q.1 (m + 1)) := by
                rw [wrS, HJ.out, HKD.out]
                exact Row.setCell (p := ⟨sb, j.toNat, none⟩) (Row.set_ hR j.toNat kd) (fun g hg e => hg1 (by rw [ownBlock_slice] at hg; injection hg with hg; exact hg.trans e)) _
              have hS9 : Bools ((w8.setCell ⟨gd, j.toNat, none⟩ (.int .i64 kd)).setCell ⟨sb, j.toNat, none⟩ (.bool true)) V.heap.size (.slice (some ⟨sb, 0, none⟩) xs.length xs.length) (mkS x y s k Q.2 (m + 1)) := by
                rw [mkS, HJ.out]
                exact Bools.at_ (Row.setCell (p := ⟨gd, j.toNat, none⟩) hS (fun g hg e => hg1 (by rw [ownBlock_slice] at hg; injection hg with hg; exact (hg.trans e).symm)) _) j.toNat
              have hE9 : Ints ((w8.setCell ⟨gd, j.toNat, none⟩ (.int .i64 kd)).setCell ⟨sb, j.toNat, none⟩ (.bool true)) (W0.heap.size + 1) (.slice E m ec) (cycL x y s k m) :=
                Row.setCell (p := ⟨sb, j.toNat, none⟩) (Row.setCell (p := ⟨gd, j.toNat, none⟩) hE (fun g hg e => by have := hEl g hg; have e' : g = gd := e; omega) _) (fun g hg e => by have := hEl g hg; have e' : g = sb := e; omega) _
              have bx9 := (bx.far (p := ⟨gd, j.toNat, none⟩) (by show xb ≠ gd; omega) (.int .i64 kd)).far (p := ⟨sb, j.toNat, none⟩) (by show xb ≠ sb; omega) (.bool true)
              have bt9 := (bt.far (p := ⟨gd, j.toNat, none⟩) (by show W0.heap.size ≠ gd; omega) (.int .i64 kd)).far (p := ⟨sb, j.toNat, none⟩) (by show W0.heap.size ≠ sb; omega) (.bool true)
              have bo9 := (bo.far (p := ⟨gd, j.toNat, none⟩) (by show pb ≠ gd; omega) (.int .i64 kd)).far (p := ⟨sb, j.toNat, none⟩) (by show pb ≠ sb; omega) (.bool true)
              have hc9 := (hc.setc (p := ⟨gd, j.toNat, none⟩) (by show V.heap.size ≤ gd; exact (HD.out gd rfl).1) (by show gd < W4.heap.size; omega) (.int .i64 kd)).setc (p := ⟨sb, j.toNat, none⟩) (by show V.heap.size ≤ sb; omega) (by show sb < W4.heap.size; omega) (.bool true)
              have hB9 : W0.heap.size + 1 ≤ ((w8.setCell ⟨gd, j.toNat, none⟩ (.int .i64 kd)).setCell ⟨sb, j.toNat, none⟩ (.bool true)).heap.size := by rw [World.size_setCell, World.size_setCell]; omega
              have hlen : (cycL x y s k m).length < 1000000000 := by rw [cycL_len]; omega
              have hl9 := cycL_len x y s k m
              have o2 := bo.cell 2
              have on := bo.lt
              have cR := Ints.cellI hR (i := j) j0 (by rw [hwl, hl1]; exact j1)
              have fR := Row.free hR j.toNat
              have sR := (Row.lt hR (g := gd) rfl).2
              have cS := Bools.cellI hS (i := j) j0 (by rw [hml, hl2]; exact j1)
              have fS := Row.free hS j.toNat
              have sS := (Row.lt hS (g := sb) rfl).2
              simp only [List.getElem?_toArray, List.getElem?_cons_zero, List.getElem?_cons_succ] at o2
              clear hR hS hE bx bt bo hc
              go_wp2_with (at_builtin; refine append_one_at rfl _ _ rfl (W0.heap.size + 1) w8.heap.size (.slice E m ec) (cycL x y s k m) j hE9 rfl rfl (by simp) hlen hB9 ?_)
              intro g c' w10 hI10 hg10 hat10
              try rw [hl9] at hI10
              try rw [hl9]
              have hne10 : (Value.slice (some ⟨g, 0, none⟩) (m + 1) c').ownBlock ≠ some xb := by
                rcases hat10 with h | h
                · rw [ownBlock_slice, ← h]; exact hne
                · rw [ownBlock_slice]
                  intro e
                  injection e with e
                  omega
              have hE10 : Ints w10 (W0.heap.size + 1) (.slice (some ⟨g, 0, none⟩) (m + 1) c') (cycL x y s k (m + 1)) := by
                rw [cycL, HJ.out]
                exact hI10
              have bx10 := bx9.grown hg10 (fun e => hne e.symm)
              have bt10 := bt9.grown hg10 (fun e => by have := hEl _ e.symm; omega)
              have bo10 := bo9.grown hg10 (fun e => by have := hEl _ e.symm; omega)
              have hR10 := Row.grown hR9 hg10 (fun g' hg' e => by have := hEl _ e.symm; rw [ownBlock_slice] at hg'; injection hg' with hg'; omega)
              have hS10 := Row.grown hS9 hg10 (fun g' hg' e => by have := hEl _ e.symm; rw [ownBlock_slice] at hg'; injection hg' with hg'; omega)
              have hc10 : Chg V.heap.size W4.heap.size w6 w10 := ⟨hg10.os.trans hc9.os, hg10.tape.trans hc9.tape, hg10.output.trans hc9.output, Nat.le_trans hc9.size hg10.size, fun q hq hd => (hg10.block q (by have := hc9.size; omega) (fun e => by have := hEl q e.symm; omega)).trans (hc9.block q hq hd)⟩
              clear hI10 hg10 hat10 bx9 bt9 bo9 hR9 hS9 hc9 hE9 hB9 hlen hl9 o2 on cR fR sR cS fS sS hne
              obtain ⟨ba, br, hp1, bl, hP⟩ := KX.out _ hc10
              clear br hp1 bl hP
              have hat := itN_at HW.out HH.out s0 s7 HQ.out i0 HIK.out m
              rw [HJ.out, HAB.out.1, HAB.out.2] at hat
              obtain ⟨a', ha'⟩ : ∃ a', ptX x (itN x y s k (m + 1)) = a' := ⟨_, rfl⟩
              obtain ⟨b', hb'⟩ : ∃ b', ptY x (itN x y s k (m + 1)) = b' := ⟨_, rfl⟩
              rw [ha', hb'] at hat
              obtain ⟨kd', hkd'⟩ : ∃ kd', itK s (gI xs k) (m + 1) = kd' := ⟨_, rfl⟩
              have HKD' : Hid (kindX kd s = kd') := Lib.hid (by rw [← hkd', itK, HKD.out])
              have HKB : Hid (0 ≤ kd ∧ kd ≤ 2) := Lib.hid (by rw [← HKD.out]; exact itK_bd (HK.out k hlt) m)
              have HAB' := Lib.hid (And.intro ha' hb')
              have HKE := Lib.hid hkd'
              have HAT := Lib.hid hat
              clear ha' hb' hkd' hat
              have q0 := ba.cell 0
              have q1 := ba.cell 1
              have q2 := ba.cell 2
              have qn := ba.lt
              have x0 := bx10.cell 0
              have x1 := bx10.cell 1
              have xn := bx10.lt
              simp only [List.getElem?_toArray, List.getElem?_cons_zero, List.getElem?_cons_succ] at q0 q1 q2 x0 x1
              have HA2 : Hid (0 ≤ a ∧ a ≤ 2 * x) := Lib.hid ⟨by omega, by omega⟩
              have HB2 : Hid (0 ≤ b ∧ b ≤ 2 * y) := Lib.hid ⟨by omega, by omega⟩
              have HWW : Hid (0 ≤ x ∧ x ≤ 1000000) := Lib.hid ⟨by have := HW.out; omega, by have := HW.out; omega⟩
              have HHH : Hid (0 ≤ y ∧ y ≤ 1000000) := Lib.hid ⟨by have := HH.out; omega, by have := HH.out; omega⟩
              go_wp2_with fail
              refine (mapPoint_any HWW.out HHH.out HA2.out HB2.out HS.out HAT.out).mono ?_
              rintro e w11 ⟨rfl, hb⟩
              replace bx10 := bx10.below hb
              replace bt10 := bt10.below hb
              replace hR10 := Row.below hR10 hb
              replace hS10 := Row.below hS10 hb
              replace hE10 := Row.below hE10 hb
              replace bo10 := bo10.below hb
              replace hc10 := hc10.trans (Chg.ofBelow hb)
              clear hb q0 q1 q2 qn x0 x1 xn ba
              go_wp2_with fail
              refine (mapBreak_any HKB.out HKD'.out).mono ?_
              rintro e w' ⟨rfl, rfl⟩
              have hxt : xb ≠ W0.heap.size := by omega
              have hxp : pb ≠ xb := by omega
              have hxg : gd ≠ xb := by omega
              have hxs : sb ≠ xb := by omega
              have bx12 := Box.set2p bx10 (.int .i64 a') (.int .i64 b')
              have bt12 := (bt10.far (p := ⟨xb, 0, none⟩) (fun e => hxt e.symm) (.int .i64 a')).far (p := ⟨xb, 1, none⟩) (fun e => hxt e.symm) (.int .i64 b')
              have bo12 := (bo10.far (p := ⟨xb, 0, none⟩) hxp (.int .i64 a')).far (p := ⟨xb, 1, none⟩) hxp (.int .i64 b')
              have hR12 := Row.setCell (p := ⟨xb, 1, none⟩) (Row.setCell (p := ⟨xb, 0, none⟩) hR10 (fun g hg e => hxg (by rw [ownBlock_slice] at hg; injection hg with hg; exact hg.trans e)) (.int .i64 a')) (fun g hg e => hxg (by rw [ownBlock_slice] at hg; injection hg with hg; exact hg.trans e)) (.int .i64 b')
              have hS12 := Row.setCell (p := ⟨xb, 1, none⟩) (Row.setCell (p := ⟨xb, 0, none⟩) hS10 (fun g hg e => hxs (by rw [ownBlock_slice] at hg; injection hg with hg; exact hg.trans e)) (.int .i64 a')) (fun g hg e => hxs (by rw [ownBlock_slice] at hg; injection hg with hg; exact hg.trans e)) (.int .i64 b')
              have hE12 := Row.setCell (p := ⟨xb, 1, none⟩) (Row.setCell (p := ⟨xb, 0, none⟩) hE10 (fun g hg e => hne10 (by rw [hg]; exact congrArg some e)) (.int .i64 a')) (fun g hg e => hne10 (by rw [hg]; exact congrArg some e)) (.int .i64 b')
              have hc12 := (hc10.putn (p := ⟨xb, 0, none⟩) (by show w6.heap.size ≤ xb; omega) (.int .i64 a')).putn (p := ⟨xb, 1, none⟩) (by show w6.heap.size ≤ xb; omega) (.int .i64 b')
              have x0 := bx10.cell 0
              have x1 := bx10.cell 1
              have xf0 := bx10.free 0
              have xf1 := bx10.free 1
              have xn := bx10.lt
              have t0 := bt12.cell 0
              have t1 := bt12.cell 1
              have tn := bt12.lt
              have y0 := bx12.cell 0
              have y1 := bx12.cell 1
              simp only [List.getElem?_toArray, List.getElem?_cons_zero, List.getElem?_cons_succ] at x0 x1 t0 t1 y0 y1
              have hper := (per_is HW.out HH.out s0 s7 HQ.out i0 HIK.out).2
              rw [HT.out] at hper
              by_cases hmT : m + 1 < T
              · have hin2 := itN_in HW.out HH.out s0 s7 i0 HIK.out (m + 1)
                have hkn : ¬ (a' = ptX x k ∧ b' = ptY x k) := fun h => hper.2 (m + 1) (by omega) hmT (pt_inj HW.out hin2.1 i0 (HAB'.out.1.trans h.1) (HAB'.out.2.trans h.2))
                have heq := pt_eqF hkn
                have hz := Joins.below_alloc1 ((w11.setCell ⟨xb, 0, none⟩ (.int .i64 a')).setCell ⟨xb, 1, none⟩ (.int .i64 b')) (.cells #[.int .i64 a', .int .i64 b'] 36)
                have hws : ((w11.setCell ⟨xb, 0, none⟩ (.int .i64 a')).setCell ⟨xb, 1, none⟩ (.int .i64 b')).heap.size = w11.heap.size := by rw [World.size_setCell, World.size_setCell]
                have HRR : Hid (∃ (m2 : Nat) (E : Option Addr) (ec xb2 : Nat), m2 < T ∧ (.slice (some ⟨g, 0, none⟩) (m + 1) c' : Value) = .slice E m2 ec ∧ (.int .i64 kd' : Value) = .int .i64 (itK s (gI xs k) m2) ∧ (.pointer (some ⟨w11.heap.size, 0, none⟩) : Value) = .pointer (some ⟨xb2, 0, none⟩) ∧ Ints (((w11.setCell ⟨xb, 0, none⟩ (.int .i64 a')).setCell ⟨xb, 1, none⟩ (.int .i64 b')).alloc (.cells #[.int .i64 a', .int .i64 b'] 36)) (W0.heap.size + 1) (.slice E m2 ec) (cycL x y s k m2) ∧ (Value.slice E m2 ec).ownBlock ≠ some xb2 ∧ W0.heap.size + 1 ≤ xb2 ∧
                    Box (((w11.setCell ⟨xb, 0, none⟩ (.int .i64 a')).setCell ⟨xb, 1, none⟩ (.int .i64 b')).alloc (.cells #[.int .i64 a', .int .i64 b'] 36)) xb2 36 #[.int .i64 (ptX x (itN x y s k m2)), .int .i64 (ptY x (itN x y s k m2))] ∧ Box (((w11.setCell ⟨xb, 0, none⟩ (.int .i64 a')).setCell ⟨xb, 1, none⟩ (.int .i64 b')).alloc (.cells #[.int .i64 a', .int .i64 b'] 36)) W0.heap.size 36 #[.int .i64 (ptX x k), .int .i64 (ptY x k)] ∧ Ints (((w11.setCell ⟨xb, 0, none⟩ (.int .i64 a')).setCell ⟨xb, 1, none⟩ (.int .i64 b')).alloc (.cells #[.int .i64 a', .int .i64 b'] 36)) V.heap.size (.slice (some ⟨gd, 0, none⟩) xs.length d) (wrS x y s k (gI xs k) Q.1 m2) ∧
                    Bools (((w11.setCell ⟨xb, 0, none⟩ (.int .i64 a')).setCell ⟨xb, 1, none⟩ (.int .i64 b')).alloc (.cells #[.int .i64 a', .int .i64 b'] 36)) V.heap.size (.slice (some ⟨sb, 0, none⟩) xs.length xs.length) (mkS x y s k Q.2 m2) ∧ Box (((w11.setCell ⟨xb, 0, none⟩ (.int .i64 a')).setCell ⟨xb, 1, none⟩ (.int .i64 b')).alloc (.cells #[.int .i64 a', .int .i64 b'] 36)) pb 30 #[.int .i64 x, .int .i64 y, .slice (some ⟨gd, 0, none⟩) xs.length d] ∧ Chg V.heap.size W4.heap.size w6 (((w11.setCell ⟨xb, 0, none⟩ (.int .i64 a')).setCell ⟨xb, 1, none⟩ (.int .i64 b')).alloc (.cells #[.int .i64 a', .int .i64 b'] 36))) := by
                  refine Lib.hid ⟨m + 1, some ⟨g, 0, none⟩, c', w11.heap.size, hmT, rfl, by rw [HKE.out], rfl, Row.below hE12 hz, ?_, by omega, ?_, bt12.below hz, Row.below hR12 hz, Row.below hS12 hz, bo12.below hz, hc12.trans (Chg.ofBelow hz)⟩
                  · intro e
                    have h1 := (Row.lt hE12 e).2
                    rw [hws] at h1
                    omega
                  · have bn := Box.new ((w11.setCell ⟨xb, 0, none⟩ (.int .i64 a')).setCell ⟨xb, 1, none⟩ (.int .i64 b')) 36 #[.int .i64 a', .int .i64 b']
                    rw [hws] at bn
                    rw [HAB'.out.1, HAB'.out.2]
                    exact bn
                clear hz hws bx12 bt12 bo12 hR12 hS12 hE12 hc12 bx10 bt10 bo10 hR10 hS10 hE10 hc10 hper hin2 hkn
                go_wp2
                go_roundw
                case rel => exact HRR.out
                case measure => simp [lenV]; omega
              · have e : T = m + 1 := by omega
                rw [← e] at hR12 hS12 hE12
                have hk2 := hper.1
                have ea : a' = ptX x k := by rw [← HAB'.out.1, ← e, hk2]
                have eb : b' = ptY x k := by rw [← HAB'.out.2, ← e, hk2]
                subst ea eb
                clear hper hk2 bx12 bt12 bx10 bt10 bo10 hR10 hS10 hE10 hc10 HAT HAB' HKD' HKE y0 y1
                have hmm : ((m + 1 : Nat) : Int) = (m : Int) + 1 := by omega
                by_cases hodd : m % 2 = 0
                · have hrem : (((m : Int) + 1).tmod 2 : Int) = 1 := by rw [Int.tmod_eq_emod_of_nonneg (by omega)]; omega
                  have HKZ : Hid (kd0 x y s xs k = 0) := Lib.hid (by unfold kd0; rw [HT.out, if_pos ⟨h4, by omega⟩])
                  go_wp2
                  generalize hW3 : (w11.setCell ⟨xb, 0, none⟩ (.int .i64 (ptX x k))).setCell ⟨xb, 1, none⟩ (.int .i64 (ptY x k)) = W3 at *
                  clear hW3 x0 x1 xf0 xf1 xn t0 t1 tn
                  go_loopw [95] (fun s95 wr => ∃ i : Nat, i ≤ T ∧ s95 = .int .i64 i ∧ Ints wr V.heap.size (.slice (some ⟨gd, 0, none⟩) xs.length d) (wrS x y s k 0 (wrS x y s k (gI xs k) Q.1 T) i) ∧ Bools wr V.heap.size (.slice (some ⟨sb, 0, none⟩) xs.length xs.length) (mkS x y s k Q.2 T) ∧
                      Ints wr (W0.heap.size + 1) (.slice (some ⟨g, 0, none⟩) T c') (cycL x y s k T) ∧ Box wr pb 30 #[.int .i64 x, .int .i64 y, .slice (some ⟨gd, 0, none⟩) xs.length d] ∧ Chg V.heap.size W4.heap.size w6 wr) (fun s95 _ => T - (intOf s95).toNat)
                  case atStart => exact ⟨0, Nat.zero_le _, rfl, hR12, hS12, by rw [e] at hE12 ⊢; exact hE12, bo12, hc12⟩
                  case round =>
                    obtain ⟨i, hi, rfl, hR, hS, hE, bo, hc⟩ := hrel
                    clear hR12 hS12 hE12 bo12 hc12
                    by_cases hit : i < T
                    · have hin := itN_in HW.out HH.out s0 s7 i0 HIK.out i
                      rw [HN.out] at hin
                      have hcv := cycL_get x y s k T i hit
                      have cE := Ints.cell hE (k := i) (by rw [cycL_len]; exact hit)
                      rw [hcv] at cE
                      have hwi : wrS x y s k 0 (wrS x y s k (gI xs k) Q.1 T) (i + 1) = (wrS x y s k 0 (wrS x y s k (gI xs k) Q.1 T) i).set (itN x y s k i).toNat 0 := by rw [wrS, itK_zero]
                      obtain ⟨N, hNN⟩ : ∃ N, itN x y s k i = N := ⟨_, rfl⟩
                      rw [hNN] at hin cE hwi
                      have HWI := Lib.hid hwi
                      clear hcv hNN hwi
                      have hwl := wrS_len x y s k (gI xs k) Q.1 T
                      have cR := Ints.cellI hR (i := N) hin.1 (by rw [wrS_len, hwl, hl1]; exact hin.2)
                      have fR := Row.free hR N.toNat
                      have sR := (Row.lt hR (g := gd) rfl).2
                      have sE := (Row.lt hE (g := g) rfl).2
                      have o2 := bo.cell 2
                      have on := bo.lt
                      simp only [List.getElem?_toArray, List.getElem?_cons_zero, List.getElem?_cons_succ] at o2
                      obtain ⟨n0, n1⟩ := hin
                      have hg1 : gd ≠ sb := (HNE.out gd rfl).2
                      have hg2 : gd ≠ pb := (HNE.out gd rfl).1
                      have hg3 := (HD.out gd rfl).2
                      have hg4 := (HD.out gd rfl).1
                      have hg5 := (Row.lt hE (g := g) rfl).1
                      have hgg : g ≠ gd := by omega
                      have hR5 : Ints (wr.setCell ⟨gd, N.toNat, none⟩ (.int .i64 0)) V.heap.size (.slice (some ⟨gd, 0, none⟩) xs.length d) (wrS x y s k 0 (wrS x y s k (gI xs k) Q.1 T) (i + 1)) := by rw [HWI.out]; exact Row.set_ hR N.toNat 0
                      have hS5 := Row.setCell (p := ⟨gd, N.toNat, none⟩) hS (fun g' hg' e' => hg1 (by rw [ownBlock_slice] at hg'; injection hg' with hg'; exact (hg'.trans e').symm)) (.int .i64 0)
                      have hE5 := Row.setCell (p := ⟨gd, N.toNat, none⟩) hE (fun g' hg' e' => hgg (by rw [ownBlock_slice] at hg'; injection hg' with hg'; exact hg'.trans e')) (.int .i64 0)
                      have bo5 := bo.far (p := ⟨gd, N.toNat, none⟩) (fun e' => hg2 e'.symm) (.int .i64 0)
                      have hc5 := hc.setc (p := ⟨gd, N.toNat, none⟩) (by show V.heap.size ≤ gd; exact hg4) (by show gd < W4.heap.size; exact hg3) (.int .i64 0)
                      have R5 : Hid (∃ i2 : Nat, i2 ≤ T ∧ (.int .i64 ((i : Int) + 1) : Value) = .int .i64 i2 ∧ Ints (wr.setCell ⟨gd, N.toNat, none⟩ (.int .i64 0)) V.heap.size (.slice (some ⟨gd, 0, none⟩) xs.length d) (wrS x y s k 0 (wrS x y s k (gI xs k) Q.1 T) i2) ∧ Bools (wr.setCell ⟨gd, N.toNat, none⟩ (.int .i64 0)) V.heap.size (.slice (some ⟨sb, 0, none⟩) xs.length xs.length) (mkS x y s k Q.2 T) ∧
                        Ints (wr.setCell ⟨gd, N.toNat, none⟩ (.int .i64 0)) (W0.heap.size + 1) (.slice (some ⟨g, 0, none⟩) T c') (cycL x y s k T) ∧ Box (wr.setCell ⟨gd, N.toNat, none⟩ (.int .i64 0)) pb 30 #[.int .i64 x, .int .i64 y, .slice (some ⟨gd, 0, none⟩) xs.length d] ∧ Chg V.heap.size W4.heap.size w6 (wr.setCell ⟨gd, N.toNat, none⟩ (.int .i64 0))) := Lib.hid ⟨i + 1, by omega, by go_num, hR5, hS5, hE5, bo5, hc5⟩
                      clear hR5 hS5 hE5 bo5 hc5 hR hS hE bo hc hwl hg1 hg2 hg3 hg4 hg5
                      go_wp2
                      go_roundw
                      case rel => exact R5.out
                      case measure => simp [intOf]; omega
                    · have e2 : i = T := by omega
                      subst e2
                      rw [wr_zero] at hR
                      have R1 : Hid (∃ m : Nat, m ≤ xs.length ∧ (.int .i64 ((k : Int) + 1) : Value) = .int .i64 m ∧ Ints wr V.heap.size (.slice (some ⟨gd, 0, none⟩) xs.length d) (symTo x y s xs m).1 ∧ Bools wr V.heap.size (.slice (some ⟨sb, 0, none⟩) xs.length xs.length) (symTo x y s xs m).2 ∧
                          Box wr pb 30 #[.int .i64 x, .int .i64 y, .slice (some ⟨gd, 0, none⟩) xs.length d] ∧ Chg V.heap.size W4.heap.size w6 wr) := Lib.hid ⟨k + 1, by omega, by go_num, by rw [HNX.out, HT.out, HKZ.out]; exact hR, by rw [HNX.out, HT.out]; exact hS, bo, hc⟩
                      clear hR hS bo hc hE
                      go_wp2
                      go_roundw
                      case rel => exact R1.out
                      case measure => simp [intOf]; omega
                · have hrem : (((m : Int) + 1).tmod 2 : Int) = 0 := by rw [Int.tmod_eq_emod_of_nonneg (by omega)]; omega
                  have HKZ : Hid (kd0 x y s xs k = gI xs k) := Lib.hid (by unfold kd0; rw [HT.out, if_neg (by omega)])
                  have R1 : Hid (∃ m : Nat, m ≤ xs.length ∧ (.int .i64 ((k : Int) + 1) : Value) = .int .i64 m ∧ Ints ((w11.setCell ⟨xb, 0, none⟩ (.int .i64 (ptX x k))).setCell ⟨xb, 1, none⟩ (.int .i64 (ptY x k))) V.heap.size (.slice (some ⟨gd, 0, none⟩) xs.length d) (symTo x y s xs m).1 ∧ Bools ((w11.setCell ⟨xb, 0, none⟩ (.int .i64 (ptX x k))).setCell ⟨xb, 1, none⟩ (.int .i64 (ptY x k))) V.heap.size (.slice (some ⟨sb, 0, none⟩) xs.length xs.length) (symTo x y s xs m).2 ∧
                      Box ((w11.setCell ⟨xb, 0, none⟩ (.int .i64 (ptX x k))).setCell ⟨xb, 1, none⟩ (.int .i64 (ptY x k))) pb 30 #[.int .i64 x, .int .i64 y, .slice (some ⟨gd, 0, none⟩) xs.length d] ∧ Chg V.heap.size W4.heap.size w6 ((w11.setCell ⟨xb, 0, none⟩ (.int .i64 (ptX x k))).setCell ⟨xb, 1, none⟩ (.int .i64 (ptY x k)))) := Lib.hid ⟨k + 1, by omega, by go_num, by rw [HNX.out, HT.out, HKZ.out]; exact hR12, by rw [HNX.out, HT.out]; exact hS12, bo12, hc12⟩
                  clear hR12 hS12 bo12 hc12 hE12
                  go_wp2
                  go_roundw
                  case rel => exact R1.out
                  case measure => simp [intOf]; omega
          · rw [hbk] at cS cS2
            have HNX := Lib.hid (symTo_yes hbk)
            have R1 : Hid (∃ m : Nat, m ≤ xs.length ∧ (.int .i64 ((k : Int) + 1) : Value) = .int .i64 m ∧ Ints (wr.alloc (.cells #[.int .i64 (ptX x k), .int .i64 (ptY x k)] 36)) V.heap.size (.slice D xs.length d) (symTo x y s xs m).1 ∧ Bools (wr.alloc (.cells #[.int .i64 (ptX x k), .int .i64 (ptY x k)] 36)) V.heap.size (.slice (some ⟨sb, 0, none⟩) xs.length xs.length) (symTo x y s xs m).2 ∧
                Box (wr.alloc (.cells #[.int .i64 (ptX x k), .int .i64 (ptY x k)] 36)) pb 30 #[.int .i64 x, .int .i64 y, .slice D xs.length d] ∧ Chg V.heap.size W4.heap.size w6 (wr.alloc (.cells #[.int .i64 (ptX x k), .int .i64 (ptY x k)] 36))) := Lib.hid ⟨k + 1, by omega, by go_num, by rw [HNX.out]; exact hR2, by rw [HNX.out]; exact hS2, bo2, hc2⟩
            clear hbk hR hS bo hc hR2 hS2 bo2 hc2 bt hl1 hl2 br ba
            go_wp2
            go_roundw
            case rel => exact R1.out
            case measure => simp [intOf]; omega
        · have e : k = xs.length := by omega
          subst e
          have o0 := bo.cell 0
          have o1 := bo.cell 1
          have o2 := bo.cell 2
          have on := bo.lt
          have r0 := br.cell 0
          have r1 := br.cell 1
          have r2 := br.cell 2
          have rf0 := br.free 0
          have rf1 := br.free 1
          have rf2 := br.free 2
          have rn := br.lt
          simp only [List.getElem?_toArray, List.getElem?_cons_zero, List.getElem?_cons_succ] at o0 o1 o2 r0 r1 r2
          go_wp2
          rw [hl1]
          refine bodyPost_ret (v := .tuple #[.agg #[.int .i64 x, .int .i64 y, .slice D xs.length d], .int .i64 0]) (by simp [results, Try.results36, go_sem, r0, r1, r2, rf0, rf1, rf2, rn]) rfl ⟨D, d, rfl, ?_, ?_⟩
          · have hz : IntsIn wr V.heap.size W4.heap.size (.slice D xs.length d) (symTo x y s xs xs.length).1 := ⟨hR, fun g hg => (HD.out g hg).2, by have := hc.size; omega, by rw [hl1]; omega⟩
            exact (((hz.at_store (p := ⟨w.heap.size + 1, 0, none⟩) (by simp; omega) _).at_store (p := ⟨w.heap.size + 1, 1, none⟩) (by simp; omega) _).at_store (p := ⟨w.heap.size + 1, 2, none⟩) (by simp; omega) _).wider (by omega) (by have := hc.size; simp; omega) (Nat.le_refl _)
          · exact ((bl.setCell (p := ⟨w.heap.size + 1, 0, none⟩) (by simp) _).setCell (p := ⟨w.heap.size + 1, 1, none⟩) (by simp) _).setCell (p := ⟨w.heap.size + 1, 2, none⟩) (by simp) _
  · skip
    have q0 := ba.cell 0
    have q1 := ba.cell 1
    have q2 := ba.cell 2
    have qn := ba.lt
    simp only [List.getElem?_toArray, List.getElem?_cons_zero, List.getElem?_cons_succ] at q0 q1 q2
    go_enter Try.func36, Try.ntmps36
    go_wp2_with fail
    refine (ValidPanel_any x y _ xs true (yes_iff HO.out) _ hp1.ints).mono ?_
    rintro e w2 ⟨rfl, hb⟩
    have s2 := hb.size
    simp only [World.size_alloc] at s2
    replace ba := ba.below hb
    replace br := br.below hb
    replace bl := bnext bl hb
    replace hp1 := hp1.below hb
    clear hb
    clear q0 q1 q2 qn
    go_wp2_with fail
    refine (validSym_any s true HS.out _).mono ?_
    rintro e w' ⟨rfl, rfl⟩
    generalize hV : w2 = V at *
    clear hV
    have q0 := ba.cell 0
    have q1 := ba.cell 1
    have q2 := ba.cell 2
    have qn := ba.lt
    simp only [List.getElem?_toArray, List.getElem?_cons_zero, List.getElem?_cons_succ] at q0 q1 q2
    go_wp2
    go_cut [6, 7] (fun s6 s7 wc => TwoRows V wc x y xs s6 s7)
    case first =>
      have hpd : IntsIn V.drew lo hi (.slice A xs.length cA) xs := hp1.below (below_drewN _ V 1)
      have HKC : Hid (∀ w', Below V.heap.size V w' → Below V.heap.size V w' ∧ w'.cell? ⟨w.heap.size, 0, none⟩ = some (.int .i64 x) ∧ w'.cell? ⟨w.heap.size, 1, none⟩ = some (.int .i64 y) ∧ w'.cell? ⟨w.heap.size, 2, none⟩ = some (.slice A xs.length cA)) := Lib.hid (fun w' hb => ⟨hb, (hb.cell (World.block_lt_of_cell? V _ q0)).trans q0, (hb.cell (World.block_lt_of_cell? V _ q1)).trans q1, (hb.cell (World.block_lt_of_cell? V _ q2)).trans q2⟩)
      have hb0 := below_drewN V.heap.size V 1
      go_region_held3 (fun w' => Below V.heap.size V w' ∧ w'.cell? ⟨w.heap.size, 0, none⟩ = some (.int .i64 x) ∧ w'.cell? ⟨w.heap.size, 1, none⟩ = some (.int .i64 y) ∧ w'.cell? ⟨w.heap.size, 2, none⟩ = some (.slice A xs.length cA))
        (exact HKC.out _ (by (repeat (first | exact hb5 | exact hb0 | exact Below.refl _ _ | refine bdrew1 ?_ | refine Below.alloc ?_ (by first | omega | (simp; omega) | simp) _ | refine Below.setCell ?_ (by first | omega | (simp; omega) | simp) _))))
        (first | (go_at_call 91; (with_reducible refine (clonePanel_any (hp1.below (show Below V.heap.size V _ by (repeat (first | exact hb5 | exact hb0 | exact Below.refl _ _ | refine bdrew1 ?_ | refine Below.alloc ?_ (by first | omega | (simp; omega) | simp) _ | refine Below.setCell ?_ (by first | omega | (simp; omega) | simp) _))))).mono ?_); rintro e w5 ⟨D, d, rfl, hD, hb⟩; have hb5 := bnext (w := V) (by (repeat (first | exact hb5 | exact hb0 | exact Below.refl _ _ | refine bdrew1 ?_ | refine Below.alloc ?_ (by first | omega | (simp; omega) | simp) _ | refine Below.setCell ?_ (by first | omega | (simp; omega) | simp) _))) hb; have hs5 := hb5.size; (first | (have hy : Box w5 V.heap.size 30 #[.int .i64 0, .int .i64 0, .slice none 0 0] := Box.below (w := (V.alloc (.cells #[.int .i64 0, .int .i64 0, .slice none 0 0] 30)).drew) (Box.drew1 (Box.new V 30 #[.int .i64 0, .int .i64 0, .slice none 0 0])) hb; have z0 := hy.cell 0; have z1 := hy.cell 1; have z2 := hy.cell 2; have y0 := hy.free 0; have y1 := hy.free 1; have y2 := hy.free 2; have zn := hy.lt; (try simp only [World.size_alloc] at z0 z1 z2 y0 y1 y2 zn hy)) | (have hy : Box w5 (V.alloc (.cells M 4)).heap.size 30 #[.int .i64 0, .int .i64 0, .slice none 0 0] := Box.below (w := ((V.alloc (.cells M 4)).alloc (.cells #[.int .i64 0, .int .i64 0, .slice none 0 0] 30)).drew) (Box.drew1 (Box.new (V.alloc (.cells M 4)) 30 #[.int .i64 0, .int .i64 0, .slice none 0 0])) hb; have z0 := hy.cell 0; have z1 := hy.cell 1; have z2 := hy.cell 2; have y0 := hy.free 0; have y1 := hy.free 1; have y2 := hy.free 2; have zn := hy.lt; (try simp only [World.size_alloc] at z0 z1 z2 y0 y1 y2 zn hy)) | (have hy : Box w5 V.heap.size 30 #[.int .i64 0, .int .i64 0, .slice none 0 0] := Box.below (w := ((V.alloc (.cells #[.int .i64 0, .int .i64 0, .slice none 0 0] 30)).alloc (.cells M 4)).drew) (Box.drew1 ((Box.new V 30 #[.int .i64 0, .int .i64 0, .slice none 0 0]).alloc (.cells M 4))) hb; have z0 := hy.cell 0; have z1 := hy.cell 1; have z2 := hy.cell 2; have y0 := hy.free 0; have y1 := hy.free 1; have y2 := hy.free 2; have zn := hy.lt; (try simp only [World.size_alloc] at z0 z1 z2 y0 y1 y2 zn hy)) | skip)))
      all_goals
        go_wp2_with fail
        go_meet
        case rel =>
          have hD5 : Ints w5 V.heap.size (.slice D xs.length d) xs := Row.le hD.1 (by simp <;> omega)
          have hlow : ∀ g, (Value.slice D xs.length d).ownBlock = some g → V.heap.size ≤ g ∧ g < w5.heap.size := fun g hg => ⟨(Row.lt hD5 hg).1, hD.2.1 g hg⟩
          have hl5 : ∀ g, (Value.slice D xs.length d).ownBlock = some g → g < w5.heap.size := fun g hg => (hlow g hg).2
          have hlo := fun g (hg : (Value.slice D xs.length d).ownBlock = some g) => (Row.lt hD.1 hg).1
          simp only [World.size_drew, World.size_alloc] at hlo
          first
            | with_reducible exact two1 hD5 hl5 hb5 HM2.out
            | with_reducible exact two2 hD5 hl5 hb5 HM2.out
            | with_reducible exact two6 hD5 hl5 hb5 hy (by omega) HM2.out (fun g hg => by have := hlo g hg; omega)
            | ((with_reducible have hb' : Below (V.alloc (.cells M 4)).drew.heap.size (V.alloc (.cells M 4)).drew w5 := hb)
               have h4 : Bools w5 V.heap.size (.slice (some ⟨V.heap.size, 0, none⟩) xs.length xs.length) (List.replicate xs.length false) := Row.below (w := (V.alloc (.cells M 4)).drew) (HM2.out V) hb'
               with_reducible exact two4 hD5 hl5 hb5 h4 (fun g hg => by have := hlo g hg; omega))
            | ((with_reducible have hb' : Below ((V.alloc (.cells M 4)).alloc (.cells #[.int .i64 0, .int .i64 0, .slice none 0 0] 30)).drew.heap.size ((V.alloc (.cells M 4)).alloc (.cells #[.int .i64 0, .int .i64 0, .slice none 0 0] 30)).drew w5 := hb)
               have h4 : Bools w5 V.heap.size (.slice (some ⟨V.heap.size, 0, none⟩) xs.length xs.length) (List.replicate xs.length false) := Row.below (w := ((V.alloc (.cells M 4)).alloc (.cells #[.int .i64 0, .int .i64 0, .slice none 0 0] 30)).drew) (Row.alloc (HM2.out V) _) hb'
               with_reducible exact two5 hD5 hb5 hy (by omega) h4 (by omega) (fun g hg => by have := hlo g hg; omega))
            | ((with_reducible have hb' : Below ((V.alloc (.cells #[.int .i64 0, .int .i64 0, .slice none 0 0] 30)).alloc (.cells M 4)).drew.heap.size ((V.alloc (.cells #[.int .i64 0, .int .i64 0, .slice none 0 0] 30)).alloc (.cells M 4)).drew w5 := hb)
               have m7 := HM2.out (V.alloc (.cells #[.int .i64 0, .int .i64 0, .slice none 0 0] 30))
               rw [World.size_alloc] at m7
               have h4 : Bools w5 V.heap.size (.slice (some ⟨V.heap.size + 1, 0, none⟩) xs.length xs.length) (List.replicate xs.length false) := Row.le (Row.below (w := ((V.alloc (.cells #[.int .i64 0, .int .i64 0, .slice none 0 0] 30)).alloc (.cells M 4)).drew) m7 hb') (by omega)
               with_reducible exact two5 hD5 hb5 hy (by omega) h4 (by omega) (fun g hg => by have := hlo g hg; omega))
    case rest =>
      obtain ⟨pb, sb, D, d, rfl, rfl, bo, hR, hS, hpb, hsb, hps, hne, hb⟩ := hcut
      obtain ⟨W4, hW4⟩ : ∃ z, z = wc := ⟨wc, rfl⟩
      subst hW4
      have sW := hb.size
      replace ba := ba.below hb
      replace br := br.below hb
      replace bl := bnext bl hb
      replace hp1 := hp1.below hb
      clear hb q0 q1 q2 qn hM1
      have q0 := ba.cell 0
      have q1 := ba.cell 1
      have q2 := ba.cell 2
      have qn := ba.lt
      simp only [List.getElem?_toArray, List.getElem?_cons_zero, List.getElem?_cons_succ] at q0 q1 q2
      go_wp2_with fail
      refine (points_any (v := .slice A xs.length cA) HW.out HH.out HN.out rfl).mono ?_
      rintro e w6 ⟨P, cP, rfl, hP, hb⟩
      have s6 := hb.size
      have pbl := bo.lt
      have sbl := (Row.lt hS (g := sb) rfl).2
      have hD : ∀ g, (Value.slice D xs.length d).ownBlock = some g → V.heap.size ≤ g ∧ g < W4.heap.size := fun g hg => Row.lt hR hg
      replace ba := ba.below hb
      replace br := br.below hb
      replace bo := bo.below hb
      replace bl := bnext bl hb
      replace hp1 := hp1.below hb
      replace hR := Row.below hR hb
      replace hS := Row.below hS hb
      clear hb q0 q1 q2 qn
      have KX : Hid (∀ wr, Chg V.heap.size W4.heap.size w6 wr → Box wr w.heap.size 30 #[.int .i64 x, .int .i64 y, .slice A xs.length cA] ∧ Box wr (w.heap.size + 1) 30 #[.int .i64 0, .int .i64 0, .slice none 0 0] ∧ IntsIn wr lo hi (.slice A xs.length cA) xs ∧ Below w.heap.size w wr ∧ PRow wr W4.heap.size (.slice P xs.length cP) xs.length (ptsTo x xs.length)) :=
        Lib.hid (fun wr hc => ⟨ba.chg hc (.inl (by omega)), br.chg hc (.inl (by omega)), hp1.chg hc (.inl (by omega)), bl.trans (hc.toBelow (by omega) bl.size), hP.keep (fun g hg hgl => hc.block g hgl (.inr (PRow.lt hP hg).1))⟩)
      have HNE := Lib.hid hne
      have HD := Lib.hid hD
      clear ba br bl hp1 hP hne hD
      have hc0 : Chg V.heap.size W4.heap.size w6 w6 := Chg.ofBelow (Below.refl _ _)
      go_wp2
      go_loopw [43] (fun i wr => ∃ k : Nat, k ≤ xs.length ∧ i = .int .i64 k ∧ Ints wr V.heap.size (.slice D xs.length d) (symTo x y s xs k).1 ∧ Bools wr V.heap.size (.slice (some ⟨sb, 0, none⟩) xs.length xs.length) (symTo x y s xs k).2 ∧
          Box wr pb 30 #[.int .i64 x, .int .i64 y, .slice D xs.length d] ∧ Chg V.heap.size W4.heap.size w6 wr) (fun i _ => xs.length - (intOf i).toNat)
      case atStart => exact ⟨0, Nat.zero_le _, rfl, hR, hS, bo, hc0⟩
      case round =>
        obtain ⟨k, hk, rfl, hR, hS, bo, hc⟩ := hrel
        clear hc0
        obtain ⟨ba, br, hp1, bl, hP⟩ := KX.out _ hc
        obtain ⟨hl1, hl2⟩ := symTo_len x y s xs k
        by_cases hlt : k < xs.length
        · have i1 : (k : Int) < (xs.length : Int) := by omega
          have i0 : (0 : Int) ≤ (k : Int) := by omega
          have cS := Bools.cell hS (k := k) (by omega)
          obtain ⟨gp, rfl⟩ : ∃ gp, P = some ⟨gp, 0, none⟩ := by
            obtain ⟨A', c', e, _, h⟩ := hP.open_
            cases e
            obtain ⟨g, h1, _⟩ := h (by omega)
            exact ⟨g, h1⟩
          have c1 := hP.cell (j := 2 * k) (by omega)
          have c2 := hP.cell (j := 2 * k + 1) (by omega)
          rw [(ptsTo_get x xs.length k hlt).1] at c1
          rw [(ptsTo_get x xs.length k hlt).2] at c2
          rw [Nat.mul_comm 2 k] at c1 c2
          have bt := Box.new wr 36 #[.int .i64 (ptX x k), .int .i64 (ptY x k)]
          have hz := Joins.below_alloc1 wr (.cells #[.int .i64 (ptX x k), .int .i64 (ptY x k)] 36)
          have hR2 := Row.below hR hz
          have hS2 := Row.below hS hz
          have bo2 := bo.below hz
          have hc2 := hc.trans (Chg.ofBelow hz)
          have cS2 := cell_b hz cS
          clear hz
          cases hbk : gB (symTo x y s xs k).2 k
          · rw [hbk] at cS cS2
            have HNX := Lib.hid (symTo_no hbk)
            obtain ⟨W0, hW0⟩ : ∃ z, z = wr := ⟨wr, rfl⟩
            subst hW0
            have HIK : Hid ((k : Int) < inner x y) := Lib.hid (by rw [HN.out]; exact i1)
            obtain ⟨ga, rfl, _, _⟩ := hA (by omega)
            have c3 := cell_b (Joins.below_alloc1 W0 (.cells #[.int .i64 (ptX x k), .int .i64 (ptY x k)] 36)) (Ints.cell hp1.1 (k := k) hlt)
            have ba2 := ba.alloc (.cells #[.int .i64 (ptX x k), .int .i64 (ptY x k)] 36)
            have d2 := ba2.cell 2
            have dn := ba2.lt
            simp only [List.getElem?_toArray, List.getElem?_cons_zero, List.getElem?_cons_succ] at d2
            have wrs := hc.size
            generalize hQ : symTo x y s xs k = Q at *
            clear hbk hR hS bo hc hQ ba br hp1 bl
            go_wp2_with fail
            generalize hW5 : W0.alloc (.cells #[.int .i64 (ptX x k), .int .i64 (ptY x k)] 36) = W5 at *
            have s5 : W5.heap.size = W0.heap.size + 1 := by rw [← hW5]; simp
            clear hW5 cS
            have c3e := cell_b (Joins.below_alloc1 W5 (.cells #[] 2)) c3
            have d2e := cell_b (Joins.below_alloc1 W5 (.cells #[] 2)) d2
            have c3f : (W5.alloc (.cells #[] 2)).drew.cell? ⟨ga, k, none⟩ = some (.int .i64 (gI xs k)) := c3e
            have d2f : (W5.alloc (.cells #[] 2)).drew.cell? ⟨w.heap.size, 2, none⟩ = some (.slice (some ⟨ga, 0, none⟩) xs.length cA) := d2e
            have hE0 : Ints (W5.alloc (.cells #[] 2)).drew W5.heap.size (.slice (some ⟨W5.heap.size, 0, none⟩) 0 0) [] := Row.none_ W5
            have hz : Below W5.heap.size W5 (W5.alloc (.cells #[] 2)).drew := (Joins.below_alloc1 W5 (.cells #[] 2)).trans (below_drewN W5.heap.size (W5.alloc (.cells #[] 2)) 1)
            replace bt := bt.below hz
            replace hR2 := Row.below hR2 hz
            replace hS2 := Row.below hS2 hz
            replace bo2 := bo2.below hz
            replace hc2 := hc2.trans (Chg.ofBelow hz)
            have s7' : (W5.alloc (.cells #[] 2)).drew.heap.size = W5.heap.size + 1 := by simp
            have HB := Lib.hid (And.intro hE0 (And.intro bt (And.intro hR2 (And.intro hS2 (And.intro bo2 hc2)))))
            clear hE0 bt hR2 hS2 bo2 hc2 hz
            go_region
            generalize hW7 : (W5.alloc (.cells #[] 2)).drew = W7 at *
            clear hW7 c3e d2e c3f d2f c3 d2 dn cS2
            obtain ⟨hE0, bt, hR2, hS2, bo2, hc2⟩ := HB.out
            clear HB
            have p0 := bt.cell 0
            have p1 := bt.cell 1
            have pn := bt.lt
            simp only [List.getElem?_toArray, List.getElem?_cons_zero, List.getElem?_cons_succ] at p0 p1
            obtain ⟨T, hT⟩ : ∃ T, perN x y s k = T := ⟨_, rfl⟩
            have T4 := (per_is HW.out HH.out s0 s7 HQ.out i0 HIK.out).1
            rw [hT] at T4
            have HT := Lib.hid hT
            clear hT
            have bx := Box.new W7 36 #[.int .i64 (ptX x k), .int .i64 (ptY x k)]
            have hz := Joins.below_alloc1 W7 (.cells #[.int .i64 (ptX x k), .int .i64 (ptY x k)] 36)
            replace bt := bt.below hz
            replace hR2 := Row.below hR2 hz
            replace hS2 := Row.below hS2 hz
            replace bo2 := bo2.below hz
            replace hc2 := hc2.trans (Chg.ofBelow hz)
            replace hE0 := Row.below hE0 hz
            have hne0 : (Value.slice (some ⟨W5.heap.size, 0, none⟩) 0 0).ownBlock ≠ some W7.heap.size := by rw [ownBlock_slice]; intro e; injection e with e; omega
            clear hz
            go_wp2
            clear p0 p1 pn
            rw [s7', s5] at bx hne0
            rw [s5] at hE0
            go_loopw [10, 11, 12, 13] (fun s10 s11 s12 _ wr => ∃ (m : Nat) (E : Option Addr) (ec xb : Nat), m < T ∧ s10 = .slice E m ec ∧ s11 = .int .i64 (itK s (gI xs k) m) ∧ s12 = .pointer (some ⟨xb, 0, none⟩) ∧ Ints wr (W0.heap.size + 1) (.slice E m ec) (cycL x y s k m) ∧ (Value.slice E m ec).ownBlock ≠ some xb ∧ W0.heap.size + 1 ≤ xb ∧
                Box wr xb 36 #[.int .i64 (ptX x (itN x y s k m)), .int .i64 (ptY x (itN x y s k m))] ∧ Box wr W0.heap.size 36 #[.int .i64 (ptX x k), .int .i64 (ptY x k)] ∧ Ints wr V.heap.size (.slice D xs.length d) (wrS x y s k (gI xs k) Q.1 m) ∧
                Bools wr V.heap.size (.slice (some ⟨sb, 0, none⟩) xs.length xs.length) (mkS x y s k Q.2 m) ∧ Box wr pb 30 #[.int .i64 x, .int .i64 y, .slice D xs.length d] ∧ Chg V.heap.size W4.heap.size w6 wr) (fun s10 _ _ _ _ => T - lenV s10)
            case atStart => exact ⟨0, _, _, _, by omega, rfl, rfl, rfl, hE0, hne0, by omega, bx, bt, hR2, hS2, bo2, hc2⟩
            case round =>
              obtain ⟨m, E, ec, xb, hm, rfl, rfl, rfl, hE, hne, hxb, bx, bt, hR, hS, bo, hc⟩ := hrel
              clear hE0 hne0 hR2 hS2 bo2 hc2
              obtain ⟨ba, br, hp1, bl, hP⟩ := KX.out _ hc
              have hj := itN_in HW.out HH.out s0 s7 i0 HIK.out m
              obtain ⟨pi1, pi2, pi3, pi4, pi5⟩ := pt_in (H := y) HW.out.1 HW.out.2 hj.1 hj.2
              have hnum := pt_num HW.out.1 HW.out.2 hj.1
              rw [HN.out] at hj
              obtain ⟨j, hjj⟩ : ∃ j, itN x y s k m = j := ⟨_, rfl⟩
              have HJ := Lib.hid hjj
              rw [hjj] at hj pi1 pi2 pi3 pi4 pi5 hnum bx
              obtain ⟨a, ha⟩ : ∃ a, ptX x j = a := ⟨_, rfl⟩
              obtain ⟨b, hb⟩ : ∃ b, ptY x j = b := ⟨_, rfl⟩
              rw [hb] at pi1 pi2
              rw [ha] at pi3 pi4
              rw [ha, hb] at pi5 hnum bx
              have HAB := Lib.hid (And.intro ha hb)
              have HNM := Lib.hid hnum
              have HPA := Lib.hid pi5
              obtain ⟨j0, j1⟩ := hj
              have hwl := wrS_len x y s k (gI xs k) Q.1 m
              have hml := mkS_len x y s k Q.2 m
              obtain ⟨gd, rfl⟩ : ∃ gd, D = some ⟨gd, 0, none⟩ := by
                rcases hR.form with ⟨_, h2⟩ | ⟨g, c, h2, _⟩
                · exfalso
                  have : xs.length = 0 := by rw [← hl1, ← hwl, h2]; rfl
                  omega
                · injection h2 with h2 _ _
                  exact ⟨g, h2⟩
              have HX16 : Hid (1 ≤ a ∧ a ≤ 16) := Lib.hid ⟨by omega, by have := HW.out.2; omega⟩
              have HY16 : Hid (1 ≤ b ∧ b ≤ 16) := Lib.hid ⟨by omega, by have := HH.out.2; omega⟩
              obtain ⟨kd, hkd⟩ : ∃ kd, itK s (gI xs k) m = kd := ⟨_, rfl⟩
              have HKD := Lib.hid hkd
              rw [hkd]
              clear hjj ha hb pi5 hnum hkd
              have q0 := ba.cell 0
              have q1 := ba.cell 1
              have q2 := ba.cell 2
              have qn := ba.lt
              have x0 := bx.cell 0
              have x1 := bx.cell 1
              have xn := bx.lt
              simp only [List.getElem?_toArray, List.getElem?_cons_zero, List.getElem?_cons_succ] at q0 q1 q2 x0 x1
              go_wp2_with fail
              refine (number_any HW.out HX16.out HY16.out HPA.out HNM.out).mono ?_
              rintro e w8 ⟨rfl, hb⟩
              replace bx := bx.below hb
              replace bt := bt.below hb
              replace hR := Row.below hR hb
              replace hS := Row.below hS hb
              replace hE := Row.below hE hb
              replace bo := bo.below hb
              replace hc := hc.trans (Chg.ofBelow hb)
              clear hb q0 q1 q2 qn x0 x1 xn ba br hp1 bl hP
              have hg1 : gd ≠ sb := (HNE.out gd rfl).2
              have hg2 : gd ≠ pb := (HNE.out gd rfl).1
              have hg3 := (HD.out gd rfl).2
              have bxl := bx.lt
              have hEl : ∀ g, (Value.slice E m ec).ownBlock = some g → W0.heap.size + 1 ≤ g := fun g hg => (Row.lt hE hg).1
              have hR9 : Ints ((w8.setCell ⟨gd, j.toNat, none⟩ (.int .i64 kd)).setCell ⟨sb, j.toNat, none⟩ (.bool true)) V.heap.size (.slice (some ⟨gd, 0, none⟩) xs.length d) (wrS x y s k (gI xs k) Q.1 (m + 1)) := by
                rw [wrS, HJ.out, HKD.out]
                exact Row.setCell (p := ⟨sb, j.toNat, none⟩) (Row.set_ hR j.toNat kd) (fun g hg e => hg1 (by rw [ownBlock_slice] at hg; injection hg with hg; exact hg.trans e)) _
              have hS9 : Bools ((w8.setCell ⟨gd, j.toNat, none⟩ (.int .i64 kd)).setCell ⟨sb, j.toNat, none⟩ (.bool true)) V.heap.size (.slice (some ⟨sb, 0, none⟩) xs.length xs.length) (mkS x y s k Q.2 (m + 1)) := by
                rw [mkS, HJ.out]
                exact Bools.at_ (Row.setCell (p := ⟨gd, j.toNat, none⟩) hS (fun g hg e => hg1 (by rw [ownBlock_slice] at hg; injection hg with hg; exact (hg.trans e).symm)) _) j.toNat
              have hE9 : Ints ((w8.setCell ⟨gd, j.toNat, none⟩ (.int .i64 kd)).setCell ⟨sb, j.toNat, none⟩ (.bool true)) (W0.heap.size + 1) (.slice E m ec) (cycL x y s k m) :=
                Row.setCell (p := ⟨sb, j.toNat, none⟩) (Row.setCell (p := ⟨gd, j.toNat, none⟩) hE (fun g hg e => by have := hEl g hg; have e' : g = gd := e; omega) _) (fun g hg e => by have := hEl g hg; have e' : g = sb := e; omega) _
              have bx9 := (bx.far (p := ⟨gd, j.toNat, none⟩) (by show xb ≠ gd; omega) (.int .i64 kd)).far (p := ⟨sb, j.toNat, none⟩) (by show xb ≠ sb; omega) (.bool true)
              have bt9 := (bt.far (p := ⟨gd, j.toNat, none⟩) (by show W0.heap.size ≠ gd; omega) (.int .i64 kd)).far (p := ⟨sb, j.toNat, none⟩) (by show W0.heap.size ≠ sb; omega) (.bool true)
              have bo9 := (bo.far (p := ⟨gd, j.toNat, none⟩) (by show pb ≠ gd; omega) (.int .i64 kd)).far (p := ⟨sb, j.toNat, none⟩) (by show pb ≠ sb; omega) (.bool true)
              have hc9 := (hc.setc (p := ⟨gd, j.toNat, none⟩) (by show V.heap.size ≤ gd; exact (HD.out gd rfl).1) (by show gd < W4.heap.size; omega) (.int .i64 kd)).setc (p := ⟨sb, j.toNat, none⟩) (by show V.heap.size ≤ sb; omega) (by show sb < W4.heap.size; omega) (.bool true)
              have hB9 : W0.heap.size + 1 ≤ ((w8.setCell ⟨gd, j.toNat, none⟩ (.int .i64 kd)).setCell ⟨sb, j.toNat, none⟩ (.bool true)).heap.size := by rw [World.size_setCell, World.size_setCell]; omega
              have hlen : (cycL x y s k m).length < 1000000000 := by rw [cycL_len]; omega
              have hl9 := cycL_len x y s k m
              have o2 := bo.cell 2
              have on := bo.lt
              have cR := Ints.cellI hR (i := j) j0 (by rw [hwl, hl1]; exact j1)
              have fR := Row.free hR j.toNat
              have sR := (Row.lt hR (g := gd) rfl).2
              have cS := Bools.cellI hS (i := j) j0 (by rw [hml, hl2]; exact j1)
              have fS := Row.free hS j.toNat
              have sS := (Row.lt hS (g := sb) rfl).2
              simp only [List.getElem?_toArray, List.getElem?_cons_zero, List.getElem?_cons_succ] at o2
              clear hR hS hE bx bt bo hc
              go_wp2_with (at_builtin; refine append_one_at rfl _ _ rfl (W0.heap.size + 1) w8.heap.size (.slice E m ec) (cycL x y s k m) j hE9 rfl rfl (by simp) hlen hB9 ?_)
              intro g c' w10 hI10 hg10 hat10
              try rw [hl9] at hI10
              try rw [hl9]
              have hne10 : (Value.slice (some ⟨g, 0, none⟩) (m + 1) c').ownBlock ≠ some xb := by
                rcases hat10 with h | h
                · rw [ownBlock_slice, ← h]; exact hne
                · rw [ownBlock_slice]
                  intro e
                  injection e with e
                  omega
              have hE10 : Ints w10 (W0.heap.size + 1) (.slice (some ⟨g, 0, none⟩) (m + 1) c') (cycL x y s k (m + 1)) := by
                rw [cycL, HJ.out]
                exact hI10
              have bx10 := bx9.grown hg10 (fun e => hne e.symm)
              have bt10 := bt9.grown hg10 (fun e => by have := hEl _ e.symm; omega)
              have bo10 := bo9.grown hg10 (fun e => by have := hEl _ e.symm; omega)
              have hR10 := Row.grown hR9 hg10 (fun g' hg' e => by have := hEl _ e.symm; rw [ownBlock_slice] at hg'; injection hg' with hg'; omega)
              have hS10 := Row.grown hS9 hg10 (fun g' hg' e => by have := hEl _ e.symm; rw [ownBlock_slice] at hg'; injection hg' with hg'; omega)
              have hc10 : Chg V.heap.size W4.heap.size w6 w10 := ⟨hg10.os.trans hc9.os, hg10.tape.trans hc9.tape, hg10.output.trans hc9.output, Nat.le_trans hc9.size hg10.size, fun q hq hd => (hg10.block q (by have := hc9.size; omega) (fun e => by have := hEl q e.symm; omega)).trans (hc9.block q hq hd)⟩
              clear hI10 hg10 hat10 bx9 bt9 bo9 hR9 hS9 hc9 hE9 hB9 hlen hl9 o2 on cR fR sR cS fS sS hne
              obtain ⟨ba, br, hp1, bl, hP⟩ := KX.out _ hc10
              clear br hp1 bl hP
              have hat := itN_at HW.out HH.out s0 s7 HQ.out i0 HIK.out m
              rw [HJ.out, HAB.out.1, HAB.out.2] at hat
              obtain ⟨a', ha'⟩ : ∃ a', ptX x (itN x y s k (m + 1)) = a' := ⟨_, rfl⟩
              obtain ⟨b', hb'⟩ : ∃ b', ptY x (itN x y s k (m + 1)) = b' := ⟨_, rfl⟩
              rw [ha', hb'] at hat
              obtain ⟨kd', hkd'⟩ : ∃ kd', itK s (gI xs k) (m + 1) = kd' := ⟨_, rfl⟩
              have HKD' : Hid (kindX kd s = kd') := Lib.hid (by rw [← hkd', itK, HKD.out])
              have HKB : Hid (0 ≤ kd ∧ kd ≤ 2) := Lib.hid (by rw [← HKD.out]; exact itK_bd (HK.out k hlt) m)
              have HAB' := Lib.hid (And.intro ha' hb')
              have HKE := Lib.hid hkd'
              have HAT := Lib.hid hat
              clear ha' hb' hkd' hat
              have q0 := ba.cell 0
              have q1 := ba.cell 1
              have q2 := ba.cell 2
              have qn := ba.lt
              have x0 := bx10.cell 0
              have x1 := bx10.cell 1
              have xn := bx10.lt
              simp only [List.getElem?_toArray, List.getElem?_cons_zero, List.getElem?_cons_succ] at q0 q1 q2 x0 x1
              have HA2 : Hid (0 ≤ a ∧ a ≤ 2 * x) := Lib.hid ⟨by omega, by omega⟩
              have HB2 : Hid (0 ≤ b ∧ b ≤ 2 * y) := Lib.hid ⟨by omega, by omega⟩
              have HWW : Hid (0 ≤ x ∧ x ≤ 1000000) := Lib.hid ⟨by have := HW.out; omega, by have := HW.out; omega⟩
              have HHH : Hid (0 ≤ y ∧ y ≤ 1000000) := Lib.hid ⟨by have := HH.out; omega, by have := HH.out; omega⟩
              go_wp2_with fail
              refine (mapPoint_any HWW.out HHH.out HA2.out HB2.out HS.out HAT.out).mono ?_
              rintro e w11 ⟨rfl, hb⟩
              replace bx10 := bx10.below hb
              replace bt10 := bt10.below hb
              replace hR10 := Row.below hR10 hb
              replace hS10 := Row.below hS10 hb
              replace hE10 := Row.below hE10 hb
              replace bo10 := bo10.below hb
              replace hc10 := hc10.trans (Chg.ofBelow hb)
              clear hb q0 q1 q2 qn x0 x1 xn ba
              go_wp2_with fail
              refine (mapBreak_any HKB.out HKD'.out).mono ?_
              rintro e w' ⟨rfl, rfl⟩
              have hxt : xb ≠ W0.heap.size := by omega
              have hxp : pb ≠ xb := by omega
              have hxg : gd ≠ xb := by omega
              have hxs : sb ≠ xb := by omega
              have bx12 := Box.set2p bx10 (.int .i64 a') (.int .i64 b')
              have bt12 := (bt10.far (p := ⟨xb, 0, none⟩) (fun e => hxt e.symm) (.int .i64 a')).far (p := ⟨xb, 1, none⟩) (fun e => hxt e.symm) (.int .i64 b')
              have bo12 := (bo10.far (p := ⟨xb, 0, none⟩) hxp (.int .i64 a')).far (p := ⟨xb, 1, none⟩) hxp (.int .i64 b')
              have hR12 := Row.setCell (p := ⟨xb, 1, none⟩) (Row.setCell (p := ⟨xb, 0, none⟩) hR10 (fun g hg e => hxg (by rw [ownBlock_slice] at hg; injection hg with hg; exact hg.trans e)) (.int .i64 a')) (fun g hg e => hxg (by rw [ownBlock_slice] at hg; injection hg with hg; exact hg.trans e)) (.int .i64 b')
              have hS12 := Row.setCell (p := ⟨xb, 1, none⟩) (Row.setCell (p := ⟨xb, 0, none⟩) hS10 (fun g hg e => hxs (by rw [ownBlock_slice] at hg; injection hg with hg; exact hg.trans e)) (.int .i64 a')) (fun g hg e => hxs (by rw [ownBlock_slice] at hg; injection hg with hg; exact hg.trans e)) (.int .i64 b')
              have hE12 := Row.setCell (p := ⟨xb, 1, none⟩) (Row.setCell (p := ⟨xb, 0, none⟩) hE10 (fun g hg e => hne10 (by rw [hg]; exact congrArg some e)) (.int .i64 a')) (fun g hg e => hne10 (by rw [hg]; exact congrArg some e)) (.int .i64 b')
              have hc12 := (hc10.putn (p := ⟨xb, 0, none⟩) (by show w6.heap.size ≤ xb; omega) (.int .i64 a')).putn (p := ⟨xb, 1, none⟩) (by show w6.heap.size ≤ xb; omega) (.int .i64 b')
              have x0 := bx10.cell 0
              have x1 := bx10.cell 1
              have xf0 := bx10.free 0
              have xf1 := bx10.free 1
              have xn := bx10.lt
              have t0 := bt12.cell 0
              have t1 := bt12.cell 1
              have tn := bt12.lt
              have y0 := bx12.cell 0
              have y1 := bx12.cell 1
              simp only [List.getElem?_toArray, List.getElem?_cons_zero, List.getElem?_cons_succ] at x0 x1 t0 t1 y0 y1
              have hper := (per_is HW.out HH.out s0 s7 HQ.out i0 HIK.out).2
              rw [HT.out] at hper
              by_cases hmT : m + 1 < T
              · have hin2 := itN_in HW.out HH.out s0 s7 i0 HIK.out (m + 1)
                have hkn : ¬ (a' = ptX x k ∧ b' = ptY x k) := fun h => hper.2 (m + 1) (by omega) hmT (pt_inj HW.out hin2.1 i0 (HAB'.out.1.trans h.1) (HAB'.out.2.trans h.2))
                have heq := pt_eqF hkn
                have hz := Joins.below_alloc1 ((w11.setCell ⟨xb, 0, none⟩ (.int .i64 a')).setCell ⟨xb, 1, none⟩ (.int .i64 b')) (.cells #[.int .i64 a', .int .i64 b'] 36)
                have hws : ((w11.setCell ⟨xb, 0, none⟩ (.int .i64 a')).setCell ⟨xb, 1, none⟩ (.int .i64 b')).heap.size = w11.heap.size := by rw [World.size_setCell, World.size_setCell]
                have HRR : Hid (∃ (m2 : Nat) (E : Option Addr) (ec xb2 : Nat), m2 < T ∧ (.slice (some ⟨g, 0, none⟩) (m + 1) c' : Value) = .slice E m2 ec ∧ (.int .i64 kd' : Value) = .int .i64 (itK s (gI xs k) m2) ∧ (.pointer (some ⟨w11.heap.size, 0, none⟩) : Value) = .pointer (some ⟨xb2, 0, none⟩) ∧ Ints (((w11.setCell ⟨xb, 0, none⟩ (.int .i64 a')).setCell ⟨xb, 1, none⟩ (.int .i64 b')).alloc (.cells #[.int .i64 a', .int .i64 b'] 36)) (W0.heap.size + 1) (.slice E m2 ec) (cycL x y s k m2) ∧ (Value.slice E m2 ec).ownBlock ≠ some xb2 ∧ W0.heap.size + 1 ≤ xb2 ∧
                    Box (((w11.setCell ⟨xb, 0, none⟩ (.int .i64 a')).setCell ⟨xb, 1, none⟩ (.int .i64 b')).alloc (.cells #[.int .i64 a', .int .i64 b'] 36)) xb2 36 #[.int .i64 (ptX x (itN x y s k m2)), .int .i64 (ptY x (itN x y s k m2))] ∧ Box (((w11.setCell ⟨xb, 0, none⟩ (.int .i64 a')).setCell ⟨xb, 1, none⟩ (.int .i64 b')).alloc (.cells #[.int .i64 a', .int .i64 b'] 36)) W0.heap.size 36 #[.int .i64 (ptX x k), .int .i64 (ptY x k)] ∧ Ints (((w11.setCell ⟨xb, 0, none⟩ (.int .i64 a')).setCell ⟨xb, 1, none⟩ (.int .i64 b')).alloc (.cells #[.int .i64 a', .int .i64 b'] 36)) V.heap.size (.slice (some ⟨gd, 0, none⟩) xs.length d) (wrS x y s k (gI xs k) Q.1 m2) ∧
                    Bools (((w11.setCell ⟨xb, 0, none⟩ (.int .i64 a')).setCell ⟨xb, 1, none⟩ (.int .i64 b')).alloc (.cells #[.int .i64 a', .int .i64 b'] 36)) V.heap.size (.slice (some ⟨sb, 0, none⟩) xs.length xs.length) (mkS x y s k Q.2 m2) ∧ Box (((w11.setCell ⟨xb, 0, none⟩ (.int .i64 a')).setCell ⟨xb, 1, none⟩ (.int .i64 b')).alloc (.cells #[.int .i64 a', .int .i64 b'] 36)) pb 30 #[.int .i64 x, .int .i64 y, .slice (some ⟨gd, 0, none⟩) xs.length d] ∧ Chg V.heap.size W4.heap.size w6 (((w11.setCell ⟨xb, 0, none⟩ (.int .i64 a')).setCell ⟨xb, 1, none⟩ (.int .i64 b')).alloc (.cells #[.int .i64 a', .int .i64 b'] 36))) := by
                  refine Lib.hid ⟨m + 1, some ⟨g, 0, none⟩, c', w11.heap.size, hmT, rfl, by rw [HKE.out], rfl, Row.below hE12 hz, ?_, by omega, ?_, bt12.below hz, Row.below hR12 hz, Row.below hS12 hz, bo12.below hz, hc12.trans (Chg.ofBelow hz)⟩
                  · intro e
                    have h1 := (Row.lt hE12 e).2
                    rw [hws] at h1
                    omega
                  · have bn := Box.new ((w11.setCell ⟨xb, 0, none⟩ (.int .i64 a')).setCell ⟨xb, 1, none⟩ (.int .i64 b')) 36 #[.int .i64 a', .int .i64 b']
                    rw [hws] at bn
                    rw [HAB'.out.1, HAB'.out.2]
                    exact bn
                clear hz hws bx12 bt12 bo12 hR12 hS12 hE12 hc12 bx10 bt10 bo10 hR10 hS10 hE10 hc10 hper hin2 hkn
                go_wp2
                go_roundw
                case rel => exact HRR.out
                case measure => simp [lenV]; omega
              · have e : T = m + 1 := by omega
                rw [← e] at hR12 hS12 hE12
                have hk2 := hper.1
                have ea : a' = ptX x k := by rw [← HAB'.out.1, ← e, hk2]
                have eb : b' = ptY x k := by rw [← HAB'.out.2, ← e, hk2]
                subst ea eb
                clear hper hk2 bx12 bt12 bx10 bt10 bo10 hR10 hS10 hE10 hc10 HAT HAB' HKD' HKE y0 y1
                have hmm : ((m + 1 : Nat) : Int) = (m : Int) + 1 := by omega
                by_cases hodd : m % 2 = 0
                · have hrem : (((m : Int) + 1).tmod 2 : Int) = 1 := by rw [Int.tmod_eq_emod_of_nonneg (by omega)]; omega
                  have HKZ : Hid (kd0 x y s xs k = gI xs k) := Lib.hid (by unfold kd0; rw [HT.out, if_neg (by omega)])
                  have R1 : Hid (∃ m : Nat, m ≤ xs.length ∧ (.int .i64 ((k : Int) + 1) : Value) = .int .i64 m ∧ Ints ((w11.setCell ⟨xb, 0, none⟩ (.int .i64 (ptX x k))).setCell ⟨xb, 1, none⟩ (.int .i64 (ptY x k))) V.heap.size (.slice (some ⟨gd, 0, none⟩) xs.length d) (symTo x y s xs m).1 ∧ Bools ((w11.setCell ⟨xb, 0, none⟩ (.int .i64 (ptX x k))).setCell ⟨xb, 1, none⟩ (.int .i64 (ptY x k))) V.heap.size (.slice (some ⟨sb, 0, none⟩) xs.length xs.length) (symTo x y s xs m).2 ∧
                      Box ((w11.setCell ⟨xb, 0, none⟩ (.int .i64 (ptX x k))).setCell ⟨xb, 1, none⟩ (.int .i64 (ptY x k))) pb 30 #[.int .i64 x, .int .i64 y, .slice (some ⟨gd, 0, none⟩) xs.length d] ∧ Chg V.heap.size W4.heap.size w6 ((w11.setCell ⟨xb, 0, none⟩ (.int .i64 (ptX x k))).setCell ⟨xb, 1, none⟩ (.int .i64 (ptY x k)))) := Lib.hid ⟨k + 1, by omega, by go_num, by rw [HNX.out, HT.out, HKZ.out]; exact hR12, by rw [HNX.out, HT.out]; exact hS12, bo12, hc12⟩
                  clear hR12 hS12 bo12 hc12 hE12
                  go_wp2
                  go_roundw
                  case rel => exact R1.out
                  case measure => simp [intOf]; omega
                · have hrem : (((m : Int) + 1).tmod 2 : Int) = 0 := by rw [Int.tmod_eq_emod_of_nonneg (by omega)]; omega
                  have HKZ : Hid (kd0 x y s xs k = gI xs k) := Lib.hid (by unfold kd0; rw [HT.out, if_neg (by omega)])
                  have R1 : Hid (∃ m : Nat, m ≤ xs.length ∧ (.int .i64 ((k : Int) + 1) : Value) = .int .i64 m ∧ Ints ((w11.setCell ⟨xb, 0, none⟩ (.int .i64 (ptX x k))).setCell ⟨xb, 1, none⟩ (.int .i64 (ptY x k))) V.heap.size (.slice (some ⟨gd, 0, none⟩) xs.length d) (symTo x y s xs m).1 ∧ Bools ((w11.setCell ⟨xb, 0, none⟩ (.int .i64 (ptX x k))).setCell ⟨xb, 1, none⟩ (.int .i64 (ptY x k))) V.heap.size (.slice (some ⟨sb, 0, none⟩) xs.length xs.length) (symTo x y s xs m).2 ∧
                      Box ((w11.setCell ⟨xb, 0, none⟩ (.int .i64 (ptX x k))).setCell ⟨xb, 1, none⟩ (.int .i64 (ptY x k))) pb 30 #[.int .i64 x, .int .i64 y, .slice (some ⟨gd, 0, none⟩) xs.length d] ∧ Chg V.heap.size W4.heap.size w6 ((w11.setCell ⟨xb, 0, none⟩ (.int .i64 (ptX x k))).setCell ⟨xb, 1, none⟩ (.int .i64 (ptY x k)))) := Lib.hid ⟨k + 1, by omega, by go_num, by rw [HNX.out, HT.out, HKZ.out]; exact hR12, by rw [HNX.out, HT.out]; exact hS12, bo12, hc12⟩
                  clear hR12 hS12 bo12 hc12 hE12
                  go_wp2
                  go_roundw
                  case rel => exact R1.out
                  case measure => simp [intOf]; omega
          · rw [hbk] at cS cS2
            have HNX := Lib.hid (symTo_yes hbk)
            have R1 : Hid (∃ m : Nat, m ≤ xs.length ∧ (.int .i64 ((k : Int) + 1) : Value) = .int .i64 m ∧ Ints (wr.alloc (.cells #[.int .i64 (ptX x k), .int .i64 (ptY x k)] 36)) V.heap.size (.slice D xs.length d) (symTo x y s xs m).1 ∧ Bools (wr.alloc (.cells #[.int .i64 (ptX x k), .int .i64 (ptY x k)] 36)) V.heap.size (.slice (some ⟨sb, 0, none⟩) xs.length xs.length) (symTo x y s xs m).2 ∧
                Box (wr.alloc (.cells #[.int .i64 (ptX x k), .int .i64 (ptY x k)] 36)) pb 30 #[.int .i64 x, .int .i64 y, .slice D xs.length d] ∧ Chg V.heap.size W4.heap.size w6 (wr.alloc (.cells #[.int .i64 (ptX x k), .int .i64 (ptY x k)] 36))) := Lib.hid ⟨k + 1, by omega, by go_num, by rw [HNX.out]; exact hR2, by rw [HNX.out]; exact hS2, bo2, hc2⟩
            clear hbk hR hS bo hc hR2 hS2 bo2 hc2 bt hl1 hl2 br ba
            go_wp2
            go_roundw
            case rel => exact R1.out
            case measure => simp [intOf]; omega
        · have e : k = xs.length := by omega
          subst e
          have o0 := bo.cell 0
          have o1 := bo.cell 1
          have o2 := bo.cell 2
          have on := bo.lt
          have r0 := br.cell 0
          have r1 := br.cell 1
          have r2 := br.cell 2
          have rf0 := br.free 0
          have rf1 := br.free 1
          have rf2 := br.free 2
          have rn := br.lt
          simp only [List.getElem?_toArray, List.getElem?_cons_zero, List.getElem?_cons_succ] at o0 o1 o2 r0 r1 r2
          go_wp2
          rw [hl1]
          refine bodyPost_ret (v := .tuple #[.agg #[.int .i64 x, .int .i64 y, .slice D xs.length d], .int .i64 0]) (by simp [results, Try.results36, go_sem, r0, r1, r2, rf0, rf1, rf2, rn]) rfl ⟨D, d, rfl, ?_, ?_⟩
          · have hz : IntsIn wr V.heap.size W4.heap.size (.slice D xs.length d) (symTo x y s xs xs.length).1 := ⟨hR, fun g hg => (HD.out g hg).2, by have := hc.size; omega, by rw [hl1]; omega⟩
            exact (((hz.at_store (p := ⟨w.heap.size + 1, 0, none⟩) (by simp; omega) _).at_store (p := ⟨w.heap.size + 1, 1, none⟩) (by simp; omega) _).at_store (p := ⟨w.heap.size + 1, 2, none⟩) (by simp; omega) _).wider (by omega) (by have := hc.size; simp; omega) (Nat.le_refl _)
          · exact ((bl.setCell (p := ⟨w.heap.size + 1, 0, none⟩) (by simp) _).setCell (p := ⟨w.heap.size + 1, 1, none⟩) (by simp) _).setCell (p := ⟨w.heap.size + 1, 2, none⟩) (by simp) _
end Go.Proofs.Ytihfdgnocdphcaa
