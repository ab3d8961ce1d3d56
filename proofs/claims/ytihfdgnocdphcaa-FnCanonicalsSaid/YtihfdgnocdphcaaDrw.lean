/-
  A choice, a symmetry, a panel that is seldom not valid, as the reference draws them.
-/
import Derived.Test.YtihfdgnocdphcaaPanE
import Derived.Test.YtihfdgnocdphcaaSrcB
import Derived.Test.YtihfdgnocdphcaaPick
import Derived.Test.YtihfdgnocdphcaaCut
import Derived.Test.YtihfdgnocdphcaaAppAt
import Derived.Test.YtihfdgnocdphcaaSame
import Derived.Test.YtihfdgnocdphcaaMapB
import Derived.Deep.RegionHeld3
import Derived.Deep.RegionLaw
namespace Go.Proofs.Ytihfdgnocdphcaa
open Go.RowKit Knot

set_option maxHeartbeats 1000000 in
theorem src_one {w : World} {b m : Nat} {n : Int} (h : Src w b m) (hm : m ≤ 1000000000) (n0 : n ≤ 200) :
    Calls Try.prog 102 #[.pointer (some ⟨b, 0, none⟩), .int .i64 n] w fun e w' => ∃ r : Bool, e = .returned (.bool r) ∧ Src w' b (m + 1) ∧ Chg b (b + 1) w w' := by
  go_enter Try.func102, Try.ntmps102
  go_wp2_with fail
  refine (src_pick h hm n0).mono ?_
  rintro e w1 ⟨x, rfl, _, _, _, hS, hc⟩
  obtain ⟨r, hr⟩ : ∃ r, (x == 0) = r := ⟨_, rfl⟩
  have HS := Lib.hid hS
  have HC := Lib.hid hc
  clear h hS hc
  go_wp2
  go_ret
  exact ⟨r, rfl, HS.out, HC.out⟩
set_option maxHeartbeats 2000000 in
theorem src_among {w : World} {b m B n : Nat} {A : Option Addr} {c : Nat} {xs : List Int} (h : Src w b m) (hx : Ints w B (.slice A n c) xs) (hb : b < B) (hn : xs.length = n) (x1 : 1 ≤ n) (x2 : n ≤ 200) (hm : m ≤ 1000000000) :
    Calls Try.prog 131 #[.pointer (some ⟨b, 0, none⟩), .slice A n c] w fun e w' => ∃ x : Int, e = .returned (.int .i64 x) ∧ Src w' b (m + 1) ∧ Chg b (b + 1) w w' := by
  go_enter Try.func131, Try.ntmps131
  go_wp2_with fail
  refine (src_pick h hm (by omega)).mono ?_
  rintro e w1 ⟨i, rfl, i0, i1, _, hS, hc⟩
  have i2 := i1 (by omega)
  obtain ⟨k, rfl⟩ := Int.eq_ofNat_of_zero_le i0
  have hx1 := Row.chgb hx hc hb
  obtain ⟨A', c', hA, _, hA2⟩ := hx1.open_
  injection hA with hA3 hA4 hA5
  subst hA3 hA5
  obtain ⟨g, rfl, _, hg⟩ := hA2 (by omega)
  have hx2 : Ints w1 B (.slice (some ⟨g, 0, none⟩) n c) xs := hx1
  have d0 := Ints.cell hx2 (k := k) (by omega)
  clear hx2
  have HS := Lib.hid hS
  have HC := Lib.hid hc
  generalize gI xs (k : Nat) = x at d0
  clear h hx hx1 hS hc hA2 i1 hA4 hn
  go_wp2
  go_ret
  exact ⟨x, rfl, HS.out, HC.out⟩
theorem lit3 (w : World) (x y z : Int) : Ints (w.alloc (.cells #[.int .i64 x, .int .i64 y, .int .i64 z] 2)) w.heap.size (.slice (some ⟨w.heap.size, 0, none⟩) 3 3) [x, y, z] :=
  World.ownsRow_lit w #[.int .i64 x, .int .i64 y, .int .i64 z] 3 (Nat.le_refl _) (by decide) (by simp)
theorem lit4 (w : World) (x y z u : Int) : Ints (w.alloc (.cells #[.int .i64 x, .int .i64 y, .int .i64 z, .int .i64 u] 2)) w.heap.size (.slice (some ⟨w.heap.size, 0, none⟩) 4 4) [x, y, z, u] :=
  World.ownsRow_lit w #[.int .i64 x, .int .i64 y, .int .i64 z, .int .i64 u] 4 (Nat.le_refl _) (by decide) (by simp)
theorem lit2 (w : World) (x y : Int) : Ints (w.alloc (.cells #[.int .i64 x, .int .i64 y] 2)) w.heap.size (.slice (some ⟨w.heap.size, 0, none⟩) 2 2) [x, y] :=
  World.ownsRow_lit w #[.int .i64 x, .int .i64 y] 2 (Nat.le_refl _) (by decide) (by simp)
set_option maxHeartbeats 2000000 in
theorem l06DrawSym_any {w : World} {b m : Nat} (h : Src w b m) (hm : m ≤ 100000000) :
    Calls Try.prog 106 #[.pointer (some ⟨b, 0, none⟩)] w fun e w' => ∃ x : Int, e = .returned (.int .i64 x) ∧ Src w' b (m + 2) ∧ Chg b (b + 1) w w' := by
  go_enter Try.func106, Try.ntmps106
  go_wp2_with fail
  refine (src_one h (by omega) (by omega)).mono ?_
  rintro e w1 ⟨r, rfl, hS, hc⟩
  clear h
  cases r
  · go_wp2_with fail
    refine (src_pick hS (by omega) (by omega)).mono ?_
    rintro e w2 ⟨x, rfl, _, _, _, hS2, hc2⟩
    have HE := Lib.hid (And.intro hS2 (hc.trans hc2))
    clear hS hc hS2 hc2
    go_wp2
    go_ret
    exact ⟨x, rfl, HE.out.1.more (by omega), HE.out.2⟩
  · have hl := lit3 w1 (-1) 7 8
    have hS1 := hS.below (Joins.below_alloc1 w1 (.cells #[.int .i64 (-1), .int .i64 7, .int .i64 8] 2))
    have hc1 := Chg.new hc (.cells #[.int .i64 (-1), .int .i64 7, .int .i64 8] 2)
    have hb := hS.lt
    clear hS hc
    go_wp2_with fail
    refine (src_among (xs := [-1, 7, 8]) hS1 hl hb rfl (by decide) (by decide) (by omega)).mono ?_
    rintro e w2 ⟨x, rfl, hS2, hc2⟩
    have HE := Lib.hid (And.intro hS2 (hc1.trans hc2))
    clear hS1 hc1 hS2 hc2 hl
    go_wp2
    go_ret
    exact ⟨x, rfl, HE.out.1.more (by omega), HE.out.2⟩
section
variable {w W9 : World} {b M : Nat} {A : Option Addr} {c : Nat} {X Y : Int} {B : List Int}
/-- A panel laid into the result's box. -/
theorem pan_end (hbz : b < w.heap.size) (hI : IntsIn W9 (w.heap.size + 1) W9.heap.size (.slice A B.length c) B) (hS : Src W9 b M) (hc : Chg b (b + 1) w W9) :
    IntsIn (((W9.setCell ⟨w.heap.size, 0, none⟩ (.int .i64 X)).setCell ⟨w.heap.size, 1, none⟩ (.int .i64 Y)).setCell ⟨w.heap.size, 2, none⟩ (.slice A B.length c)) w.heap.size (((W9.setCell ⟨w.heap.size, 0, none⟩ (.int .i64 X)).setCell ⟨w.heap.size, 1, none⟩ (.int .i64 Y)).setCell ⟨w.heap.size, 2, none⟩ (.slice A B.length c)).heap.size (.slice A B.length c) B ∧
    Src (((W9.setCell ⟨w.heap.size, 0, none⟩ (.int .i64 X)).setCell ⟨w.heap.size, 1, none⟩ (.int .i64 Y)).setCell ⟨w.heap.size, 2, none⟩ (.slice A B.length c)) b M ∧ Chg b (b + 1) w (((W9.setCell ⟨w.heap.size, 0, none⟩ (.int .i64 X)).setCell ⟨w.heap.size, 1, none⟩ (.int .i64 Y)).setCell ⟨w.heap.size, 2, none⟩ (.slice A B.length c)) := by
  have hne : ∀ g' : Nat, (Value.slice A B.length c).ownBlock = some g' → g' ≠ w.heap.size := fun g' hg' => by have := (Row.lt hI.1 hg').1; omega
  refine ⟨⟨Row.le (Row.setCell (Row.setCell (Row.setCell hI.1 (p := ⟨w.heap.size, 0, none⟩) hne _) (p := ⟨w.heap.size, 1, none⟩) hne _) (p := ⟨w.heap.size, 2, none⟩) hne _) (by omega), fun k hk => by simp only [World.size_setCell]; exact hI.2.1 k hk, Nat.le_refl _, hI.len⟩, ?_, ?_⟩
  · exact ((hS.put (p := ⟨w.heap.size, 0, none⟩) hbz _).put (p := ⟨w.heap.size, 1, none⟩) hbz _).put (p := ⟨w.heap.size, 2, none⟩) hbz _
  · exact ((hc.put (p := ⟨w.heap.size, 0, none⟩) (Nat.le_refl _) _).put (p := ⟨w.heap.size, 1, none⟩) (Nat.le_refl _) _).put (p := ⟨w.heap.size, 2, none⟩) (Nat.le_refl _) _
end
/-- A panel under way in its box: what is known of it at a world. -/
structure BentAt (w : World) (b pp g n : Nat) (X Y : Int) (lo : Nat) (B : List Int) (M : Nat) (W' : World) : Prop where
  ints : IntsIn W' lo pp (.slice (some ⟨g, 0, none⟩) n n) B
  box : Box W' pp 30 #[.int .i64 X, .int .i64 Y, .slice (some ⟨g, 0, none⟩) n n]
  zo : Box W' w.heap.size 30 #[.int .i64 0, .int .i64 0, .slice none 0 0]
  src : Src W' b M
  chg : Chg b (b + 1) w W'
theorem BentAt.step {w W1 W2 : World} {b pp g n lo M M2 : Nat} {X Y : Int} {B : List Int} (h : BentAt w b pp g n X Y lo B M W1) (hc : Chg b (b + 1) W1 W2) (hS : Src W2 b M2) (h1 : pp ≠ b) (h2 : w.heap.size ≠ b) (h3 : b < lo) : BentAt w b pp g n X Y lo B M2 W2 :=
  ⟨h.ints.chgb hc h3, h.box.chgb hc h1, h.zo.chgb hc h2, hS, h.chg.trans hc⟩
theorem BentAt.alloc {w W1 : World} {b pp g n lo M : Nat} {X Y : Int} {B : List Int} (h : BentAt w b pp g n X Y lo B M W1) (o : Obj) : BentAt w b pp g n X Y lo B M (W1.alloc o) :=
  ⟨h.ints.alloc o, h.box.alloc o, h.zo.alloc o, h.src.below (Joins.below_alloc1 _ _), h.chg.trans (Chg.ofBelow (Joins.below_alloc1 _ _))⟩
set_option maxRecDepth 20000 in
set_option maxHeartbeats 8000000 in
theorem l02Bent_any {w : World} {b m : Nat} (hs : Src w b m) (hm : m ≤ 10000000) :
    Calls Try.prog 101 #[.pointer (some ⟨b, 0, none⟩)] w fun e w' => ∃ (X Y : Int) (A : Option Addr) (c : Nat) (B : List Int), e = .returned (.agg #[.int .i64 X, .int .i64 Y, .slice A B.length c]) ∧
      IntsIn w' w.heap.size w'.heap.size (.slice A B.length c) B ∧ Src w' b (m + 1010) ∧ Chg b (b + 1) w w' := by
  have hbw := hs.lt
  have ZO := Box.new w 30 #[.int .i64 0, .int .i64 0, .slice none 0 0]
  have hs0 := hs.below (Joins.below_alloc1 w (.cells #[.int .i64 0, .int .i64 0, .slice none 0 0] 30))
  have hc0 : Chg b (b + 1) w (w.alloc (.cells #[.int .i64 0, .int .i64 0, .slice none 0 0] 30)) := Chg.ofBelow (Joins.below_alloc1 w _)
  have hz1 : w.heap.size + 1 ≤ (w.alloc (.cells #[.int .i64 0, .int .i64 0, .slice none 0 0] 30)).heap.size := by simp
  clear hs
  go_enter Try.func101, Try.ntmps101
  go_wp2_with fail
  generalize (w.alloc (.cells #[.int .i64 0, .int .i64 0, .slice none 0 0] 30)) = V at ZO hs0 hc0 hz1 ⊢
  refine (l02Draw_any hs0 (by omega) (by omega) (by omega)).mono ?_
  rintro e w2 ⟨X, Y, g, B, rfl, hok, ⟨x5, y5⟩, hI, hS2, hc2⟩
  have hBl : B.length ≤ 150 := by
    have h1 := hok.len
    have h2 := inner_bd hok.w1 hok.w8 hok.h1 hok.h8
    unfold inner at h1
    simp only [] at h1 h2
    omega
  replace ZO := ZO.chgb hc2 (by omega)
  replace hc0 := hc0.trans hc2
  have sz2 := hc2.size
  have bp := Box.new w2 30 #[.int .i64 X, .int .i64 Y, .slice (some ⟨g, 0, none⟩) B.length B.length]
  replace ZO := ZO.alloc (.cells #[.int .i64 X, .int .i64 Y, .slice (some ⟨g, 0, none⟩) B.length B.length] 30)
  replace hI := hI.alloc (.cells #[.int .i64 X, .int .i64 Y, .slice (some ⟨g, 0, none⟩) B.length B.length] 30)
  replace hS2 := hS2.below (Joins.below_alloc1 w2 (.cells #[.int .i64 X, .int .i64 Y, .slice (some ⟨g, 0, none⟩) B.length B.length] 30))
  replace hc0 := Chg.new hc0 (.cells #[.int .i64 X, .int .i64 Y, .slice (some ⟨g, 0, none⟩) B.length B.length] 30)
  obtain ⟨pp, hpp⟩ : ∃ pp, w2.heap.size = pp := ⟨_, rfl⟩
  rw [hpp] at bp hI sz2
  clear hok hs0 hc2
  go_wp2_with fail
  try rw [hpp]
  generalize hV : w2.alloc (.cells #[.int .i64 X, .int .i64 Y, .slice (some ⟨g, 0, none⟩) B.length B.length] 30) = V2 at *
  clear hV
  refine (src_pick hS2 (by omega) (by omega)).mono ?_
  rintro e w3 ⟨x, rfl, x0, x1, _, hS3, hc3⟩
  replace ZO := ZO.chgb hc3 (by omega)
  replace bp := bp.chgb hc3 (by omega)
  replace hI := hI.chgb hc3 (by omega)
  replace hc0 := hc0.trans hc3
  have sz3 := bp.lt
  clear hS2 hc3 x1
  have g0 := (Row.lt hI.1 (g := g) rfl).1
  have g1 := (Row.lt hI.1 (g := g) rfl).2
  have g2 := hI.2.1 g rfl
  have HZB := Lib.hid ZO
  have HPB := Lib.hid bp
  have HIB := Lib.hid hI
  have HSB := Lib.hid hS3
  have HCB := Lib.hid hc0
  have hbp : b < pp := by omega
  have hzp : w.heap.size < pp := by omega
  clear ZO bp hI hS3 hc0
  by_cases hx0 : x = 0
  · subst hx0
    have hl := lit4 w3 0 8 9 (-9223372036854775808)
    have bp := HPB.out.alloc (.cells #[.int .i64 0, .int .i64 8, .int .i64 9, .int .i64 (-9223372036854775808)] 2)
    have ZO := HZB.out.alloc (.cells #[.int .i64 0, .int .i64 8, .int .i64 9, .int .i64 (-9223372036854775808)] 2)
    have hI := HIB.out.alloc (.cells #[.int .i64 0, .int .i64 8, .int .i64 9, .int .i64 (-9223372036854775808)] 2)
    have hS := HSB.out.below (Joins.below_alloc1 w3 (.cells #[.int .i64 0, .int .i64 8, .int .i64 9, .int .i64 (-9223372036854775808)] 2))
    have hc := Chg.new HCB.out (.cells #[.int .i64 0, .int .i64 8, .int .i64 9, .int .i64 (-9223372036854775808)] 2)
    go_wp2_with fail
    refine (src_among (xs := [0, 8, 9, -9223372036854775808]) hS hl (by omega) rfl (by decide) (by decide) (by omega)).mono ?_
    rintro e w4 ⟨u, rfl, hS4, hc4⟩
    replace bp := bp.chgb hc4 (by omega)
    replace ZO := ZO.chgb hc4 (by omega)
    replace hI := hI.chgb hc4 (by omega)
    replace hc := hc.trans hc4
    have p0 := bp.cell 0
    have p1 := bp.cell 1
    have p2 := bp.cell 2
    have pf0 := bp.free 0
    have pf1 := bp.free 1
    have pf2 := bp.free 2
    have pn := bp.lt
    simp only [List.getElem?_toArray, List.getElem?_cons_zero, List.getElem?_cons_succ] at p0 p1 p2
    have z0 := ZO.cell 0
    have z1 := ZO.cell 1
    have z2 := ZO.cell 2
    have zf0 := ZO.free 0
    have zf1 := ZO.free 1
    have zf2 := ZO.free 2
    have zn := ZO.lt
    simp only [List.getElem?_toArray, List.getElem?_cons_zero, List.getElem?_cons_succ] at z0 z1 z2
    have hp1 : pp ≠ w.heap.size := by omega
    have k0 := cell_f (q := ⟨pp, 0, none⟩) (x := .int .i64 u) (show w.heap.size ≠ pp by omega) z0
    have k1 := cell_f (q := ⟨pp, 0, none⟩) (x := .int .i64 u) (show w.heap.size ≠ pp by omega) z1
    have k2 := cell_f (q := ⟨pp, 0, none⟩) (x := .int .i64 u) (show w.heap.size ≠ pp by omega) z2
    have hI5 : IntsIn (w4.setCell ⟨pp, 0, none⟩ (.int .i64 u)) V.heap.size pp (.slice (some ⟨g, 0, none⟩) B.length B.length) B := ⟨Row.setCell hI.1 (p := ⟨pp, 0, none⟩) (fun k hk => by have := hI.2.1 k hk; show k ≠ pp; omega) _, hI.2.1, by simp only [World.size_setCell]; exact hI.2.2.1, hI.len⟩
    have HE := Lib.hid (pan_end (X := u) (Y := Y) hbw (hI5.wider hz1 (by simp only [World.size_setCell]; omega) (Nat.le_refl _)) (hS4.put (p := ⟨pp, 0, none⟩) hbp _) (hc.put (p := ⟨pp, 0, none⟩) (by show w.heap.size ≤ pp; omega) _))
    clear hS hc hl bp ZO hI hS4 hc4 hI5
    go_wp2_with fail
    refine bodyPost_ret (v := .agg #[.int .i64 u, .int .i64 Y, .slice (some ⟨g, 0, none⟩) B.length B.length]) ?_ rfl ?_
    · simp [results, Try.results101, go_sem, zn, k0, k1, k2]
    · exact ⟨u, Y, _, _, B, rfl, HE.out.1, HE.out.2.1.more (by omega), HE.out.2.2⟩
  by_cases hx1 : x = 1
  · subst hx1
    have bp := HPB.out
    have p0 := bp.cell 0
    have p1 := bp.cell 1
    have p2 := bp.cell 2
    have pf0 := bp.free 0
    have pf1 := bp.free 1
    have pf2 := bp.free 2
    have pn := bp.lt
    simp only [List.getElem?_toArray, List.getElem?_cons_zero, List.getElem?_cons_succ] at p0 p1 p2
    have hlI : B.length < 1000000000 := by omega
    have hw3 : V.heap.size ≤ w3.heap.size := by omega
    have hI3 := HIB.out.1
    have ZO := HZB.out
    clear bp
    go_wp2_with (at_builtin; refine append_one_at rfl _ _ rfl V.heap.size _ (.slice (some ⟨g, 0, none⟩) B.length B.length) B 0 hI3 rfl rfl rfl hlI hw3 ?_)
    intro g4 c4 w4 hI4 hg4 hat
    have hgb : g4 ≠ pp := by
      rcases hat with e | e
      · rw [ownBlock_slice] at e; injection e with e; omega
      · omega
    have hgz : w.heap.size + 1 ≤ g4 := by have := (Row.lt hI4 (g := g4) rfl).1; omega
    have hgl := (Row.lt hI4 (g := g4) rfl).2
    have hs4 := hg4.size
    have bp := HPB.out.grown hg4 (fun e => by rw [ownBlock_slice] at e; injection e with e; omega)
    have ZO := HZB.out.grown hg4 (fun e => by rw [ownBlock_slice] at e; injection e with e; omega)
    have hS4 := HSB.out.grown hg4 (fun j hj => by rw [ownBlock_slice] at hj; injection hj with hj; omega)
    have hc4 := Chg.grow HCB.out hg4 (fun j hj => by rw [ownBlock_slice] at hj; injection hj with hj; omega)
    clear p0 p1 p2 pf0 pf1 pf2 pn
    have p0 := bp.cell 0
    have p1 := bp.cell 1
    have p2 := bp.cell 2
    have pf0 := bp.free 0
    have pf1 := bp.free 1
    have pf2 := bp.free 2
    have pn := bp.lt
    simp only [List.getElem?_toArray, List.getElem?_cons_zero, List.getElem?_cons_succ] at p0 p1 p2
    have z0 := ZO.cell 0
    have z1 := ZO.cell 1
    have z2 := ZO.cell 2
    have zf0 := ZO.free 0
    have zf1 := ZO.free 1
    have zf2 := ZO.free 2
    have zn := ZO.lt
    simp only [List.getElem?_toArray, List.getElem?_cons_zero, List.getElem?_cons_succ] at z0 z1 z2
    have k0 := cell_f (q := ⟨pp, 2, none⟩) (x := .slice (some ⟨g4, 0, none⟩) (B.length + 1) c4) (show w.heap.size ≠ pp by omega) z0
    have k1 := cell_f (q := ⟨pp, 2, none⟩) (x := .slice (some ⟨g4, 0, none⟩) (B.length + 1) c4) (show w.heap.size ≠ pp by omega) z1
    have k2 := cell_f (q := ⟨pp, 2, none⟩) (x := .slice (some ⟨g4, 0, none⟩) (B.length + 1) c4) (show w.heap.size ≠ pp by omega) z2
    have hlen : (B ++ [0]).length = B.length + 1 := by simp
    have hI5 : IntsIn (w4.setCell ⟨pp, 2, none⟩ (.slice (some ⟨g4, 0, none⟩) (B.length + 1) c4)) (w.heap.size + 1) (w4.setCell ⟨pp, 2, none⟩ (.slice (some ⟨g4, 0, none⟩) (B.length + 1) c4)).heap.size (.slice (some ⟨g4, 0, none⟩) (B ++ [0]).length c4) (B ++ [0]) := by
      rw [hlen]
      exact IntsIn.ofInts (Row.le (Row.setCell hI4 (p := ⟨pp, 2, none⟩) (fun k hk => by rw [ownBlock_slice] at hk; injection hk with hk; show k ≠ pp; omega) _) hz1) (by rw [hlen]; omega)
    have HE := Lib.hid (pan_end (X := X) (Y := Y) hbw hI5 (hS4.put (p := ⟨pp, 2, none⟩) hbp _) (hc4.put (p := ⟨pp, 2, none⟩) (by show w.heap.size ≤ pp; omega) _))
    have HLE := Lib.hid hlen
    have hp1 : pp ≠ w.heap.size := by omega
    clear bp ZO hI4 hg4 hS4 hc4 hI5 hI3 hlen hat
    go_wp2_with fail
    refine bodyPost_ret (v := .agg #[.int .i64 X, .int .i64 Y, .slice (some ⟨g4, 0, none⟩) (B.length + 1) c4]) ?_ rfl ?_
    · simp [results, Try.results101, go_sem, zn, k0, k1, k2]
    · exact ⟨X, Y, some ⟨g4, 0, none⟩, c4, B ++ [0], by rw [HLE.out], by have := HE.out.1; rw [HLE.out] at this ⊢; exact this, by have := HE.out.2.1; rw [HLE.out] at this; exact this.more (by omega), by have := HE.out.2.2; rw [HLE.out] at this; exact this⟩
  by_cases hx2 : x = 2
  · subst hx2
    have bp := HPB.out
    have ZO := HZB.out
    have p0 := bp.cell 0
    have p1 := bp.cell 1
    have p2 := bp.cell 2
    have pf0 := bp.free 0
    have pf1 := bp.free 1
    have pf2 := bp.free 2
    have pn := bp.lt
    simp only [List.getElem?_toArray, List.getElem?_cons_zero, List.getElem?_cons_succ] at p0 p1 p2
    have z0 := ZO.cell 0
    have z1 := ZO.cell 1
    have z2 := ZO.cell 2
    have zf0 := ZO.free 0
    have zf1 := ZO.free 1
    have zf2 := ZO.free 2
    have zn := ZO.lt
    simp only [List.getElem?_toArray, List.getElem?_cons_zero, List.getElem?_cons_succ] at z0 z1 z2
    by_cases hl0 : B.length = 0
    · obtain rfl : B = [] := List.length_eq_zero_iff.1 hl0
      simp only [List.length_nil] at p2
      have hI0 := HIB.out
      simp only [List.length_nil] at hI0
      have HE := Lib.hid (pan_end (X := X) (Y := Y) (A := some ⟨g, 0, none⟩) (c := 0) (B := []) hbw (hI0.wider hz1 (by omega) (Nat.le_refl _)) HSB.out HCB.out)
      simp only [List.length_nil] at HE
      have hp1 : pp ≠ w.heap.size := by omega
      clear bp ZO hl0 hI0
      go_wp2_with fail
      refine bodyPost_ret (v := .agg #[.int .i64 X, .int .i64 Y, .slice (some ⟨g, 0, none⟩) 0 0]) ?_ rfl ?_
      · simp [results, Try.results101, go_sem, zn, z0, z1, z2, p0, p1, p2]
      · exact ⟨X, Y, _, _, [], rfl, HE.out.1, HE.out.2.1.more (by omega), HE.out.2.2⟩
    · have hlp : (0 : Int) < B.length := by omega
      have hlq : 0 < B.length := by omega
      obtain ⟨n, hn⟩ : ∃ n, B.length = n := ⟨_, rfl⟩
      have HN := Lib.hid hn
      rw [hn] at hlp hlq p2 hBl
      have hIB : IntsIn w3 V.heap.size pp (.slice (some ⟨g, 0, none⟩) n n) B := by have := HIB.out; rw [hn] at this; exact this
      have hPB : Box w3 pp 30 #[.int .i64 X, .int .i64 Y, .slice (some ⟨g, 0, none⟩) n n] := by have := HPB.out; rw [hn] at this; exact this
      have HI9 := Lib.hid hIB
      have HP9 := Lib.hid hPB
      rw [hn]
      have gt0 : decide ((n : Int) > 0) = true := decide_eq_true hlp
      have bneq : (⟨pp, 2, none⟩ : Addr).block ≠ (⟨g, 0, none⟩ : Addr).block := by show pp ≠ g; omega
      have HB0 : BentAt w b pp g n X Y V.heap.size B (m + 1001) w3.drew := ⟨hIB.below (below_drewN _ _ 1), hPB, HZB.out, HSB.out.drewN 1, HCB.out.trans (Chg.ofBelow (below_drewN _ _ 1))⟩
      have HB1 : BentAt w b pp g n X Y V.heap.size B (m + 1001) (w3.alloc (.cells #[.int .i64 (-1), .int .i64 2, .int .i64 3] 2)).drew := ⟨(hIB.alloc _).below (below_drewN _ _ 1), hPB.alloc _, HZB.out.alloc _, (HSB.out.below (Joins.below_alloc1 _ _)).drewN 1, (HCB.out.trans (Chg.ofBelow (Joins.below_alloc1 _ _))).trans (Chg.ofBelow (below_drewN _ _ 1))⟩
      have hLl : Ints (w3.alloc (.cells #[.int .i64 (-1), .int .i64 2, .int .i64 3] 2)).drew w3.heap.size (.slice (some ⟨w3.heap.size, 0, none⟩) 3 3) [-1, 2, 3] := Row.drew (lit3 w3 (-1) 2 3)
      have q1 := HB1.box.cell 2
      simp only [List.getElem?_toArray, List.getElem?_cons_zero, List.getElem?_cons_succ] at q1
      have hb3 : b < w3.heap.size := by omega
      have hpb : pp ≠ b := by omega
      have hwb : w.heap.size ≠ b := by omega
      have hbV : b < V.heap.size := by omega
      have hm1 : m + 1001 ≤ 1000000000 := by omega
      have hn2 : (n : Int) ≤ 200 := by omega
      clear bp ZO hl0 hn hIB hPB gt0
      go_wp2
      go_region_held3 (fun w' => w'.cell? ⟨pp, 2, none⟩ = some (.slice (some ⟨g, 0, none⟩) n n))
        (first | exact cell_f bneq qf | exact qf | exact q6 | exact q5 | exact cell_b (Joins.below_alloc1 _ _) q6 | exact cell_b (Joins.below_alloc1 _ _) q5 | exact cell_b (Joins.below_alloc1 _ _) p2 | exact q1 | exact p2 | assumption)
        (first
          | (go_at_call 103; first
              | ((with_reducible refine (src_pick HB0.src hm1 hn2).mono ?_); rintro e w6 ⟨i, rfl, i0, i1, _, hS6, hc6⟩; have HBp := HB0.step hc6 hS6 hpb hwb hbV; have i2 := i1 (by omega); obtain ⟨k, rfl⟩ := Int.eq_ofNat_of_zero_le i0; have q6 := HBp.box.cell 2; simp only [List.getElem?_toArray, List.getElem?_cons_zero, List.getElem?_cons_succ] at q6)
              | ((with_reducible refine (src_pick HB1.src hm1 hn2).mono ?_); rintro e w6 ⟨i, rfl, i0, i1, _, hS6, hc6⟩; have HBp := HB1.step hc6 hS6 hpb hwb hbV; have hL6 : Ints w6 w3.heap.size (.slice (some ⟨w3.heap.size, 0, none⟩) 3 3) [-1, 2, 3] := Row.chgb hLl hc6 hb3; have i2 := i1 (by omega); obtain ⟨k, rfl⟩ := Int.eq_ofNat_of_zero_le i0; have q6 := HBp.box.cell 2; simp only [List.getElem?_toArray, List.getElem?_cons_zero, List.getElem?_cons_succ] at q6)
              | ((with_reducible refine (src_pick HBa.src (by omega) hn2).mono ?_); rintro e w6 ⟨i, rfl, i0, i1, _, hS6, hc6⟩; have HBf := HBa.step hc6 hS6 hpb hwb hbV; have i2 := i1 (by omega); obtain ⟨k, rfl⟩ := Int.eq_ofNat_of_zero_le i0; have qf := HBf.box.cell 2; simp only [List.getElem?_toArray, List.getElem?_cons_zero, List.getElem?_cons_succ] at qf; have d0 := Ints.cell HBf.ints.1 (k := k) (by have := HN.out; omega); have d1 := Row.free HBf.ints.1 k; have d2 := (Row.lt HBf.ints.1 (g := g) rfl).2))
          | (go_at_call 131; first
              | ((with_reducible refine (src_among (xs := [-1, 2, 3]) HBp.src hL6 hb3 rfl (by decide) (by decide) (by omega)).mono ?_); rintro e w5 ⟨u, rfl, hS5, hc5⟩; have HBf := HBp.step hc5 hS5 hpb hwb hbV; have qf := HBf.box.cell 2; simp only [List.getElem?_toArray, List.getElem?_cons_zero, List.getElem?_cons_succ] at qf; have d0 := Ints.cell HBf.ints.1 (k := k) (by have := HN.out; omega); have d1 := Row.free HBf.ints.1 k; have d2 := (Row.lt HBf.ints.1 (g := g) rfl).2)
              | ((with_reducible refine (src_among (xs := [-1, 2, 3]) (HBp.alloc _).src (lit3 _ (-1) 2 3) HBp.src.lt rfl (by decide) (by decide) (by omega)).mono ?_); rintro e w5 ⟨u, rfl, hS5, hc5⟩; have HBf := (HBp.alloc _).step hc5 hS5 hpb hwb hbV; have qf := HBf.box.cell 2; simp only [List.getElem?_toArray, List.getElem?_cons_zero, List.getElem?_cons_succ] at qf; have d0 := Ints.cell HBf.ints.1 (k := k) (by have := HN.out; omega); have d1 := Row.free HBf.ints.1 k; have d2 := (Row.lt HBf.ints.1 (g := g) rfl).2)
              | ((with_reducible refine (src_among (xs := [-1, 2, 3]) HB1.src hLl hb3 rfl (by decide) (by decide) hm1).mono ?_); rintro e w5 ⟨u, rfl, hS5, hc5⟩; have HBa := HB1.step hc5 hS5 hpb hwb hbV; have q5 := HBa.box.cell 2; simp only [List.getElem?_toArray, List.getElem?_cons_zero, List.getElem?_cons_succ] at q5)))
      all_goals
        have hI5 := HBf.ints.put k u
        have bp := HBf.box.far (p := ⟨g, k, none⟩) (by show pp ≠ g; omega) (.int .i64 u)
        have ZO := HBf.zo.far (p := ⟨g, k, none⟩) (by show w.heap.size ≠ g; omega) (.int .i64 u)
        have hS5' := HBf.src.put (p := ⟨g, k, none⟩) (by show b < g; omega) (.int .i64 u)
        have hc5' := HBf.chg.put (p := ⟨g, k, none⟩) (by show w.heap.size ≤ g; omega) (.int .i64 u)
        have hlen : (B.set k u).length = n := by rw [List.length_set]; exact HN.out
        rw [← hlen] at hI5
        have HE := Lib.hid (pan_end (X := X) (Y := Y) hbw (hI5.wider hz1 hI5.2.2.1 (Nat.le_refl _)) hS5' hc5')
        rw [hlen] at HE
        have HLE := Lib.hid hlen
        clear hI5 hS5' hc5' HBf HB0 HB1 hLl d0 d1 d2 hlen q1
        clear p0 p1 p2 pf0 pf1 pf2 pn z0 z1 z2 zf0 zf1 zf2 zn
        have p0 := bp.cell 0
        have p1 := bp.cell 1
        have p2 := bp.cell 2
        have pf0 := bp.free 0
        have pf1 := bp.free 1
        have pf2 := bp.free 2
        have pn := bp.lt
        simp only [List.getElem?_toArray, List.getElem?_cons_zero, List.getElem?_cons_succ] at p0 p1 p2
        have z0 := ZO.cell 0
        have z1 := ZO.cell 1
        have z2 := ZO.cell 2
        have zf0 := ZO.free 0
        have zf1 := ZO.free 1
        have zf2 := ZO.free 2
        have zn := ZO.lt
        simp only [List.getElem?_toArray, List.getElem?_cons_zero, List.getElem?_cons_succ] at z0 z1 z2
        have hp1 : pp ≠ w.heap.size := by omega
        clear bp ZO
        go_wp2_with fail
        refine bodyPost_ret (v := .agg #[.int .i64 X, .int .i64 Y, .slice (some ⟨g, 0, none⟩) n n]) ?_ rfl ?_
        · simp [results, Try.results101, go_sem, zn, z0, z1, z2, p0, p1, p2]
        · exact ⟨X, Y, some ⟨g, 0, none⟩, n, B.set k u, by rw [HLE.out], by rw [HLE.out]; exact HE.out.1, HE.out.2.1.more (by omega), HE.out.2.2⟩
  by_cases hx3 : x = 3
  · subst hx3
    have hin : inner 8 8 = ((112 : Nat) : Int) := by decide
    go_wp2_with fail
    refine (l02New_any ⟨by omega, by omega⟩ ⟨by omega, by omega⟩ hin).mono ?_
    rintro e w4 ⟨g4, rfl, hI4, hb4⟩
    have bp := HPB.out.below hb4
    have ZO := HZB.out.below hb4
    have hS4 := HSB.out.below hb4
    have hc4 := HCB.out.trans (Chg.ofBelow hb4)
    have hg4 := (Row.lt hI4.1 (g := g4) rfl).1
    have p0 := bp.cell 0
    have p1 := bp.cell 1
    have p2 := bp.cell 2
    have pf0 := bp.free 0
    have pf1 := bp.free 1
    have pf2 := bp.free 2
    have pn := bp.lt
    simp only [List.getElem?_toArray, List.getElem?_cons_zero, List.getElem?_cons_succ] at p0 p1 p2
    have z0 := ZO.cell 0
    have z1 := ZO.cell 1
    have z2 := ZO.cell 2
    have zf0 := ZO.free 0
    have zf1 := ZO.free 1
    have zf2 := ZO.free 2
    have zn := ZO.lt
    simp only [List.getElem?_toArray, List.getElem?_cons_zero, List.getElem?_cons_succ] at z0 z1 z2
    have hp1 : pp ≠ w.heap.size := by omega
    have hzq : w.heap.size ≠ pp := by omega
    have k0 := cell_f (q := ⟨pp, 2, none⟩) (x := .slice (some ⟨g4, 0, none⟩) 112 112) hzq (cell_f (q := ⟨pp, 1, none⟩) (x := .int .i64 8) hzq (cell_f (q := ⟨pp, 0, none⟩) (x := .int .i64 8) hzq z0))
    have k1 := cell_f (q := ⟨pp, 2, none⟩) (x := .slice (some ⟨g4, 0, none⟩) 112 112) hzq (cell_f (q := ⟨pp, 1, none⟩) (x := .int .i64 8) hzq (cell_f (q := ⟨pp, 0, none⟩) (x := .int .i64 8) hzq z1))
    have k2 := cell_f (q := ⟨pp, 2, none⟩) (x := .slice (some ⟨g4, 0, none⟩) 112 112) hzq (cell_f (q := ⟨pp, 1, none⟩) (x := .int .i64 8) hzq (cell_f (q := ⟨pp, 0, none⟩) (x := .int .i64 8) hzq z2))
    have hne : ∀ k, (Value.slice (some ⟨g4, 0, none⟩) 112 112).ownBlock = some k → k ≠ pp := fun k hk => by rw [ownBlock_slice] at hk; injection hk with hk; omega
    have hI5 : IntsIn (((w4.setCell ⟨pp, 0, none⟩ (.int .i64 8)).setCell ⟨pp, 1, none⟩ (.int .i64 8)).setCell ⟨pp, 2, none⟩ (.slice (some ⟨g4, 0, none⟩) 112 112)) (w.heap.size + 1) (((w4.setCell ⟨pp, 0, none⟩ (.int .i64 8)).setCell ⟨pp, 1, none⟩ (.int .i64 8)).setCell ⟨pp, 2, none⟩ (.slice (some ⟨g4, 0, none⟩) 112 112)).heap.size (.slice (some ⟨g4, 0, none⟩) (List.replicate 112 (0 : Int)).length 112) (List.replicate 112 0) := by
      rw [List.length_replicate]
      exact IntsIn.ofInts (Row.le (Row.setCell (Row.setCell (Row.setCell hI4.1 (p := ⟨pp, 0, none⟩) hne _) (p := ⟨pp, 1, none⟩) hne _) (p := ⟨pp, 2, none⟩) hne _) (by omega)) (by simp)
    have HE := Lib.hid (pan_end (X := 8) (Y := 8) hbw hI5 (((hS4.put (p := ⟨pp, 0, none⟩) hbp _).put (p := ⟨pp, 1, none⟩) hbp _).put (p := ⟨pp, 2, none⟩) hbp _) (((hc4.put (p := ⟨pp, 0, none⟩) (by show w.heap.size ≤ pp; omega) _).put (p := ⟨pp, 1, none⟩) (by show w.heap.size ≤ pp; omega) _).put (p := ⟨pp, 2, none⟩) (by show w.heap.size ≤ pp; omega) _))
    clear bp ZO hI4 hS4 hc4 hI5 hb4 hne
    go_wp2_with fail
    refine bodyPost_ret (v := .agg #[.int .i64 8, .int .i64 8, .slice (some ⟨g4, 0, none⟩) 112 112]) ?_ rfl ?_
    · simp [results, Try.results101, go_sem, zn, k0, k1, k2]
    · exact ⟨8, 8, some ⟨g4, 0, none⟩, 112, List.replicate 112 0, by rw [List.length_replicate], by have := HE.out.1; rw [List.length_replicate] at this ⊢; exact this, by have := HE.out.2.1; rw [List.length_replicate] at this; exact this.more (by omega), by have := HE.out.2.2; rw [List.length_replicate] at this; exact this⟩
  have b0 : (x == 0) = false := beq_eq_false_iff_ne.2 hx0
  have b1 : (x == 1) = false := beq_eq_false_iff_ne.2 hx1
  have b2 : (x == 2) = false := beq_eq_false_iff_ne.2 hx2
  have b3 : (x == 3) = false := beq_eq_false_iff_ne.2 hx3
  have bp := HPB.out
  have ZO := HZB.out
  have p0 := bp.cell 0
  have p1 := bp.cell 1
  have p2 := bp.cell 2
  have pf0 := bp.free 0
  have pf1 := bp.free 1
  have pf2 := bp.free 2
  have pn := bp.lt
  simp only [List.getElem?_toArray, List.getElem?_cons_zero, List.getElem?_cons_succ] at p0 p1 p2
  have z0 := ZO.cell 0
  have z1 := ZO.cell 1
  have z2 := ZO.cell 2
  have zf0 := ZO.free 0
  have zf1 := ZO.free 1
  have zf2 := ZO.free 2
  have zn := ZO.lt
  simp only [List.getElem?_toArray, List.getElem?_cons_zero, List.getElem?_cons_succ] at z0 z1 z2
  have HE := Lib.hid (pan_end (X := X) (Y := Y) hbw (HIB.out.wider hz1 (by omega) (Nat.le_refl _)) HSB.out HCB.out)
  have hp1 : pp ≠ w.heap.size := by omega
  clear bp ZO hx0 hx1 hx2 hx3
  go_wp2_with fail
  refine bodyPost_ret (v := .agg #[.int .i64 X, .int .i64 Y, .slice (some ⟨g, 0, none⟩) B.length B.length]) ?_ rfl ?_
  · simp [results, Try.results101, go_sem, zn, z0, z1, z2, p0, p1, p2]
  · exact ⟨X, Y, _, _, B, rfl, HE.out.1, HE.out.2.1.more (by omega), HE.out.2.2⟩
end Go.Proofs.Ytihfdgnocdphcaa
