/-
  Where symmetries move points: MapPoint, by the program and by the reference.
-/
import Derived.Test.YtihfdgnocdphcaaPoint
import Derived.Test.YtihfdgnocdphcaaSym
import Derived.Test.YtihfdgnocdphcaaPlAllD
namespace Go.Proofs.Ytihfdgnocdphcaa
open Go.RowKit Knot

theorem setCell_again (w : World) (b o : Nat) (v v' : Value) : (w.setCell ⟨b, o, none⟩ v).setCell ⟨b, o, none⟩ v' = w.setCell ⟨b, o, none⟩ v' := by
  unfold World.setCell
  congr 1
  apply Array.ext_getElem?
  intro i
  simp only [Array.getElem?_modify]
  by_cases h : b = i
  · subst h
    cases hx : w.heap[b]? with
    | none => simp
    | some o' => cases o' <;> simp
  · simp [h]
theorem setCell_over (w : World) (b : Nat) (v u v' : Value) : ((w.setCell ⟨b, 0, none⟩ v).setCell ⟨b, 1, none⟩ u).setCell ⟨b, 0, none⟩ v' = (w.setCell ⟨b, 0, none⟩ v').setCell ⟨b, 1, none⟩ u := by
  unfold World.setCell
  congr 1
  apply Array.ext_getElem?
  intro i
  simp only [Array.getElem?_modify]
  by_cases h : b = i
  · subst h
    cases hx : w.heap[b]? with
    | none => simp
    | some o' =>
      cases o' with
      | cells c e f =>
        simp only [Option.map_some, if_true, Option.isSome_none, Bool.false_eq_true, if_false]
        congr 2
        apply Array.ext_getElem?
        intro j
        simp only [Array.getElem?_setIfInBounds]
        by_cases h0 : 0 = j
        · subst h0; simp
        · by_cases h1 : 1 = j
          · subst h1; simp
          · simp [h0, h1]
      | _ => simp
  · simp [h]
/-- What MapPoint answers. -/
def mpM (p : Pan) (x y s : Int) : Int × Int × Int :=
  if Ok p then if symOk s = true ∧ Has p x y then ((mapX p.W p.H x y s).1, (mapX p.W p.H x y s).2, 0) else (0, 0, 2) else (0, 0, 1)

set_option maxHeartbeats 8000000 in
theorem mapPoint_any {w : World} {W H x y s r0 r1 : Int} {A : Option Addr} {n c : Nat} (hW : 0 ≤ W ∧ W ≤ 1000000) (hH : 0 ≤ H ∧ H ≤ 1000000) (hx : 0 ≤ x ∧ x ≤ 2 * W) (hy : 0 ≤ y ∧ y ≤ 2 * H) (hs : symOk s = true) (hm : mapX W H x y s = (r0, r1)) :
    Calls Try.prog 82 #[.agg #[.int .i64 W, .int .i64 H, .slice A n c], .agg #[.int .i64 x, .int .i64 y], .int .i64 s] w fun e w' => e = .returned (.agg #[.int .i64 r0, .int .i64 r1]) ∧ Below w.heap.size w w' := by
  obtain ⟨W0, W1⟩ := hW
  obtain ⟨H0, H1⟩ := hH
  obtain ⟨x0, x1⟩ := hx
  obtain ⟨y0, y1⟩ := hy
  obtain ⟨s0, s7⟩ := symOk_bd hs
  clear hs
  have bl := Joins.below_alloc3 w (.cells #[.int .i64 W, .int .i64 H, .slice A n c] 30) (.cells #[.int .i64 x, .int .i64 y] 36) (.cells #[.int .i64 0, .int .i64 0] 36)
  have ba := ((Box.new w 30 #[.int .i64 W, .int .i64 H, .slice A n c]).alloc (.cells #[.int .i64 x, .int .i64 y] 36)).alloc (.cells #[.int .i64 0, .int .i64 0] 36)
  have bb := (Box.new (w.alloc (.cells #[.int .i64 W, .int .i64 H, .slice A n c] 30)) 36 #[.int .i64 x, .int .i64 y]).alloc (.cells #[.int .i64 0, .int .i64 0] 36)
  have bc := Box.new ((w.alloc (.cells #[.int .i64 W, .int .i64 H, .slice A n c] 30)).alloc (.cells #[.int .i64 x, .int .i64 y] 36)) 36 #[.int .i64 0, .int .i64 0]
  rw [World.size_alloc] at bb
  rw [World.size_alloc, World.size_alloc] at bc
  rcases eight s0 s7 with rfl | rfl | rfl | rfl | rfl | rfl | rfl | rfl
  all_goals
    simp [mapX] at hm
    have HM := Lib.hid hm
    have dd := setCell_again
    have dd2 := setCell_over
    clear s0 s7 hm
    go_enter Try.func82, Try.ntmps82
    go_wp2
    generalize (((w.alloc (.cells #[.int .i64 W, .int .i64 H, .slice A n c] 30)).alloc (.cells #[.int .i64 x, .int .i64 y] 36)).alloc (.cells #[.int .i64 0, .int .i64 0] 36)) = V at bb bc bl ba ⊢
    have q0 := ba.cell 0
    have q1 := ba.cell 1
    have p0 := bb.cell 0
    have p1 := bb.cell 1
    have p2 := bb.free 0
    have p3 := bb.free 1
    have c0 := bc.cell 0
    have c1 := bc.cell 1
    have c2 := bc.free 0
    have c3 := bc.free 1
    have n1 := bb.lt
    have n2 := bc.lt
    simp only [List.getElem?_toArray, List.getElem?_cons_zero, List.getElem?_cons_succ] at q0 q1 p0 p1 c0 c1
    clear ba bb bc
    go_quiet (fail)
    go_wp2
    refine bodyPost_ret (v := .agg #[.int .i64 r0, .int .i64 r1]) (by obtain ⟨e0, e1⟩ := HM.out; simp [results, Try.results82, go_sem, e0.symm, e1.symm, p0, p1, p2, p3, c0, c1, c2, c3, n1, n2]) rfl ⟨rfl, ?_⟩
    repeat (first | refine Below.setCell ?_ (by simp <;> omega) _ | refine Below.alloc ?_ (by simp <;> omega) _ | refine Below.trans ?_ (below_drewN _ _ _))
    exact bl
set_option maxHeartbeats 8000000 in
theorem l06Point_any {w : World} {W H x y s r0 r1 : Int} (hW : 0 ≤ W ∧ W ≤ 1000000) (hH : 0 ≤ H ∧ H ≤ 1000000) (hx : 0 ≤ x ∧ x ≤ 2 * W) (hy : 0 ≤ y ∧ y ≤ 2 * H) (hs : symOk s = true) (hm : mapX W H x y s = (r0, r1)) :
    Calls Try.prog 79 #[.int .i64 W, .int .i64 H, .agg #[.int .i64 x, .int .i64 y], .int .i64 s] w fun e w' => e = .returned (.agg #[.int .i64 r0, .int .i64 r1]) ∧ Below w.heap.size w w' := by
  obtain ⟨W0, W1⟩ := hW
  obtain ⟨H0, H1⟩ := hH
  obtain ⟨x0, x1⟩ := hx
  obtain ⟨y0, y1⟩ := hy
  obtain ⟨s0, s7⟩ := symOk_bd hs
  clear hs
  rcases eight s0 s7 with rfl | rfl | rfl | rfl | rfl | rfl | rfl | rfl
  all_goals
    simp [mapX] at hm
    have HM := Lib.hid hm
    have dd := setCell_again
    have dd2 := setCell_over
    clear s0 s7 hm
    go_enter Try.func79, Try.ntmps79
    go_wp2
    refine bodyPost_ret (v := .agg #[.int .i64 r0, .int .i64 r1]) (by obtain ⟨e0, e1⟩ := HM.out; simp [results, Try.results79, go_sem, e0.symm, e1.symm]) rfl ⟨rfl, ?_⟩
    repeat (first | refine Below.setCell ?_ (by simp <;> omega) _ | refine Below.alloc ?_ (by simp <;> omega) _ | refine Below.trans ?_ (below_drewN _ _ _))
    exact Below.refl _ _

/-- The code of a panel and a symmetry. -/
def scM (p : Pan) (s : Int) : Int := if Ok p then if symOk s = true then 0 else 2 else 1
set_option maxHeartbeats 2000000 in
theorem l06Code_any {w : World} {b : Nat} {W H s r : Int} {v : Value} {xs : List Int} (h : PanAt w b W H v xs) (hr : scM ⟨W, H, xs⟩ s = r) :
    Calls Try.prog 77 #[.pointer (some ⟨b, 0, none⟩), .int .i64 s] w fun e w' => e = .returned (.int .i64 r) ∧ Below w.heap.size w w' := by
  unfold scM at hr
  by_cases ho : Ok ⟨W, H, xs⟩
  · have HO := Lib.hid ho
    rw [if_pos ho] at hr
    cases hs : symOk s
    all_goals
      simp [hs] at hr
      subst hr
      have HS := Lib.hid hs
      clear ho hs
      go_enter Try.func77, Try.ntmps77
      go_wp2_with fail
      refine (l02Ok_any _ W H _ xs true (yes_iff HO.out) _ h).mono ?_
      rintro e w2 ⟨rfl, hd⟩
      have hb := bdrawn hd
      clear hd
      go_wp2_with fail
      refine (l06Sym_any s _ HS.out _).mono ?_
      rintro e w' ⟨rfl, rfl⟩
      go_wp2_with fail
      go_ret
      exact ⟨rfl, hb⟩
  · have HO := Lib.hid ho
    rw [if_neg ho] at hr
    subst hr
    clear ho
    go_enter Try.func77, Try.ntmps77
    go_wp2_with fail
    refine (l02Ok_any _ W H _ xs false (no_iff HO.out) _ h).mono ?_
    rintro e w2 ⟨rfl, hd⟩
    have hb := bdrawn hd
    clear hd
    go_wp2_with fail
    go_ret
    exact ⟨rfl, hb⟩
end Go.Proofs.Ytihfdgnocdphcaa
