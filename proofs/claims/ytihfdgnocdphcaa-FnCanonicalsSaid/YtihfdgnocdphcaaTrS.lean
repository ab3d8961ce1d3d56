/-
  A curve, traced by the reference.
-/
import Derived.Test.YtihfdgnocdphcaaStepS
import Derived.Test.YtihfdgnocdphcaaPlAllD
import Derived.Test.YtihfdgnocdphcaaPts
import Derived.Deep.LoopGhost
namespace Go.Proofs.Ytihfdgnocdphcaa
open Go.RowKit Knot

theorem wk_eta (a : Wk) : ∃ X Y dx dy, a = ⟨X, Y, dx, dy⟩ := ⟨a.X, a.Y, a.dx, a.dy, rfl⟩
/-- A row and a box of another type lie in two blocks. -/
theorem row_box {w : World} {Bd : Nat} {E T : TypeId} {sz n : Nat} {v : Value} {zs : List Value} {k : Nat} {cs : Array Value} (h : w.ownsRow Bd E sz v n zs) (hb : Box w k T cs) (hne : E ≠ T) {g : Nat} (hg : v.ownBlock = some g) : g ≠ k := by
  rintro rfl
  rcases h.2 with ⟨rfl, _⟩ | ⟨g', cap, cur, rfl, _, hh, _⟩
  · simp [Value.ownBlock] at hg
  · simp [Value.ownBlock] at hg
    subst hg
    unfold Box at hb
    rw [hb] at hh
    injection hh with hh
    injection hh with h1 h2 h3
    exact hne h2.symm
theorem rows_apart {w : World} {B1 B2 : Nat} {E T : TypeId} {s1 s2 n1 n2 : Nat} {v u : Value} {xs ys : List Value} (h : w.ownsRow B1 E s1 v n1 xs) (k : w.ownsRow B2 T s2 u n2 ys) (hne : E ≠ T) {g : Nat} (hg : v.ownBlock = some g) : u.ownBlock ≠ some g := by
  intro hu
  rcases h.2 with ⟨rfl, _⟩ | ⟨g1, cap, cur, rfl, _, hh, _⟩
  · simp [Value.ownBlock] at hg
  · rcases k.2 with ⟨rfl, _⟩ | ⟨g2, cap2, cur2, rfl, _, hh2, _⟩
    · simp [Value.ownBlock] at hu
    · simp [Value.ownBlock] at hg hu
      subst hg hu
      rw [hh] at hh2
      injection hh2 with hh2
      injection hh2 with h1 h2 h3
      exact hne h2
theorem wk_ne {X Y ex ey x y dx dy : Int} (h : ¬ (X = x ∧ Y = y ∧ ex = dx ∧ ey = dy)) (u : World) :
    (binOp .neq 134 (.agg #[.int .i64 X, .int .i64 Y, .int .i64 ex, .int .i64 ey]) (.agg #[.int .i64 x, .int .i64 y, .int .i64 dx, .int .i64 dy])).run Try.prog u = .ok (.bool true) u := by
  by_cases h1 : X = x
  · by_cases h2 : Y = y
    · by_cases h3 : ex = dx
      · have h4 : ¬ ey = dy := fun h4 => h ⟨h1, h2, h3, h4⟩
        simp [go_sem, h1, h2, h3, h4]
      · simp [go_sem, h1, h2, h3]
    · simp [go_sem, h1, h2]
  · simp [go_sem, h1]
set_option maxHeartbeats 8000000 in
theorem l04Trace_any {w : World} {b Bd : Nat} {W H x y dx dy : Int} {v : Value} {B : List Int} (bp : Box w b 30 #[.int .i64 W, .int .i64 H, v]) (hI : Ints w Bd v B) (hp : Ok ⟨W, H, B⟩) (hk : OkW ⟨W, H, B⟩ ⟨x, y, dx, dy⟩) :
    Calls Try.prog 139 #[.pointer (some ⟨b, 0, none⟩), .agg #[.int .i64 x, .int .i64 y, .int .i64 dx, .int .i64 dy]] w fun e w' => ∃ (T : Nat) (A : Option Addr) (c : Nat) (D : Option Addr) (d : Nat),
      e = .returned (.tuple #[.slice A T c, .slice D T d]) ∧ PRow w' w.heap.size (.slice A T c) T (flatP (trk ⟨W, H, B⟩ ⟨x, y, dx, dy⟩ T)) ∧ Ints w' w.heap.size (.slice D T d) (segsP ⟨W, H, B⟩ (trk ⟨W, H, B⟩ ⟨x, y, dx, dy⟩ T)) ∧ T ≤ 512 ∧
      trk ⟨W, H, B⟩ ⟨x, y, dx, dy⟩ T = orbF (stepW ⟨W, H, B⟩) ⟨x, y, dx, dy⟩ (2 * segN ⟨W, H, B⟩) ⟨x, y, dx, dy⟩ ∧ Below w.heap.size w w' := by
  obtain ⟨T, T1, T5, hT, hmin, horb⟩ := trk_orb hp hk
  have hbl := bp.lt
  have HV : Hid (∀ w', Below w.heap.size w w' → Box w' b 30 #[.int .i64 W, .int .i64 H, v] ∧ Ints w' Bd v B) := Lib.hid (fun w' hx => ⟨bp.below hx, Row.below hI hx⟩)
  have HP := Lib.hid hp
  have HK : Hid (∀ i, OkW ⟨W, H, B⟩ (it (stepW ⟨W, H, B⟩) i ⟨x, y, dx, dy⟩)) := Lib.hid (fun i => trk_ok hp hk i)
  have HT := Lib.hid hT
  have HM := Lib.hid hmin
  have HO := Lib.hid horb
  have bl := Joins.below_alloc3 w (.cells #[.int .i64 x, .int .i64 y, .int .i64 dx, .int .i64 dy] 134) (.cells #[] 36) (.cells #[] 2)
  have bw := ((Box.new w 134 #[.int .i64 x, .int .i64 y, .int .i64 dx, .int .i64 dy]).alloc (.cells #[] 36)).alloc (.cells #[] 2)
  have hL := PRow.alloc (PRow.none_ (w.alloc (.cells #[.int .i64 x, .int .i64 y, .int .i64 dx, .int .i64 dy] 134))) (.cells #[] 2)
  have hM : Ints (((w.alloc (.cells #[.int .i64 x, .int .i64 y, .int .i64 dx, .int .i64 dy] 134)).alloc (.cells #[] 36)).alloc (.cells #[] 2)) (w.heap.size + 1 + 1) (.slice (some ⟨w.heap.size + 1 + 1, 0, none⟩) 0 0) [] := by
    have := Row.none_ (enc := Value.int .i64) (E := 2) ((w.alloc (.cells #[.int .i64 x, .int .i64 y, .int .i64 dx, .int .i64 dy] 134)).alloc (.cells #[] 36))
    rw [World.size_alloc, World.size_alloc] at this
    exact this
  rw [World.size_alloc] at hL
  have q0 := bw.cell 0
  have q1 := bw.cell 1
  have q2 := bw.cell 2
  have q3 := bw.cell 3
  have qn := bw.lt
  simp only [List.getElem?_toArray, List.getElem?_cons_zero, List.getElem?_cons_succ] at q0 q1 q2 q3
  clear hp hk hT hmin horb bp hI
  go_enter Try.func139, Try.ntmps139
  go_wp2
  have bx := Box.new (((w.alloc (.cells #[.int .i64 x, .int .i64 y, .int .i64 dx, .int .i64 dy] 134)).alloc (.cells #[] 36)).alloc (.cells #[] 2)) 134 #[.int .i64 x, .int .i64 y, .int .i64 dx, .int .i64 dy]
  rw [World.size_alloc, World.size_alloc, World.size_alloc] at bx
  replace hL := PRow.alloc hL (.cells #[.int .i64 x, .int .i64 y, .int .i64 dx, .int .i64 dy] 134)
  replace hM := Row.alloc hM (.cells #[.int .i64 x, .int .i64 y, .int .i64 dx, .int .i64 dy] 134)
  have hb0 : Below (w.heap.size + 1) (w.alloc (.cells #[.int .i64 x, .int .i64 y, .int .i64 dx, .int .i64 dy] 134)) ((((w.alloc (.cells #[.int .i64 x, .int .i64 y, .int .i64 dx, .int .i64 dy] 134)).alloc (.cells #[] 36)).alloc (.cells #[] 2)).alloc (.cells #[.int .i64 x, .int .i64 y, .int .i64 dx, .int .i64 dy] 134)) := (((Below.refl _ _).alloc (by simp) _).alloc (by simp) _).alloc (by simp) _
  have hsz0 : w.heap.size + 1 ≤ ((((w.alloc (.cells #[.int .i64 x, .int .i64 y, .int .i64 dx, .int .i64 dy] 134)).alloc (.cells #[] 36)).alloc (.cells #[] 2)).alloc (.cells #[.int .i64 x, .int .i64 y, .int .i64 dx, .int .i64 dy] 134)).heap.size := by simp
  clear bl bw q0 q1 q2 q3 qn
  generalize ((((w.alloc (.cells #[.int .i64 x, .int .i64 y, .int .i64 dx, .int .i64 dy] 134)).alloc (.cells #[] 36)).alloc (.cells #[] 2)).alloc (.cells #[.int .i64 x, .int .i64 y, .int .i64 dx, .int .i64 dy] 134)) = V at *
  go_loopg [6, 7, 8] T (fun gk s t u wr => ∃ (i : Nat) (A : Option Addr) (c : Nat) (D : Option Addr) (d pb : Nat) (X Y ex ey : Int), gk = T - i ∧ i ≤ T ∧ s = .slice A i c ∧ t = .slice D i d ∧ u = .pointer (some ⟨pb, 0, none⟩) ∧ Hid (it (stepW ⟨W, H, B⟩) i ⟨x, y, dx, dy⟩ = ⟨X, Y, ex, ey⟩) ∧
      Box wr pb 134 #[.int .i64 X, .int .i64 Y, .int .i64 ex, .int .i64 ey] ∧ w.heap.size + 1 ≤ pb ∧ PRow wr (w.heap.size + 1) (.slice A i c) i (flatP (trk ⟨W, H, B⟩ ⟨x, y, dx, dy⟩ i)) ∧ Ints wr (w.heap.size + 1) (.slice D i d) (segsP ⟨W, H, B⟩ (trk ⟨W, H, B⟩ ⟨x, y, dx, dy⟩ i)) ∧ Below (w.heap.size + 1) (w.alloc (.cells #[.int .i64 x, .int .i64 y, .int .i64 dx, .int .i64 dy] 134)) wr)
  case atStart => exact ⟨0, _, 0, _, 0, _, x, y, dx, dy, rfl, Nat.zero_le _, rfl, rfl, rfl, Lib.hid rfl, bx, by omega, hL, Row.le hM (by omega), hb0⟩
  case round =>
    obtain ⟨i, A, c, D, d, pb, X, Y, ex, ey, rfl, hi, rfl, rfl, rfl, hX, hB, hpb, hP, hS, hb⟩ := hrel
    clear hL hM bx hb0 hsz0
    have hbw : Below w.heap.size w wr := (Joins.below_alloc1 w (.cells #[.int .i64 x, .int .i64 y, .int .i64 dx, .int .i64 dy] 134)).trans (hb.mono (by omega))
    have hsz : w.heap.size + 1 ≤ wr.heap.size := by have := hb.size; simpa using this
    have bw : Box wr w.heap.size 134 #[.int .i64 x, .int .i64 y, .int .i64 dx, .int .i64 dy] := (hb.block _ (by omega)).trans (Box.new w 134 #[.int .i64 x, .int .i64 y, .int .i64 dx, .int .i64 dy])
    have hlS : (segsP ⟨W, H, B⟩ (trk ⟨W, H, B⟩ ⟨x, y, dx, dy⟩ i)).length = i := by simp [segsP, trk_length]
    have OKI := HK.out i
    rw [hX.out] at OKI
    have HOK := Lib.hid OKI
    clear OKI
    by_cases hlt : i < T
    rotate_left
    · have e : i = T := by omega
      subst e
      have hx2 := hX.out
      rw [HT.out] at hx2
      injection hx2 with f1 f2 f3 f4
      subst f1 f2 f3 f4
      have i1 : ((i : Int) == 0) = false := by simp; omega
      have p0 := hB.cell 0
      have p1 := hB.cell 1
      have p2 := hB.cell 2
      have p3 := hB.cell 3
      have pn := hB.lt
      simp only [List.getElem?_toArray, List.getElem?_cons_zero, List.getElem?_cons_succ] at p0 p1 p2 p3
      have q0 := bw.cell 0
      have q1 := bw.cell 1
      have q2 := bw.cell 2
      have q3 := bw.cell 3
      have qn := bw.lt
      simp only [List.getElem?_toArray, List.getElem?_cons_zero, List.getElem?_cons_succ] at q0 q1 q2 q3
      have HP2 := Lib.hid hP
      have HS2 := Lib.hid hS
      have HB2 := Lib.hid hbw
      clear hP hS hb hbw hB bw HM hlS
      go_wp2
      go_ret2
      exact ⟨i, A, c, D, d, rfl, PRow.le HP2.out (by omega), Row.le HS2.out (by omega), T5, HO.out.symm, HB2.out⟩
    have HTR := Lib.hid (trk_succ ⟨W, H, B⟩ ⟨x, y, dx, dy⟩ i)
    have HX2 := hX.out
    rw [hX.out] at HTR
    have HF : Hid (flatP (trk ⟨W, H, B⟩ ⟨x, y, dx, dy⟩ (i + 1)) = flatP (trk ⟨W, H, B⟩ ⟨x, y, dx, dy⟩ i) ++ [X, Y]) := Lib.hid (by rw [HTR.out, flatP_append]; rfl)
    have HSG : Hid (segsP ⟨W, H, B⟩ (trk ⟨W, H, B⟩ ⟨x, y, dx, dy⟩ (i + 1)) = segsP ⟨W, H, B⟩ (trk ⟨W, H, B⟩ ⟨x, y, dx, dy⟩ i) ++ [segI ⟨W, H, B⟩ ⟨X, Y, ex, ey⟩]) := Lib.hid (by rw [HTR.out]; simp [segsP])
    obtain ⟨sg, hsg⟩ : ∃ sg, segI ⟨W, H, B⟩ ⟨X, Y, ex, ey⟩ = sg := ⟨_, rfl⟩
    rw [hsg] at HSG
    obtain ⟨⟨nX, nY, nx, ny⟩, hst⟩ : ∃ a : Wk, stepW ⟨W, H, B⟩ ⟨X, Y, ex, ey⟩ = a := ⟨_, rfl⟩
    have HN2 : Hid (it (stepW ⟨W, H, B⟩) (i + 1) ⟨x, y, dx, dy⟩ = ⟨nX, nY, nx, ny⟩) := Lib.hid (by show stepW ⟨W, H, B⟩ (it (stepW ⟨W, H, B⟩) i ⟨x, y, dx, dy⟩) = _; rw [hX.out, hst])
    have HSG2 := Lib.hid hsg
    have HST := Lib.hid hst
    have hneP : ∀ g, (Value.slice A i c).ownBlock = some g → g ≠ pb := fun g hg => row_box hP hB (by decide) hg
    have hneS : ∀ g, (Value.slice D i d).ownBlock = some g → g ≠ pb := fun g hg => row_box hS hB (by decide) hg
    have hlI : i < 1000000000 := by omega
    by_cases h0 : i = 0
    · have i1 : ((i : Int) == 0) = true := by simp; omega
      clear HTR hsg hst HX2 h0

      have p0 := hB.cell 0
      have p1 := hB.cell 1
      have p2 := hB.cell 2
      have p3 := hB.cell 3
      have pn := hB.lt
      simp only [List.getElem?_toArray, List.getElem?_cons_zero, List.getElem?_cons_succ] at p0 p1 p2 p3
      have q0 := bw.cell 0
      have q1 := bw.cell 1
      have q2 := bw.cell 2
      have q3 := bw.cell 3
      have qn := bw.lt
      simp only [List.getElem?_toArray, List.getElem?_cons_zero, List.getElem?_cons_succ] at q0 q1 q2 q3
      go_wp2_with (at_builtin; refine append_pt rfl _ _ rfl (w.heap.size + 1) _ i _ (flatP (trk ⟨W, H, B⟩ ⟨x, y, dx, dy⟩ i)) X Y hP rfl rfl rfl hlI hsz ?_)
      intro g1 c1 w2 hP2 hg2 hat2
      rw [← HF.out] at hP2
      have hb2 : Below (w.heap.size + 1) (w.alloc (.cells #[.int .i64 x, .int .i64 y, .int .i64 dx, .int .i64 dy] 134)) w2 := hb.grown hg2 hsz (fun j hj => (PRow.lt hP hj).1)
      have hB2 := hB.grown hg2 (fun e => hneP pb e.symm rfl)
      have hS2 : Ints w2 (w.heap.size + 1) (.slice D i d) (segsP ⟨W, H, B⟩ (trk ⟨W, H, B⟩ ⟨x, y, dx, dy⟩ i)) := Row.grown hS hg2 (fun g hg e => rows_apart hS hP (by decide) hg e.symm)
      have hsz2 := hg2.size
      clear hP hS hb hB hg2 bw p0 p1 p2 p3 pn q0 q1 q2 q3 qn hbw hat2
      have hbw2 : Below w.heap.size w w2 := (Joins.below_alloc1 w (.cells #[.int .i64 x, .int .i64 y, .int .i64 dx, .int .i64 dy] 134)).trans (hb2.mono (by omega))
      have hv2 := HV.out w2 hbw2
      have p0 := hB2.cell 0
      have p1 := hB2.cell 1
      have p2 := hB2.cell 2
      have p3 := hB2.cell 3
      have pn := hB2.lt
      simp only [List.getElem?_toArray, List.getElem?_cons_zero, List.getElem?_cons_succ] at p0 p1 p2 p3
      go_wp2_with fail
      refine (l03Segment_any hv2.1 ⟨HP.out.w1, HP.out.w8⟩ ⟨HP.out.h1, HP.out.h8⟩ HOK.out HSG2.out).mono ?_
      rintro e w3 ⟨rfl, hb3⟩
      have hsz3 := hb3.size
      have hP3 : PRow w3 (w.heap.size + 1) (.slice (some ⟨g1, 0, none⟩) (i + 1) c1) (i + 1) (flatP (trk ⟨W, H, B⟩ ⟨x, y, dx, dy⟩ (i + 1))) := PRow.below hP2 hb3
      have hS3 := Row.below hS2 hb3
      have hB3 := hB2.below hb3
      have hb3' := hb2.trans (hb3.mono (by omega))
      clear hP2 hS2 hB2 hb2 hb3 hv2 hbw2 p0 p1 p2 p3 pn
      go_wp2_with (at_builtin; refine append_one_at rfl _ _ rfl (w.heap.size + 1) _ _ (segsP ⟨W, H, B⟩ (trk ⟨W, H, B⟩ ⟨x, y, dx, dy⟩ i)) sg hS3 rfl rfl rfl (by rw [hlS]; exact hlI) (by omega) ?_)
      intro g2 c2 w4 hS4 hg4 hat4
      rw [← HSG.out] at hS4
      have hP4 : PRow w4 (w.heap.size + 1) (.slice (some ⟨g1, 0, none⟩) (i + 1) c1) (i + 1) (flatP (trk ⟨W, H, B⟩ ⟨x, y, dx, dy⟩ (i + 1))) := hP3.keep (fun g hg hl => hg4.block g hl (fun e => rows_apart hP3 hS3 (by decide) hg e.symm))
      have hB4 := hB3.grown hg4 (fun e => hneS pb e.symm rfl)
      have hb4 := hb3'.grown hg4 (by omega) (fun j hj => (Row.lt hS3 hj).1)
      have hsz4 := hg4.size
      clear hP3 hS3 hB3 hb3' hg4 hat4
      have p0 := hB4.cell 0
      have p1 := hB4.cell 1
      have p2 := hB4.cell 2
      have p3 := hB4.cell 3
      have pn := hB4.lt
      simp only [List.getElem?_toArray, List.getElem?_cons_zero, List.getElem?_cons_succ] at p0 p1 p2 p3
      go_wp2_with fail
      have hb5 := hb4.alloc (by omega) (.cells #[.int .i64 X, .int .i64 Y, .int .i64 ex, .int .i64 ey] 134)
      have bn := Box.new w4 134 #[.int .i64 X, .int .i64 Y, .int .i64 ex, .int .i64 ey]
      have hP5 := PRow.alloc hP4 (.cells #[.int .i64 X, .int .i64 Y, .int .i64 ex, .int .i64 ey] 134)
      have hS5 := Row.alloc hS4 (.cells #[.int .i64 X, .int .i64 Y, .int .i64 ex, .int .i64 ey] 134)
      have hv5 := HV.out (w4.alloc (.cells #[.int .i64 X, .int .i64 Y, .int .i64 ex, .int .i64 ey] 134)) ((Joins.below_alloc1 w (.cells #[.int .i64 x, .int .i64 y, .int .i64 dx, .int .i64 dy] 134)).trans (hb5.mono (by omega)))
      clear p0 p1 p2 p3 pn hP4 hS4 hB4 hb4
      refine (l03Step_any hv5.1 hv5.2 HP.out HOK.out HST.out).mono ?_
      rintro e w6 ⟨rfl, hb6⟩
      have hsz6 := hb6.size
      rw [World.size_alloc] at hsz6
      have bn6 := bn.below hb6
      have hP6 : PRow w6 (w.heap.size + 1) (.slice (some ⟨g1, 0, none⟩) (i + 1) c1) (i + 1) (flatP (trk ⟨W, H, B⟩ ⟨x, y, dx, dy⟩ (i + 1))) := PRow.below hP5 hb6
      have hS6 := Row.below hS5 hb6
      have hb6' := hb5.trans (hb6.mono (by rw [World.size_alloc]; omega))
      clear hb5 bn hP5 hS5 hv5 hb6
      have n0 := bn6.cell 0
      have n1 := bn6.cell 1
      have n2 := bn6.cell 2
      have n3 := bn6.cell 3
      have nf0 := bn6.free 0
      have nf1 := bn6.free 1
      have nf2 := bn6.free 2
      have nf3 := bn6.free 3
      have nn := bn6.lt
      simp only [List.getElem?_toArray, List.getElem?_cons_zero, List.getElem?_cons_succ] at n0 n1 n2 n3
      have HB7 : Hid (Box (((((w6.setCell ⟨w4.heap.size, 0, none⟩ (.int .i64 nX)).setCell ⟨w4.heap.size, 1, none⟩ (.int .i64 nY)).setCell ⟨w4.heap.size, 2, none⟩ (.int .i64 nx)).setCell ⟨w4.heap.size, 3, none⟩ (.int .i64 ny))) w4.heap.size 134 #[.int .i64 nX, .int .i64 nY, .int .i64 nx, .int .i64 ny]) := Lib.hid (by simpa using (((bn6.set_ 0 (.int .i64 nX)).set_ 1 (.int .i64 nY)).set_ 2 (.int .i64 nx)).set_ 3 (.int .i64 ny))
      have hne1 : ∀ g, (Value.slice (some ⟨g1, 0, none⟩) (i + 1) c1).ownBlock = some g → g ≠ w4.heap.size := fun g hg => row_box hP6 bn6 (by decide) hg
      have hne2 : ∀ g, (Value.slice (some ⟨g2, 0, none⟩) (i + 1) c2).ownBlock = some g → g ≠ w4.heap.size := fun g hg => row_box hS6 bn6 (by decide) hg
      have HP7 : Hid (PRow (((((w6.setCell ⟨w4.heap.size, 0, none⟩ (.int .i64 nX)).setCell ⟨w4.heap.size, 1, none⟩ (.int .i64 nY)).setCell ⟨w4.heap.size, 2, none⟩ (.int .i64 nx)).setCell ⟨w4.heap.size, 3, none⟩ (.int .i64 ny))) (w.heap.size + 1) (.slice (some ⟨g1, 0, none⟩) (i + 1) c1) (i + 1) (flatP (trk ⟨W, H, B⟩ ⟨x, y, dx, dy⟩ (i + 1)))) := Lib.hid ((((hP6.setCell hne1 _).setCell hne1 _).setCell hne1 _).setCell hne1 _)
      have HS7 : Hid (Ints (((((w6.setCell ⟨w4.heap.size, 0, none⟩ (.int .i64 nX)).setCell ⟨w4.heap.size, 1, none⟩ (.int .i64 nY)).setCell ⟨w4.heap.size, 2, none⟩ (.int .i64 nx)).setCell ⟨w4.heap.size, 3, none⟩ (.int .i64 ny))) (w.heap.size + 1) (.slice (some ⟨g2, 0, none⟩) (i + 1) c2) (segsP ⟨W, H, B⟩ (trk ⟨W, H, B⟩ ⟨x, y, dx, dy⟩ (i + 1)))) := Lib.hid (Row.setCell (Row.setCell (Row.setCell (Row.setCell hS6 hne2 _) hne2 _) hne2 _) hne2 _)
      have HL7 : Hid (Below (w.heap.size + 1) (w.alloc (.cells #[.int .i64 x, .int .i64 y, .int .i64 dx, .int .i64 dy] 134)) (((((w6.setCell ⟨w4.heap.size, 0, none⟩ (.int .i64 nX)).setCell ⟨w4.heap.size, 1, none⟩ (.int .i64 nY)).setCell ⟨w4.heap.size, 2, none⟩ (.int .i64 nx)).setCell ⟨w4.heap.size, 3, none⟩ (.int .i64 ny)))) := Lib.hid ((((hb6'.setCell (p := ⟨w4.heap.size, 0, none⟩) (by show _ ≤ w4.heap.size; omega) _).setCell (p := ⟨w4.heap.size, 1, none⟩) (by show _ ≤ w4.heap.size; omega) _).setCell (p := ⟨w4.heap.size, 2, none⟩) (by show _ ≤ w4.heap.size; omega) _).setCell (p := ⟨w4.heap.size, 3, none⟩) (by show _ ≤ w4.heap.size; omega) _)
      have hle7 : w.heap.size + 1 ≤ w4.heap.size := by omega
      clear hP6 hS6 hb6' bn6 hne1 hne2 hneP hneS hlS
      go_wp2
      go_roundg (T - (i + 1))
      case rel => exact ⟨i + 1, _, c1, _, c2, w4.heap.size, nX, nY, nx, ny, rfl, by omega, rfl, rfl, rfl, HN2, HB7.out, hle7, HP7.out, HS7.out, HL7.out⟩
      case measure => omega

    · have i1 : ((i : Int) == 0) = false := by simp; omega
      have hne : ¬ ((⟨X, Y, ex, ey⟩ : Wk) = ⟨x, y, dx, dy⟩) := by rw [← HX2]; exact HM.out i (by omega) hlt
      have hne2 : ¬ (X = x ∧ Y = y ∧ ex = dx ∧ ey = dy) := fun h => hne (by rw [h.1, h.2.1, h.2.2.1, h.2.2.2])
      clear HTR hsg hst HX2 h0 hne
      have hne3 := wk_ne hne2
      clear hne2

      have p0 := hB.cell 0
      have p1 := hB.cell 1
      have p2 := hB.cell 2
      have p3 := hB.cell 3
      have pn := hB.lt
      simp only [List.getElem?_toArray, List.getElem?_cons_zero, List.getElem?_cons_succ] at p0 p1 p2 p3
      have q0 := bw.cell 0
      have q1 := bw.cell 1
      have q2 := bw.cell 2
      have q3 := bw.cell 3
      have qn := bw.lt
      simp only [List.getElem?_toArray, List.getElem?_cons_zero, List.getElem?_cons_succ] at q0 q1 q2 q3
      go_wp2_with (at_builtin; refine append_pt rfl _ _ rfl (w.heap.size + 1) _ i _ (flatP (trk ⟨W, H, B⟩ ⟨x, y, dx, dy⟩ i)) X Y hP rfl rfl rfl hlI hsz ?_)
      intro g1 c1 w2 hP2 hg2 hat2
      rw [← HF.out] at hP2
      have hb2 : Below (w.heap.size + 1) (w.alloc (.cells #[.int .i64 x, .int .i64 y, .int .i64 dx, .int .i64 dy] 134)) w2 := hb.grown hg2 hsz (fun j hj => (PRow.lt hP hj).1)
      have hB2 := hB.grown hg2 (fun e => hneP pb e.symm rfl)
      have hS2 : Ints w2 (w.heap.size + 1) (.slice D i d) (segsP ⟨W, H, B⟩ (trk ⟨W, H, B⟩ ⟨x, y, dx, dy⟩ i)) := Row.grown hS hg2 (fun g hg e => rows_apart hS hP (by decide) hg e.symm)
      have hsz2 := hg2.size
      clear hP hS hb hB hg2 bw p0 p1 p2 p3 pn q0 q1 q2 q3 qn hbw hat2
      have hbw2 : Below w.heap.size w w2 := (Joins.below_alloc1 w (.cells #[.int .i64 x, .int .i64 y, .int .i64 dx, .int .i64 dy] 134)).trans (hb2.mono (by omega))
      have hv2 := HV.out w2 hbw2
      have p0 := hB2.cell 0
      have p1 := hB2.cell 1
      have p2 := hB2.cell 2
      have p3 := hB2.cell 3
      have pn := hB2.lt
      simp only [List.getElem?_toArray, List.getElem?_cons_zero, List.getElem?_cons_succ] at p0 p1 p2 p3
      go_wp2_with fail
      refine (l03Segment_any hv2.1 ⟨HP.out.w1, HP.out.w8⟩ ⟨HP.out.h1, HP.out.h8⟩ HOK.out HSG2.out).mono ?_
      rintro e w3 ⟨rfl, hb3⟩
      have hsz3 := hb3.size
      have hP3 : PRow w3 (w.heap.size + 1) (.slice (some ⟨g1, 0, none⟩) (i + 1) c1) (i + 1) (flatP (trk ⟨W, H, B⟩ ⟨x, y, dx, dy⟩ (i + 1))) := PRow.below hP2 hb3
      have hS3 := Row.below hS2 hb3
      have hB3 := hB2.below hb3
      have hb3' := hb2.trans (hb3.mono (by omega))
      clear hP2 hS2 hB2 hb2 hb3 hv2 hbw2 p0 p1 p2 p3 pn
      go_wp2_with (at_builtin; refine append_one_at rfl _ _ rfl (w.heap.size + 1) _ _ (segsP ⟨W, H, B⟩ (trk ⟨W, H, B⟩ ⟨x, y, dx, dy⟩ i)) sg hS3 rfl rfl rfl (by rw [hlS]; exact hlI) (by omega) ?_)
      intro g2 c2 w4 hS4 hg4 hat4
      rw [← HSG.out] at hS4
      have hP4 : PRow w4 (w.heap.size + 1) (.slice (some ⟨g1, 0, none⟩) (i + 1) c1) (i + 1) (flatP (trk ⟨W, H, B⟩ ⟨x, y, dx, dy⟩ (i + 1))) := hP3.keep (fun g hg hl => hg4.block g hl (fun e => rows_apart hP3 hS3 (by decide) hg e.symm))
      have hB4 := hB3.grown hg4 (fun e => hneS pb e.symm rfl)
      have hb4 := hb3'.grown hg4 (by omega) (fun j hj => (Row.lt hS3 hj).1)
      have hsz4 := hg4.size
      clear hP3 hS3 hB3 hb3' hg4 hat4
      have p0 := hB4.cell 0
      have p1 := hB4.cell 1
      have p2 := hB4.cell 2
      have p3 := hB4.cell 3
      have pn := hB4.lt
      simp only [List.getElem?_toArray, List.getElem?_cons_zero, List.getElem?_cons_succ] at p0 p1 p2 p3
      go_wp2_with fail
      have hb5 := hb4.alloc (by omega) (.cells #[.int .i64 X, .int .i64 Y, .int .i64 ex, .int .i64 ey] 134)
      have bn := Box.new w4 134 #[.int .i64 X, .int .i64 Y, .int .i64 ex, .int .i64 ey]
      have hP5 := PRow.alloc hP4 (.cells #[.int .i64 X, .int .i64 Y, .int .i64 ex, .int .i64 ey] 134)
      have hS5 := Row.alloc hS4 (.cells #[.int .i64 X, .int .i64 Y, .int .i64 ex, .int .i64 ey] 134)
      have hv5 := HV.out (w4.alloc (.cells #[.int .i64 X, .int .i64 Y, .int .i64 ex, .int .i64 ey] 134)) ((Joins.below_alloc1 w (.cells #[.int .i64 x, .int .i64 y, .int .i64 dx, .int .i64 dy] 134)).trans (hb5.mono (by omega)))
      clear p0 p1 p2 p3 pn hP4 hS4 hB4 hb4
      refine (l03Step_any hv5.1 hv5.2 HP.out HOK.out HST.out).mono ?_
      rintro e w6 ⟨rfl, hb6⟩
      have hsz6 := hb6.size
      rw [World.size_alloc] at hsz6
      have bn6 := bn.below hb6
      have hP6 : PRow w6 (w.heap.size + 1) (.slice (some ⟨g1, 0, none⟩) (i + 1) c1) (i + 1) (flatP (trk ⟨W, H, B⟩ ⟨x, y, dx, dy⟩ (i + 1))) := PRow.below hP5 hb6
      have hS6 := Row.below hS5 hb6
      have hb6' := hb5.trans (hb6.mono (by rw [World.size_alloc]; omega))
      clear hb5 bn hP5 hS5 hv5 hb6
      have n0 := bn6.cell 0
      have n1 := bn6.cell 1
      have n2 := bn6.cell 2
      have n3 := bn6.cell 3
      have nf0 := bn6.free 0
      have nf1 := bn6.free 1
      have nf2 := bn6.free 2
      have nf3 := bn6.free 3
      have nn := bn6.lt
      simp only [List.getElem?_toArray, List.getElem?_cons_zero, List.getElem?_cons_succ] at n0 n1 n2 n3
      have HB7 : Hid (Box (((((w6.setCell ⟨w4.heap.size, 0, none⟩ (.int .i64 nX)).setCell ⟨w4.heap.size, 1, none⟩ (.int .i64 nY)).setCell ⟨w4.heap.size, 2, none⟩ (.int .i64 nx)).setCell ⟨w4.heap.size, 3, none⟩ (.int .i64 ny))) w4.heap.size 134 #[.int .i64 nX, .int .i64 nY, .int .i64 nx, .int .i64 ny]) := Lib.hid (by simpa using (((bn6.set_ 0 (.int .i64 nX)).set_ 1 (.int .i64 nY)).set_ 2 (.int .i64 nx)).set_ 3 (.int .i64 ny))
      have hne1 : ∀ g, (Value.slice (some ⟨g1, 0, none⟩) (i + 1) c1).ownBlock = some g → g ≠ w4.heap.size := fun g hg => row_box hP6 bn6 (by decide) hg
      have hne2 : ∀ g, (Value.slice (some ⟨g2, 0, none⟩) (i + 1) c2).ownBlock = some g → g ≠ w4.heap.size := fun g hg => row_box hS6 bn6 (by decide) hg
      have HP7 : Hid (PRow (((((w6.setCell ⟨w4.heap.size, 0, none⟩ (.int .i64 nX)).setCell ⟨w4.heap.size, 1, none⟩ (.int .i64 nY)).setCell ⟨w4.heap.size, 2, none⟩ (.int .i64 nx)).setCell ⟨w4.heap.size, 3, none⟩ (.int .i64 ny))) (w.heap.size + 1) (.slice (some ⟨g1, 0, none⟩) (i + 1) c1) (i + 1) (flatP (trk ⟨W, H, B⟩ ⟨x, y, dx, dy⟩ (i + 1)))) := Lib.hid ((((hP6.setCell hne1 _).setCell hne1 _).setCell hne1 _).setCell hne1 _)
      have HS7 : Hid (Ints (((((w6.setCell ⟨w4.heap.size, 0, none⟩ (.int .i64 nX)).setCell ⟨w4.heap.size, 1, none⟩ (.int .i64 nY)).setCell ⟨w4.heap.size, 2, none⟩ (.int .i64 nx)).setCell ⟨w4.heap.size, 3, none⟩ (.int .i64 ny))) (w.heap.size + 1) (.slice (some ⟨g2, 0, none⟩) (i + 1) c2) (segsP ⟨W, H, B⟩ (trk ⟨W, H, B⟩ ⟨x, y, dx, dy⟩ (i + 1)))) := Lib.hid (Row.setCell (Row.setCell (Row.setCell (Row.setCell hS6 hne2 _) hne2 _) hne2 _) hne2 _)
      have HL7 : Hid (Below (w.heap.size + 1) (w.alloc (.cells #[.int .i64 x, .int .i64 y, .int .i64 dx, .int .i64 dy] 134)) (((((w6.setCell ⟨w4.heap.size, 0, none⟩ (.int .i64 nX)).setCell ⟨w4.heap.size, 1, none⟩ (.int .i64 nY)).setCell ⟨w4.heap.size, 2, none⟩ (.int .i64 nx)).setCell ⟨w4.heap.size, 3, none⟩ (.int .i64 ny)))) := Lib.hid ((((hb6'.setCell (p := ⟨w4.heap.size, 0, none⟩) (by show _ ≤ w4.heap.size; omega) _).setCell (p := ⟨w4.heap.size, 1, none⟩) (by show _ ≤ w4.heap.size; omega) _).setCell (p := ⟨w4.heap.size, 2, none⟩) (by show _ ≤ w4.heap.size; omega) _).setCell (p := ⟨w4.heap.size, 3, none⟩) (by show _ ≤ w4.heap.size; omega) _)
      have hle7 : w.heap.size + 1 ≤ w4.heap.size := by omega
      clear hP6 hS6 hb6' bn6 hne1 hne2 hneP hneS hlS
      go_wp2
      go_roundg (T - (i + 1))
      case rel => exact ⟨i + 1, _, c1, _, c2, w4.heap.size, nX, nY, nx, ny, rfl, by omega, rfl, rfl, rfl, HN2, HB7.out, hle7, HP7.out, HS7.out, HL7.out⟩
      case measure => omega

end Go.Proofs.Ytihfdgnocdphcaa
