/-
  A walker turned back; some steps of a walker; a panel with a walker: by the reference.
-/
import Derived.Test.YtcjjkiajgkicnaaPanD
import Derived.Test.YtcjjkiajgkicnaaStepS
import Derived.Test.YtcjjkiajgkicnaaPoint
import Derived.Test.YtcjjkiajgkicnaaSeg
import Derived.Test.YtcjjkiajgkicnaaPlSwg
namespace Go.Proofs.Ytcjjkiajgkicnaa
open Go.RowKit Knot

theorem cell_b' {w w' : World} {p : Addr} {u : Value} (hb : Below w.heap.size w w') (h : w.cell? p = some u) : w'.cell? p = some u := (hb.cell (World.block_lt_of_cell? w _ h)).trans h
theorem cell_f4 {w : World} {k r i : Nat} {u a b c d : Value} (hne : k ≠ r) (h : w.cell? ⟨k, i, none⟩ = some u) :
    ((((w.setCell ⟨r, 0, none⟩ a).setCell ⟨r, 1, none⟩ b).setCell ⟨r, 2, none⟩ c).setCell ⟨r, 3, none⟩ d).cell? ⟨k, i, none⟩ = some u :=
  cell_f (p := ⟨k, i, none⟩) (q := ⟨r, 3, none⟩) hne (cell_f (p := ⟨k, i, none⟩) (q := ⟨r, 2, none⟩) hne (cell_f (p := ⟨k, i, none⟩) (q := ⟨r, 1, none⟩) hne (cell_f (p := ⟨k, i, none⟩) (q := ⟨r, 0, none⟩) hne h)))
set_option maxHeartbeats 4000000 in
theorem l03Back_any {w : World} {x y dx dy : Int} (h : (0 ≤ x ∧ x ≤ 2000000) ∧ (0 ≤ y ∧ y ≤ 2000000) ∧ (dx = 1 ∨ dx = -1) ∧ (dy = 1 ∨ dy = -1)) :
    Calls Try.prog 77 #[.agg #[.int .i64 x, .int .i64 y, .int .i64 dx, .int .i64 dy]] w fun e w' => e = .returned (.agg #[.int .i64 (x + dx), .int .i64 (y + dy), .int .i64 (-dx), .int .i64 (-dy)]) ∧ Below w.heap.size w w' := by
  have bl := Joins.below_alloc2 w (.cells #[.int .i64 x, .int .i64 y, .int .i64 dx, .int .i64 dy] 38) (.cells #[.int .i64 0, .int .i64 0, .int .i64 0, .int .i64 0] 38)
  have ba := (Box.new w 38 #[.int .i64 x, .int .i64 y, .int .i64 dx, .int .i64 dy]).alloc (.cells #[.int .i64 0, .int .i64 0, .int .i64 0, .int .i64 0] 38)
  have br := Box.new (w.alloc (.cells #[.int .i64 x, .int .i64 y, .int .i64 dx, .int .i64 dy] 38)) 38 #[.int .i64 0, .int .i64 0, .int .i64 0, .int .i64 0]
  rw [World.size_alloc] at br
  have HN := Lib.hid h
  have d0 : -1 ≤ dx ∧ dx ≤ 1 := by omega
  have d1 : -1 ≤ dy ∧ dy ≤ 1 := by omega
  obtain ⟨d0, d0'⟩ := d0
  obtain ⟨d1, d1'⟩ := d1
  have hw1 : Hid (IntKind.i64.wrap (-dx) = -dx ∧ IntKind.i64.wrap (-dy) = -dy) := Lib.hid (by rw [IntKind.wrap_i64, IntKind.wrap_i64]; omega)
  clear h
  go_enter Try.func77, Try.ntmps77
  go_wp2_with fail
  generalize hV : ((w.alloc (.cells #[.int .i64 x, .int .i64 y, .int .i64 dx, .int .i64 dy] 38)).alloc (.cells #[.int .i64 0, .int .i64 0, .int .i64 0, .int .i64 0] 38)) = V at *
  have hVs : V.heap.size = w.heap.size + 1 + 1 := by rw [← hV]; simp
  clear hV
  have p0 := ba.cell 0
  have p1 := ba.cell 1
  have p2 := ba.cell 2
  have p3 := ba.cell 3
  have pn := ba.lt
  simp only [List.getElem?_toArray, List.getElem?_cons_zero, List.getElem?_cons_succ] at p0 p1 p2 p3
  have r0 := br.cell 0
  have r1 := br.cell 1
  have r2 := br.cell 2
  have r3 := br.cell 3
  have rf0 := br.free 0
  have rf1 := br.free 1
  have rf2 := br.free 2
  have rf3 := br.free 3
  have rn := br.lt
  simp only [List.getElem?_toArray, List.getElem?_cons_zero, List.getElem?_cons_succ] at r0 r1 r2 r3
  have KB : Hid (∀ w', Below V.heap.size V w' → Box w' w.heap.size 38 #[.int .i64 x, .int .i64 y, .int .i64 dx, .int .i64 dy] ∧ Box w' (w.heap.size + 1) 38 #[.int .i64 0, .int .i64 0, .int .i64 0, .int .i64 0]) := Lib.hid (fun x hx => ⟨ba.below hx, br.below hx⟩)
  have gne : w.heap.size ≠ w.heap.size + 1 := by omega
  clear ba br
  go_region_held3 (fun w' => w'.cell? ⟨w.heap.size, 0, none⟩ = some (.int .i64 x) ∧ w'.cell? ⟨w.heap.size, 1, none⟩ = some (.int .i64 y) ∧ w'.cell? ⟨w.heap.size, 2, none⟩ = some (.int .i64 dx) ∧ w'.cell? ⟨w.heap.size, 3, none⟩ = some (.int .i64 dy))
    (first | exact ⟨p0, p1, p2, p3⟩ | exact ⟨s0, s1, s2, s3⟩ | exact ⟨cell_f4 gne s0, cell_f4 gne s1, cell_f4 gne s2, cell_f4 gne s3⟩ | assumption)
    ((go_at_call 88; (with_reducible refine (l03Next_any HN.out).mono ?_); rintro e w2 ⟨rfl, hb2⟩; have hB2 := bnext (w := V) cut_drew hb2; have s0 := (KB.out _ hB2).1.cell 0; have s1 := (KB.out _ hB2).1.cell 1; have s2 := (KB.out _ hB2).1.cell 2; have s3 := (KB.out _ hB2).1.cell 3; have t0 := (KB.out _ hB2).2.cell 0; have t1 := (KB.out _ hB2).2.cell 1; have t2 := (KB.out _ hB2).2.cell 2; have t3 := (KB.out _ hB2).2.cell 3; have f0 := (KB.out _ hB2).2.free 0; have f1 := (KB.out _ hB2).2.free 1; have f2 := (KB.out _ hB2).2.free 2; have f3 := (KB.out _ hB2).2.free 3; have tn := (KB.out _ hB2).2.lt))
  rw [hw1.out.1, hw1.out.2]
  have bq := (((((KB.out _ hB2).2.set_ 0 (.int .i64 (x + dx))).set_ 1 (.int .i64 (y + dy))).set_ 2 (.int .i64 (-dx))).set_ 3 (.int .i64 (-dy)))
  have hb9 := (((((bl.trans (hB2.mono (by omega))).setCell (p := ⟨w.heap.size + 1, 0, none⟩) (by show w.heap.size ≤ w.heap.size + 1; omega) (.int .i64 (x + dx))).setCell (p := ⟨w.heap.size + 1, 1, none⟩) (by show w.heap.size ≤ w.heap.size + 1; omega) (.int .i64 (y + dy))).setCell (p := ⟨w.heap.size + 1, 2, none⟩) (by show w.heap.size ≤ w.heap.size + 1; omega) (.int .i64 (-dx))).setCell (p := ⟨w.heap.size + 1, 3, none⟩) (by show w.heap.size ≤ w.heap.size + 1; omega) (.int .i64 (-dy)))
  simp only [Array.setIfInBounds, List.setIfInBounds_toArray] at bq
  replace bq : Box ((((w2.setCell ⟨w.heap.size + 1, 0, none⟩ (.int .i64 (x + dx))).setCell ⟨w.heap.size + 1, 1, none⟩ (.int .i64 (y + dy))).setCell ⟨w.heap.size + 1, 2, none⟩ (.int .i64 (-dx))).setCell ⟨w.heap.size + 1, 3, none⟩ (.int .i64 (-dy))) (w.heap.size + 1) 38 #[.int .i64 (x + dx), .int .i64 (y + dy), .int .i64 (-dx), .int .i64 (-dy)] := by simpa using bq
  clear p0 p1 p2 p3 pn r0 r1 r2 r3 rf0 rf1 rf2 rf3 rn s0 s1 s2 s3 t0 t1 t2 t3 f0 f1 f2 f3 tn hb2 hB2 KB hw1 bl
  generalize ((((w2.setCell ⟨w.heap.size + 1, 0, none⟩ (.int .i64 (x + dx))).setCell ⟨w.heap.size + 1, 1, none⟩ (.int .i64 (y + dy))).setCell ⟨w.heap.size + 1, 2, none⟩ (.int .i64 (-dx))).setCell ⟨w.heap.size + 1, 3, none⟩ (.int .i64 (-dy))) = V3 at *
  have r0 := bq.cell 0
  have r1 := bq.cell 1
  have r2 := bq.cell 2
  have r3 := bq.cell 3
  have rf0 := bq.free 0
  have rf1 := bq.free 1
  have rf2 := bq.free 2
  have rf3 := bq.free 3
  have rn := bq.lt
  simp only [List.getElem?_toArray, List.getElem?_cons_zero, List.getElem?_cons_succ] at r0 r1 r2 r3
  go_wp2
  refine bodyPost_ret (v := .agg #[.int .i64 (x + dx), .int .i64 (y + dy), .int .i64 (-dx), .int .i64 (-dy)]) (by simp [results, Try.results77, go_sem, r0, r1, r2, r3, rf0, rf1, rf2, rf3, rn]) rfl ⟨rfl, hb9⟩
set_option maxHeartbeats 4000000 in
theorem l03Code_yes {w : World} {b lo hi : Nat} {W H x y dx dy : Int} {v : Value} {B : List Int} (bp : Box w b 45 #[.int .i64 W, .int .i64 H, v]) (hI : IntsIn w lo hi v B) (hp : Ok ⟨W, H, B⟩) (hk : OkW ⟨W, H, B⟩ ⟨x, y, dx, dy⟩) :
    Calls Try.prog 78 #[.pointer (some ⟨b, 0, none⟩), .agg #[.int .i64 x, .int .i64 y, .int .i64 dx, .int .i64 dy]] w fun e w' => e = .returned (.int .i64 0) ∧ Below w.heap.size w w' := by
  have bl := Joins.below_alloc1 w (.cells #[.int .i64 x, .int .i64 y, .int .i64 dx, .int .i64 dy] 38)
  have bb := Box.new w 38 #[.int .i64 x, .int .i64 y, .int .i64 dx, .int .i64 dy]
  replace bp := bp.alloc (.cells #[.int .i64 x, .int .i64 y, .int .i64 dx, .int .i64 dy] 38)
  replace hI := hI.alloc (.cells #[.int .i64 x, .int .i64 y, .int .i64 dx, .int .i64 dy] 38)
  have HP := Lib.hid hp
  have HK : Hid (OkWk W H x y dx dy) := Lib.hid ⟨hk.dx, hk.dy, hk.here, hk.there⟩
  have HW0 : Hid (0 ≤ W ∧ W ≤ 1000000) := Lib.hid (by have := hp.w1; have := hp.w8; simp only [] at *; omega)
  have HH0 : Hid (0 ≤ H ∧ H ≤ 1000000) := Lib.hid (by have := hp.h1; have := hp.h8; simp only [] at *; omega)
  clear hp hk
  go_enter Try.func78, Try.ntmps78
  go_wp2_with fail
  refine (l02Ok_any _ W H _ B true (yes_iff HP.out) _ ⟨bp, hI.ints⟩).mono ?_
  rintro e w2 ⟨rfl, hd⟩
  have hb := bdrawn hd
  replace bp := bp.below hb
  replace bb := bb.below hb
  replace bl := bnext bl hb
  clear hb hd hI
  have q0 := bb.cell 0
  have q1 := bb.cell 1
  have q2 := bb.cell 2
  have q3 := bb.cell 3
  have qn := bb.lt
  simp only [List.getElem?_toArray, List.getElem?_cons_zero, List.getElem?_cons_succ] at q0 q1 q2 q3
  go_wp2_with fail
  refine (l03Ok_any bp HW0.out HH0.out (yes_iff HK.out)).mono ?_
  rintro e w3 ⟨rfl, hb3⟩
  replace bl := bnext bl hb3
  clear hb3 q0 q1 q2 q3 qn bb bp
  go_wp2
  go_ret
  exact ⟨rfl, bl⟩
set_option maxHeartbeats 8000000 in
theorem sWalkSteps_any {w : World} {lo hi n : Nat} {W H x y dx dy : Int} {v : Value} {B : List Int} (hI : IntsIn w lo hi v B) (hp : Ok ⟨W, H, B⟩) (hk : OkW ⟨W, H, B⟩ ⟨x, y, dx, dy⟩) (hn : n ≤ 10000) {k : Wk} (hr : it (stepW ⟨W, H, B⟩) n ⟨x, y, dx, dy⟩ = k) :
    Calls Try.prog 48 #[.agg #[.int .i64 W, .int .i64 H, v], .agg #[.int .i64 x, .int .i64 y, .int .i64 dx, .int .i64 dy], .int .i64 n] w fun e w' => e = .returned (.tuple #[.agg #[.int .i64 k.X, .int .i64 k.Y, .int .i64 k.dx, .int .i64 k.dy], .int .i64 0]) ∧ Below w.heap.size w w' := by
  obtain ⟨A, cA, rfl, _, _⟩ := hI.1.open_
  have bl := Joins.below_alloc3 w (.cells #[.int .i64 W, .int .i64 H, .slice A B.length cA] 45) (.cells #[.int .i64 x, .int .i64 y, .int .i64 dx, .int .i64 dy] 38) (.cells #[.int .i64 0, .int .i64 0, .int .i64 0, .int .i64 0] 38)
  have bp := ((Box.new w 45 #[.int .i64 W, .int .i64 H, .slice A B.length cA]).alloc (.cells #[.int .i64 x, .int .i64 y, .int .i64 dx, .int .i64 dy] 38)).alloc (.cells #[.int .i64 0, .int .i64 0, .int .i64 0, .int .i64 0] 38)
  have bw := (Box.new (w.alloc (.cells #[.int .i64 W, .int .i64 H, .slice A B.length cA] 45)) 38 #[.int .i64 x, .int .i64 y, .int .i64 dx, .int .i64 dy]).alloc (.cells #[.int .i64 0, .int .i64 0, .int .i64 0, .int .i64 0] 38)
  have br := Box.new ((w.alloc (.cells #[.int .i64 W, .int .i64 H, .slice A B.length cA] 45)).alloc (.cells #[.int .i64 x, .int .i64 y, .int .i64 dx, .int .i64 dy] 38)) 38 #[.int .i64 0, .int .i64 0, .int .i64 0, .int .i64 0]
  simp only [World.size_alloc] at bw br
  have HV4 : Hid (∀ (w' : World) (_ : Unit), Below w.heap.size w w' → IntsIn w' lo hi (.slice A B.length cA) B) := Lib.hid (fun w' _ hx => hI.below hx)
  have hv := hI.below bl
  have HP := Lib.hid hp
  have HOK : Hid (∀ m, OkW ⟨W, H, B⟩ (it (stepW ⟨W, H, B⟩) m ⟨x, y, dx, dy⟩)) := Lib.hid (fun m => trk_ok hp hk m)
  have HK := Lib.hid hk
  have HR := Lib.hid hr
  have hin : inR (n : Int) 0 10000 = true := inR_t ⟨by omega, by omega⟩
  have HIN := Lib.hid hin
  clear hI hp hk hr hin
  have q0 := bw.cell 0
  have q1 := bw.cell 1
  have q2 := bw.cell 2
  have q3 := bw.cell 3
  have qn := bw.lt
  simp only [List.getElem?_toArray, List.getElem?_cons_zero, List.getElem?_cons_succ] at q0 q1 q2 q3
  go_enter Try.func48, Try.ntmps48
  go_wp2_with fail
  refine (l03Code_yes bp hv HP.out HK.out).mono ?_
  rintro e w2 ⟨rfl, hb2⟩
  have sz2 := hb2.size
  simp only [World.size_alloc] at sz2
  replace bp := bp.below hb2
  replace bw := bw.below hb2
  replace br := br.below hb2
  replace hv := hv.below hb2
  replace bl := bnext bl hb2
  clear hb2 q0 q1 q2 q3 qn
  go_wp2_with fail
  refine (l00In_any _ _ _ true HIN.out _).mono ?_
  rintro e w' ⟨rfl, rfl⟩
  have h0 : Hid (it (stepW ⟨W, H, B⟩) 0 ⟨x, y, dx, dy⟩ = ⟨x, y, dx, dy⟩) := Lib.hid rfl
  go_wp2
  go_loopw [9] (fun i wr => ∃ (m : Nat) (a b c d : Int), m ≤ n ∧ i = .int .i64 m ∧ Hid (it (stepW ⟨W, H, B⟩) m ⟨x, y, dx, dy⟩ = ⟨a, b, c, d⟩) ∧ Box wr w.heap.size 45 #[.int .i64 W, .int .i64 H, .slice A B.length cA] ∧ IntsIn wr lo hi (.slice A B.length cA) B ∧ Box wr (w.heap.size + 1) 38 #[.int .i64 a, .int .i64 b, .int .i64 c, .int .i64 d] ∧
      Box wr (w.heap.size + 1 + 1) 38 #[.int .i64 0, .int .i64 0, .int .i64 0, .int .i64 0] ∧ Below w.heap.size w wr ∧ w2.heap.size ≤ wr.heap.size) (fun i _ => n - (intOf i).toNat)
  case atStart => exact ⟨0, x, y, dx, dy, by omega, rfl, h0, bp, hv, bw, br, bl, Nat.le_refl _⟩
  case round =>
    obtain ⟨m, a, b, c, d, hm, rfl, hi2, bp, hv, bw, br, bl, hs⟩ := hrel
    clear h0
    have q0 := bw.cell 0
    have q1 := bw.cell 1
    have q2 := bw.cell 2
    have q3 := bw.cell 3
    have qf0 := bw.free 0
    have qf1 := bw.free 1
    have qf2 := bw.free 2
    have qf3 := bw.free 3
    have qn := bw.lt
    simp only [List.getElem?_toArray, List.getElem?_cons_zero, List.getElem?_cons_succ] at q0 q1 q2 q3
    by_cases hlt : m < n
    · have i1 : (m : Int) < (n : Int) := by omega
      have hok := HOK.out m
      rw [hi2.out] at hok
      have HOM := Lib.hid hok
      obtain ⟨a', b', c', d', hst⟩ : ∃ a' b' c' d', stepW ⟨W, H, B⟩ ⟨a, b, c, d⟩ = ⟨a', b', c', d'⟩ := ⟨_, _, _, _, rfl⟩
      have HST := Lib.hid hst
      have HI3 : Hid (it (stepW ⟨W, H, B⟩) (m + 1) ⟨x, y, dx, dy⟩ = ⟨a', b', c', d'⟩) := Lib.hid (by show stepW _ (it _ m _) = _; rw [hi2.out, hst])
      clear hok hst
      go_wp2_with fail
      refine (l03Step_any bp hv.1 HP.out HOM.out HST.out).mono ?_
      rintro e w3 ⟨rfl, hb3⟩
      have sz3 := hb3.size
      replace bp := bp.below hb3
      replace hv := hv.below hb3
      replace bw := bw.below hb3
      replace br := br.below hb3
      replace bl := bnext bl hb3
      clear hb3 q0 q1 q2 q3 qf0 qf1 qf2 qf3 qn
      have q0 := bw.cell 0
      have q1 := bw.cell 1
      have q2 := bw.cell 2
      have q3 := bw.cell 3
      have qf0 := bw.free 0
      have qf1 := bw.free 1
      have qf2 := bw.free 2
      have qf3 := bw.free 3
      have qn := bw.lt
      simp only [List.getElem?_toArray, List.getElem?_cons_zero, List.getElem?_cons_succ] at q0 q1 q2 q3
      have bq := ((((bw.set_ 0 (.int .i64 a')).set_ 1 (.int .i64 b')).set_ 2 (.int .i64 c')).set_ 3 (.int .i64 d'))
      replace bq : Box ((((w3.setCell ⟨w.heap.size + 1, 0, none⟩ (.int .i64 a')).setCell ⟨w.heap.size + 1, 1, none⟩ (.int .i64 b')).setCell ⟨w.heap.size + 1, 2, none⟩ (.int .i64 c')).setCell ⟨w.heap.size + 1, 3, none⟩ (.int .i64 d')) (w.heap.size + 1) 38 #[.int .i64 a', .int .i64 b', .int .i64 c', .int .i64 d'] := by simpa using bq
      have bp4 := ((((bp.far (p := ⟨w.heap.size + 1, 0, none⟩) (by show w.heap.size ≠ w.heap.size + 1; omega) (.int .i64 a')).far (p := ⟨w.heap.size + 1, 1, none⟩) (by show w.heap.size ≠ w.heap.size + 1; omega) (.int .i64 b')).far (p := ⟨w.heap.size + 1, 2, none⟩) (by show w.heap.size ≠ w.heap.size + 1; omega) (.int .i64 c')).far (p := ⟨w.heap.size + 1, 3, none⟩) (by show w.heap.size ≠ w.heap.size + 1; omega) (.int .i64 d'))
      have br4 := ((((br.far (p := ⟨w.heap.size + 1, 0, none⟩) (by show w.heap.size + 1 + 1 ≠ w.heap.size + 1; omega) (.int .i64 a')).far (p := ⟨w.heap.size + 1, 1, none⟩) (by show w.heap.size + 1 + 1 ≠ w.heap.size + 1; omega) (.int .i64 b')).far (p := ⟨w.heap.size + 1, 2, none⟩) (by show w.heap.size + 1 + 1 ≠ w.heap.size + 1; omega) (.int .i64 c')).far (p := ⟨w.heap.size + 1, 3, none⟩) (by show w.heap.size + 1 + 1 ≠ w.heap.size + 1; omega) (.int .i64 d'))
      have bl4 := ((((bl.setCell (p := ⟨w.heap.size + 1, 0, none⟩) (by show w.heap.size ≤ w.heap.size + 1; omega) (.int .i64 a')).setCell (p := ⟨w.heap.size + 1, 1, none⟩) (by show w.heap.size ≤ w.heap.size + 1; omega) (.int .i64 b')).setCell (p := ⟨w.heap.size + 1, 2, none⟩) (by show w.heap.size ≤ w.heap.size + 1; omega) (.int .i64 c')).setCell (p := ⟨w.heap.size + 1, 3, none⟩) (by show w.heap.size ≤ w.heap.size + 1; omega) (.int .i64 d'))
      have hv4 : IntsIn ((((w3.setCell ⟨w.heap.size + 1, 0, none⟩ (.int .i64 a')).setCell ⟨w.heap.size + 1, 1, none⟩ (.int .i64 b')).setCell ⟨w.heap.size + 1, 2, none⟩ (.int .i64 c')).setCell ⟨w.heap.size + 1, 3, none⟩ (.int .i64 d')) lo hi (.slice A B.length cA) B := HV4.out _ () bl4
      have hs4 : w2.heap.size ≤ ((((w3.setCell ⟨w.heap.size + 1, 0, none⟩ (.int .i64 a')).setCell ⟨w.heap.size + 1, 1, none⟩ (.int .i64 b')).setCell ⟨w.heap.size + 1, 2, none⟩ (.int .i64 c')).setCell ⟨w.heap.size + 1, 3, none⟩ (.int .i64 d')).heap.size := by simp [World.setCell]; omega
      clear bp hv bw br bl hi2
      go_wp2
      go_roundw
      case rel => exact ⟨m + 1, a', b', c', d', by omega, by go_num, HI3, bp4, hv4, bq, br4, bl4, hs4⟩
      case measure => simp [intOf]; omega
    · have e : m = n := by omega
      subst e
      obtain rfl : ⟨a, b, c, d⟩ = k := by rw [← HR.out, hi2.out]
      have r0 := br.cell 0
      have r1 := br.cell 1
      have r2 := br.cell 2
      have r3 := br.cell 3
      have rf0 := br.free 0
      have rf1 := br.free 1
      have rf2 := br.free 2
      have rf3 := br.free 3
      have rn := br.lt
      simp only [List.getElem?_toArray, List.getElem?_cons_zero, List.getElem?_cons_succ] at r0 r1 r2 r3
      clear hi2
      go_wp2
      refine bodyPost_ret (v := .tuple #[.agg #[.int .i64 a, .int .i64 b, .int .i64 c, .int .i64 d], .int .i64 0]) (by simp [results, Try.results48, go_sem, r0, r1, r2, r3, rf0, rf1, rf2, rf3, rn]) rfl ⟨rfl, ?_⟩
      exact (((bl.setCell (p := ⟨w.heap.size + 1 + 1, 0, none⟩) (by show w.heap.size ≤ w.heap.size + 1 + 1; omega) _).setCell (p := ⟨w.heap.size + 1 + 1, 1, none⟩) (by show w.heap.size ≤ w.heap.size + 1 + 1; omega) _).setCell (p := ⟨w.heap.size + 1 + 1, 2, none⟩) (by show w.heap.size ≤ w.heap.size + 1 + 1; omega) _).setCell (p := ⟨w.heap.size + 1 + 1, 3, none⟩) (by show w.heap.size ≤ w.heap.size + 1 + 1; omega) _
end Go.Proofs.Ytcjjkiajgkicnaa
