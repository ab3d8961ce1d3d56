/-
  The pairs at a point, put into a row in order; those at all points with an X; by the reference.
-/
import Derived.Test.YtnldahadldolpaaPut
import Derived.Test.YtnldahadldolpaaPairs
import Derived.Deep.RegionHeld3
namespace Go.Proofs.Ytnldahadldolpaa
open Go.RowKit Knot

/-- A row of pairs with one more. -/
theorem put_row {w w' : World} {B B' C : Nat} {l : List Pr} {x : Pr} {v v' : Value} (hl : PrsRow w B v l) (hx : PrOk w C x) (hC : B ≤ C) (hb : Below w.heap.size w w') (hr : Row Pr.enc 22 w' B' v' (putK gtR l x)) (hB : B ≤ B') : PrsRow w' B v' (putK gtR l x) :=
  ⟨Row.le hr hB, fun y hy => by
    rcases List.mem_cons.1 ((putK_perm gtR l x).mem_iff.1 hy) with h | h
    · rw [h]; exact (hx.below hb).le hC
    · exact (hl.2 y h).below hb⟩
theorem put_val (l : List Pr) (x : Pr) : (putK gtR l x).map Pr.val = putK gtQ (l.map Pr.val) x.val := putK_map gtR gtQ Pr.val (fun _ _ => rfl) l x
theorem prok_low {V w w' : World} {B : Nat} {x : Pr} (h : Below V.heap.size V w) (hB : B ≤ V.heap.size) (hx : PrOk w' w.heap.size x) : PrOk w' B x := hx.le (Nat.le_trans hB h.size)
theorem bdd {V : World} : Below V.heap.size V V.drew.drew := (below_drewN _ V 1).trans (below_drewN _ V.drew 1)
theorem l08Put_at {w : World} {B C g c n : Nat} {l : List Pr} {x : Pr} (hl : PrsRow w B (.slice (some ⟨g, 0, none⟩) n c) l) (hln : l.length = n) (hx : PrOk w C x) (hn : n ≤ 1000) :
    Calls Try.prog 107 #[.slice (some ⟨g, 0, none⟩) n c, .slice (some ⟨x.g, 0, none⟩) 2 x.c] w fun e w' => ∃ g' c', e = .returned (.slice (some ⟨g', 0, none⟩) (n + 1) c') ∧ Row Pr.enc 22 w' w.heap.size (.slice (some ⟨g', 0, none⟩) (n + 1) c') (putK gtR l x) ∧ Below w.heap.size w w' := by
  subst hln
  exact l08Put_any hl hx hn
set_option maxHeartbeats 2000000 in
theorem l08Segment_any {w : World} {b : Nat} {W H x y dx dy r : Int} {v : Value} {B : List Int} (ba : Box w b 41 #[.int .i64 W, .int .i64 H, v]) (hW : 1 ≤ W ∧ W ≤ 8) (hH : 1 ≤ H ∧ H ≤ 8) (hk : OkW ⟨W, H, B⟩ ⟨x, y, dx, dy⟩) (hr : sg ⟨W, H, B⟩ x y dx dy = r) :
    Calls Try.prog 109 #[.pointer (some ⟨b, 0, none⟩), .agg #[.int .i64 x, .int .i64 y], .int .i64 dx, .int .i64 dy] w fun e w' => e = .returned (.int .i64 r) ∧ Below w.heap.size w w' := by
  have HR := Lib.hid hr
  have HK := Lib.hid hk
  have HW := Lib.hid hW
  have HH := Lib.hid hH
  have bl := Joins.below_alloc1 w (.cells #[.int .i64 x, .int .i64 y] 108)
  have ba2 := ba.alloc (.cells #[.int .i64 x, .int .i64 y] 108)
  clear hr hk hW hH ba
  go_enter Try.func109, Try.ntmps109
  go_wp2_with fail
  refine (l03Segment_any (by first | exact ba2 | assumption) HW.out HH.out HK.out HR.out).mono ?_
  rintro e w2 ⟨rfl, hb⟩
  go_wp2_with fail
  go_ret
  exact ⟨rfl, by first | exact hb | exact bnext bl hb⟩
set_option maxRecDepth 20000 in
set_option maxHeartbeats 16000000 in
theorem l08At_any {w : World} {b B g c : Nat} {W H x y : Int} {v : Value} {D : Nat} {Bs : List Int} {l : List Pr} (ba : Box w b 41 #[.int .i64 W, .int .i64 H, v]) (hI : Ints w D v Bs) (hp : Ok ⟨W, H, Bs⟩) (hh : Has ⟨W, H, Bs⟩ x y) (hl : PrsRow w B (.slice (some ⟨g, 0, none⟩) l.length c) l) (hn : l.length ≤ 900) :
    Calls Try.prog 99 #[.pointer (some ⟨b, 0, none⟩), .agg #[.int .i64 x, .int .i64 y], .slice (some ⟨g, 0, none⟩) l.length c] w fun e w' => ∃ g' c' l', e = .returned (.slice (some ⟨g', 0, none⟩) l'.length c') ∧ PrsRow w' B (.slice (some ⟨g', 0, none⟩) l'.length c') l' ∧
      l'.map Pr.val = putAll (l.map Pr.val) (pairsP ⟨W, H, Bs⟩ x y) ∧ Below w.heap.size w w' := by
  have hW : 1 ≤ W ∧ W ≤ 8 := ⟨hp.w1, hp.w8⟩
  have hH : 1 ≤ H ∧ H ≤ 8 := ⟨hp.h1, hp.h8⟩
  have hBg := (Row.lt hl.1 (g := g) rfl)
  have hBw : B ≤ w.heap.size := by omega
  have bl := Joins.below_alloc1 w (.cells #[.int .i64 x, .int .i64 y] 108)
  have bb := Box.new w 108 #[.int .i64 x, .int .i64 y]
  replace ba := ba.below bl
  replace hI := Row.below hI bl
  replace hl := hl.below bl
  have HP := Lib.hid hp
  have HW := Lib.hid hW
  have HH := Lib.hid hH
  have HHA := Lib.hid hh
  obtain ⟨hW1, hW8⟩ := hW
  obtain ⟨hH1, hH8⟩ := hH
  obtain ⟨x0, x1, y0, y1, hpar⟩ := hh
  simp only [] at x1 y1
  clear hp
  have hV : w.heap.size + 1 = (w.alloc (.cells #[.int .i64 x, .int .i64 y] 108)).heap.size := by simp
  obtain ⟨pr, hpr⟩ : ∃ pr, pairsP ⟨W, H, Bs⟩ x y = pr := ⟨_, rfl⟩
  rw [hpr]
  have HPR := Lib.hid hpr
  have hBg0 := hBg.1
  clear hpr hBg hV
  go_enter Try.func99, Try.ntmps99
  by_cases c1 : x = 0
  · skip
    have e0 : (x == 0) = true := by simp [c1]
    have O1 : Hid (OkW ⟨W, H, Bs⟩ ⟨x, y, 1, (-1)⟩) := Lib.hid (okW_mk (.inl rfl) (.inr rfl) ⟨x0, x1, y0, y1, hpar⟩ ⟨by first | omega | (simp only []; omega), by first | omega | (simp only []; omega), by first | omega | (simp only []; omega), by first | omega | (simp only []; omega), by first | omega | (simp only []; omega)⟩)
    have O2 : Hid (OkW ⟨W, H, Bs⟩ ⟨x, y, 1, 1⟩) := Lib.hid (okW_mk (.inl rfl) (.inl rfl) ⟨x0, x1, y0, y1, hpar⟩ ⟨by first | omega | (simp only []; omega), by first | omega | (simp only []; omega), by first | omega | (simp only []; omega), by first | omega | (simp only []; omega), by first | omega | (simp only []; omega)⟩)
    obtain ⟨r1, hr1⟩ : ∃ r, sg ⟨W, H, Bs⟩ x y 1 (-1) = r := ⟨_, rfl⟩
    obtain ⟨r2, hr2⟩ : ∃ r, sg ⟨W, H, Bs⟩ x y 1 1 = r := ⟨_, rfl⟩
    have S1 := Lib.hid hr1
    have S2 := Lib.hid hr2
    have HP1 : Hid (pr = [(r1, r2)]) := Lib.hid (by rw [← HPR.out]; unfold pairsP; simp only []; rw [if_pos c1]; rw [hr1, hr2])
    have HNL : Hid (l.length ≤ 1000) := Lib.hid (by omega)
    clear hr1 hr2
    have q0 := ba.cell 0
    have q1 := ba.cell 1
    have q2 := ba.cell 2
    have qn := ba.lt
    have p0 := bb.cell 0
    have p1 := bb.cell 1
    have pn := bb.lt
    simp only [List.getElem?_toArray, List.getElem?_cons_zero, List.getElem?_cons_succ] at q0 q1 q2 p0 p1
    have KC : Hid (∀ w', Below (w.alloc (.cells #[.int .i64 x, .int .i64 y] 108)).heap.size (w.alloc (.cells #[.int .i64 x, .int .i64 y] 108)) w' → Box w' b 41 #[.int .i64 W, .int .i64 H, v] ∧ PrsRow w' B (.slice (some ⟨g, 0, none⟩) l.length c) l ∧ Box w' w.heap.size 108 #[.int .i64 x, .int .i64 y]) := Lib.hid (fun w' hb => ⟨ba.below hb, hl.below hb, bb.below hb⟩)
    clear ba bb hI hl
    clear c1
    go_wp2
    clear q0 q1 q2 qn p0 p1 pn
    generalize hV0 : w.alloc (.cells #[.int .i64 x, .int .i64 y] 108) = V0 at *
    have hVs : V0.heap.size = w.heap.size + 1 := by rw [← hV0]; simp
    have hBV : B ≤ V0.heap.size := by omega
    clear hV0 hVs
    generalize hVV : V0 = V
    have HBV : Hid (Below V0.heap.size V0 V) := Lib.hid (by rw [← hVV]; exact Below.refl _ _)
    clear hVV
    have HBB : Hid (B ≤ V.heap.size) := Lib.hid (by have := HBV.out.size; omega)
    have KB : Hid (∀ w', Below V.heap.size V w' → Box w' b 41 #[.int .i64 W, .int .i64 H, v] ∧ PrsRow w' B (.slice (some ⟨g, 0, none⟩) l.length c) l) := Lib.hid (fun w' hb => let h := KC.out w' (bnext HBV.out hb); ⟨h.1, h.2.1⟩)
    have KS : Hid (∀ w', Below V.heap.size V w' → (Below V.heap.size V w' ∧ w'.cell? ⟨w.heap.size, 0, none⟩ = some (.int .i64 x) ∧ w'.cell? ⟨w.heap.size, 1, none⟩ = some (.int .i64 y))) := Lib.hid (fun w' hb => let h := (KC.out w' (bnext HBV.out hb)).2.2; ⟨hb, h.cell 0, h.cell 1⟩)
    have pb := (KC.out V HBV.out).2.2
    have p0 := pb.cell 0
    have p1 := pb.cell 1
    have pn := pb.lt
    simp only [List.getElem?_toArray, List.getElem?_cons_zero, List.getElem?_cons_succ] at p0 p1
    clear pb
    go_region_held3 (fun w' => Below V.heap.size V w' ∧ w'.cell? ⟨w.heap.size, 0, none⟩ = some (.int .i64 x) ∧ w'.cell? ⟨w.heap.size, 1, none⟩ = some (.int .i64 y))
      ((refine KS.out _ ?_; first | exact cut_drew | exact hBn))
      ((first
        | (go_at_call 109; go_split_ands; (first | (with_reducible refine (l08Segment_any (KB.out _ (by assumption)).1 HW.out HH.out O1.out S1.out).mono ?_) | (with_reducible refine (l08Segment_any (KB.out _ (by assumption)).1 HW.out HH.out O2.out S2.out).mono ?_)); rintro e w7 ⟨rfl, hb7⟩; have hBn := bnext (w := V) (by assumption) hb7)
        | (go_at_call 108; go_split_ands; (with_reducible refine l08Pair_any.mono ?_); rintro e w7 ⟨xp, rfl, hx7, hv7, hb7⟩; have hx8 := prok_low (V := V) (hx := hx7) (by assumption) HBB.out; have hBn := bnext (w := V) (by assumption) hb7)
        | (go_at_call 107; go_split_ands; (with_reducible refine (l08Put_any (KB.out _ (by assumption)).2 hx7 HNL.out).mono ?_); rintro e w8 ⟨g8, c8, rfl, hr8, hb8⟩; have hl8 := (KB.out _ (by assumption)).2; have hBn := bnext (w := V) (by assumption) hb8)))
    all_goals
      go_split_ands
      have hsz7 : B ≤ w7.heap.size := by have := (Row.lt hl8.1 (g := g) rfl); omega
      have hfin := put_row hl8 hx8 (Nat.le_refl _) hb8 hr8 hsz7
      have hpl := putK_len gtR l xp
      have hvf : (putK gtR l xp).map Pr.val = putAll (l.map Pr.val) pr := by rw [put_val, hv7, HP1.out]; rfl
      have blf := bnext (bnext bl HBV.out) hBn
      clear hr8 hl8 hb8 hx7 hx8 hv7 hb7 hBn KB KS KC p0 p1 pn
      go_wp2
      go_ret
      exact ⟨g8, c8, putK gtR l xp, by rw [hpl]; rfl, by rw [hpl]; exact hfin, hvf, blf⟩
  by_cases c2 : x = 2 * W
  · skip
    have e0 : (x == 0) = false := by simp [c1]
    have e1 : (x == 2 * W) = true := by simp [c2]
    have O1 : Hid (OkW ⟨W, H, Bs⟩ ⟨x, y, (-1), (-1)⟩) := Lib.hid (okW_mk (.inr rfl) (.inr rfl) ⟨x0, x1, y0, y1, hpar⟩ ⟨by first | omega | (simp only []; omega), by first | omega | (simp only []; omega), by first | omega | (simp only []; omega), by first | omega | (simp only []; omega), by first | omega | (simp only []; omega)⟩)
    have O2 : Hid (OkW ⟨W, H, Bs⟩ ⟨x, y, (-1), 1⟩) := Lib.hid (okW_mk (.inr rfl) (.inl rfl) ⟨x0, x1, y0, y1, hpar⟩ ⟨by first | omega | (simp only []; omega), by first | omega | (simp only []; omega), by first | omega | (simp only []; omega), by first | omega | (simp only []; omega), by first | omega | (simp only []; omega)⟩)
    obtain ⟨r1, hr1⟩ : ∃ r, sg ⟨W, H, Bs⟩ x y (-1) (-1) = r := ⟨_, rfl⟩
    obtain ⟨r2, hr2⟩ : ∃ r, sg ⟨W, H, Bs⟩ x y (-1) 1 = r := ⟨_, rfl⟩
    have S1 := Lib.hid hr1
    have S2 := Lib.hid hr2
    have HP1 : Hid (pr = [(r1, r2)]) := Lib.hid (by rw [← HPR.out]; unfold pairsP; simp only []; rw [if_neg c1, if_pos c2]; rw [hr1, hr2])
    have HNL : Hid (l.length ≤ 1000) := Lib.hid (by omega)
    clear hr1 hr2
    have q0 := ba.cell 0
    have q1 := ba.cell 1
    have q2 := ba.cell 2
    have qn := ba.lt
    have p0 := bb.cell 0
    have p1 := bb.cell 1
    have pn := bb.lt
    simp only [List.getElem?_toArray, List.getElem?_cons_zero, List.getElem?_cons_succ] at q0 q1 q2 p0 p1
    have KC : Hid (∀ w', Below (w.alloc (.cells #[.int .i64 x, .int .i64 y] 108)).heap.size (w.alloc (.cells #[.int .i64 x, .int .i64 y] 108)) w' → Box w' b 41 #[.int .i64 W, .int .i64 H, v] ∧ PrsRow w' B (.slice (some ⟨g, 0, none⟩) l.length c) l ∧ Box w' w.heap.size 108 #[.int .i64 x, .int .i64 y]) := Lib.hid (fun w' hb => ⟨ba.below hb, hl.below hb, bb.below hb⟩)
    clear ba bb hI hl
    clear c1 c2
    go_wp2
    generalize hV0 : w.alloc (.cells #[.int .i64 x, .int .i64 y] 108) = V0 at *
    have hVs : V0.heap.size = w.heap.size + 1 := by rw [← hV0]; simp
    have hBV : B ≤ V0.heap.size := by omega
    clear hV0 hVs
    go_region
    go_wp2
    clear q0 q1 q2 qn p0 p1 pn
    generalize hVV : V0.drew = V
    have HBV : Hid (Below V0.heap.size V0 V) := Lib.hid (by rw [← hVV]; exact below_drewN _ _ 1)
    clear hVV
    have HBB : Hid (B ≤ V.heap.size) := Lib.hid (by have := HBV.out.size; omega)
    have KB : Hid (∀ w', Below V.heap.size V w' → Box w' b 41 #[.int .i64 W, .int .i64 H, v] ∧ PrsRow w' B (.slice (some ⟨g, 0, none⟩) l.length c) l) := Lib.hid (fun w' hb => let h := KC.out w' (bnext HBV.out hb); ⟨h.1, h.2.1⟩)
    have KS : Hid (∀ w', Below V.heap.size V w' → (Below V.heap.size V w' ∧ w'.cell? ⟨w.heap.size, 0, none⟩ = some (.int .i64 x) ∧ w'.cell? ⟨w.heap.size, 1, none⟩ = some (.int .i64 y))) := Lib.hid (fun w' hb => let h := (KC.out w' (bnext HBV.out hb)).2.2; ⟨hb, h.cell 0, h.cell 1⟩)
    have pb := (KC.out V HBV.out).2.2
    have p0 := pb.cell 0
    have p1 := pb.cell 1
    have pn := pb.lt
    simp only [List.getElem?_toArray, List.getElem?_cons_zero, List.getElem?_cons_succ] at p0 p1
    clear pb
    go_region_held3 (fun w' => Below V.heap.size V w' ∧ w'.cell? ⟨w.heap.size, 0, none⟩ = some (.int .i64 x) ∧ w'.cell? ⟨w.heap.size, 1, none⟩ = some (.int .i64 y))
      ((refine KS.out _ ?_; first | exact cut_drew | exact hBn))
      ((first
        | (go_at_call 109; go_split_ands; (first | (with_reducible refine (l08Segment_any (KB.out _ (by assumption)).1 HW.out HH.out O1.out S1.out).mono ?_) | (with_reducible refine (l08Segment_any (KB.out _ (by assumption)).1 HW.out HH.out O2.out S2.out).mono ?_)); rintro e w7 ⟨rfl, hb7⟩; have hBn := bnext (w := V) (by assumption) hb7)
        | (go_at_call 108; go_split_ands; (with_reducible refine l08Pair_any.mono ?_); rintro e w7 ⟨xp, rfl, hx7, hv7, hb7⟩; have hx8 := prok_low (V := V) (hx := hx7) (by assumption) HBB.out; have hBn := bnext (w := V) (by assumption) hb7)
        | (go_at_call 107; go_split_ands; (with_reducible refine (l08Put_any (KB.out _ (by assumption)).2 hx7 HNL.out).mono ?_); rintro e w8 ⟨g8, c8, rfl, hr8, hb8⟩; have hl8 := (KB.out _ (by assumption)).2; have hBn := bnext (w := V) (by assumption) hb8)))
    all_goals
      go_split_ands
      have hsz7 : B ≤ w7.heap.size := by have := (Row.lt hl8.1 (g := g) rfl); omega
      have hfin := put_row hl8 hx8 (Nat.le_refl _) hb8 hr8 hsz7
      have hpl := putK_len gtR l xp
      have hvf : (putK gtR l xp).map Pr.val = putAll (l.map Pr.val) pr := by rw [put_val, hv7, HP1.out]; rfl
      have blf := bnext (bnext bl HBV.out) hBn
      clear hr8 hl8 hb8 hx7 hx8 hv7 hb7 hBn KB KS KC p0 p1 pn
      go_wp2
      go_ret
      exact ⟨g8, c8, putK gtR l xp, by rw [hpl]; rfl, by rw [hpl]; exact hfin, hvf, blf⟩
  by_cases c3 : y = 0
  · skip
    have e0 : (x == 0) = false := by simp [c1]
    have e1 : (x == 2 * W) = false := by simp [c2]
    have e2 : (y == 0) = true := by simp [c3]
    have O1 : Hid (OkW ⟨W, H, Bs⟩ ⟨x, y, (-1), 1⟩) := Lib.hid (okW_mk (.inr rfl) (.inl rfl) ⟨x0, x1, y0, y1, hpar⟩ ⟨by first | omega | (simp only []; omega), by first | omega | (simp only []; omega), by first | omega | (simp only []; omega), by first | omega | (simp only []; omega), by first | omega | (simp only []; omega)⟩)
    have O2 : Hid (OkW ⟨W, H, Bs⟩ ⟨x, y, 1, 1⟩) := Lib.hid (okW_mk (.inl rfl) (.inl rfl) ⟨x0, x1, y0, y1, hpar⟩ ⟨by first | omega | (simp only []; omega), by first | omega | (simp only []; omega), by first | omega | (simp only []; omega), by first | omega | (simp only []; omega), by first | omega | (simp only []; omega)⟩)
    obtain ⟨r1, hr1⟩ : ∃ r, sg ⟨W, H, Bs⟩ x y (-1) 1 = r := ⟨_, rfl⟩
    obtain ⟨r2, hr2⟩ : ∃ r, sg ⟨W, H, Bs⟩ x y 1 1 = r := ⟨_, rfl⟩
    have S1 := Lib.hid hr1
    have S2 := Lib.hid hr2
    have HP1 : Hid (pr = [(r1, r2)]) := Lib.hid (by rw [← HPR.out]; unfold pairsP; simp only []; rw [if_neg c1, if_neg c2, if_pos c3]; rw [hr1, hr2])
    have HNL : Hid (l.length ≤ 1000) := Lib.hid (by omega)
    clear hr1 hr2
    have q0 := ba.cell 0
    have q1 := ba.cell 1
    have q2 := ba.cell 2
    have qn := ba.lt
    have p0 := bb.cell 0
    have p1 := bb.cell 1
    have pn := bb.lt
    simp only [List.getElem?_toArray, List.getElem?_cons_zero, List.getElem?_cons_succ] at q0 q1 q2 p0 p1
    have KC : Hid (∀ w', Below (w.alloc (.cells #[.int .i64 x, .int .i64 y] 108)).heap.size (w.alloc (.cells #[.int .i64 x, .int .i64 y] 108)) w' → Box w' b 41 #[.int .i64 W, .int .i64 H, v] ∧ PrsRow w' B (.slice (some ⟨g, 0, none⟩) l.length c) l ∧ Box w' w.heap.size 108 #[.int .i64 x, .int .i64 y]) := Lib.hid (fun w' hb => ⟨ba.below hb, hl.below hb, bb.below hb⟩)
    clear ba bb hI hl
    clear c1 c2 c3
    go_wp2
    generalize hV0 : w.alloc (.cells #[.int .i64 x, .int .i64 y] 108) = V0 at *
    have hVs : V0.heap.size = w.heap.size + 1 := by rw [← hV0]; simp
    have hBV : B ≤ V0.heap.size := by omega
    clear hV0 hVs
    go_region
    go_wp2
    clear q0 q1 q2 qn p0 p1 pn
    generalize hVV : V0.drew = V
    have HBV : Hid (Below V0.heap.size V0 V) := Lib.hid (by rw [← hVV]; exact below_drewN _ _ 1)
    clear hVV
    have HBB : Hid (B ≤ V.heap.size) := Lib.hid (by have := HBV.out.size; omega)
    have KB : Hid (∀ w', Below V.heap.size V w' → Box w' b 41 #[.int .i64 W, .int .i64 H, v] ∧ PrsRow w' B (.slice (some ⟨g, 0, none⟩) l.length c) l) := Lib.hid (fun w' hb => let h := KC.out w' (bnext HBV.out hb); ⟨h.1, h.2.1⟩)
    have KS : Hid (∀ w', Below V.heap.size V w' → (Below V.heap.size V w' ∧ w'.cell? ⟨w.heap.size, 0, none⟩ = some (.int .i64 x) ∧ w'.cell? ⟨w.heap.size, 1, none⟩ = some (.int .i64 y))) := Lib.hid (fun w' hb => let h := (KC.out w' (bnext HBV.out hb)).2.2; ⟨hb, h.cell 0, h.cell 1⟩)
    have pb := (KC.out V HBV.out).2.2
    have p0 := pb.cell 0
    have p1 := pb.cell 1
    have pn := pb.lt
    simp only [List.getElem?_toArray, List.getElem?_cons_zero, List.getElem?_cons_succ] at p0 p1
    clear pb
    go_region_held3 (fun w' => Below V.heap.size V w' ∧ w'.cell? ⟨w.heap.size, 0, none⟩ = some (.int .i64 x) ∧ w'.cell? ⟨w.heap.size, 1, none⟩ = some (.int .i64 y))
      ((refine KS.out _ ?_; first | exact cut_drew | exact hBn))
      ((first
        | (go_at_call 109; go_split_ands; (first | (with_reducible refine (l08Segment_any (KB.out _ (by assumption)).1 HW.out HH.out O1.out S1.out).mono ?_) | (with_reducible refine (l08Segment_any (KB.out _ (by assumption)).1 HW.out HH.out O2.out S2.out).mono ?_)); rintro e w7 ⟨rfl, hb7⟩; have hBn := bnext (w := V) (by assumption) hb7)
        | (go_at_call 108; go_split_ands; (with_reducible refine l08Pair_any.mono ?_); rintro e w7 ⟨xp, rfl, hx7, hv7, hb7⟩; have hx8 := prok_low (V := V) (hx := hx7) (by assumption) HBB.out; have hBn := bnext (w := V) (by assumption) hb7)
        | (go_at_call 107; go_split_ands; (with_reducible refine (l08Put_any (KB.out _ (by assumption)).2 hx7 HNL.out).mono ?_); rintro e w8 ⟨g8, c8, rfl, hr8, hb8⟩; have hl8 := (KB.out _ (by assumption)).2; have hBn := bnext (w := V) (by assumption) hb8)))
    all_goals
      go_split_ands
      have hsz7 : B ≤ w7.heap.size := by have := (Row.lt hl8.1 (g := g) rfl); omega
      have hfin := put_row hl8 hx8 (Nat.le_refl _) hb8 hr8 hsz7
      have hpl := putK_len gtR l xp
      have hvf : (putK gtR l xp).map Pr.val = putAll (l.map Pr.val) pr := by rw [put_val, hv7, HP1.out]; rfl
      have blf := bnext (bnext bl HBV.out) hBn
      clear hr8 hl8 hb8 hx7 hx8 hv7 hb7 hBn KB KS KC p0 p1 pn
      go_wp2
      go_ret
      exact ⟨g8, c8, putK gtR l xp, by rw [hpl]; rfl, by rw [hpl]; exact hfin, hvf, blf⟩
  by_cases c4 : y = 2 * H
  · skip
    have e0 : (x == 0) = false := by simp [c1]
    have e1 : (x == 2 * W) = false := by simp [c2]
    have e2 : (y == 0) = false := by simp [c3]
    have e3 : (y == 2 * H) = true := by simp [c4]
    have O1 : Hid (OkW ⟨W, H, Bs⟩ ⟨x, y, (-1), (-1)⟩) := Lib.hid (okW_mk (.inr rfl) (.inr rfl) ⟨x0, x1, y0, y1, hpar⟩ ⟨by first | omega | (simp only []; omega), by first | omega | (simp only []; omega), by first | omega | (simp only []; omega), by first | omega | (simp only []; omega), by first | omega | (simp only []; omega)⟩)
    have O2 : Hid (OkW ⟨W, H, Bs⟩ ⟨x, y, 1, (-1)⟩) := Lib.hid (okW_mk (.inl rfl) (.inr rfl) ⟨x0, x1, y0, y1, hpar⟩ ⟨by first | omega | (simp only []; omega), by first | omega | (simp only []; omega), by first | omega | (simp only []; omega), by first | omega | (simp only []; omega), by first | omega | (simp only []; omega)⟩)
    obtain ⟨r1, hr1⟩ : ∃ r, sg ⟨W, H, Bs⟩ x y (-1) (-1) = r := ⟨_, rfl⟩
    obtain ⟨r2, hr2⟩ : ∃ r, sg ⟨W, H, Bs⟩ x y 1 (-1) = r := ⟨_, rfl⟩
    have S1 := Lib.hid hr1
    have S2 := Lib.hid hr2
    have HP1 : Hid (pr = [(r1, r2)]) := Lib.hid (by rw [← HPR.out]; unfold pairsP; simp only []; rw [if_neg c1, if_neg c2, if_neg c3, if_pos c4]; rw [hr1, hr2])
    have HNL : Hid (l.length ≤ 1000) := Lib.hid (by omega)
    clear hr1 hr2
    have q0 := ba.cell 0
    have q1 := ba.cell 1
    have q2 := ba.cell 2
    have qn := ba.lt
    have p0 := bb.cell 0
    have p1 := bb.cell 1
    have pn := bb.lt
    simp only [List.getElem?_toArray, List.getElem?_cons_zero, List.getElem?_cons_succ] at q0 q1 q2 p0 p1
    have KC : Hid (∀ w', Below (w.alloc (.cells #[.int .i64 x, .int .i64 y] 108)).heap.size (w.alloc (.cells #[.int .i64 x, .int .i64 y] 108)) w' → Box w' b 41 #[.int .i64 W, .int .i64 H, v] ∧ PrsRow w' B (.slice (some ⟨g, 0, none⟩) l.length c) l ∧ Box w' w.heap.size 108 #[.int .i64 x, .int .i64 y]) := Lib.hid (fun w' hb => ⟨ba.below hb, hl.below hb, bb.below hb⟩)
    clear ba bb hI hl
    clear c1 c2 c3 c4
    go_wp2
    generalize hV0 : w.alloc (.cells #[.int .i64 x, .int .i64 y] 108) = V0 at *
    have hVs : V0.heap.size = w.heap.size + 1 := by rw [← hV0]; simp
    have hBV : B ≤ V0.heap.size := by omega
    clear hV0 hVs
    go_region
    go_wp2
    go_region
    go_wp2
    clear q0 q1 q2 qn p0 p1 pn
    generalize hVV : V0.drew.drew = V
    have HBV : Hid (Below V0.heap.size V0 V) := Lib.hid (by rw [← hVV]; exact bdd)
    clear hVV
    have HBB : Hid (B ≤ V.heap.size) := Lib.hid (by have := HBV.out.size; omega)
    have KB : Hid (∀ w', Below V.heap.size V w' → Box w' b 41 #[.int .i64 W, .int .i64 H, v] ∧ PrsRow w' B (.slice (some ⟨g, 0, none⟩) l.length c) l) := Lib.hid (fun w' hb => let h := KC.out w' (bnext HBV.out hb); ⟨h.1, h.2.1⟩)
    have KS : Hid (∀ w', Below V.heap.size V w' → (Below V.heap.size V w' ∧ w'.cell? ⟨w.heap.size, 0, none⟩ = some (.int .i64 x) ∧ w'.cell? ⟨w.heap.size, 1, none⟩ = some (.int .i64 y))) := Lib.hid (fun w' hb => let h := (KC.out w' (bnext HBV.out hb)).2.2; ⟨hb, h.cell 0, h.cell 1⟩)
    have pb := (KC.out V HBV.out).2.2
    have p0 := pb.cell 0
    have p1 := pb.cell 1
    have pn := pb.lt
    simp only [List.getElem?_toArray, List.getElem?_cons_zero, List.getElem?_cons_succ] at p0 p1
    clear pb
    go_region_held3 (fun w' => Below V.heap.size V w' ∧ w'.cell? ⟨w.heap.size, 0, none⟩ = some (.int .i64 x) ∧ w'.cell? ⟨w.heap.size, 1, none⟩ = some (.int .i64 y))
      ((refine KS.out _ ?_; first | exact cut_drew | exact hBn))
      ((first
        | (go_at_call 109; go_split_ands; (first | (with_reducible refine (l08Segment_any (KB.out _ (by assumption)).1 HW.out HH.out O1.out S1.out).mono ?_) | (with_reducible refine (l08Segment_any (KB.out _ (by assumption)).1 HW.out HH.out O2.out S2.out).mono ?_)); rintro e w7 ⟨rfl, hb7⟩; have hBn := bnext (w := V) (by assumption) hb7)
        | (go_at_call 108; go_split_ands; (with_reducible refine l08Pair_any.mono ?_); rintro e w7 ⟨xp, rfl, hx7, hv7, hb7⟩; have hx8 := prok_low (V := V) (hx := hx7) (by assumption) HBB.out; have hBn := bnext (w := V) (by assumption) hb7)
        | (go_at_call 107; go_split_ands; (with_reducible refine (l08Put_any (KB.out _ (by assumption)).2 hx7 HNL.out).mono ?_); rintro e w8 ⟨g8, c8, rfl, hr8, hb8⟩; have hl8 := (KB.out _ (by assumption)).2; have hBn := bnext (w := V) (by assumption) hb8)))
    all_goals
      go_split_ands
      have hsz7 : B ≤ w7.heap.size := by have := (Row.lt hl8.1 (g := g) rfl); omega
      have hfin := put_row hl8 hx8 (Nat.le_refl _) hb8 hr8 hsz7
      have hpl := putK_len gtR l xp
      have hvf : (putK gtR l xp).map Pr.val = putAll (l.map Pr.val) pr := by rw [put_val, hv7, HP1.out]; rfl
      have blf := bnext (bnext bl HBV.out) hBn
      clear hr8 hl8 hb8 hx7 hx8 hv7 hb7 hBn KB KS KC p0 p1 pn
      go_wp2
      go_ret
      exact ⟨g8, c8, putK gtR l xp, by rw [hpl]; rfl, by rw [hpl]; exact hfin, hvf, blf⟩
  have he : ¬ Knot.Edge ⟨W, H, Bs⟩ x y := by unfold Knot.Edge; simp only []; omega
  obtain ⟨m0, m1, hx, hy, ho, hm⟩ := num_in HP.out HHA.out he
  have hbk : brk ⟨W, H, Bs⟩ x y = gI Bs (num ⟨W, H, Bs⟩ x y) := by unfold brk; rw [if_neg he]; rfl
  have hkd : gI Bs (num ⟨W, H, Bs⟩ x y) = 0 ∨ gI Bs (num ⟨W, H, Bs⟩ x y) = 1 ∨ gI Bs (num ⟨W, H, Bs⟩ x y) = 2 := by
    have hl : (num ⟨W, H, Bs⟩ x y).toNat < Bs.length := by simp only [] at *; omega
    have e1 : gI Bs (num ⟨W, H, Bs⟩ x y) = Bs[(num ⟨W, H, Bs⟩ x y).toNat] := by simp [gI, List.getD, hl]
    have := HP.out.kind _ (List.getElem_mem hl)
    rw [e1]
    simp only [] at *
    omega
  have hpp : pairsP ⟨W, H, Bs⟩ x y = if gI Bs (num ⟨W, H, Bs⟩ x y) = 1 then [(sg ⟨W, H, Bs⟩ x y (-1) (-1), sg ⟨W, H, Bs⟩ x y (-1) 1), (sg ⟨W, H, Bs⟩ x y 1 (-1), sg ⟨W, H, Bs⟩ x y 1 1)]
      else if gI Bs (num ⟨W, H, Bs⟩ x y) = 2 then [(sg ⟨W, H, Bs⟩ x y (-1) (-1), sg ⟨W, H, Bs⟩ x y 1 (-1)), (sg ⟨W, H, Bs⟩ x y (-1) 1, sg ⟨W, H, Bs⟩ x y 1 1)]
      else [(sg ⟨W, H, Bs⟩ x y (-1) (-1), sg ⟨W, H, Bs⟩ x y 1 1), (sg ⟨W, H, Bs⟩ x y 1 (-1), sg ⟨W, H, Bs⟩ x y (-1) 1)] := by
    unfold pairsP
    rw [if_neg c1, if_neg c2, if_neg c3, if_neg c4, hbk]
  rw [HPR.out] at hpp
  have O1 := Lib.hid (inner_ok HHA.out he (dx := -1) (dy := -1) (.inr rfl) (.inr rfl))
  have O2 := Lib.hid (inner_ok HHA.out he (dx := 1) (dy := -1) (.inl rfl) (.inr rfl))
  have O3 := Lib.hid (inner_ok HHA.out he (dx := -1) (dy := 1) (.inr rfl) (.inl rfl))
  have O4 := Lib.hid (inner_ok HHA.out he (dx := 1) (dy := 1) (.inl rfl) (.inl rfl))
  obtain ⟨r1, hr1⟩ : ∃ r, sg ⟨W, H, Bs⟩ x y (-1) (-1) = r := ⟨_, rfl⟩
  obtain ⟨r2, hr2⟩ : ∃ r, sg ⟨W, H, Bs⟩ x y 1 (-1) = r := ⟨_, rfl⟩
  obtain ⟨r3, hr3⟩ : ∃ r, sg ⟨W, H, Bs⟩ x y (-1) 1 = r := ⟨_, rfl⟩
  obtain ⟨r4, hr4⟩ : ∃ r, sg ⟨W, H, Bs⟩ x y 1 1 = r := ⟨_, rfl⟩
  rw [hr1, hr2, hr3, hr4] at hpp
  have S1 := Lib.hid hr1
  have S2 := Lib.hid hr2
  have S3 := Lib.hid hr3
  have S4 := Lib.hid hr4
  have HXX : Hid (1 ≤ x ∧ x ≤ 16) := Lib.hid hx
  have HYY : Hid (1 ≤ y ∧ y ≤ 16) := Lib.hid hy
  have HOD : Hid ((x + y) % 2 = 1) := Lib.hid ho
  have HPP := Lib.hid hpp
  simp only [] at m1
  generalize num ⟨W, H, Bs⟩ x y = m at *
  have HM : Hid (rowOf W y + (x - 1) / 2 = m) := Lib.hid hm
  obtain ⟨A, cA, rfl, _, hA⟩ := hI.open_
  obtain ⟨gb, rfl, gb0, gb1⟩ := hA (by omega)
  have hn1 : (x == 0) = false := by simp [c1]
  have hn2 : (x == 2 * W) = false := by simp [c2]
  have hn3 : (y == 0) = false := by simp [c3]
  have hn4 : (y == 2 * H) = false := by simp [c4]
  have HKD := Lib.hid hkd
  have q0 := ba.cell 0
  have q1 := ba.cell 1
  have q2 := ba.cell 2
  have qn := ba.lt
  have p0 := bb.cell 0
  have p1 := bb.cell 1
  have pn := bb.lt
  simp only [List.getElem?_toArray, List.getElem?_cons_zero, List.getElem?_cons_succ] at q0 q1 q2 p0 p1
  have KC : Hid (∀ w', Below (w.alloc (.cells #[.int .i64 x, .int .i64 y] 108)).heap.size (w.alloc (.cells #[.int .i64 x, .int .i64 y] 108)) w' → Box w' b 41 #[.int .i64 W, .int .i64 H, .slice (some ⟨gb, 0, none⟩) Bs.length cA] ∧ PrsRow w' B (.slice (some ⟨g, 0, none⟩) l.length c) l ∧ Box w' w.heap.size 108 #[.int .i64 x, .int .i64 y] ∧ Ints w' D (.slice (some ⟨gb, 0, none⟩) Bs.length cA) Bs) := Lib.hid (fun w' hb => ⟨ba.below hb, hl.below hb, bb.below hb, Row.below hI hb⟩)
  clear ba bb hI hl hA he hpp hr1 hr2 hr3 hr4 hx hy ho hm hkd hbk c1 c2 c3 c4 gb1
  go_wp2
  generalize hV0 : w.alloc (.cells #[.int .i64 x, .int .i64 y] 108) = V0 at *
  have hVs : V0.heap.size = w.heap.size + 1 := by rw [← hV0]; simp
  have hBV : B ≤ V0.heap.size := by omega
  clear hV0 hVs
  go_region
  go_wp2
  go_region
  go_wp2_with fail
  generalize hW0 : V0.drew.drew = w0
  have HB0 : Hid (Below V0.heap.size V0 w0) := Lib.hid (by rw [← hW0]; exact bdd)
  clear hW0 q0 q1 q2 qn
  refine (l08Segment_any (KC.out _ HB0.out).1 HW.out HH.out O1.out S1.out).mono ?_
  rintro e w1 ⟨rfl, hb⟩
  have HB1 : Hid (Below V0.heap.size V0 w1) := Lib.hid (bnext HB0.out hb)
  clear hb
  have pb := (KC.out _ HB1.out).2.2.1
  replace p0 := pb.cell 0
  replace p1 := pb.cell 1
  replace pn := pb.lt
  simp only [List.getElem?_toArray, List.getElem?_cons_zero, List.getElem?_cons_succ] at p0 p1
  clear pb
  go_wp2_with fail
  refine (l08Segment_any (KC.out _ HB1.out).1 HW.out HH.out O2.out S2.out).mono ?_
  rintro e w2 ⟨rfl, hb⟩
  have HB2 : Hid (Below V0.heap.size V0 w2) := Lib.hid (bnext HB1.out hb)
  clear hb
  have pb := (KC.out _ HB2.out).2.2.1
  replace p0 := pb.cell 0
  replace p1 := pb.cell 1
  replace pn := pb.lt
  simp only [List.getElem?_toArray, List.getElem?_cons_zero, List.getElem?_cons_succ] at p0 p1
  clear pb
  go_wp2_with fail
  refine (l08Segment_any (KC.out _ HB2.out).1 HW.out HH.out O3.out S3.out).mono ?_
  rintro e w3 ⟨rfl, hb⟩
  have HB3 : Hid (Below V0.heap.size V0 w3) := Lib.hid (bnext HB2.out hb)
  clear hb
  have pb := (KC.out _ HB3.out).2.2.1
  replace p0 := pb.cell 0
  replace p1 := pb.cell 1
  replace pn := pb.lt
  simp only [List.getElem?_toArray, List.getElem?_cons_zero, List.getElem?_cons_succ] at p0 p1
  clear pb
  go_wp2_with fail
  refine (l08Segment_any (KC.out _ HB3.out).1 HW.out HH.out O4.out S4.out).mono ?_
  rintro e w4 ⟨rfl, hb⟩
  have HB4 : Hid (Below V0.heap.size V0 w4) := Lib.hid (bnext HB3.out hb)
  clear hb
  have pb := (KC.out _ HB4.out).2.2.1
  replace p0 := pb.cell 0
  replace p1 := pb.cell 1
  replace pn := pb.lt
  simp only [List.getElem?_toArray, List.getElem?_cons_zero, List.getElem?_cons_succ] at p0 p1
  clear pb
  obtain ⟨ba, hl, bb, hI⟩ := KC.out _ HB4.out
  have q0 := ba.cell 0
  have q1 := ba.cell 1
  have q2 := ba.cell 2
  have qn := ba.lt
  simp only [List.getElem?_toArray, List.getElem?_cons_zero, List.getElem?_cons_succ] at q0 q1 q2
  have cc := Ints.cellI hI (i := m) m0 m1
  have sI := (Row.lt hI (g := gb) rfl).2
  generalize gI Bs m = kd at *
  have KS : Hid (∀ w', Below w4.heap.size w4 w' → (Below w4.heap.size w4 w' ∧ Box w' b 41 #[.int .i64 W, .int .i64 H, .slice (some ⟨gb, 0, none⟩) Bs.length cA] ∧ w'.cell? ⟨b, 2, none⟩ = some (.slice (some ⟨gb, 0, none⟩) Bs.length cA) ∧ w'.cell? ⟨w.heap.size, 0, none⟩ = some (.int .i64 x) ∧ w'.cell? ⟨w.heap.size, 1, none⟩ = some (.int .i64 y) ∧ w'.cell? ⟨gb, m.toNat, none⟩ = some (.int .i64 kd))) := Lib.hid (fun w' hx => ⟨hx, ba.below hx, (ba.below hx).cell 2, (bb.below hx).cell 0, (bb.below hx).cell 1, (hx.cell (p := ⟨gb, m.toNat, none⟩) sI).trans cc⟩)
  clear ba hl bb hI
  go_wp2
  go_region_held3 (fun w' => Below w4.heap.size w4 w' ∧ Box w' b 41 #[.int .i64 W, .int .i64 H, .slice (some ⟨gb, 0, none⟩) Bs.length cA] ∧ w'.cell? ⟨b, 2, none⟩ = some (.slice (some ⟨gb, 0, none⟩) Bs.length cA) ∧ w'.cell? ⟨w.heap.size, 0, none⟩ = some (.int .i64 x) ∧ w'.cell? ⟨w.heap.size, 1, none⟩ = some (.int .i64 y) ∧ w'.cell? ⟨gb, m.toNat, none⟩ = some (.int .i64 kd))
    ((refine KS.out _ ?_; first | exact cut_drew | exact hBn))
    ((go_at_call 110; go_split_ands; (with_reducible refine (l02Number_any (by assumption) HW.out HXX.out HYY.out HM.out).mono ?_); rintro e w7 ⟨rfl, hb7⟩; have hBn := bnext (w := w4) (by assumption) hb7))
  all_goals
    go_split_ands
    have HB7 : Hid (Below V0.heap.size V0 w7) := Lib.hid (bnext HB4.out hBn)
    clear q0 q1 q2 qn p0 p1 pn KS cc hBn hb7
    rcases HKD.out with rfl | rfl | rfl
    · skip
      have HP2 : Hid (pr = [(r1, r4), (r2, r3)]) := Lib.hid (by rw [HPP.out, if_neg (show ¬ (0 : Int) = 1 by decide), if_neg (show ¬ (0 : Int) = 2 by decide)])
      go_wp2_with fail
      refine l08Pair_any.mono ?_
      rintro e wa ⟨xa, rfl, hxa, hva, hba⟩
      have HBa : Hid (Below V0.heap.size V0 wa) := Lib.hid (bnext HB7.out hba)
      have hla := (KC.out _ HBa.out).2.1
      have hxa2 := hxa.le (C := B) (by have := HB7.out.size; omega)
      have hl0 : l.length ≤ 1000 := by omega
      go_wp2_with fail
      refine (l08Put_at hla rfl hxa hl0).mono ?_
      rintro e wb ⟨gc, cc, rfl, hrb, hbb⟩
      have HBb : Hid (Below V0.heap.size V0 wb) := Lib.hid (bnext HBa.out hbb)
      have hlb := put_row hla hxa2 (Nat.le_refl _) hbb hrb (by have := HBa.out.size; omega)
      have hlen := putK_len gtR l xa
      have hvb : (putK gtR l xa).map Pr.val = putK gtQ (l.map Pr.val) (nrm (r1, r4)) := by rw [put_val, hva]
      have HLB := Lib.hid (And.intro hlb (And.intro hlen hvb))
      clear hlb hlen hvb hrb hbb hla hxa hxa2 hva hba
      go_wp2_with fail
      refine l08Pair_any.mono ?_
      rintro e wd ⟨xd, rfl, hxd, hvd, hbd⟩
      have hld := HLB.out.1.below hbd
      have hxd2 := hxd.le (C := B) (by have := HBb.out.size; omega)
      have HBd : Hid (Below V0.heap.size V0 wd) := Lib.hid (bnext HBb.out hbd)
      have hl1 : l.length + 1 ≤ 1000 := by omega
      go_wp2_with fail
      refine (l08Put_at hld HLB.out.2.1 hxd hl1).mono ?_
      rintro e we ⟨ge, ce, rfl, hre, hbe⟩
      have hle := put_row hld hxd2 (Nat.le_refl _) hbe hre (by have := HBd.out.size; omega)
      have hlen := putK_len gtR (putK gtR l xa) xd
      rw [HLB.out.2.1] at hlen
      have hvf : (putK gtR (putK gtR l xa) xd).map Pr.val = putAll (l.map Pr.val) pr := by rw [put_val, HLB.out.2.2, hvd, HP2.out]; rfl
      have blf := bnext (bnext bl HBd.out) hbe
      clear hre hbe hld hxd hxd2 hvd hbd KC
      go_wp2
      go_ret
      exact ⟨ge, ce, putK gtR (putK gtR l xa) xd, by rw [hlen]; rfl, by rw [hlen]; exact hle, hvf, blf⟩
    · skip
      have HP2 : Hid (pr = [(r1, r3), (r2, r4)]) := Lib.hid (by rw [HPP.out, if_pos rfl])
      go_wp2_with fail
      refine l08Pair_any.mono ?_
      rintro e wa ⟨xa, rfl, hxa, hva, hba⟩
      have HBa : Hid (Below V0.heap.size V0 wa) := Lib.hid (bnext HB7.out hba)
      have hla := (KC.out _ HBa.out).2.1
      have hxa2 := hxa.le (C := B) (by have := HB7.out.size; omega)
      have hl0 : l.length ≤ 1000 := by omega
      go_wp2_with fail
      refine (l08Put_at hla rfl hxa hl0).mono ?_
      rintro e wb ⟨gc, cc, rfl, hrb, hbb⟩
      have HBb : Hid (Below V0.heap.size V0 wb) := Lib.hid (bnext HBa.out hbb)
      have hlb := put_row hla hxa2 (Nat.le_refl _) hbb hrb (by have := HBa.out.size; omega)
      have hlen := putK_len gtR l xa
      have hvb : (putK gtR l xa).map Pr.val = putK gtQ (l.map Pr.val) (nrm (r1, r3)) := by rw [put_val, hva]
      have HLB := Lib.hid (And.intro hlb (And.intro hlen hvb))
      clear hlb hlen hvb hrb hbb hla hxa hxa2 hva hba
      go_wp2_with fail
      refine l08Pair_any.mono ?_
      rintro e wd ⟨xd, rfl, hxd, hvd, hbd⟩
      have hld := HLB.out.1.below hbd
      have hxd2 := hxd.le (C := B) (by have := HBb.out.size; omega)
      have HBd : Hid (Below V0.heap.size V0 wd) := Lib.hid (bnext HBb.out hbd)
      have hl1 : l.length + 1 ≤ 1000 := by omega
      go_wp2_with fail
      refine (l08Put_at hld HLB.out.2.1 hxd hl1).mono ?_
      rintro e we ⟨ge, ce, rfl, hre, hbe⟩
      have hle := put_row hld hxd2 (Nat.le_refl _) hbe hre (by have := HBd.out.size; omega)
      have hlen := putK_len gtR (putK gtR l xa) xd
      rw [HLB.out.2.1] at hlen
      have hvf : (putK gtR (putK gtR l xa) xd).map Pr.val = putAll (l.map Pr.val) pr := by rw [put_val, HLB.out.2.2, hvd, HP2.out]; rfl
      have blf := bnext (bnext bl HBd.out) hbe
      clear hre hbe hld hxd hxd2 hvd hbd KC
      go_wp2
      go_ret
      exact ⟨ge, ce, putK gtR (putK gtR l xa) xd, by rw [hlen]; rfl, by rw [hlen]; exact hle, hvf, blf⟩
    · skip
      have HP2 : Hid (pr = [(r1, r2), (r3, r4)]) := Lib.hid (by rw [HPP.out, if_neg (show ¬ (2 : Int) = 1 by decide), if_pos rfl])
      go_wp2_with fail
      refine l08Pair_any.mono ?_
      rintro e wa ⟨xa, rfl, hxa, hva, hba⟩
      have HBa : Hid (Below V0.heap.size V0 wa) := Lib.hid (bnext HB7.out hba)
      have hla := (KC.out _ HBa.out).2.1
      have hxa2 := hxa.le (C := B) (by have := HB7.out.size; omega)
      have hl0 : l.length ≤ 1000 := by omega
      go_wp2_with fail
      refine (l08Put_at hla rfl hxa hl0).mono ?_
      rintro e wb ⟨gc, cc, rfl, hrb, hbb⟩
      have HBb : Hid (Below V0.heap.size V0 wb) := Lib.hid (bnext HBa.out hbb)
      have hlb := put_row hla hxa2 (Nat.le_refl _) hbb hrb (by have := HBa.out.size; omega)
      have hlen := putK_len gtR l xa
      have hvb : (putK gtR l xa).map Pr.val = putK gtQ (l.map Pr.val) (nrm (r1, r2)) := by rw [put_val, hva]
      have HLB := Lib.hid (And.intro hlb (And.intro hlen hvb))
      clear hlb hlen hvb hrb hbb hla hxa hxa2 hva hba
      go_wp2_with fail
      refine l08Pair_any.mono ?_
      rintro e wd ⟨xd, rfl, hxd, hvd, hbd⟩
      have hld := HLB.out.1.below hbd
      have hxd2 := hxd.le (C := B) (by have := HBb.out.size; omega)
      have HBd : Hid (Below V0.heap.size V0 wd) := Lib.hid (bnext HBb.out hbd)
      have hl1 : l.length + 1 ≤ 1000 := by omega
      go_wp2_with fail
      refine (l08Put_at hld HLB.out.2.1 hxd hl1).mono ?_
      rintro e we ⟨ge, ce, rfl, hre, hbe⟩
      have hle := put_row hld hxd2 (Nat.le_refl _) hbe hre (by have := HBd.out.size; omega)
      have hlen := putK_len gtR (putK gtR l xa) xd
      rw [HLB.out.2.1] at hlen
      have hvf : (putK gtR (putK gtR l xa) xd).map Pr.val = putAll (l.map Pr.val) pr := by rw [put_val, HLB.out.2.2, hvd, HP2.out]; rfl
      have blf := bnext (bnext bl HBd.out) hbe
      clear hre hbe hld hxd hxd2 hvd hbd KC
      go_wp2
      go_ret
      exact ⟨ge, ce, putK gtR (putK gtR l xa) xd, by rw [hlen]; rfl, by rw [hlen]; exact hle, hvf, blf⟩
end Go.Proofs.Ytnldahadldolpaa
