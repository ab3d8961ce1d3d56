/-
  MapPanel and SymmetriesOf, by the program and by the reference.
-/
import Derived.Test.YtihfdgnocdphcaaMapC
import Derived.Test.YtihfdgnocdphcaaSamP
import Derived.Test.YtihfdgnocdphcaaAppAt
import Derived.Test.YtihfdgnocdphcaaPlAllD
namespace Go.Proofs.Ytihfdgnocdphcaa
open Go.RowKit Knot

/-- What MapPanel answers; what SymmetriesOf answers. -/
def mpnM (p : Pan) (s : Int) : Int × Int × List Int × Int :=
  if Ok p then if symOk s = true then (mapW p.W p.H s, mapH p.W p.H s, mapTo p.W p.H s p.B p.B.length p.B.length, 0) else (0, 0, [], 2) else (0, 0, [], 1)
def symsM (p : Pan) : List Int × Int := if Ok p then (symsTo p 8, 0) else ([], 1)
theorem IntsIn.b {w : World} {lo hi : Nat} {v : Value} {xs : List Int} (h : IntsIn w lo hi v xs) : Ints w 0 v xs := h.ints
set_option maxHeartbeats 4000000 in
theorem K_impl_MapPanel {w : World} {lo hi : Nat} {x y s px py r : Int} {v : Value} {xs zs : List Int} (hp : IntsIn w lo hi v xs) (hm : mpnM ⟨x, y, xs⟩ s = (px, py, zs, r)) :
    Calls Try.prog 27 #[.agg #[.int .i64 x, .int .i64 y, v], .int .i64 s] w fun e w' => ∃ A c, e = .returned (.tuple #[.agg #[.int .i64 px, .int .i64 py, .slice A zs.length c], .int .i64 r]) ∧
      IntsIn w' w.heap.size w'.heap.size (.slice A zs.length c) zs ∧ Below w.heap.size w w' := by
  obtain ⟨A, cA, rfl, _, _⟩ := hp.1.open_
  have bl := Joins.below_alloc2 w (.cells #[.int .i64 x, .int .i64 y, .slice A xs.length cA] 30) (.cells #[.int .i64 0, .int .i64 0, .slice none 0 0] 30)
  have ba := (Box.new w 30 #[.int .i64 x, .int .i64 y, .slice A xs.length cA]).alloc (.cells #[.int .i64 0, .int .i64 0, .slice none 0 0] 30)
  have br := Box.new (w.alloc (.cells #[.int .i64 x, .int .i64 y, .slice A xs.length cA] 30)) 30 #[.int .i64 0, .int .i64 0, .slice none 0 0]
  rw [World.size_alloc] at br
  have hp1 := hp.below bl
  clear hp
  by_cases ho : Ok ⟨x, y, xs⟩
  rotate_left
  · skip
    obtain ⟨rfl, rfl, rfl, rfl⟩ : 0 = px ∧ 0 = py ∧ [] = zs ∧ 1 = r := by simpa [mpnM, ho] using hm
    have HO := Lib.hid ho
    clear hm ho
    have q0 := ba.cell 0
    have q1 := ba.cell 1
    have q2 := ba.cell 2
    have qn := ba.lt
    go_enter Try.func27, Try.ntmps27
    go_wp2_with fail
    refine (ValidPanel_any x y _ xs false (no_iff HO.out) _ hp1.ints).mono ?_
    rintro e w2 ⟨rfl, hb⟩
    replace ba := ba.below hb
    replace br := br.below hb
    replace bl := bnext bl hb
    replace hp1 := hp1.below hb
    clear hb
    clear q0 q1 q2 qn
    have r0 := br.cell 0
    have r1 := br.cell 1
    have r2 := br.cell 2
    have rf0 := br.free 0
    have rf1 := br.free 1
    have rf2 := br.free 2
    have rn := br.lt
    go_wp2
    refine bodyPost_ret (v := .tuple #[.agg #[.int .i64 0, .int .i64 0, .slice none 0 0], .int .i64 1]) (by simp [results, Try.results27, go_sem, r0, r1, r2, rf0, rf1, rf2, rn]) rfl ⟨none, 0, rfl, IntsIn.nil _ _ _ (Nat.le_refl _), ?_⟩
    exact ((bl.setCell (p := ⟨w.heap.size + 1, 0, none⟩) (by simp) _).setCell (p := ⟨w.heap.size + 1, 1, none⟩) (by simp) _).setCell (p := ⟨w.heap.size + 1, 2, none⟩) (by simp) _
  have HO := Lib.hid ho
  cases hs : symOk s
  · skip
    obtain ⟨rfl, rfl, rfl, rfl⟩ : 0 = px ∧ 0 = py ∧ [] = zs ∧ 2 = r := by simpa [mpnM, ho, hs] using hm
    have HS := Lib.hid hs
    clear hm ho hs
    have q0 := ba.cell 0
    have q1 := ba.cell 1
    have q2 := ba.cell 2
    have qn := ba.lt
    go_enter Try.func27, Try.ntmps27
    go_wp2_with fail
    refine (ValidPanel_any x y _ xs true (yes_iff HO.out) _ hp1.ints).mono ?_
    rintro e w2 ⟨rfl, hb⟩
    replace ba := ba.below hb
    replace br := br.below hb
    replace bl := bnext bl hb
    replace hp1 := hp1.below hb
    clear hb
    clear q0 q1 q2 qn
    go_wp2_with fail
    refine (validSym_any s false HS.out _).mono ?_
    rintro e w' ⟨rfl, rfl⟩
    have r0 := br.cell 0
    have r1 := br.cell 1
    have r2 := br.cell 2
    have rf0 := br.free 0
    have rf1 := br.free 1
    have rf2 := br.free 2
    have rn := br.lt
    go_wp2
    refine bodyPost_ret (v := .tuple #[.agg #[.int .i64 0, .int .i64 0, .slice none 0 0], .int .i64 2]) (by simp [results, Try.results27, go_sem, r0, r1, r2, rf0, rf1, rf2, rn]) rfl ⟨none, 0, rfl, IntsIn.nil _ _ _ (Nat.le_refl _), ?_⟩
    exact ((bl.setCell (p := ⟨w.heap.size + 1, 0, none⟩) (by simp) _).setCell (p := ⟨w.heap.size + 1, 1, none⟩) (by simp) _).setCell (p := ⟨w.heap.size + 1, 2, none⟩) (by simp) _
  have HS := Lib.hid hs
  obtain ⟨rfl, rfl, rfl, rfl⟩ : mapW x y s = px ∧ mapH x y s = py ∧ mapTo x y s xs xs.length xs.length = zs ∧ 0 = r := by simpa [mpnM, ho, hs] using hm
  clear hm ho hs
  have q0 := ba.cell 0
  have q1 := ba.cell 1
  have q2 := ba.cell 2
  have qn := ba.lt
  go_enter Try.func27, Try.ntmps27
  go_wp2_with fail
  refine (ValidPanel_any x y _ xs true (yes_iff HO.out) _ hp1.ints).mono ?_
  rintro e w2 ⟨rfl, hb⟩
  have s2 := hb.size
  simp only [World.size_alloc] at s2
  replace ba := ba.below hb
  replace br := br.below hb
  replace bl := bnext bl hb
  replace hp1 := hp1.below hb
  clear hb
  clear q0 q1 q2 qn
  go_wp2_with fail
  refine (validSym_any s true HS.out _).mono ?_
  rintro e w' ⟨rfl, rfl⟩
  have q0 := ba.cell 0
  have q1 := ba.cell 1
  have q2 := ba.cell 2
  have qn := ba.lt
  go_wp2_with fail
  refine (mapPanel_any hp1 HO.out HS.out).mono ?_
  rintro e w3 ⟨D, d, rfl, i1, hb⟩
  replace ba := ba.below hb
  replace br := br.below hb
  replace bl := bnext bl hb
  replace hp1 := hp1.below hb
  clear hb
  clear q0 q1 q2 qn
  have r0 := br.cell 0
  have r1 := br.cell 1
  have r2 := br.cell 2
  have rf0 := br.free 0
  have rf1 := br.free 1
  have rf2 := br.free 2
  have rn := br.lt
  go_wp2
  have hl := mapTo_length x y s xs xs.length xs.length
  rw [hl]
  refine bodyPost_ret (v := .tuple #[.agg #[.int .i64 (mapW x y s), .int .i64 (mapH x y s), .slice D xs.length d], .int .i64 0]) (by simp [results, Try.results27, go_sem, r0, r1, r2, rf0, rf1, rf2, rn]) rfl ⟨D, d, rfl, ?_, ?_⟩
  · exact (((i1.at_store (p := ⟨w.heap.size + 1, 0, none⟩) (by simp; omega) _).at_store (p := ⟨w.heap.size + 1, 1, none⟩) (by simp; omega) _).at_store (p := ⟨w.heap.size + 1, 2, none⟩) (by simp; omega) _).wider (by omega) (by simp) (Nat.le_refl _)
  · exact ((bl.setCell (p := ⟨w.heap.size + 1, 0, none⟩) (by simp) _).setCell (p := ⟨w.heap.size + 1, 1, none⟩) (by simp) _).setCell (p := ⟨w.heap.size + 1, 2, none⟩) (by simp) _
set_option maxHeartbeats 4000000 in
theorem K_spec_MapPanel {w : World} {lo hi : Nat} {x y s px py r : Int} {v : Value} {xs zs : List Int} (hp : IntsIn w lo hi v xs) (hm : mpnM ⟨x, y, xs⟩ s = (px, py, zs, r)) :
    Calls Try.prog 26 #[.agg #[.int .i64 x, .int .i64 y, v], .int .i64 s] w fun e w' => ∃ A c, e = .returned (.tuple #[.agg #[.int .i64 px, .int .i64 py, .slice A zs.length c], .int .i64 r]) ∧
      IntsIn w' w.heap.size w'.heap.size (.slice A zs.length c) zs ∧ Below w.heap.size w w' := by
  obtain ⟨A, cA, rfl, _, _⟩ := hp.1.open_
  have bl := Joins.below_alloc2 w (.cells #[.int .i64 x, .int .i64 y, .slice A xs.length cA] 30) (.cells #[.int .i64 0, .int .i64 0, .slice none 0 0] 30)
  have ba := (Box.new w 30 #[.int .i64 x, .int .i64 y, .slice A xs.length cA]).alloc (.cells #[.int .i64 0, .int .i64 0, .slice none 0 0] 30)
  have br := Box.new (w.alloc (.cells #[.int .i64 x, .int .i64 y, .slice A xs.length cA] 30)) 30 #[.int .i64 0, .int .i64 0, .slice none 0 0]
  rw [World.size_alloc] at br
  have hp1 := hp.below bl
  clear hp
  by_cases ho : Ok ⟨x, y, xs⟩
  rotate_left
  · skip
    obtain ⟨rfl, rfl, rfl, rfl⟩ : 0 = px ∧ 0 = py ∧ [] = zs ∧ 1 = r := by simpa [mpnM, ho] using hm
    have HO := Lib.hid ho
    have HCC : Hid (scM ⟨x, y, xs⟩ s = 1) := Lib.hid (by simp [scM, ho])
    clear hm ho
    have q0 := ba.cell 0
    have q1 := ba.cell 1
    have q2 := ba.cell 2
    have qn := ba.lt
    go_enter Try.func26, Try.ntmps26
    go_wp2_with fail
    refine (l06Code_any (xs := xs) ⟨ba, hp1.ints⟩ HCC.out).mono ?_
    rintro e w2 ⟨rfl, hb⟩
    replace ba := ba.below hb
    replace br := br.below hb
    replace bl := bnext bl hb
    replace hp1 := hp1.below hb
    clear hb
    clear q0 q1 q2 qn
    have r0 := br.cell 0
    have r1 := br.cell 1
    have r2 := br.cell 2
    have rf0 := br.free 0
    have rf1 := br.free 1
    have rf2 := br.free 2
    have rn := br.lt
    go_wp2
    refine bodyPost_ret (v := .tuple #[.agg #[.int .i64 0, .int .i64 0, .slice none 0 0], .int .i64 1]) (by simp [results, Try.results26, go_sem, r0, r1, r2, rf0, rf1, rf2, rn]) rfl ⟨none, 0, rfl, IntsIn.nil _ _ _ (Nat.le_refl _), ?_⟩
    exact ((bl.setCell (p := ⟨w.heap.size + 1, 0, none⟩) (by simp) _).setCell (p := ⟨w.heap.size + 1, 1, none⟩) (by simp) _).setCell (p := ⟨w.heap.size + 1, 2, none⟩) (by simp) _
  have HO := Lib.hid ho
  cases hs : symOk s
  · skip
    obtain ⟨rfl, rfl, rfl, rfl⟩ : 0 = px ∧ 0 = py ∧ [] = zs ∧ 2 = r := by simpa [mpnM, ho, hs] using hm
    have HS := Lib.hid hs
    have HCC : Hid (scM ⟨x, y, xs⟩ s = 2) := Lib.hid (by simp [scM, ho, hs])
    clear hm ho hs
    have q0 := ba.cell 0
    have q1 := ba.cell 1
    have q2 := ba.cell 2
    have qn := ba.lt
    go_enter Try.func26, Try.ntmps26
    go_wp2_with fail
    refine (l06Code_any (xs := xs) ⟨ba, hp1.ints⟩ HCC.out).mono ?_
    rintro e w2 ⟨rfl, hb⟩
    replace ba := ba.below hb
    replace br := br.below hb
    replace bl := bnext bl hb
    replace hp1 := hp1.below hb
    clear hb
    clear q0 q1 q2 qn
    have r0 := br.cell 0
    have r1 := br.cell 1
    have r2 := br.cell 2
    have rf0 := br.free 0
    have rf1 := br.free 1
    have rf2 := br.free 2
    have rn := br.lt
    go_wp2
    refine bodyPost_ret (v := .tuple #[.agg #[.int .i64 0, .int .i64 0, .slice none 0 0], .int .i64 2]) (by simp [results, Try.results26, go_sem, r0, r1, r2, rf0, rf1, rf2, rn]) rfl ⟨none, 0, rfl, IntsIn.nil _ _ _ (Nat.le_refl _), ?_⟩
    exact ((bl.setCell (p := ⟨w.heap.size + 1, 0, none⟩) (by simp) _).setCell (p := ⟨w.heap.size + 1, 1, none⟩) (by simp) _).setCell (p := ⟨w.heap.size + 1, 2, none⟩) (by simp) _
  have HS := Lib.hid hs
  have HCC : Hid (scM ⟨x, y, xs⟩ s = 0) := Lib.hid (by simp [scM, ho, hs])
  obtain ⟨rfl, rfl, rfl, rfl⟩ : mapW x y s = px ∧ mapH x y s = py ∧ mapTo x y s xs xs.length xs.length = zs ∧ 0 = r := by simpa [mpnM, ho, hs] using hm
  clear hm ho hs
  have q0 := ba.cell 0
  have q1 := ba.cell 1
  have q2 := ba.cell 2
  have qn := ba.lt
  go_enter Try.func26, Try.ntmps26
  go_wp2_with fail
  refine (l06Code_any (xs := xs) ⟨ba, hp1.ints⟩ HCC.out).mono ?_
  rintro e w2 ⟨rfl, hb⟩
  have s2 := hb.size
  simp only [World.size_alloc] at s2
  replace ba := ba.below hb
  replace br := br.below hb
  replace bl := bnext bl hb
  replace hp1 := hp1.below hb
  clear hb
  clear q0 q1 q2 qn
  have q0 := ba.cell 0
  have q1 := ba.cell 1
  have q2 := ba.cell 2
  have qn := ba.lt
  go_wp2_with fail
  refine (l06Map_any ba hp1 HO.out HS.out).mono ?_
  rintro e w3 ⟨D, d, rfl, i1, hb⟩
  replace ba := ba.below hb
  replace br := br.below hb
  replace bl := bnext bl hb
  replace hp1 := hp1.below hb
  clear hb
  clear q0 q1 q2 qn
  have r0 := br.cell 0
  have r1 := br.cell 1
  have r2 := br.cell 2
  have rf0 := br.free 0
  have rf1 := br.free 1
  have rf2 := br.free 2
  have rn := br.lt
  go_wp2
  have hl := mapTo_length x y s xs xs.length xs.length
  rw [hl]
  refine bodyPost_ret (v := .tuple #[.agg #[.int .i64 (mapW x y s), .int .i64 (mapH x y s), .slice D xs.length d], .int .i64 0]) (by simp [results, Try.results26, go_sem, r0, r1, r2, rf0, rf1, rf2, rn]) rfl ⟨D, d, rfl, ?_, ?_⟩
  · exact (((i1.at_store (p := ⟨w.heap.size + 1, 0, none⟩) (by simp; omega) _).at_store (p := ⟨w.heap.size + 1, 1, none⟩) (by simp; omega) _).at_store (p := ⟨w.heap.size + 1, 2, none⟩) (by simp; omega) _).wider (by omega) (by simp) (Nat.le_refl _)
  · exact ((bl.setCell (p := ⟨w.heap.size + 1, 0, none⟩) (by simp) _).setCell (p := ⟨w.heap.size + 1, 1, none⟩) (by simp) _).setCell (p := ⟨w.heap.size + 1, 2, none⟩) (by simp) _
set_option maxHeartbeats 4000000 in
theorem symmetriesOf_any {w : World} {lo hi : Nat} {W H : Int} {v : Value} {xs : List Int} (hp : IntsIn w lo hi v xs) (ho : Ok ⟨W, H, xs⟩) :
    Calls Try.prog 87 #[.agg #[.int .i64 W, .int .i64 H, v]] w fun e w' => ∃ A c, e = .returned (.slice A (symsTo ⟨W, H, xs⟩ 8).length c) ∧ IntsIn w' w.heap.size w'.heap.size (.slice A (symsTo ⟨W, H, xs⟩ 8).length c) (symsTo ⟨W, H, xs⟩ 8) ∧ Below w.heap.size w w' := by
  obtain ⟨A, cA, rfl, lA, _⟩ := hp.1.open_
  have bl := Joins.below_alloc2 w (.cells #[.int .i64 W, .int .i64 H, .slice A xs.length cA] 30) (.cells #[] 2)
  have ba := (Box.new w 30 #[.int .i64 W, .int .i64 H, .slice A xs.length cA]).alloc (.cells #[] 2)
  have hL : Ints ((w.alloc (.cells #[.int .i64 W, .int .i64 H, .slice A xs.length cA] 30)).alloc (.cells #[] 2)) (w.heap.size + 1) (.slice (some ⟨w.heap.size + 1, 0, none⟩) 0 0) [] := by
    have := Row.none_ (enc := Value.int .i64) (E := 2) (w.alloc (.cells #[.int .i64 W, .int .i64 H, .slice A xs.length cA] 30))
    rw [World.size_alloc] at this
    exact this
  have hp1 := hp.below bl
  have hphi : hi ≤ w.heap.size := hp.2.2.1
  have HO := Lib.hid ho
  clear hp ho
  go_enter Try.func87, Try.ntmps87
  go_wp2
  generalize hV : ((w.alloc (.cells #[.int .i64 W, .int .i64 H, .slice A xs.length cA] 30)).alloc (.cells #[] 2)) = V at ba hL hp1 bl ⊢
  have hVs : w.heap.size + 1 + 1 ≤ V.heap.size := by rw [← hV]; simp
  clear hV
  go_loopw [3, 6] (fun t i wr => ∃ (k : Nat) (D : Option Addr) (c : Nat), k ≤ 8 ∧ t = .slice D (symsTo ⟨W, H, xs⟩ k).length c ∧ i = .int .i64 k ∧ Ints wr (w.heap.size + 1) (.slice D (symsTo ⟨W, H, xs⟩ k).length c) (symsTo ⟨W, H, xs⟩ k) ∧ Below (w.heap.size + 1) V wr) (fun _ i _ => 8 - (intOf i).toNat)
  case atStart => exact ⟨0, _, 0, by omega, rfl, rfl, hL, Below.refl _ _⟩
  case round =>
    obtain ⟨k, D, c, hk, rfl, rfl, hI, hb⟩ := hrel
    clear hL
    have hs := hb.size
    have ba2 : Box wr w.heap.size 30 #[.int .i64 W, .int .i64 H, .slice A xs.length cA] := (hb.block _ (by have := ba.lt; omega)).trans ba
    have bl2 : Below w.heap.size w wr := bl.trans (hb.mono (by omega))
    have hp2 : IntsIn wr lo hi (.slice A xs.length cA) xs := ⟨Row.keep hp1.1 fun j hj hjl => hb.block j (by have := hp1.2.1 j hj; have := hphi; omega), hp1.2.1, by have := hp1.2.2.1; omega, hp1.2.2.2⟩
    have hle := symsTo_length ⟨W, H, xs⟩ k
    have hlen : (symsTo ⟨W, H, xs⟩ k).length < 1000000000 := by omega
    by_cases hlt : k < 8
    · have i1 : (k : Int) < 8 := by omega
      have HS : Hid (symOk (k : Int) = true) := Lib.hid (inR_t ⟨by omega, by omega⟩)
      have HL := mapTo_length W H k xs xs.length xs.length
      have a0 := ba2.cell 0
      have a1 := ba2.cell 1
      have a2 := ba2.cell 2
      have an := ba2.lt
      simp only [List.getElem?_toArray, List.getElem?_cons_zero, List.getElem?_cons_succ] at a0 a1 a2
      by_cases hq : mapP ⟨W, H, xs⟩ k = ⟨W, H, xs⟩
      · have HQ : Hid (mapW W H k = W ∧ mapH W H k = H ∧ mapTo W H k xs xs.length xs.length = xs) := Lib.hid ((mapP_eq W H k xs ⟨W, H, xs⟩).1 hq)
        have HY := Lib.hid (symsTo_yes hq)
        clear hq HL hle
        go_wp2
        go_region_held3 (fun w' => w'.cell? ⟨w.heap.size, 0, none⟩ = some (.int .i64 W) ∧ w'.cell? ⟨w.heap.size, 1, none⟩ = some (.int .i64 H) ∧ w'.cell? ⟨w.heap.size, 2, none⟩ = some (.slice A xs.length cA))
          (first | exact ⟨l0, l1, l2⟩
                 | exact ⟨k0, k1, k2⟩
                 | exact ⟨a0, a1, a2⟩)
          (first | (go_at_call 84; have hp3 : IntsIn wr.drew lo hi (.slice A xs.length cA) xs := hp2.below (below_drewN _ _ 1); (with_reducible refine (mapPanel_any hp3 HO.out HS.out).mono ?_); rintro e w5 ⟨E, d, rfl, i5, hb1⟩; have k0 := cell_b hb1 (show (wr.drew).cell? ⟨w.heap.size, 0, none⟩ = _ from a0); have k1 := cell_b hb1 (show (wr.drew).cell? ⟨w.heap.size, 1, none⟩ = _ from a1); have k2 := cell_b hb1 (show (wr.drew).cell? ⟨w.heap.size, 2, none⟩ = _ from a2); have hp5 := hp3.below hb1)
                 | (go_at_call 97; have h5 := i5.1; have h6 := hp5.1; (with_reducible refine (SamePanel_any (r := true) h5 h6 (yes_iff HQ.out)).mono ?_); rintro e w6 ⟨rfl, hb2⟩; have l0 := cell_b hb2 k0; have l1 := cell_b hb2 k1; have l2 := cell_b hb2 k2; have B6 := Lib.hid (bnext (bnext (below_drewN wr.heap.size wr 1) hb1) hb2)))
        go_split_ands
        clear k0 k1 k2 l0 l1 l2 hp3 hp5 h5 h6 hb1 hb2 i5
        have hI6 := Row.below hI B6.out
        have sz6 := B6.out.size
        have hB6 : w.heap.size + 1 ≤ w6.heap.size := by omega
        have B6b : Below (w.heap.size + 1) V w6 := hb.trans (B6.out.mono (by omega))
        clear hI hb ba2 bl2 hp2 a0 a1 a2 an
        go_wp2_with (at_builtin; refine append_one_at rfl _ _ rfl (w.heap.size + 1) _ _ (symsTo ⟨W, H, xs⟩ k) k hI6 rfl rfl (by simp) hlen hB6 ?_)
        intro g c' w7 hI7 hg7 _
        have el : (symsTo ⟨W, H, xs⟩ k ++ [(k : Int)]).length = (symsTo ⟨W, H, xs⟩ k).length + 1 := by simp
        have B7 : Below (w.heap.size + 1) V w7 := B6b.grown hg7 hB6 (fun j hj => (Row.lt hI6 hj).1)
        rw [← el] at hI7 ⊢
        rw [← HY.out] at hI7 ⊢
        have H7 := Lib.hid hI7
        have G7 := Lib.hid B7
        clear hI6 hI7 hg7 B6b B7 el
        go_wp2
        go_roundw
        case rel => exact ⟨k + 1, _, c', by omega, rfl, by go_num, H7.out, G7.out⟩
        case measure => simp [intOf]; omega
      · have HQ : Hid (¬ (mapW W H k = W ∧ mapH W H k = H ∧ mapTo W H k xs xs.length xs.length = xs)) := Lib.hid (fun h => hq ((mapP_eq W H k xs ⟨W, H, xs⟩).2 h))
        have HY := Lib.hid (symsTo_no hq)
        clear hq HL hle
        go_wp2
        go_region_held3 (fun w' => w'.cell? ⟨w.heap.size, 0, none⟩ = some (.int .i64 W) ∧ w'.cell? ⟨w.heap.size, 1, none⟩ = some (.int .i64 H) ∧ w'.cell? ⟨w.heap.size, 2, none⟩ = some (.slice A xs.length cA))
          (first | exact ⟨l0, l1, l2⟩
                 | exact ⟨k0, k1, k2⟩
                 | exact ⟨a0, a1, a2⟩)
          (first | (go_at_call 84; have hp3 : IntsIn wr.drew lo hi (.slice A xs.length cA) xs := hp2.below (below_drewN _ _ 1); (with_reducible refine (mapPanel_any hp3 HO.out HS.out).mono ?_); rintro e w5 ⟨E, d, rfl, i5, hb1⟩; have k0 := cell_b hb1 (show (wr.drew).cell? ⟨w.heap.size, 0, none⟩ = _ from a0); have k1 := cell_b hb1 (show (wr.drew).cell? ⟨w.heap.size, 1, none⟩ = _ from a1); have k2 := cell_b hb1 (show (wr.drew).cell? ⟨w.heap.size, 2, none⟩ = _ from a2); have hp5 := hp3.below hb1)
                 | (go_at_call 97; have h5 := i5.1; have h6 := hp5.1; (with_reducible refine (SamePanel_any (r := false) h5 h6 (no_iff HQ.out)).mono ?_); rintro e w6 ⟨rfl, hb2⟩; have l0 := cell_b hb2 k0; have l1 := cell_b hb2 k1; have l2 := cell_b hb2 k2; have B6 := Lib.hid (bnext (bnext (below_drewN wr.heap.size wr 1) hb1) hb2)))
        go_split_ands
        clear k0 k1 k2 l0 l1 l2 hp3 hp5 h5 h6 hb1 hb2 i5
        have H7 : Hid (Ints w6 (w.heap.size + 1) (.slice D (symsTo ⟨W, H, xs⟩ (k + 1)).length c) (symsTo ⟨W, H, xs⟩ (k + 1))) := Lib.hid (by rw [HY.out]; exact Row.below hI B6.out)
        have G7 : Hid (Below (w.heap.size + 1) V w6) := Lib.hid (hb.trans (B6.out.mono (by omega)))
        clear hI hb ba2 bl2 hp2 a0 a1 a2 an
        go_wp2
        go_roundw
        case rel => exact ⟨k + 1, D, c, by omega, by rw [HY.out], by go_num, H7.out, G7.out⟩
        case measure => simp [intOf]; omega
    · have e : k = 8 := by omega
      subst e
      have HI8 := Lib.hid hI
      have HB8 := Lib.hid bl2
      clear hI ba2 hp2 hb bl2
      go_wp2
      go_ret
      exact ⟨D, c, rfl, (IntsIn.ofInts HI8.out (by omega)).wider (by omega) (by omega) (Nat.le_refl _), HB8.out⟩
set_option maxHeartbeats 4000000 in
theorem l06All_any {w : World} {b lo hi : Nat} {W H : Int} {v : Value} {xs : List Int} (hx : Box w b 30 #[.int .i64 W, .int .i64 H, v]) (hp : IntsIn w lo hi v xs) (ho : Ok ⟨W, H, xs⟩) :
    Calls Try.prog 86 #[.pointer (some ⟨b, 0, none⟩)] w fun e w' => ∃ A c, e = .returned (.slice A (symsTo ⟨W, H, xs⟩ 8).length c) ∧ IntsIn w' w.heap.size w'.heap.size (.slice A (symsTo ⟨W, H, xs⟩ 8).length c) (symsTo ⟨W, H, xs⟩ 8) ∧ Below w.heap.size w w' := by
  obtain ⟨A, cA, rfl, lA, _⟩ := hp.1.open_
  have bl := Joins.below_alloc1 w (.cells #[] 2)
  have ba := hx.alloc (.cells #[] 2)
  have hL : Ints (w.alloc (.cells #[] 2)) w.heap.size (.slice (some ⟨w.heap.size, 0, none⟩) 0 0) [] := Row.none_ w
  have hp1 := hp.below bl
  have hphi : hi ≤ w.heap.size := hp.2.2.1
  have HO := Lib.hid ho
  clear hp ho
  go_enter Try.func86, Try.ntmps86
  go_wp2
  generalize hV : (w.alloc (.cells #[] 2)) = V at ba hL hp1 bl ⊢
  have hVs : w.heap.size + 1 ≤ V.heap.size := by rw [← hV]; simp
  clear hV
  go_loopw [3, 4] (fun t i wr => ∃ (k : Nat) (D : Option Addr) (c : Nat), k ≤ 8 ∧ t = .slice D (symsTo ⟨W, H, xs⟩ k).length c ∧ i = .int .i64 k ∧ Ints wr (w.heap.size) (.slice D (symsTo ⟨W, H, xs⟩ k).length c) (symsTo ⟨W, H, xs⟩ k) ∧ Below (w.heap.size) V wr) (fun _ i _ => 8 - (intOf i).toNat)
  case atStart => exact ⟨0, _, 0, by omega, rfl, rfl, hL, Below.refl _ _⟩
  case round =>
    obtain ⟨k, D, c, hk, rfl, rfl, hI, hb⟩ := hrel
    clear hL
    have hs := hb.size
    have ba2 : Box wr b 30 #[.int .i64 W, .int .i64 H, .slice A xs.length cA] := (hb.block _ (by have := ba.lt; have := hx.lt; omega)).trans ba
    have bl2 : Below w.heap.size w wr := bl.trans (hb.mono (by omega))
    have hp2 : IntsIn wr lo hi (.slice A xs.length cA) xs := ⟨Row.keep hp1.1 fun j hj hjl => hb.block j (by have := hp1.2.1 j hj; have := hphi; omega), hp1.2.1, by have := hp1.2.2.1; omega, hp1.2.2.2⟩
    have hle := symsTo_length ⟨W, H, xs⟩ k
    have hlen : (symsTo ⟨W, H, xs⟩ k).length < 1000000000 := by omega
    by_cases hlt : k < 8
    · have i1 : (k : Int) < 8 := by omega
      have HS : Hid (symOk (k : Int) = true) := Lib.hid (inR_t ⟨by omega, by omega⟩)
      have HL := mapTo_length W H k xs xs.length xs.length
      have a0 := ba2.cell 0
      have a1 := ba2.cell 1
      have a2 := ba2.cell 2
      have an := ba2.lt
      simp only [List.getElem?_toArray, List.getElem?_cons_zero, List.getElem?_cons_succ] at a0 a1 a2
      by_cases hq : mapP ⟨W, H, xs⟩ k = ⟨W, H, xs⟩
      · have HQ : Hid (mapW W H k = W ∧ mapH W H k = H ∧ mapTo W H k xs xs.length xs.length = xs) := Lib.hid ((mapP_eq W H k xs ⟨W, H, xs⟩).1 hq)
        have HY := Lib.hid (symsTo_yes hq)
        clear hq HL hle
        go_wp2_with fail
        refine (l06Map_any ba2 hp2 HO.out HS.out).mono ?_
        rintro e w5 ⟨E, d, rfl, i5, hb1⟩
        have ba5 := (ba2.below hb1).alloc (.cells #[.int .i64 (mapW W H k), .int .i64 (mapH W H k), .slice E xs.length d] 30)
        have bx := Box.new w5 30 #[.int .i64 (mapW W H k), .int .i64 (mapH W H k), .slice E xs.length d]
        have h5 := Row.alloc i5.1 (.cells #[.int .i64 (mapW W H k), .int .i64 (mapH W H k), .slice E xs.length d] 30)
        have h6 := ((hp2.below hb1).alloc (.cells #[.int .i64 (mapW W H k), .int .i64 (mapH W H k), .slice E xs.length d] 30)).1
        have B5 := bnext hb1 (Joins.below_alloc1 w5 (.cells #[.int .i64 (mapW W H k), .int .i64 (mapH W H k), .slice E xs.length d] 30))
        clear a0 a1 a2
        go_wp2_with fail
        refine (l02Same_any (r := true) bx ba5 h5 h6 (yes_iff HQ.out)).mono ?_
        rintro e w6 ⟨rfl, hd⟩
        have B6 := Lib.hid (bnext B5 (bdrawn hd))
        have a0 := B6
        have a1 := B6
        have a2 := B6
        clear hd ba5 bx h5 h6 B5 hb1 i5
        have hI6 := Row.below hI B6.out
        have sz6 := B6.out.size
        have hB6 : w.heap.size ≤ w6.heap.size := by omega
        have B6b : Below (w.heap.size) V w6 := hb.trans (B6.out.mono (by omega))
        clear hI hb ba2 bl2 hp2 a0 a1 a2 an
        go_wp2_with (at_builtin; refine append_one_at rfl _ _ rfl (w.heap.size) _ _ (symsTo ⟨W, H, xs⟩ k) k hI6 rfl rfl (by simp) hlen hB6 ?_)
        intro g c' w7 hI7 hg7 _
        have el : (symsTo ⟨W, H, xs⟩ k ++ [(k : Int)]).length = (symsTo ⟨W, H, xs⟩ k).length + 1 := by simp
        have B7 : Below (w.heap.size) V w7 := B6b.grown hg7 hB6 (fun j hj => (Row.lt hI6 hj).1)
        rw [← el] at hI7 ⊢
        rw [← HY.out] at hI7 ⊢
        have H7 := Lib.hid hI7
        have G7 := Lib.hid B7
        clear hI6 hI7 hg7 B6b B7 el
        go_wp2
        go_roundw
        case rel => exact ⟨k + 1, _, c', by omega, rfl, by go_num, H7.out, G7.out⟩
        case measure => simp [intOf]; omega
      · have HQ : Hid (¬ (mapW W H k = W ∧ mapH W H k = H ∧ mapTo W H k xs xs.length xs.length = xs)) := Lib.hid (fun h => hq ((mapP_eq W H k xs ⟨W, H, xs⟩).2 h))
        have HY := Lib.hid (symsTo_no hq)
        clear hq HL hle
        go_wp2_with fail
        refine (l06Map_any ba2 hp2 HO.out HS.out).mono ?_
        rintro e w5 ⟨E, d, rfl, i5, hb1⟩
        have ba5 := (ba2.below hb1).alloc (.cells #[.int .i64 (mapW W H k), .int .i64 (mapH W H k), .slice E xs.length d] 30)
        have bx := Box.new w5 30 #[.int .i64 (mapW W H k), .int .i64 (mapH W H k), .slice E xs.length d]
        have h5 := Row.alloc i5.1 (.cells #[.int .i64 (mapW W H k), .int .i64 (mapH W H k), .slice E xs.length d] 30)
        have h6 := ((hp2.below hb1).alloc (.cells #[.int .i64 (mapW W H k), .int .i64 (mapH W H k), .slice E xs.length d] 30)).1
        have B5 := bnext hb1 (Joins.below_alloc1 w5 (.cells #[.int .i64 (mapW W H k), .int .i64 (mapH W H k), .slice E xs.length d] 30))
        clear a0 a1 a2
        go_wp2_with fail
        refine (l02Same_any (r := false) bx ba5 h5 h6 (no_iff HQ.out)).mono ?_
        rintro e w6 ⟨rfl, hd⟩
        have B6 := Lib.hid (bnext B5 (bdrawn hd))
        have a0 := B6
        have a1 := B6
        have a2 := B6
        clear hd ba5 bx h5 h6 B5 hb1 i5
        have H7 : Hid (Ints w6 (w.heap.size) (.slice D (symsTo ⟨W, H, xs⟩ (k + 1)).length c) (symsTo ⟨W, H, xs⟩ (k + 1))) := Lib.hid (by rw [HY.out]; exact Row.below hI B6.out)
        have G7 : Hid (Below (w.heap.size) V w6) := Lib.hid (hb.trans (B6.out.mono (by omega)))
        clear hI hb ba2 bl2 hp2 a0 a1 a2 an
        go_wp2
        go_roundw
        case rel => exact ⟨k + 1, D, c, by omega, by rw [HY.out], by go_num, H7.out, G7.out⟩
        case measure => simp [intOf]; omega
    · have e : k = 8 := by omega
      subst e
      have HI8 := Lib.hid hI
      have HB8 := Lib.hid bl2
      clear hI ba2 hp2 hb bl2
      go_wp2
      go_ret
      exact ⟨D, c, rfl, (IntsIn.ofInts HI8.out (by omega)).wider (by omega) (by omega) (Nat.le_refl _), HB8.out⟩
set_option maxHeartbeats 4000000 in
theorem K_impl_SymmetriesOf {w : World} {lo hi : Nat} {x y r : Int} {v : Value} {xs zs : List Int} (hp : IntsIn w lo hi v xs) (hm : symsM ⟨x, y, xs⟩ = (zs, r)) :
    Calls Try.prog 31 #[.agg #[.int .i64 x, .int .i64 y, v]] w fun e w' => ∃ A c, e = .returned (.tuple #[.slice A zs.length c, .int .i64 r]) ∧ IntsIn w' w.heap.size w'.heap.size (.slice A zs.length c) zs ∧ Below w.heap.size w w' := by
  obtain ⟨A, cA, rfl, _, _⟩ := hp.1.open_
  have bl := Joins.below_alloc1 w (.cells #[.int .i64 x, .int .i64 y, .slice A xs.length cA] 30)
  have ba := Box.new w 30 #[.int .i64 x, .int .i64 y, .slice A xs.length cA]
  have hp1 := hp.below bl
  clear hp
  by_cases ho : Ok ⟨x, y, xs⟩
  rotate_left
  · obtain ⟨rfl, rfl⟩ : [] = zs ∧ 1 = r := by simpa [symsM, ho] using hm
    have HO := Lib.hid ho
    clear hm ho
    have q0 := ba.cell 0
    have q1 := ba.cell 1
    have q2 := ba.cell 2
    have qn := ba.lt
    go_enter Try.func31, Try.ntmps31
    go_wp2_with fail
    refine (ValidPanel_any x y _ xs false (no_iff HO.out) _ hp1.ints).mono ?_
    rintro e w2 ⟨rfl, hb⟩
    clear q0 q1 q2 qn
    go_wp2
    go_ret2
    exact ⟨none, 0, rfl, IntsIn.nil _ _ _ (Nat.le_refl _), bnext bl hb⟩
  obtain ⟨rfl, rfl⟩ : symsTo ⟨x, y, xs⟩ 8 = zs ∧ 0 = r := by simpa [symsM, ho] using hm
  have HO := Lib.hid ho
  clear hm ho
  have q0 := ba.cell 0
  have q1 := ba.cell 1
  have q2 := ba.cell 2
  have qn := ba.lt
  go_enter Try.func31, Try.ntmps31
  go_wp2_with fail
  refine (ValidPanel_any x y _ xs true (yes_iff HO.out) _ hp1.ints).mono ?_
  rintro e w2 ⟨rfl, hb⟩
  have s2 := hb.size
  simp only [World.size_alloc] at s2
  replace ba := ba.below hb
  replace bl := bnext bl hb
  replace hp1 := hp1.below hb
  clear hb
  clear q0 q1 q2 qn
  have q0 := ba.cell 0
  have q1 := ba.cell 1
  have q2 := ba.cell 2
  have qn := ba.lt
  go_wp2_with fail
  refine (symmetriesOf_any hp1 HO.out).mono ?_
  rintro e w3 ⟨D, d, rfl, i1, hb⟩
  clear q0 q1 q2 qn
  go_wp2
  go_ret2
  exact ⟨D, d, rfl, i1.wider (by omega) (Nat.le_refl _) (Nat.le_refl _), bnext bl hb⟩
set_option maxHeartbeats 4000000 in
theorem K_spec_SymmetriesOf {w : World} {lo hi : Nat} {x y r : Int} {v : Value} {xs zs : List Int} (hp : IntsIn w lo hi v xs) (hm : symsM ⟨x, y, xs⟩ = (zs, r)) :
    Calls Try.prog 30 #[.agg #[.int .i64 x, .int .i64 y, v]] w fun e w' => ∃ A c, e = .returned (.tuple #[.slice A zs.length c, .int .i64 r]) ∧ IntsIn w' w.heap.size w'.heap.size (.slice A zs.length c) zs ∧ Below w.heap.size w w' := by
  obtain ⟨A, cA, rfl, _, _⟩ := hp.1.open_
  have bl := Joins.below_alloc1 w (.cells #[.int .i64 x, .int .i64 y, .slice A xs.length cA] 30)
  have ba := Box.new w 30 #[.int .i64 x, .int .i64 y, .slice A xs.length cA]
  have hp1 := hp.below bl
  clear hp
  by_cases ho : Ok ⟨x, y, xs⟩
  rotate_left
  · obtain ⟨rfl, rfl⟩ : [] = zs ∧ 1 = r := by simpa [symsM, ho] using hm
    have HO := Lib.hid ho
    clear hm ho
    go_enter Try.func30, Try.ntmps30
    go_wp2_with fail
    refine (l02Ok_any _ x y _ xs false (no_iff HO.out) _ ⟨ba, hp1.ints⟩).mono ?_
    rintro e w2 ⟨rfl, hd⟩
    have hb := bdrawn hd
    clear hd
    go_wp2
    go_ret2
    exact ⟨none, 0, rfl, IntsIn.nil _ _ _ (Nat.le_refl _), bnext bl hb⟩
  obtain ⟨rfl, rfl⟩ : symsTo ⟨x, y, xs⟩ 8 = zs ∧ 0 = r := by simpa [symsM, ho] using hm
  have HO := Lib.hid ho
  clear hm ho
  go_enter Try.func30, Try.ntmps30
  go_wp2_with fail
  refine (l02Ok_any _ x y _ xs true (yes_iff HO.out) _ ⟨ba, hp1.ints⟩).mono ?_
  rintro e w2 ⟨rfl, hd⟩
  have hb := bdrawn hd
  clear hd
  have s2 := hb.size
  simp only [World.size_alloc] at s2
  replace ba := ba.below hb
  replace bl := bnext bl hb
  replace hp1 := hp1.below hb
  clear hb
  go_wp2_with fail
  refine (l06All_any ba hp1 HO.out).mono ?_
  rintro e w3 ⟨D, d, rfl, i1, hb⟩
  go_wp2
  go_ret2
  exact ⟨D, d, rfl, i1.wider (by omega) (Nat.le_refl _) (Nat.le_refl _), bnext bl hb⟩
end Go.Proofs.Ytihfdgnocdphcaa
