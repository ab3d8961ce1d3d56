/-
  The code of a panel and a column; what is known at the next column, by the program and by the reference.
-/
import Derived.Test.YtnldahadldolpaaPassS
import Derived.Test.YtnldahadldolpaaRight
import Derived.Test.YtnldahadldolpaaFirst
namespace Go.Proofs.Ytnldahadldolpaa
open Go.RowKit Knot

theorem nbrs_K (n : Nat) : nbrs n = nbrsK n := rfl
open Classical in
/-- The code of a panel and a column. -/
noncomputable def colCode (p : Pan) (x : Int) : Int := if Ok p then if 0 ≤ x ∧ x ≤ 2 * p.W - 1 then 0 else 2 else 1
theorem colCode_inv {p : Pan} (h : ¬ Ok p) (x : Int) : colCode p x = 1 := by unfold colCode; rw [if_neg h]
theorem colCode_rng {p : Pan} (h : Ok p) {x : Int} (hx : ¬ (0 ≤ x ∧ x ≤ 2 * p.W - 1)) : colCode p x = 2 := by unfold colCode; rw [if_pos h, if_neg hx]
theorem colCode_ok {p : Pan} (h : Ok p) {x : Int} (hx : 0 ≤ x ∧ x ≤ 2 * p.W - 1) : colCode p x = 0 := by unfold colCode; rw [if_pos h, if_pos hx]
theorem inR_eq (x a b : Int) : inR x a b = decide (a ≤ x ∧ x ≤ b) := by unfold inR; by_cases h1 : a ≤ x <;> by_cases h2 : x ≤ b <;> simp [h1, h2]
set_option maxHeartbeats 4000000 in
theorem columnCode_any {w : World} {W H X r : Int} {v : Value} {B : List Int} (hI : Ints w 0 v B) (hr : colCode ⟨W, H, B⟩ X = r) :
    Calls Try.prog 76 #[.agg #[.int .i64 W, .int .i64 H, v], .int .i64 X] w fun e w' => e = .returned (.int .i64 r) ∧ Below w.heap.size w w' := by
  obtain ⟨A, cA, rfl, _, _⟩ := hI.open_
  have bl := Joins.below_alloc1 w (.cells #[.int .i64 W, .int .i64 H, .slice A B.length cA] 41)
  have ba := Box.new w 41 #[.int .i64 W, .int .i64 H, .slice A B.length cA]
  have hI1 := Row.below hI bl
  have q0 := ba.cell 0
  have q1 := ba.cell 1
  have q2 := ba.cell 2
  have qn := ba.lt
  simp only [List.getElem?_toArray, List.getElem?_cons_zero, List.getElem?_cons_succ] at q0 q1 q2
  by_cases ho : Ok ⟨W, H, B⟩
  rotate_left
  · rw [colCode_inv ho] at hr
    subst hr
    have HO := Lib.hid ho
    clear ho hI
    go_enter Try.func76, Try.ntmps76
    go_wp2_with fail
    refine (ValidPanel_any W H _ B false (no_iff HO.out) _ hI1).mono ?_
    rintro e w2 ⟨rfl, hb⟩
    go_wp2
    go_ret
    exact ⟨rfl, bnext bl hb⟩
  have HO := Lib.hid ho
  have hW8 := ho.w8
  have hW1 := ho.w1
  simp only [] at hW8 hW1
  by_cases hx : 0 ≤ X ∧ X ≤ 2 * W - 1
  · rw [colCode_ok ho hx] at hr
    subst hr
    have hx2 : inR X 0 (2 * W - 1) = true := by rw [inR_eq]; exact decide_eq_true hx
    have HX := Lib.hid hx2
    clear ho hI hx hx2
    go_enter Try.func76, Try.ntmps76
    go_wp2_with fail
    refine (ValidPanel_any W H _ B true (yes_iff HO.out) _ hI1).mono ?_
    rintro e w2 ⟨rfl, hb⟩
    replace ba := ba.below hb
    clear q0 q1 q2 qn
    have q0 := ba.cell 0
    have qn := ba.lt
    simp only [List.getElem?_toArray, List.getElem?_cons_zero, List.getElem?_cons_succ] at q0
    go_wp2_with fail
    refine (inRange_any X 0 (2 * W - 1) true HX.out _).mono ?_
    rintro e w3 ⟨rfl, rfl⟩
    go_wp2
    go_ret
    exact ⟨rfl, bnext bl hb⟩
  · rw [colCode_rng ho hx] at hr
    subst hr
    have hx2 : inR X 0 (2 * W - 1) = false := by rw [inR_eq]; exact decide_eq_false hx
    have HX := Lib.hid hx2
    clear ho hI hx hx2
    go_enter Try.func76, Try.ntmps76
    go_wp2_with fail
    refine (ValidPanel_any W H _ B true (yes_iff HO.out) _ hI1).mono ?_
    rintro e w2 ⟨rfl, hb⟩
    replace ba := ba.below hb
    clear q0 q1 q2 qn
    have q0 := ba.cell 0
    have qn := ba.lt
    simp only [List.getElem?_toArray, List.getElem?_cons_zero, List.getElem?_cons_succ] at q0
    go_wp2_with fail
    refine (inRange_any X 0 (2 * W - 1) false HX.out _).mono ?_
    rintro e w3 ⟨rfl, rfl⟩
    go_wp2
    go_ret
    exact ⟨rfl, bnext bl hb⟩
set_option maxHeartbeats 4000000 in
theorem l09Code_any {w : World} {b : Nat} {W H X r : Int} {v : Value} {B : List Int} (ba : Box w b 41 #[.int .i64 W, .int .i64 H, v]) (hI : Ints w 0 v B) (hr : colCode ⟨W, H, B⟩ X = r) :
    Calls Try.prog 73 #[.pointer (some ⟨b, 0, none⟩), .int .i64 X] w fun e w' => e = .returned (.int .i64 r) ∧ Below w.heap.size w w' := by
  by_cases ho : Ok ⟨W, H, B⟩
  rotate_left
  · rw [colCode_inv ho] at hr
    subst hr
    have HO := Lib.hid ho
    clear ho
    go_enter Try.func73, Try.ntmps73
    go_wp2_with fail
    refine (l02Ok_any b W H v B false (no_iff HO.out) _ ⟨ba, hI⟩).mono ?_
    rintro e w2 ⟨rfl, hd⟩
    have hb := bdrawn hd
    clear hd
    go_wp2
    go_ret
    exact ⟨rfl, hb⟩
  have HO := Lib.hid ho
  have hW8 := ho.w8
  have hW1 := ho.w1
  simp only [] at hW8 hW1
  by_cases hx : 0 ≤ X ∧ X ≤ 2 * W - 1
  · rw [colCode_ok ho hx] at hr
    subst hr
    have hx2 : inR X 0 (2 * W - 1) = true := by rw [inR_eq]; exact decide_eq_true hx
    have HX := Lib.hid hx2
    clear ho hx hx2
    go_enter Try.func73, Try.ntmps73
    go_wp2_with fail
    refine (l02Ok_any b W H v B true (yes_iff HO.out) _ ⟨ba, hI⟩).mono ?_
    rintro e w2 ⟨rfl, hd⟩
    have hb := bdrawn hd
    clear hd
    replace ba := ba.below hb
    have q0 := ba.cell 0
    have qn := ba.lt
    simp only [List.getElem?_toArray, List.getElem?_cons_zero, List.getElem?_cons_succ] at q0
    go_wp2_with fail
    refine (l00In_any X 0 (2 * W - 1) true HX.out _).mono ?_
    rintro e w3 ⟨rfl, rfl⟩
    go_wp2
    go_ret
    exact ⟨rfl, hb⟩
  · rw [colCode_rng ho hx] at hr
    subst hr
    have hx2 : inR X 0 (2 * W - 1) = false := by rw [inR_eq]; exact decide_eq_false hx
    have HX := Lib.hid hx2
    clear ho hx hx2
    go_enter Try.func73, Try.ntmps73
    go_wp2_with fail
    refine (l02Ok_any b W H v B true (yes_iff HO.out) _ ⟨ba, hI⟩).mono ?_
    rintro e w2 ⟨rfl, hd⟩
    have hb := bdrawn hd
    clear hd
    replace ba := ba.below hb
    have q0 := ba.cell 0
    have qn := ba.lt
    simp only [List.getElem?_toArray, List.getElem?_cons_zero, List.getElem?_cons_succ] at q0
    go_wp2_with fail
    refine (l00In_any X 0 (2 * W - 1) false HX.out _).mono ?_
    rintro e w3 ⟨rfl, rfl⟩
    go_wp2
    go_ret
    exact ⟨rfl, hb⟩
theorem pass_bd (P L : List Int) (n : Nat) : 0 ≤ (pass P L n).2 ∧ (pass P L n).2 ≤ n := cycTo_bd P L n _ n
set_option maxHeartbeats 4000000 in
theorem nextColumn_any {w : World} {Bd C : Nat} {W H X cl : Int} {v u : Value} {B P : List Int} (hI : Ints w Bd v B) (hp : Ok ⟨W, H, B⟩) (hX : 0 < X + 1 ∧ X + 1 < 2 * W) (hu : Ints w C u P) (hP : Pairing (colN ⟨W, H, B⟩) P) {N : Nat} (hN : colN ⟨W, H, B⟩ = N) (hcl : 0 ≤ cl ∧ cl ≤ 100000) {R : List Int × Int} (hR : pass P (links ⟨W, H, B⟩ (X + 1)) (colN ⟨W, H, B⟩) = R) :
    Calls Try.prog 81 #[.agg #[.int .i64 W, .int .i64 H, v], .int .i64 X, .agg #[u, .int .i64 cl]] w fun e w' => ∃ g c, e = .returned (.agg #[.slice (some ⟨g, 0, none⟩) N c, .int .i64 (cl + R.2)]) ∧
      Ints w' w.heap.size (.slice (some ⟨g, 0, none⟩) N c) R.1 ∧ R.1.length = N ∧ Below w.heap.size w w' := by
  obtain ⟨A, cA, rfl, _, _⟩ := hI.open_
  obtain ⟨D, cD, rfl, _, _⟩ := hu.open_
  have hRb : 0 ≤ R.2 ∧ R.2 ≤ 16 := by
    have := pass_bd P (links ⟨W, H, B⟩ (X + 1)) (colN ⟨W, H, B⟩)
    rw [hR] at this
    have h8 := hp.h8
    have h1 := hp.h1
    unfold colN at this
    simp only [] at *
    omega
  have HR : Hid (pass P (lkOf ⟨W, H, B⟩ (X + 1) true) (colN ⟨W, H, B⟩) = R) := Lib.hid hR
  have HO := Lib.hid hp
  have HX := Lib.hid hX
  have HP := Lib.hid hP
  have HN := Lib.hid hN
  have hX2 : 0 ≤ X ∧ X ≤ 16 := by have := hp.w8; simp only [] at *; omega
  have bl := Joins.below_alloc3 w (.cells #[.int .i64 W, .int .i64 H, .slice A B.length cA] 41) (.cells #[.slice D P.length cD, .int .i64 cl] 38) (.cells #[.slice none 0 0, .int .i64 0] 38)
  have ba := ((Box.new w 41 #[.int .i64 W, .int .i64 H, .slice A B.length cA]).alloc (.cells #[.slice D P.length cD, .int .i64 cl] 38)).alloc (.cells #[.slice none 0 0, .int .i64 0] 38)
  have bc := (Box.new (w.alloc (.cells #[.int .i64 W, .int .i64 H, .slice A B.length cA] 41)) 38 #[.slice D P.length cD, .int .i64 cl]).alloc (.cells #[.slice none 0 0, .int .i64 0] 38)
  have br := Box.new ((w.alloc (.cells #[.int .i64 W, .int .i64 H, .slice A B.length cA] 41)).alloc (.cells #[.slice D P.length cD, .int .i64 cl] 38)) 38 #[.slice none 0 0, .int .i64 0]
  simp only [World.size_alloc] at bc br
  have hI1 := Row.below hI bl
  have hu1 := Row.below hu bl
  have q0 := ba.cell 0
  have q1 := ba.cell 1
  have q2 := ba.cell 2
  have qn := ba.lt
  have c0 := bc.cell 0
  have c1 := bc.cell 1
  have cn := bc.lt
  simp only [List.getElem?_toArray, List.getElem?_cons_zero, List.getElem?_cons_succ] at q0 q1 q2 c0 c1
  clear hR hp hX hP hN hI hu
  go_enter Try.func81, Try.ntmps81
  go_wp2_with fail
  refine (passColumn_any (tw := true) hI1 HO.out HX.out hu1 HP.out HN.out HR.out).mono ?_
  rintro e w2 ⟨g, c, rfl, hg, hlen, hb⟩
  have s2 := hb.size
  simp only [World.size_alloc] at s2 hg
  replace bc := bc.below hb
  replace br := br.below hb
  replace bl := bnext bl hb
  clear q0 q1 q2 qn c0 c1 cn hb ba hI1 hu1
  have c1 := bc.cell 1
  have cn := bc.lt
  have r0 := br.cell 0
  have r1 := br.cell 1
  have rf0 := br.free 0
  have rf1 := br.free 1
  have rn := br.lt
  simp only [List.getElem?_toArray, List.getElem?_cons_zero, List.getElem?_cons_succ] at c1 r0 r1
  have hfin : Ints ((w2.setCell ⟨w.heap.size + 1 + 1, 0, none⟩ (.slice (some ⟨g, 0, none⟩) N c)).setCell ⟨w.heap.size + 1 + 1, 1, none⟩ (.int .i64 (cl + R.2))) w.heap.size (.slice (some ⟨g, 0, none⟩) N c) R.1 :=
    Row.le (C := w.heap.size) (Row.setCell (p := ⟨w.heap.size + 1 + 1, 1, none⟩) (Row.setCell (p := ⟨w.heap.size + 1 + 1, 0, none⟩) hg (fun g' hg' e' => by have := (Row.lt hg hg').1; have e2 : g' = w.heap.size + 1 + 1 := e'; omega) _) (fun g' hg' e' => by have := (Row.lt hg hg').1; have e2 : g' = w.heap.size + 1 + 1 := e'; omega) _) (by omega)
  have blf := (bl.setCell (p := ⟨w.heap.size + 1 + 1, 0, none⟩) (by simp; omega) (.slice (some ⟨g, 0, none⟩) N c)).setCell (p := ⟨w.heap.size + 1 + 1, 1, none⟩) (by simp; omega) (.int .i64 (cl + R.2))
  clear hg bc br bl
  go_wp2
  refine bodyPost_ret (v := .agg #[.slice (some ⟨g, 0, none⟩) N c, .int .i64 (cl + R.2)]) (by simp [results, Try.results81, go_sem, r0, r1, rf0, rf1, rn]) rfl ⟨g, c, rfl, hfin, hlen, blf⟩
theorem cell_far {w : World} {a : Addr} {k : Nat} {v : Value} (hne : a.block ≠ k) (h : w.cell? a = some v) {i : Nat} {u : Value} : (w.setCell ⟨k, i, none⟩ u).cell? a = some v := by
  exact (World.cell?_setCell_far w ⟨k, i, none⟩ a u (Ne.symm hne)).trans h
theorem bl_size {V a c : World} (h : Below a.heap.size a c) (k : Below V.heap.size V a) : V.heap.size ≤ a.heap.size := k.size
set_option maxHeartbeats 4000000 in
theorem l09Next_any {w : World} {b Bd C : Nat} {W H X cl : Int} {v u : Value} {B P : List Int} (ba : Box w b 41 #[.int .i64 W, .int .i64 H, v]) (hI : Ints w Bd v B) (hp : Ok ⟨W, H, B⟩) (hX : 0 < X + 1 ∧ X + 1 < 2 * W) (hu : Ints w C u P) (hP : Pairing (colN ⟨W, H, B⟩) P) {N : Nat} (hN : colN ⟨W, H, B⟩ = N) (hcl : 0 ≤ cl ∧ cl ≤ 100000) {R : List Int × Int} (hR : pass P (links ⟨W, H, B⟩ (X + 1)) (colN ⟨W, H, B⟩) = R) :
    Calls Try.prog 79 #[.pointer (some ⟨b, 0, none⟩), .int .i64 X, .agg #[u, .int .i64 cl]] w fun e w' => ∃ g, e = .returned (.agg #[.slice (some ⟨g, 0, none⟩) N N, .int .i64 (cl + R.2)]) ∧
      Ints w' w.heap.size (.slice (some ⟨g, 0, none⟩) N N) R.1 ∧ R.1.length = N ∧ Below w.heap.size w w' := by
  obtain ⟨D, cD, rfl, _, _⟩ := hu.open_
  obtain ⟨h, rfl⟩ := Int.eq_ofNat_of_zero_le (show 0 ≤ H by have := hp.h1; simp only [] at this; omega)
  have hc : colN ⟨W, (h : Int), B⟩ = 2 * h := by unfold colN; simp only []; omega
  obtain rfl : N = 2 * h := by rw [← hN, hc]
  have h8 : 1 ≤ h ∧ h ≤ 8 := by have h1 := hp.h1; have h8 := hp.h8; simp only [] at h1 h8; omega
  rw [hc] at hP hR
  have HC : Hid (2 * colN ⟨W, (h : Int), B⟩ = 2 * (2 * h)) := Lib.hid (by rw [hc])
  have HLP : Hid (Pairing (2 * (2 * h)) (links ⟨W, (h : Int), B⟩ (X + 1))) := Lib.hid (by
    rw [← hc]
    unfold colN
    exact links_pair (p := ⟨W, (h : Int), B⟩) (by show 1 ≤ (h : Int); omega) (X + 1))
  have HR := Lib.hid hR
  have HO := Lib.hid hp
  have HX := Lib.hid hX
  have HP := Lib.hid hP
  have H8 := Lib.hid h8
  have HCL := Lib.hid hcl
  have bl := Joins.below_alloc2 w (.cells #[.slice D P.length cD, .int .i64 cl] 38) (.cells #[.slice none 0 0, .int .i64 0] 38)
  have bc := (Box.new w 38 #[.slice D P.length cD, .int .i64 cl]).alloc (.cells #[.slice none 0 0, .int .i64 0] 38)
  have br := Box.new (w.alloc (.cells #[.slice D P.length cD, .int .i64 cl] 38)) 38 #[.slice none 0 0, .int .i64 0]
  simp only [World.size_alloc] at br
  have hI1 := Row.below hI bl
  have hu1 := Row.below hu bl
  have hbl := ba.lt
  have ba1 := ba.below bl
  clear hR hp hX hP hN hI hu ba hc
  go_enter Try.func79, Try.ntmps79
  have q1 := ba1.cell 1
  have qn := ba1.lt
  have c0 := bc.cell 0
  have c1 := bc.cell 1
  have cn := bc.lt
  simp only [List.getElem?_toArray, List.getElem?_cons_zero, List.getElem?_cons_succ] at q1 c0 c1
  go_wp2
  generalize hV : (w.alloc (.cells #[.slice D P.length cD, .int .i64 cl] 38)).alloc (.cells #[.slice none 0 0, .int .i64 0] 38) = V at *
  have hVs : w.heap.size + 1 + 1 ≤ V.heap.size := by rw [← hV]; simp
  clear hV
  have KS : Hid (∀ w', Below V.heap.size V w' → (w'.cell? ⟨b, 1, none⟩ = some (.int .i64 (h : Int)) ∧ w'.cell? ⟨w.heap.size, 0, none⟩ = some (.slice D P.length cD) ∧ w'.cell? ⟨w.heap.size, 1, none⟩ = some (.int .i64 cl))) := Lib.hid (fun w' hb => ⟨(ba1.below hb).cell 1, (bc.below hb).cell 0, (bc.below hb).cell 1⟩)
  have KB : Hid (∀ w', Below V.heap.size V w' → Box w' b 41 #[.int .i64 W, .int .i64 (h : Int), v] ∧ Ints w' Bd v B ∧ Ints w' C (.slice D P.length cD) P) := Lib.hid (fun w' hb => ⟨ba1.below hb, Row.below hI1 hb, Row.below hu1 hb⟩)
  have KR : Hid (∀ w', Below V.heap.size V w' → Box w' (w.heap.size + 1) 38 #[.slice none 0 0, .int .i64 0] ∧ Below w.heap.size w w') := Lib.hid (fun w' hb => ⟨br.below hb, bnext bl hb⟩)
  have HWR : Hid (IntKind.i64.wrap (2 * (h : Int)) = 2 * (h : Int)) := Lib.hid (by simp [IntKind.wrap, IntKind.bits, IntKind.signed]; omega)
  clear ba1 bc br hI1 hu1 bl
  have n1 : (⟨b, 1, none⟩ : Addr).block ≠ w.heap.size + 1 := by show b ≠ w.heap.size + 1; omega
  have n2 : (⟨w.heap.size, 0, none⟩ : Addr).block ≠ w.heap.size + 1 := by show w.heap.size ≠ w.heap.size + 1; omega
  have n3 : (⟨w.heap.size, 1, none⟩ : Addr).block ≠ w.heap.size + 1 := by show w.heap.size ≠ w.heap.size + 1; omega
  go_region_held3 (fun w' => w'.cell? ⟨b, 1, none⟩ = some (.int .i64 (h : Int)) ∧ w'.cell? ⟨w.heap.size, 0, none⟩ = some (.slice D P.length cD) ∧ w'.cell? ⟨w.heap.size, 1, none⟩ = some (.int .i64 cl))
    ((first
      | exact ⟨cell_far n1 (cell_far n1 hk8.1), cell_far n2 (cell_far n2 hk8.2.1), cell_far n3 (cell_far n3 hk8.2.2)⟩
      | exact hk8
      | exact KS.out _ hBn
      | exact KS.out _ cut_drew))
    ((first
      | (go_at_call 74; go_split_ands; (with_reducible refine (l09Links_any (KB.out _ cut_drew).1 (KB.out _ cut_drew).2.1 HO.out HX.out HC.out).mono ?_); rintro e w7 ⟨gl, rfl, hl7, hb7⟩; have hBn := bnext (w := V) cut_drew hb7)
      | (go_at_call 75; go_split_ands; rw [HWR.out]; (with_reducible refine (l09Pass_any hl7 (KB.out _ hBn).2.2 HP.out HLP.out H8.out HCL.out HR.out).mono ?_); rintro e w8 ⟨g8, rfl, hl8, hn8, hb8⟩; have hs8 := hBn.size; have hB8 := bnext (w := V) hBn hb8; have br8 := (KR.out _ hB8).1; have r0 := br8.cell 0; have r1 := br8.cell 1; have rf0 := br8.free 0; have rf1 := br8.free 1; have rn := br8.lt; have hk8 := KS.out _ hB8)))
  all_goals
    go_split_ands
    simp only [List.getElem?_toArray, List.getElem?_cons_zero, List.getElem?_cons_succ] at r0 r1
    have hbw := (KR.out _ hB8).2
    have hfin : Ints ((w8.setCell ⟨w.heap.size + 1, 0, none⟩ (.slice (some ⟨g8, 0, none⟩) (2 * h) (2 * h))).setCell ⟨w.heap.size + 1, 1, none⟩ (.int .i64 (cl + R.2))) w.heap.size (.slice (some ⟨g8, 0, none⟩) (2 * h) (2 * h)) R.1 :=
      Row.le (C := w.heap.size) (Row.setCell (p := ⟨w.heap.size + 1, 1, none⟩) (Row.setCell (p := ⟨w.heap.size + 1, 0, none⟩) hl8 (fun g' hg' e' => by have := (Row.lt hl8 hg').1; have e2 : g' = w.heap.size + 1 := e'; omega) _) (fun g' hg' e' => by have := (Row.lt hl8 hg').1; have e2 : g' = w.heap.size + 1 := e'; omega) _) (by omega)
    have blf := (hbw.setCell (p := ⟨w.heap.size + 1, 0, none⟩) (by simp) (.slice (some ⟨g8, 0, none⟩) (2 * h) (2 * h))).setCell (p := ⟨w.heap.size + 1, 1, none⟩) (by simp) (.int .i64 (cl + R.2))
    go_wp2
    refine bodyPost_ret (v := .agg #[.slice (some ⟨g8, 0, none⟩) (2 * h) (2 * h), .int .i64 (cl + R.2)]) (by simp [results, Try.results79, go_sem, r0, r1, rf0, rf1, rn]) rfl ⟨g8, rfl, hfin, hn8, blf⟩
end Go.Proofs.Ytnldahadldolpaa
