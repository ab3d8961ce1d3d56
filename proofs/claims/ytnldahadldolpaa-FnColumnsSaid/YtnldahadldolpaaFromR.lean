/-
  FromRight, by the program and by the reference.
-/
import Derived.Test.YtnldahadldolpaaColB
import Derived.Test.YtnldahadldolpaaPlAllB
import Derived.StillTailTactics
namespace Go.Proofs.Ytnldahadldolpaa
open Go.RowKit Knot

open Classical in
/-- What FromRight answers. -/
noncomputable def rightM (p : Pan) (x : Int) : List Int × Int × Int :=
  if colCode p x = 0 then ((colR p (2 * p.W - 1 - x).toNat).1, (colR p (2 * p.W - 1 - x).toNat).2, 0) else ([], 0, colCode p x)
theorem rightM_code {p : Pan} {x : Int} (h : ¬ colCode p x = 0) : rightM p x = ([], 0, colCode p x) := by unfold rightM; rw [if_neg h]
theorem rightM_ok {p : Pan} {x : Int} (h : colCode p x = 0) : rightM p x = ((colR p (2 * p.W - 1 - x).toNat).1, (colR p (2 * p.W - 1 - x).toNat).2, 0) := by unfold rightM; rw [if_pos h]
theorem Chg.setcc {lo hi : Nat} {w a : World} (h : Chg lo hi w a) {p : Addr} (h1 : lo ≤ p.block) (h2 : p.block < hi) (u : Value) : Chg lo hi w (a.setCell p u) :=
  h.trans ⟨rfl, rfl, rfl, by simp [World.setCell], fun k _ hd => Below.heap_setCell a p u k (by omega)⟩
set_option maxRecDepth 20000 in
set_option maxHeartbeats 8000000 in
theorem K_impl_FromRight {w : World} {lo hi : Nat} {x y X dl r : Int} {v : Value} {xs zs : List Int} (hv : IntsIn w lo hi v xs) (hm : rightM ⟨x, y, xs⟩ X = (zs, dl, r)) :
    Calls Try.prog 39 #[.agg #[.int .i64 x, .int .i64 y, v], .int .i64 X] w fun e w' => ∃ A c, e = .returned (.tuple #[.agg #[.slice A zs.length c, .int .i64 dl], .int .i64 r]) ∧
      IntsIn w' w.heap.size w'.heap.size (.slice A zs.length c) zs ∧ Below w.heap.size w w' := by
  obtain ⟨A, cA, rfl, _, _⟩ := hv.1.open_
  have bl := Joins.below_alloc2 w (.cells #[.int .i64 x, .int .i64 y, .slice A xs.length cA] 41) (.cells #[.slice none 0 0, .int .i64 0] 38)
  have ba := (Box.new w 41 #[.int .i64 x, .int .i64 y, .slice A xs.length cA]).alloc (.cells #[.slice none 0 0, .int .i64 0] 38)
  have br := Box.new (w.alloc (.cells #[.int .i64 x, .int .i64 y, .slice A xs.length cA] 41)) 38 #[.slice none 0 0, .int .i64 0]
  simp only [World.size_alloc] at br
  replace hv := hv.below bl
  by_cases hc : colCode ⟨x, y, xs⟩ X = 0
  rotate_left
  · rw [rightM_code hc] at hm
    obtain ⟨rfl, rfl, hr⟩ : [] = zs ∧ 0 = dl ∧ colCode ⟨x, y, xs⟩ X = r := by simpa using hm
    have hrv : r = 1 ∨ r = 2 := by
      have := colCode_vals ⟨x, y, xs⟩ X
      omega
    have HR := Lib.hid hr
    clear hm hc hr
    rcases hrv with rfl | rfl
    · skip
      have q0 := ba.cell 0
      have q1 := ba.cell 1
      have q2 := ba.cell 2
      have qn := ba.lt
      simp only [List.getElem?_toArray, List.getElem?_cons_zero, List.getElem?_cons_succ] at q0 q1 q2
      go_enter Try.func39, Try.ntmps39
      go_wp2_with fail
      refine (columnCode_any hv.ints HR.out).mono ?_
      rintro e w2 ⟨rfl, hb⟩
      clear q0 q1 q2 qn
      replace ba := ba.below hb
      replace br := br.below hb
      replace hv := hv.below hb
      replace bl := bnext bl hb
      clear hb
      have r0 := br.cell 0
      have r1 := br.cell 1
      have rf0 := br.free 0
      have rf1 := br.free 1
      have rn := br.lt
      simp only [List.getElem?_toArray, List.getElem?_cons_zero, List.getElem?_cons_succ] at r0 r1
      go_wp2
      refine bodyPost_ret (v := .tuple #[.agg #[.slice none 0 0, .int .i64 0], .int .i64 1]) (by simp [results, Try.results39, go_sem, r0, r1, rf0, rf1, rn]) rfl ⟨none, 0, rfl, IntsIn.nil _ _ _ (Nat.le_refl _), ?_⟩
      exact (bl.setCell (p := ⟨w.heap.size + 1, 0, none⟩) (by simp) _).setCell (p := ⟨w.heap.size + 1, 1, none⟩) (by simp) _
    · skip
      have q0 := ba.cell 0
      have q1 := ba.cell 1
      have q2 := ba.cell 2
      have qn := ba.lt
      simp only [List.getElem?_toArray, List.getElem?_cons_zero, List.getElem?_cons_succ] at q0 q1 q2
      go_enter Try.func39, Try.ntmps39
      go_wp2_with fail
      refine (columnCode_any hv.ints HR.out).mono ?_
      rintro e w2 ⟨rfl, hb⟩
      clear q0 q1 q2 qn
      replace ba := ba.below hb
      replace br := br.below hb
      replace hv := hv.below hb
      replace bl := bnext bl hb
      clear hb
      have r0 := br.cell 0
      have r1 := br.cell 1
      have rf0 := br.free 0
      have rf1 := br.free 1
      have rn := br.lt
      simp only [List.getElem?_toArray, List.getElem?_cons_zero, List.getElem?_cons_succ] at r0 r1
      go_wp2
      refine bodyPost_ret (v := .tuple #[.agg #[.slice none 0 0, .int .i64 0], .int .i64 2]) (by simp [results, Try.results39, go_sem, r0, r1, rf0, rf1, rn]) rfl ⟨none, 0, rfl, IntsIn.nil _ _ _ (Nat.le_refl _), ?_⟩
      exact (bl.setCell (p := ⟨w.heap.size + 1, 0, none⟩) (by simp) _).setCell (p := ⟨w.heap.size + 1, 1, none⟩) (by simp) _
  obtain ⟨ho, hX0, hX1⟩ := colCode_zero hc
  rw [rightM_ok hc] at hm
  have hW8 := ho.w8
  have hW1 := ho.w1
  have hH8 := ho.h8
  have hH1 := ho.h1
  simp only [] at hW8 hW1 hH8 hH1 hX1 hm
  obtain ⟨h, rfl⟩ := Int.eq_ofNat_of_zero_le (show 0 ≤ y by omega)
  have hcn : colN ⟨x, (h : Int), xs⟩ = 2 * h := by unfold colN; simp only []; omega
  obtain ⟨K, hK⟩ : ∃ K, (2 * x - 1 - X).toNat = K := ⟨_, rfl⟩
  rw [hK] at hm
  have hKX : (K : Int) = 2 * x - 1 - X := by omega
  obtain ⟨hz, hd, rfl⟩ : (colR ⟨x, (h : Int), xs⟩ K).1 = zs ∧ (colR ⟨x, (h : Int), xs⟩ K).2 = dl ∧ 0 = r := by simpa using hm
  subst hz hd
  have HO := Lib.hid ho
  have HC := Lib.hid hc
  have HCN := Lib.hid hcn
  have HCP : Hid (∀ k, Pairing (2 * h) (colR ⟨x, (h : Int), xs⟩ k).1) := Lib.hid (fun k => by rw [← hcn]; exact colR_pair ho k)
  have HCB : Hid (∀ k : Nat, 0 ≤ (colR ⟨x, (h : Int), xs⟩ k).2 ∧ (colR ⟨x, (h : Int), xs⟩ k).2 ≤ 16 * k) := Lib.hid (fun k => colR_bd ho k)
  have HCS : Hid (∀ k : Nat, colR ⟨x, (h : Int), xs⟩ (k + 1) = ((pass (colR ⟨x, (h : Int), xs⟩ k).1 (linksR ⟨x, (h : Int), xs⟩ (2 * x - 1 - k)) (2 * h)).1, (colR ⟨x, (h : Int), xs⟩ k).2 + (pass (colR ⟨x, (h : Int), xs⟩ k).1 (linksR ⟨x, (h : Int), xs⟩ (2 * x - 1 - k)) (2 * h)).2)) := Lib.hid (fun k => by rw [← hcn]; rfl)
  have HC0 : Hid (colR ⟨x, (h : Int), xs⟩ 0 = (nbrsK (2 * h), 0)) := Lib.hid (by rw [← hcn]; rfl)
  clear hm hc ho hcn hK
  have q0 := ba.cell 0
  have q1 := ba.cell 1
  have q2 := ba.cell 2
  have qn := ba.lt
  simp only [List.getElem?_toArray, List.getElem?_cons_zero, List.getElem?_cons_succ] at q0 q1 q2
  go_enter Try.func39, Try.ntmps39
  go_wp2_with fail
  refine (columnCode_any hv.ints HC.out).mono ?_
  rintro e w2 ⟨rfl, hb⟩
  clear q0 q1 q2 qn
  replace ba := ba.below hb
  replace br := br.below hb
  replace hv := hv.below hb
  replace bl := bnext bl hb
  clear hb
  have q0 := ba.cell 0
  have q1 := ba.cell 1
  have q2 := ba.cell 2
  have qn := ba.lt
  simp only [List.getElem?_toArray, List.getElem?_cons_zero, List.getElem?_cons_succ] at q0 q1 q2
  go_wp2_with fail
  refine (neighbours_any (n := 2 * h) (by omega)).mono ?_
  rintro e w3 ⟨D, cD, rfl, hD, hb⟩
  have s3 := hb.size
  have s2 := br.lt
  have hDlt := Lib.hid hD.1
  clear q0 q1 q2 qn
  replace ba := ba.below hb
  replace br := br.below hb
  replace hv := hv.below hb
  replace bl := bnext bl hb
  clear hb
  have hnl : (nbrsK (2 * h)).length = 2 * h := by simp [nbrsK]
  have hD0 : Ints w3 (w.heap.size + 2) (.slice D (2 * h) cD) (colR ⟨x, (h : Int), xs⟩ 0).1 := by rw [HC0.out]; exact Row.le hD.1 (by omega)
  have hcl0 : (0 : Int) = (colR ⟨x, (h : Int), xs⟩ 0).2 := by rw [HC0.out]
  have HCL0 := Lib.hid hcl0
  have hpw : w.heap.size + 1 < w3.heap.size := br.lt
  have bo := Box.new w3 38 #[.slice D (2 * h) cD, .int .i64 0]
  have hz := Joins.below_alloc1 w3 (.cells #[.slice D (2 * h) cD, .int .i64 0] 38)
  replace hD0 := Row.below hD0 hz
  have KX : Hid (∀ wr, Chg w3.heap.size (w3.heap.size + 1) (w3.alloc (.cells #[.slice D (2 * h) cD, .int .i64 0] 38)) wr → Box wr w.heap.size 41 #[.int .i64 x, .int .i64 (h : Int), .slice A xs.length cA] ∧ Box wr (w.heap.size + 1) 38 #[.slice none 0 0, .int .i64 0] ∧ IntsIn wr lo hi (.slice A xs.length cA) xs ∧ Below w.heap.size w wr) := by
    have ba2 := ba.below hz
    have br2 := br.below hz
    have hv2 := hv.below hz
    have bl2 := bnext bl hz
    have hhi := hv.hi_le
    exact Lib.hid (fun wr hc => ⟨ba2.chg hc (.inl (by omega)), br2.chg hc (.inl (by omega)), hv2.chg hc (.inl (by omega)), bl2.trans (hc.toBelow (by omega) bl2.size)⟩)
  have hc0 : Chg w3.heap.size (w3.heap.size + 1) (w3.alloc (.cells #[.slice D (2 * h) cD, .int .i64 0] 38)) (w3.alloc (.cells #[.slice D (2 * h) cD, .int .i64 0] 38)) := Chg.ofBelow (Below.refl _ _)
  have q0 := ba.cell 0
  have q1 := ba.cell 1
  have q2 := ba.cell 2
  have qn := ba.lt
  simp only [List.getElem?_toArray, List.getElem?_cons_zero, List.getElem?_cons_succ] at q0 q1 q2
  rw [hcl0] at bo
  have HB0 := Lib.hid bo
  have HD0 := Lib.hid hD0
  have HCC := Lib.hid hc0
  clear hz ba br hv bl hD bo hD0 hc0 hcl0
  go_wp2
  clear q0 q1 q2 qn
  go_loopw [8] (fun sa wr => ∃ (k : Nat) (g : Option Addr) (c : Nat), k ≤ K ∧ sa = .int .i64 (2 * x - 1 - (k : Int)) ∧ Box wr w3.heap.size 38 #[.slice g (2 * h) c, .int .i64 (colR ⟨x, (h : Int), xs⟩ k).2] ∧ Ints wr (w.heap.size + 2) (.slice g (2 * h) c) (colR ⟨x, (h : Int), xs⟩ k).1 ∧ (∀ q, g = some ⟨q, 0, none⟩ → q ≠ w3.heap.size) ∧
      Chg w3.heap.size (w3.heap.size + 1) (w3.alloc (.cells #[.slice D (2 * h) cD, .int .i64 0] 38)) wr) (fun sa _ => (intOf sa + 2).toNat)
  case atStart =>
    refine ⟨0, _, _, Nat.zero_le _, ?_, HB0.out, HD0.out, ?_, HCC.out⟩
    · congr 1; simp
    · intro q hq
      have hlt := (Row.lt hDlt.out (g := q) (by rw [hq]; rfl)).2
      omega
  case round =>
    obtain ⟨k, g, c, hk, rfl, bo, hD, hgne, hc⟩ := hrel
    obtain ⟨ba, br, hv, bl⟩ := KX.out _ hc
    obtain ⟨cb0, cb1⟩ := HCB.out k
    have hws : w3.heap.size + 1 ≤ wr.heap.size := by have := hc.size; simpa using this
    by_cases hlt : k < K
    · have hXX : 0 < 2 * x - 1 - (k : Int) ∧ 2 * x - 1 - (k : Int) < 2 * x := by omega
      have HXX := Lib.hid hXX
      obtain ⟨R, hR⟩ : ∃ R, pass (colR ⟨x, (h : Int), xs⟩ k).1 (linksR ⟨x, (h : Int), xs⟩ (2 * x - 1 - k)) (2 * h) = R := ⟨_, rfl⟩
      have hRb : 0 ≤ R.2 ∧ R.2 ≤ 16 := by
        have := pass_bd (colR ⟨x, (h : Int), xs⟩ k).1 (linksR ⟨x, (h : Int), xs⟩ (2 * x - 1 - k)) (2 * h)
        rw [hR] at this
        omega
      have HNX : Hid (colR ⟨x, (h : Int), xs⟩ (k + 1) = (R.1, (colR ⟨x, (h : Int), xs⟩ k).2 + R.2)) := Lib.hid (by rw [HCS.out, hR])
      have HP := Lib.hid (HCP.out k)
      have HR := Lib.hid hR
      have hPl : (colR ⟨x, (h : Int), xs⟩ k).1.length = 2 * h := (HCP.out k).len
      have HPL := Lib.hid hPl
      generalize colR ⟨x, (h : Int), xs⟩ k = Q at *
      clear hR hPl
      have q0 := ba.cell 0
      have q1 := ba.cell 1
      have q2 := ba.cell 2
      have qn := ba.lt
      simp only [List.getElem?_toArray, List.getElem?_cons_zero, List.getElem?_cons_succ] at q0 q1 q2
      have o0 := bo.cell 0
      have o1 := bo.cell 1
      have on := bo.lt
      simp only [List.getElem?_toArray, List.getElem?_cons_zero, List.getElem?_cons_succ] at o0 o1
      have hcond : X < 2 * x - 1 - (k : Int) := by omega
      have HP2 : Hid (Pairing (colN ⟨x, (h : Int), xs⟩) Q.1) := Lib.hid (by rw [HCN.out]; exact HP.out)
      have HR2 : Hid (pass Q.1 (lkOf ⟨x, (h : Int), xs⟩ (2 * x - 1 - (k : Int)) false) (colN ⟨x, (h : Int), xs⟩) = R) := Lib.hid (by rw [HCN.out]; exact HR.out)
      go_wp2_with fail
      refine (passColumn_any (tw := false) hv.1 HO.out HXX.out hD HP2.out HCN.out HR2.out).mono ?_
      rintro e w5 ⟨g5, c5, rfl, hg5, hl5, hb5⟩
      have hs5 := hb5.size
      replace bo := bo.below hb5
      replace hc := hc.trans (Chg.ofBelow hb5)
      clear q0 q1 q2 qn o0 o1 on hb5 ba br hv bl hD
      have o0 := bo.cell 0
      have o1 := bo.cell 1
      have of0 := bo.free 0
      have of1 := bo.free 1
      have on := bo.lt
      simp only [List.getElem?_toArray, List.getElem?_cons_zero, List.getElem?_cons_succ] at o0 o1
      have hq5 := (Row.lt hg5 (g := g5) rfl).1
      have hne5 : g5 ≠ w3.heap.size := by omega
      have bo5 : Box ((w5.setCell ⟨w3.heap.size, 0, none⟩ (.slice (some ⟨g5, 0, none⟩) (2 * h) c5)).setCell ⟨w3.heap.size, 1, none⟩ (.int .i64 (Q.2 + R.2))) w3.heap.size 38 #[.slice (some ⟨g5, 0, none⟩) (2 * h) c5, .int .i64 (Q.2 + R.2)] := by simpa using (bo.set_ 0 (.slice (some ⟨g5, 0, none⟩) (2 * h) c5)).set_ 1 (.int .i64 (Q.2 + R.2))
      have hD5 : Ints ((w5.setCell ⟨w3.heap.size, 0, none⟩ (.slice (some ⟨g5, 0, none⟩) (2 * h) c5)).setCell ⟨w3.heap.size, 1, none⟩ (.int .i64 (Q.2 + R.2))) (w.heap.size + 2) (.slice (some ⟨g5, 0, none⟩) (2 * h) c5) R.1 := Row.le (C := w.heap.size + 2) (Row.setCell (p := ⟨w3.heap.size, 1, none⟩) (Row.setCell (p := ⟨w3.heap.size, 0, none⟩) hg5 (fun g' hg' e' => hne5 (by rw [ownBlock_slice] at hg'; injection hg' with hg'; exact hg'.trans e')) _) (fun g' hg' e' => hne5 (by rw [ownBlock_slice] at hg'; injection hg' with hg'; exact hg'.trans e')) _) (by omega)
      have hc5 := (hc.setcc (p := ⟨w3.heap.size, 0, none⟩) (Nat.le_refl _) (Nat.lt_succ_self _) (.slice (some ⟨g5, 0, none⟩) (2 * h) c5)).setcc (p := ⟨w3.heap.size, 1, none⟩) (Nat.le_refl _) (Nat.lt_succ_self _) (.int .i64 (Q.2 + R.2))
      have R5 : Hid (∃ (k2 : Nat) (g : Option Addr) (c : Nat), k2 ≤ K ∧ (.int .i64 (2 * x - 1 - (k : Int) - 1) : Value) = .int .i64 (2 * x - 1 - (k2 : Int)) ∧ Box ((w5.setCell ⟨w3.heap.size, 0, none⟩ (.slice (some ⟨g5, 0, none⟩) (2 * h) c5)).setCell ⟨w3.heap.size, 1, none⟩ (.int .i64 (Q.2 + R.2))) w3.heap.size 38 #[.slice g (2 * h) c, .int .i64 (colR ⟨x, (h : Int), xs⟩ k2).2] ∧ Ints ((w5.setCell ⟨w3.heap.size, 0, none⟩ (.slice (some ⟨g5, 0, none⟩) (2 * h) c5)).setCell ⟨w3.heap.size, 1, none⟩ (.int .i64 (Q.2 + R.2))) (w.heap.size + 2) (.slice g (2 * h) c) (colR ⟨x, (h : Int), xs⟩ k2).1 ∧ (∀ q, g = some ⟨q, 0, none⟩ → q ≠ w3.heap.size) ∧
          Chg w3.heap.size (w3.heap.size + 1) (w3.alloc (.cells #[.slice D (2 * h) cD, .int .i64 0] 38)) ((w5.setCell ⟨w3.heap.size, 0, none⟩ (.slice (some ⟨g5, 0, none⟩) (2 * h) c5)).setCell ⟨w3.heap.size, 1, none⟩ (.int .i64 (Q.2 + R.2)))) := Lib.hid ⟨k + 1, some ⟨g5, 0, none⟩, c5, by omega, by (congr 1; omega), by rw [HNX.out]; exact bo5, by rw [HNX.out]; exact hD5, fun q hq => by injection hq with hq; injection hq with hq; rw [← hq]; exact hne5, hc5⟩
      clear bo5 hD5 hc5 bo hg5 hc
      go_wp2
      go_roundw
      case rel => exact R5.out
      case measure => simp [intOf]; omega
    · have e : k = K := by omega
      subst e
      have hcond : 2 * x - 1 - (k : Int) = X := by omega
      rw [hcond]
      have hPl : (colR ⟨x, (h : Int), xs⟩ k).1.length = 2 * h := (HCP.out k).len
      have o0 := bo.cell 0
      have o1 := bo.cell 1
      have on := bo.lt
      have r0 := br.cell 0
      have r1 := br.cell 1
      have rf0 := br.free 0
      have rf1 := br.free 1
      have rn := br.lt
      simp only [List.getElem?_toArray, List.getElem?_cons_zero, List.getElem?_cons_succ] at o0 o1 r0 r1
      have hq : ∀ g' : Nat, (Value.slice g (2 * h) c).ownBlock = some g' → g' ≠ w.heap.size + 1 := fun g' hg' e' => by have := (Row.lt hD hg').1; omega
      have hfin : Ints ((wr.setCell ⟨w.heap.size + 1, 0, none⟩ (.slice g (2 * h) c)).setCell ⟨w.heap.size + 1, 1, none⟩ (.int .i64 (colR ⟨x, (h : Int), xs⟩ k).2)) w.heap.size (.slice g (2 * h) c) (colR ⟨x, (h : Int), xs⟩ k).1 := Row.le (C := w.heap.size) (Row.setCell (p := ⟨w.heap.size + 1, 1, none⟩) (Row.setCell (p := ⟨w.heap.size + 1, 0, none⟩) hD (fun g' hg' e' => hq g' hg' e') _) (fun g' hg' e' => hq g' hg' e') _) (by omega)
      have blf := (bl.setCell (p := ⟨w.heap.size + 1, 0, none⟩) (by simp) (.slice g (2 * h) c)).setCell (p := ⟨w.heap.size + 1, 1, none⟩) (by simp) (.int .i64 (colR ⟨x, (h : Int), xs⟩ k).2)
      have HPL := Lib.hid hPl
      have HFI := Lib.hid hfin
      have hlen2 : (colR ⟨x, (h : Int), xs⟩ k).1.length ≤ 2000000 := by omega
      clear hD bo hfin hq ba hv bl hPl
      go_wp2
      refine bodyPost_ret (v := .tuple #[.agg #[.slice g (2 * h) c, .int .i64 (colR ⟨x, (h : Int), xs⟩ k).2], .int .i64 0]) (by simp [results, Try.results39, go_sem, r0, r1, rf0, rf1, rn]) rfl ⟨g, c, by rw [HPL.out], ?_, blf⟩
      rw [HPL.out]
      exact IntsIn.ofInts HFI.out hlen2
set_option maxRecDepth 20000 in
set_option maxHeartbeats 8000000 in
theorem K_spec_FromRight {w : World} {lo hi : Nat} {x y X dl r : Int} {v : Value} {xs zs : List Int} (hv : IntsIn w lo hi v xs) (hm : rightM ⟨x, y, xs⟩ X = (zs, dl, r)) :
    Calls Try.prog 38 #[.agg #[.int .i64 x, .int .i64 y, v], .int .i64 X] w fun e w' => ∃ A c, e = .returned (.tuple #[.agg #[.slice A zs.length c, .int .i64 dl], .int .i64 r]) ∧
      IntsIn w' w.heap.size w'.heap.size (.slice A zs.length c) zs ∧ Below w.heap.size w w' := by
  obtain ⟨A, cA, rfl, _, _⟩ := hv.1.open_
  have bl := Joins.below_alloc2 w (.cells #[.int .i64 x, .int .i64 y, .slice A xs.length cA] 41) (.cells #[.slice none 0 0, .int .i64 0] 38)
  have ba := (Box.new w 41 #[.int .i64 x, .int .i64 y, .slice A xs.length cA]).alloc (.cells #[.slice none 0 0, .int .i64 0] 38)
  have br := Box.new (w.alloc (.cells #[.int .i64 x, .int .i64 y, .slice A xs.length cA] 41)) 38 #[.slice none 0 0, .int .i64 0]
  simp only [World.size_alloc] at br
  replace hv := hv.below bl
  by_cases hc : colCode ⟨x, y, xs⟩ X = 0
  rotate_left
  · rw [rightM_code hc] at hm
    obtain ⟨rfl, rfl, hr⟩ : [] = zs ∧ 0 = dl ∧ colCode ⟨x, y, xs⟩ X = r := by simpa using hm
    have hrv : r = 1 ∨ r = 2 := by
      have := colCode_vals ⟨x, y, xs⟩ X
      omega
    have HR := Lib.hid hr
    clear hm hc hr
    rcases hrv with rfl | rfl
    · skip
      have q0 := ba.cell 0
      have q1 := ba.cell 1
      have q2 := ba.cell 2
      have qn := ba.lt
      simp only [List.getElem?_toArray, List.getElem?_cons_zero, List.getElem?_cons_succ] at q0 q1 q2
      go_enter Try.func38, Try.ntmps38
      go_wp2_with fail
      refine (l09Code_any ba hv.ints HR.out).mono ?_
      rintro e w2 ⟨rfl, hb⟩
      clear q0 q1 q2 qn
      replace ba := ba.below hb
      replace br := br.below hb
      replace hv := hv.below hb
      replace bl := bnext bl hb
      clear hb
      have r0 := br.cell 0
      have r1 := br.cell 1
      have rf0 := br.free 0
      have rf1 := br.free 1
      have rn := br.lt
      simp only [List.getElem?_toArray, List.getElem?_cons_zero, List.getElem?_cons_succ] at r0 r1
      go_wp2
      refine bodyPost_ret (v := .tuple #[.agg #[.slice none 0 0, .int .i64 0], .int .i64 1]) (by simp [results, Try.results38, go_sem, r0, r1, rf0, rf1, rn]) rfl ⟨none, 0, rfl, IntsIn.nil _ _ _ (Nat.le_refl _), ?_⟩
      exact (bl.setCell (p := ⟨w.heap.size + 1, 0, none⟩) (by simp) _).setCell (p := ⟨w.heap.size + 1, 1, none⟩) (by simp) _
    · skip
      have q0 := ba.cell 0
      have q1 := ba.cell 1
      have q2 := ba.cell 2
      have qn := ba.lt
      simp only [List.getElem?_toArray, List.getElem?_cons_zero, List.getElem?_cons_succ] at q0 q1 q2
      go_enter Try.func38, Try.ntmps38
      go_wp2_with fail
      refine (l09Code_any ba hv.ints HR.out).mono ?_
      rintro e w2 ⟨rfl, hb⟩
      clear q0 q1 q2 qn
      replace ba := ba.below hb
      replace br := br.below hb
      replace hv := hv.below hb
      replace bl := bnext bl hb
      clear hb
      have r0 := br.cell 0
      have r1 := br.cell 1
      have rf0 := br.free 0
      have rf1 := br.free 1
      have rn := br.lt
      simp only [List.getElem?_toArray, List.getElem?_cons_zero, List.getElem?_cons_succ] at r0 r1
      go_wp2
      refine bodyPost_ret (v := .tuple #[.agg #[.slice none 0 0, .int .i64 0], .int .i64 2]) (by simp [results, Try.results38, go_sem, r0, r1, rf0, rf1, rn]) rfl ⟨none, 0, rfl, IntsIn.nil _ _ _ (Nat.le_refl _), ?_⟩
      exact (bl.setCell (p := ⟨w.heap.size + 1, 0, none⟩) (by simp) _).setCell (p := ⟨w.heap.size + 1, 1, none⟩) (by simp) _
  obtain ⟨ho, hX0, hX1⟩ := colCode_zero hc
  rw [rightM_ok hc] at hm
  have hW8 := ho.w8
  have hW1 := ho.w1
  have hH8 := ho.h8
  have hH1 := ho.h1
  simp only [] at hW8 hW1 hH8 hH1 hX1 hm
  obtain ⟨h, rfl⟩ := Int.eq_ofNat_of_zero_le (show 0 ≤ y by omega)
  have hcn : colN ⟨x, (h : Int), xs⟩ = 2 * h := by unfold colN; simp only []; omega
  obtain ⟨K, hK⟩ : ∃ K, (2 * x - 1 - X).toNat = K := ⟨_, rfl⟩
  rw [hK] at hm
  have hKX : (K : Int) = 2 * x - 1 - X := by omega
  obtain ⟨hz, hd, rfl⟩ : (colR ⟨x, (h : Int), xs⟩ K).1 = zs ∧ (colR ⟨x, (h : Int), xs⟩ K).2 = dl ∧ 0 = r := by simpa using hm
  subst hz hd
  have HO := Lib.hid ho
  have HC := Lib.hid hc
  have HCN := Lib.hid hcn
  have HCP : Hid (∀ k, Pairing (2 * h) (colR ⟨x, (h : Int), xs⟩ k).1) := Lib.hid (fun k => by rw [← hcn]; exact colR_pair ho k)
  have HCB : Hid (∀ k : Nat, 0 ≤ (colR ⟨x, (h : Int), xs⟩ k).2 ∧ (colR ⟨x, (h : Int), xs⟩ k).2 ≤ 16 * k) := Lib.hid (fun k => colR_bd ho k)
  have HCS : Hid (∀ k : Nat, colR ⟨x, (h : Int), xs⟩ (k + 1) = ((pass (colR ⟨x, (h : Int), xs⟩ k).1 (linksR ⟨x, (h : Int), xs⟩ (2 * x - 1 - k)) (2 * h)).1, (colR ⟨x, (h : Int), xs⟩ k).2 + (pass (colR ⟨x, (h : Int), xs⟩ k).1 (linksR ⟨x, (h : Int), xs⟩ (2 * x - 1 - k)) (2 * h)).2)) := Lib.hid (fun k => by rw [← hcn]; rfl)
  have HC0 : Hid (colR ⟨x, (h : Int), xs⟩ 0 = (nbrsK (2 * h), 0)) := Lib.hid (by rw [← hcn]; rfl)
  clear hm hc ho hcn hK
  have q0 := ba.cell 0
  have q1 := ba.cell 1
  have q2 := ba.cell 2
  have qn := ba.lt
  simp only [List.getElem?_toArray, List.getElem?_cons_zero, List.getElem?_cons_succ] at q0 q1 q2
  go_enter Try.func38, Try.ntmps38
  go_wp2_with fail
  refine (l09Code_any ba hv.ints HC.out).mono ?_
  rintro e w2 ⟨rfl, hb⟩
  clear q0 q1 q2 qn
  replace ba := ba.below hb
  replace br := br.below hb
  replace hv := hv.below hb
  replace bl := bnext bl hb
  clear hb
  have q0 := ba.cell 0
  have q1 := ba.cell 1
  have q2 := ba.cell 2
  have qn := ba.lt
  simp only [List.getElem?_toArray, List.getElem?_cons_zero, List.getElem?_cons_succ] at q0 q1 q2
  go_wp2_with fail
  refine (l09Right_any ba hv.1 HO.out HCN.out).mono ?_
  rintro e w3 ⟨gD, rfl, hD, hb⟩
  have s3 := hb.size
  have s2 := br.lt
  have hDlt := Lib.hid hD
  clear q0 q1 q2 qn
  replace ba := ba.below hb
  replace br := br.below hb
  replace hv := hv.below hb
  replace bl := bnext bl hb
  clear hb
  have hnl : (nbrsK (2 * h)).length = 2 * h := by simp [nbrsK]
  have hD0 : Ints w3 (w.heap.size + 2) (.slice (some ⟨gD, 0, none⟩) (2 * h) (2 * h)) (colR ⟨x, (h : Int), xs⟩ 0).1 := by rw [HC0.out]; exact Row.le hD (by omega)
  have hcl0 : (0 : Int) = (colR ⟨x, (h : Int), xs⟩ 0).2 := by rw [HC0.out]
  have HCL0 := Lib.hid hcl0
  have hpw : w.heap.size + 1 < w3.heap.size := br.lt
  have bo := Box.new w3 38 #[.slice (some ⟨gD, 0, none⟩) (2 * h) (2 * h), .int .i64 0]
  have hz := Joins.below_alloc1 w3 (.cells #[.slice (some ⟨gD, 0, none⟩) (2 * h) (2 * h), .int .i64 0] 38)
  replace hD0 := Row.below hD0 hz
  have KX : Hid (∀ wr, Chg w3.heap.size (w3.heap.size + 1) (w3.alloc (.cells #[.slice (some ⟨gD, 0, none⟩) (2 * h) (2 * h), .int .i64 0] 38)) wr → Box wr w.heap.size 41 #[.int .i64 x, .int .i64 (h : Int), .slice A xs.length cA] ∧ Box wr (w.heap.size + 1) 38 #[.slice none 0 0, .int .i64 0] ∧ IntsIn wr lo hi (.slice A xs.length cA) xs ∧ Below w.heap.size w wr) := by
    have ba2 := ba.below hz
    have br2 := br.below hz
    have hv2 := hv.below hz
    have bl2 := bnext bl hz
    have hhi := hv.hi_le
    exact Lib.hid (fun wr hc => ⟨ba2.chg hc (.inl (by omega)), br2.chg hc (.inl (by omega)), hv2.chg hc (.inl (by omega)), bl2.trans (hc.toBelow (by omega) bl2.size)⟩)
  have hc0 : Chg w3.heap.size (w3.heap.size + 1) (w3.alloc (.cells #[.slice (some ⟨gD, 0, none⟩) (2 * h) (2 * h), .int .i64 0] 38)) (w3.alloc (.cells #[.slice (some ⟨gD, 0, none⟩) (2 * h) (2 * h), .int .i64 0] 38)) := Chg.ofBelow (Below.refl _ _)
  have q0 := ba.cell 0
  have q1 := ba.cell 1
  have q2 := ba.cell 2
  have qn := ba.lt
  simp only [List.getElem?_toArray, List.getElem?_cons_zero, List.getElem?_cons_succ] at q0 q1 q2
  rw [hcl0] at bo
  have HB0 := Lib.hid bo
  have HD0 := Lib.hid hD0
  have HCC := Lib.hid hc0
  clear hz ba br hv bl hD bo hD0 hc0 hcl0
  go_wp2
  clear q0 q1 q2 qn
  go_loopw [9] (fun sa wr => ∃ (k : Nat) (g : Option Addr) (c : Nat), k ≤ K ∧ sa = .int .i64 (2 * x - 2 - (k : Int)) ∧ Box wr w3.heap.size 38 #[.slice g (2 * h) c, .int .i64 (colR ⟨x, (h : Int), xs⟩ k).2] ∧ Ints wr (w.heap.size + 2) (.slice g (2 * h) c) (colR ⟨x, (h : Int), xs⟩ k).1 ∧ (∀ q, g = some ⟨q, 0, none⟩ → q ≠ w3.heap.size) ∧
      Chg w3.heap.size (w3.heap.size + 1) (w3.alloc (.cells #[.slice (some ⟨gD, 0, none⟩) (2 * h) (2 * h), .int .i64 0] 38)) wr) (fun sa _ => (intOf sa + 2).toNat)
  case atStart =>
    refine ⟨0, _, _, Nat.zero_le _, ?_, HB0.out, HD0.out, ?_, HCC.out⟩
    · congr 1; simp
    · intro q hq
      injection hq with hq
      injection hq with hq
      have hlt := (Row.lt hDlt.out (g := gD) rfl).2
      omega
  case round =>
    obtain ⟨k, g, c, hk, rfl, bo, hD, hgne, hc⟩ := hrel
    obtain ⟨ba, br, hv, bl⟩ := KX.out _ hc
    obtain ⟨cb0, cb1⟩ := HCB.out k
    have hws : w3.heap.size + 1 ≤ wr.heap.size := by have := hc.size; simpa using this
    by_cases hlt : k < K
    · have hXX : 0 < 2 * x - 1 - (k : Int) ∧ 2 * x - 1 - (k : Int) < 2 * x := by omega
      have HXX := Lib.hid hXX
      obtain ⟨R, hR⟩ : ∃ R, pass (colR ⟨x, (h : Int), xs⟩ k).1 (linksR ⟨x, (h : Int), xs⟩ (2 * x - 1 - k)) (2 * h) = R := ⟨_, rfl⟩
      have hRb : 0 ≤ R.2 ∧ R.2 ≤ 16 := by
        have := pass_bd (colR ⟨x, (h : Int), xs⟩ k).1 (linksR ⟨x, (h : Int), xs⟩ (2 * x - 1 - k)) (2 * h)
        rw [hR] at this
        omega
      have HNX : Hid (colR ⟨x, (h : Int), xs⟩ (k + 1) = (R.1, (colR ⟨x, (h : Int), xs⟩ k).2 + R.2)) := Lib.hid (by rw [HCS.out, hR])
      have HP := Lib.hid (HCP.out k)
      have HR := Lib.hid hR
      have hPl : (colR ⟨x, (h : Int), xs⟩ k).1.length = 2 * h := (HCP.out k).len
      have HPL := Lib.hid hPl
      generalize colR ⟨x, (h : Int), xs⟩ k = Q at *
      clear hR hPl
      have o0 := bo.cell 0
      have o1 := bo.cell 1
      have on := bo.lt
      simp only [List.getElem?_toArray, List.getElem?_cons_zero, List.getElem?_cons_succ] at o0 o1
      have hcond : X ≤ 2 * x - 2 - (k : Int) := by omega
      have HX3 : Hid (0 < 2 * x - 2 - (k : Int) + 1 ∧ 2 * x - 2 - (k : Int) + 1 < 2 * x) := Lib.hid (by omega)
      have HN3 : Hid (2 * colN ⟨x, (h : Int), xs⟩ = 2 * (2 * h)) := Lib.hid (by rw [HCN.out])
      go_wp2_with fail
      refine (l09Links_any ba hv.1 HO.out HX3.out HN3.out).mono ?_
      rintro e w4 ⟨gl, rfl, hl4, hb4⟩
      have hs4 := hb4.size
      replace bo := bo.below hb4
      replace hD := Row.below hD hb4
      replace hc := hc.trans (Chg.ofBelow hb4)
      have hXe : 2 * x - 2 - (k : Int) + 1 = 2 * x - 1 - (k : Int) := by omega
      rw [hXe] at hl4
      clear o0 o1 on hb4 ba br hv bl hXe hcond
      have hgl := (Row.lt hl4 (g := gl) rfl)
      obtain ⟨i0, hinf, hz0, hz1, hz2⟩ := info_parts info_int
      obtain ⟨gt, hgt⟩ : ∃ gt, w4.heap.size = gt := ⟨_, rfl⟩
      go_wp2_with (at_make; refine wpList_make_full _ rfl _ _ 22 rfl w4.heap.size 2 i0 (.int .i64 0) 1 Try.underlying22 hinf hz0 hz1 _ _ _ _ (2 * (2 * h)) rfl rfl (by omega) (by omega) (by rw [hz2]; omega) (by unfold maxLen; omega) (Nat.le_refl _) ?_)
      intro w6 hown hgrow
      have hb6 : Below w4.heap.size w4 w6 := (Below.refl _ _).grown hgrow (Nat.le_refl _) (by simp)
      try rw [hgt] at hown
      try rw [hgt]
      have hT6 : Ints w6 gt (.slice (some ⟨gt, 0, none⟩) (2 * (2 * h)) (2 * (2 * h))) (List.replicate (2 * (2 * h)) 0) := by
        unfold Ints Row
        rw [List.length_replicate, List.map_replicate]
        simpa [Value.cells, toList_madeCells_one] using hown
      have hl6 := Row.below hl4 hb6
      have hD6 := Row.below hD hb6
      have bo6 := bo.below hb6
      have hc6 := hc.trans (Chg.ofBelow hb6)
      have hgtl := (Row.lt hT6 (g := gt) rfl).2
      have KT : Hid (∀ wr, Chg gt (gt + 1) w6 wr → Ints wr gl (.slice (some ⟨gl, 0, none⟩) (2 * (2 * h)) (2 * (2 * h))) (links ⟨x, (h : Int), xs⟩ (2 * x - 1 - (k : Int))) ∧ Ints wr (w.heap.size + 2) (.slice g (2 * h) c) Q.1 ∧ Box wr w3.heap.size 38 #[.slice g (2 * h) c, .int .i64 Q.2] ∧
          Chg w3.heap.size (w3.heap.size + 1) (w3.alloc (.cells #[.slice (some ⟨gD, 0, none⟩) (2 * h) (2 * h), .int .i64 0] 38)) wr) := by
        have hl7 : Ints w6 gl (.slice (some ⟨gl, 0, none⟩) (2 * (2 * h)) (2 * (2 * h))) (links ⟨x, (h : Int), xs⟩ (2 * x - 1 - (k : Int))) := by
          obtain ⟨e1, e2⟩ := hl6
          refine ⟨e1, ?_⟩
          rcases e2 with ⟨e2, _⟩ | ⟨g', cap, cur, hv', hg', r'⟩
          · cases e2
          · refine .inr ⟨g', cap, cur, hv', ?_, r'⟩
            injection hv' with e3 _ _
            injection e3 with e3
            injection e3 with e3
            omega
        refine Lib.hid (fun wr hh => ⟨Row.keep hl7 fun g' hg' hgl' => hh.block g' hgl' (.inl ?_), Row.keep hD6 fun g' hg' hgl' => hh.block g' hgl' (.inl ?_), bo6.chg hh (.inl (by omega)), ?_⟩)
        · rw [ownBlock_slice] at hg'
          injection hg' with hg'
          omega
        · have := (Row.lt hD hg').2
          omega
        · refine ⟨hh.os.trans hc6.os, hh.tape.trans hc6.tape, hh.output.trans hc6.output, Nat.le_trans hc6.size hh.size, fun q hq hd => (hh.block q (Nat.lt_of_lt_of_le hq hc6.size) (.inl ?_)).trans (hc6.block q hq hd)⟩
          have h9 := hc.size
          rw [World.size_alloc] at h9 hq
          omega
      have HT0 : Hid (Turned ⟨x, (h : Int), xs⟩ (2 * x - 1 - (k : Int)) (List.replicate (2 * (2 * h)) 0) 0) := Lib.hid (fun i hi => absurd hi (by omega))
      have hcT0 : Chg gt (gt + 1) w6 w6 := Chg.ofBelow (Below.refl _ _)
      clear hl4 hl6 hD hD6 bo bo6 hc hc6 hb6 hown hgrow hinf hz0 hz1 hz2 hgne
      have HLL : Hid ((links ⟨x, (h : Int), xs⟩ (2 * x - 1 - (k : Int))).length = 2 * (2 * h)) := Lib.hid (by rw [← HN3.out]; unfold links colN; simp)
      go_wp2
      go_loopw [12] (fun s12 wr => ∃ (m : Nat) (T : List Int), m ≤ 2 * (2 * h) ∧ s12 = .int .i64 m ∧ T.length = 2 * (2 * h) ∧ Ints wr gt (.slice (some ⟨gt, 0, none⟩) (2 * (2 * h)) (2 * (2 * h))) T ∧ Hid (Turned ⟨x, (h : Int), xs⟩ (2 * x - 1 - (k : Int)) T m) ∧ Chg gt (gt + 1) w6 wr) (fun s12 _ => 4 * h - (intOf s12).toNat)
      case atStart => exact ⟨0, _, Nat.zero_le _, rfl, by simp, hT6, HT0, hcT0⟩
      case round =>
        clear hT6 HT0 hcT0
        obtain ⟨m, T, hm, rfl, hTl, hT, HT, hcT⟩ := hrel
        obtain ⟨hlk, hD, bo, hc⟩ := KT.out _ hcT
        by_cases hlm : m < 2 * (2 * h)
        · have hm1 : (m : Int) < 2 * (2 * (h : Int)) := by omega
          have h1h : 1 ≤ (Pan.mk x (h : Int) xs).H := by show 1 ≤ (h : Int); omega
          obtain ⟨_, sw0, sw1⟩ := swp_swp (p := ⟨x, (h : Int), xs⟩) (i := (m : Int)) (by omega) (by show (m : Int) < 4 * (h : Int); omega)
          obtain ⟨lk0, lk1, _⟩ := linkA_rng (p := ⟨x, (h : Int), xs⟩) (X := 2 * x - 1 - (k : Int)) (i := (m : Int)) (by omega) (by show (m : Int) < 4 * (h : Int); omega)
          obtain ⟨_, sl0, sl1⟩ := swp_swp (p := ⟨x, (h : Int), xs⟩) lk0 lk1
          have hmod1 : ((m : Int) + 2 * (h : Int)).tmod (2 * (2 * (h : Int))) = swp ⟨x, (h : Int), xs⟩ m := by
            rw [Int.tmod_eq_emod_of_nonneg (by omega)]
            exact swp_mod h1h (by omega) (by show (m : Int) < 4 * (h : Int); omega)
          have hmod2 : (linkA ⟨x, (h : Int), xs⟩ (2 * x - 1 - (k : Int)) m + 2 * (h : Int)).tmod (2 * (2 * (h : Int))) = swp ⟨x, (h : Int), xs⟩ (linkA ⟨x, (h : Int), xs⟩ (2 * x - 1 - (k : Int)) m) := by
            rw [Int.tmod_eq_emod_of_nonneg (by omega)]
            exact swp_mod h1h lk0 lk1
          have hst := turned_step h1h (X := 2 * x - 1 - (k : Int)) (T := T) (by rw [HCN.out]; exact hTl) (k := m) (by rw [HCN.out]; exact hlm) HT.out
          have hlg := links_get (p := ⟨x, (h : Int), xs⟩) (X := 2 * x - 1 - (k : Int)) (i := (m : Int)) (by omega) (by show (m : Int) < 4 * (h : Int); omega)
          have cL := Ints.cell hlk (k := m) (by rw [HLL.out]; exact hlm)
          rw [hlg] at cL
          simp only [] at sw1 lk0 lk1 sl1
          obtain ⟨lv, hlv⟩ : ∃ lv, linkA ⟨x, (h : Int), xs⟩ (2 * x - 1 - (k : Int)) m = lv := ⟨_, rfl⟩
          rw [hlv] at cL hmod2 lk0 lk1 hst sl0 sl1
          obtain ⟨sm, hsm⟩ : ∃ sm, swp ⟨x, (h : Int), xs⟩ m = sm := ⟨_, rfl⟩
          rw [hsm] at hmod1 sw0 sw1 hst
          obtain ⟨sl, hsl⟩ : ∃ sl, swp ⟨x, (h : Int), xs⟩ lv = sl := ⟨_, rfl⟩
          rw [hsl] at hmod2 hst sl0 sl1
          have HST := Lib.hid hst
          have sL := (Row.lt hlk (g := gl) rfl).2
          have cT := Ints.cellI hT (i := sm) sw0 (by rw [hTl]; omega)
          have fT := Row.free hT sm.toNat
          have sT := (Row.lt hT (g := gt) rfl).2
          have hT2 : Ints (wr.drew.setCell ⟨gt, sm.toNat, none⟩ (.int .i64 sl)) gt (.slice (some ⟨gt, 0, none⟩) (2 * (2 * h)) (2 * (2 * h))) (T.set sm.toNat sl) := Row.set_ (w := wr.drew) hT sm.toNat sl
          have hcT2 : Chg gt (gt + 1) w6 (wr.drew.setCell ⟨gt, sm.toNat, none⟩ (.int .i64 sl)) := (hcT.trans (Chg.ofBelow (below_drewN _ wr 1))).setcc (p := ⟨gt, sm.toNat, none⟩) (Nat.le_refl _) (Nat.lt_succ_self _) _
          have R7 : Hid (∃ (m2 : Nat) (T2 : List Int), m2 ≤ 2 * (2 * h) ∧ (.int .i64 ((m : Int) + 1) : Value) = .int .i64 m2 ∧ T2.length = 2 * (2 * h) ∧ Ints (wr.drew.setCell ⟨gt, sm.toNat, none⟩ (.int .i64 sl)) gt (.slice (some ⟨gt, 0, none⟩) (2 * (2 * h)) (2 * (2 * h))) T2 ∧ Hid (Turned ⟨x, (h : Int), xs⟩ (2 * x - 1 - (k : Int)) T2 m2) ∧ Chg gt (gt + 1) w6 (wr.drew.setCell ⟨gt, sm.toNat, none⟩ (.int .i64 sl))) :=
            Lib.hid ⟨m + 1, _, by omega, by go_num, by rw [List.length_set]; exact hTl, hT2, HST, hcT2⟩
          have hhn : 2 * (2 * (h : Int)) ≠ 0 := by omega
          have cT' : wr.drew.cell? ⟨gt, sm.toNat, none⟩ = some (.int .i64 (gI T sm)) := cT
          have fT' : wr.drew.frozen? ⟨gt, sm.toNat, none⟩ = false := fT
          have sT' : gt < wr.drew.heap.size := sT
          have hv1 : IntKind.i64.wrap ((m : Int) + 2 * (h : Int)) = (m : Int) + 2 * (h : Int) := by rw [IntKind.wrap_i64]; omega
          have hv2 : IntKind.i64.wrap (2 * (2 * (h : Int))) = 2 * (2 * (h : Int)) := by rw [IntKind.wrap_i64]; omega
          have hv3 : IntKind.i64.wrap (lv + 2 * (h : Int)) = lv + 2 * (h : Int) := by rw [IntKind.wrap_i64]; omega
          have hv4 : IntKind.i64.wrap sm = sm := by rw [IntKind.wrap_i64]; omega
          have hsb1 : sm < 2 * (2 * (h : Int)) := by omega
          have hv5 : IntKind.i64.wrap sl = sl := by rw [IntKind.wrap_i64]; omega
          clear hT hT2 hcT hcT2 hlk hD bo hc hst hsm hsl hlv hlg HT h1h
          go_wp2
          go_still_tail 17, (by kernel_rfl)
          change wpList _ _ _ _ _ wr.drew
          go_wp2
          go_roundw
          case rel => exact R7.out
          case measure => simp [intOf]; omega
        · have e : m = 2 * (2 * h) := by omega
          subst e
          have hTL : T = linksR ⟨x, (h : Int), xs⟩ (2 * x - 1 - (k : Int)) := turned_all (by show 1 ≤ (h : Int); omega) (by rw [HCN.out]; exact hTl) (by rw [HCN.out]; exact HT.out)
          subst hTL
          have HLP : Hid (Pairing (2 * (2 * h)) (linksR ⟨x, (h : Int), xs⟩ (2 * x - 1 - (k : Int)))) := Lib.hid (by
            rw [← HN3.out]
            exact linksR_pair (p := ⟨x, (h : Int), xs⟩) (by show 1 ≤ (h : Int); omega) _)
          have HC8 : Hid (0 ≤ Q.2 ∧ Q.2 ≤ 100000) := Lib.hid (by omega)
          have H88 : Hid (1 ≤ h ∧ h ≤ 8) := Lib.hid (by omega)
          have o0 := bo.cell 0
          have o1 := bo.cell 1
          have on := bo.lt
          simp only [List.getElem?_toArray, List.getElem?_cons_zero, List.getElem?_cons_succ] at o0 o1
          go_wp2_with fail
          refine (l09Pass_any hT hD HP.out HLP.out H88.out HC8.out HR.out).mono ?_
          rintro e w5 ⟨g5, rfl, hg5, hl5, hb5⟩
          have hs5 := hb5.size
          have hs6 := hcT.size
          replace bo := bo.below hb5
          replace hc := hc.trans (Chg.ofBelow hb5)
          clear o0 o1 on hb5 hD hlk hT hcT
          have o0 := bo.cell 0
          have o1 := bo.cell 1
          have of0 := bo.free 0
          have of1 := bo.free 1
          have on := bo.lt
          simp only [List.getElem?_toArray, List.getElem?_cons_zero, List.getElem?_cons_succ] at o0 o1
          have hq5 := (Row.lt hg5 (g := g5) rfl).1
          have hne5 : g5 ≠ w3.heap.size := by omega
          have bo5 : Box ((w5.setCell ⟨w3.heap.size, 0, none⟩ (.slice (some ⟨g5, 0, none⟩) (2 * h) (2 * h))).setCell ⟨w3.heap.size, 1, none⟩ (.int .i64 (Q.2 + R.2))) w3.heap.size 38 #[.slice (some ⟨g5, 0, none⟩) (2 * h) (2 * h), .int .i64 (Q.2 + R.2)] := by simpa using (bo.set_ 0 (.slice (some ⟨g5, 0, none⟩) (2 * h) (2 * h))).set_ 1 (.int .i64 (Q.2 + R.2))
          have hD5 : Ints ((w5.setCell ⟨w3.heap.size, 0, none⟩ (.slice (some ⟨g5, 0, none⟩) (2 * h) (2 * h))).setCell ⟨w3.heap.size, 1, none⟩ (.int .i64 (Q.2 + R.2))) (w.heap.size + 2) (.slice (some ⟨g5, 0, none⟩) (2 * h) (2 * h)) R.1 := Row.le (C := w.heap.size + 2) (Row.setCell (p := ⟨w3.heap.size, 1, none⟩) (Row.setCell (p := ⟨w3.heap.size, 0, none⟩) hg5 (fun g' hg' e' => hne5 (by rw [ownBlock_slice] at hg'; injection hg' with hg'; exact hg'.trans e')) _) (fun g' hg' e' => hne5 (by rw [ownBlock_slice] at hg'; injection hg' with hg'; exact hg'.trans e')) _) (by omega)
          have hc5 := (hc.setcc (p := ⟨w3.heap.size, 0, none⟩) (Nat.le_refl _) (Nat.lt_succ_self _) (.slice (some ⟨g5, 0, none⟩) (2 * h) (2 * h))).setcc (p := ⟨w3.heap.size, 1, none⟩) (Nat.le_refl _) (Nat.lt_succ_self _) (.int .i64 (Q.2 + R.2))
          have R5 : Hid (∃ (k2 : Nat) (g : Option Addr) (c : Nat), k2 ≤ K ∧ (.int .i64 (2 * x - 2 - (k : Int) - 1) : Value) = .int .i64 (2 * x - 2 - (k2 : Int)) ∧ Box ((w5.setCell ⟨w3.heap.size, 0, none⟩ (.slice (some ⟨g5, 0, none⟩) (2 * h) (2 * h))).setCell ⟨w3.heap.size, 1, none⟩ (.int .i64 (Q.2 + R.2))) w3.heap.size 38 #[.slice g (2 * h) c, .int .i64 (colR ⟨x, (h : Int), xs⟩ k2).2] ∧ Ints ((w5.setCell ⟨w3.heap.size, 0, none⟩ (.slice (some ⟨g5, 0, none⟩) (2 * h) (2 * h))).setCell ⟨w3.heap.size, 1, none⟩ (.int .i64 (Q.2 + R.2))) (w.heap.size + 2) (.slice g (2 * h) c) (colR ⟨x, (h : Int), xs⟩ k2).1 ∧ (∀ q, g = some ⟨q, 0, none⟩ → q ≠ w3.heap.size) ∧
              Chg w3.heap.size (w3.heap.size + 1) (w3.alloc (.cells #[.slice (some ⟨gD, 0, none⟩) (2 * h) (2 * h), .int .i64 0] 38)) ((w5.setCell ⟨w3.heap.size, 0, none⟩ (.slice (some ⟨g5, 0, none⟩) (2 * h) (2 * h))).setCell ⟨w3.heap.size, 1, none⟩ (.int .i64 (Q.2 + R.2)))) := Lib.hid ⟨k + 1, some ⟨g5, 0, none⟩, (2 * h), by omega, by (congr 1; omega), by rw [HNX.out]; exact bo5, by rw [HNX.out]; exact hD5, fun q hq => by injection hq with hq; injection hq with hq; rw [← hq]; exact hne5, hc5⟩
          clear bo5 hD5 hc5 bo hg5 hc
          go_wp2
          go_roundw
          case rel => exact R5.out
          case measure => simp [intOf]; omega
    · have e : k = K := by omega
      subst e
      have hcond : 2 * x - 2 - (k : Int) = X - 1 := by omega
      rw [hcond]
      have hPl : (colR ⟨x, (h : Int), xs⟩ k).1.length = 2 * h := (HCP.out k).len
      have o0 := bo.cell 0
      have o1 := bo.cell 1
      have on := bo.lt
      have r0 := br.cell 0
      have r1 := br.cell 1
      have rf0 := br.free 0
      have rf1 := br.free 1
      have rn := br.lt
      simp only [List.getElem?_toArray, List.getElem?_cons_zero, List.getElem?_cons_succ] at o0 o1 r0 r1
      have hq : ∀ g' : Nat, (Value.slice g (2 * h) c).ownBlock = some g' → g' ≠ w.heap.size + 1 := fun g' hg' e' => by have := (Row.lt hD hg').1; omega
      have hfin : Ints ((wr.setCell ⟨w.heap.size + 1, 0, none⟩ (.slice g (2 * h) c)).setCell ⟨w.heap.size + 1, 1, none⟩ (.int .i64 (colR ⟨x, (h : Int), xs⟩ k).2)) w.heap.size (.slice g (2 * h) c) (colR ⟨x, (h : Int), xs⟩ k).1 := Row.le (C := w.heap.size) (Row.setCell (p := ⟨w.heap.size + 1, 1, none⟩) (Row.setCell (p := ⟨w.heap.size + 1, 0, none⟩) hD (fun g' hg' e' => hq g' hg' e') _) (fun g' hg' e' => hq g' hg' e') _) (by omega)
      have blf := (bl.setCell (p := ⟨w.heap.size + 1, 0, none⟩) (by simp) (.slice g (2 * h) c)).setCell (p := ⟨w.heap.size + 1, 1, none⟩) (by simp) (.int .i64 (colR ⟨x, (h : Int), xs⟩ k).2)
      have HPL := Lib.hid hPl
      have HFI := Lib.hid hfin
      have hlen2 : (colR ⟨x, (h : Int), xs⟩ k).1.length ≤ 2000000 := by omega
      clear hD bo hfin hq ba hv bl hPl
      go_wp2
      refine bodyPost_ret (v := .tuple #[.agg #[.slice g (2 * h) c, .int .i64 (colR ⟨x, (h : Int), xs⟩ k).2], .int .i64 0]) (by simp [results, Try.results38, go_sem, r0, r1, rf0, rf1, rn]) rfl ⟨g, c, by rw [HPL.out], ?_, blf⟩
      rw [HPL.out]
      exact IntsIn.ofInts HFI.out hlen2
end Go.Proofs.Ytnldahadldolpaa
