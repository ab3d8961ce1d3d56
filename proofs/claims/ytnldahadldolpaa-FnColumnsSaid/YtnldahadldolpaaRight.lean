/-
  The pairing at the right border, by the reference.
-/
import Derived.Test.YtnldahadldolpaaLinks
namespace Go.Proofs.Ytnldahadldolpaa
open Go.RowKit Knot

set_option maxRecDepth 20000 in
set_option maxHeartbeats 8000000 in
theorem l09Right_any {w : World} {b D : Nat} {W H : Int} {v : Value} {Bs : List Int} {N : Nat} (ba : Box w b 41 #[.int .i64 W, .int .i64 H, v]) (hI : Ints w D v Bs) (hp : Ok ⟨W, H, Bs⟩) (hN : colN ⟨W, H, Bs⟩ = N) :
    Calls Try.prog 71 #[.pointer (some ⟨b, 0, none⟩)] w fun e w' => ∃ g, e = .returned (.slice (some ⟨g, 0, none⟩) N N) ∧ Ints w' w.heap.size (.slice (some ⟨g, 0, none⟩) N N) (nbrsK N) ∧ Below w.heap.size w w' := by
  obtain ⟨h, rfl⟩ := Int.eq_ofNat_of_zero_le (show 0 ≤ H by have := hp.h1; simp only [] at this; omega)
  have hc : colN ⟨W, (h : Int), Bs⟩ = 2 * h := by unfold colN; simp only []; omega
  obtain rfl : N = 2 * h := by rw [← hN, hc]
  have h8 : 1 ≤ h ∧ h ≤ 8 := by have h1 := hp.h1; have h8 := hp.h8; simp only [] at h1 h8; omega
  have hX16 : 1 ≤ W ∧ W ≤ 8 := by have := hp.w8; have := hp.w1; simp only [] at *; omega
  have HC := Lib.hid hc
  have HP := Lib.hid hp
  have HX2 : Hid (0 ≤ 2 * W ∧ 2 * W ≤ 2 * W) := Lib.hid ⟨by omega, by omega⟩
  have hbw := ba.lt
  have q0 := ba.cell 0
  have q1 := ba.cell 1
  have qn := ba.lt
  simp only [List.getElem?_toArray, List.getElem?_cons_zero, List.getElem?_cons_succ] at q0 q1
  obtain ⟨i0, hinf, hz0, hz1, hz2⟩ := info_parts info_int
  clear hc hp hN
  go_enter Try.func71, Try.ntmps71
  go_wp2_with (at_make; refine wpList_make_full _ rfl _ _ 22 rfl w.heap.size 2 i0 (.int .i64 0) 1 Try.underlying22 hinf hz0 hz1 _ _ _ _ (2 * h) rfl rfl (by omega) (by omega) (by rw [hz2]; omega) (by unfold maxLen; omega) (Nat.le_refl _) ?_)
  intro w1 hown hgrow
  have hb1 : Below w.heap.size w w1 := (Below.refl _ _).grown hgrow (Nat.le_refl _) (by simp)
  have hL1 : Ints w1 w.heap.size (.slice (some ⟨w.heap.size, 0, none⟩) (2 * h) (2 * h)) (List.replicate (2 * h) 0) := by
    unfold Ints Row
    rw [List.length_replicate, List.map_replicate]
    simpa [Value.cells, toList_madeCells_one] using hown
  have hw1 := (Row.lt hL1 (g := w.heap.size) rfl).2
  have ba1 := ba.below hb1
  have hI1 := Row.below hI hb1
  clear hown hgrow hinf hz0 hz1 hz2 q0 q1 qn ba hI
  go_wp2_with fail
  refine (l08Between_any ba1 hI1 HP.out HX2.out).mono ?_
  rintro e w2 ⟨g, c, l, rfl, hl, hv, hb⟩
  have hL2 := Row.below hL1 hb
  have bl2 := bnext hb1 hb
  have hll : l.length ≤ 34 := by
    have := congrArg List.length hv
    rw [List.length_map] at this
    have h2 := btwL_len ⟨W, (h : Int), Bs⟩ (2 * W) (colN ⟨W, (h : Int), Bs⟩ + 1)
    rw [HC.out] at this h2
    omega
  have HV := Lib.hid hv
  obtain ⟨Z, hZ⟩ : ∃ Z : Int, (2 * W - 1) * (2 * (h : Int)) = Z := ⟨_, rfl⟩
  have hZ2 : (2 * W - 1) * 2 * (h : Int) = Z := by rw [← hZ, Int.mul_assoc]
  have hZ3 : 0 ≤ Z ∧ Z ≤ 256 := by
    rw [← hZ]
    exact ⟨Int.mul_nonneg (by omega) (by omega), Int.le_trans (Int.mul_le_mul (show 2 * W - 1 ≤ 16 by omega) (show 2 * (h : Int) ≤ 16 by omega) (by omega) (by omega)) (by decide)⟩
  have HZ := Lib.hid hZ
  have ba2 := ba1.below hb
  have KP : Hid (∀ w', Chg w.heap.size (w.heap.size + 1) w2 w' → PrsRow w' (w.heap.size + 1) (.slice (some ⟨g, 0, none⟩) l.length c) l ∧ Below w.heap.size w w' ∧ Box w' b 41 #[.int .i64 W, .int .i64 (h : Int), v]) := by
    have hl1 := hl.le (C := w.heap.size + 1) (by omega)
    refine Lib.hid (fun w' hc => ⟨⟨Row.keep hl1.1 fun g' hg' hgl => hc.block g' hgl (.inr (Row.lt hl1.1 hg').1), fun x hx => Row.keep (hl1.2 x hx) fun g' hg' hgl => hc.block g' hgl (.inr (Row.lt (hl1.2 x hx) hg').1)⟩, bl2.trans (hc.toBelow (Nat.le_refl _) bl2.size), ba2.chg hc (.inl hbw)⟩)
  have hc0 : Chg w.heap.size (w.heap.size + 1) w2 w2 := Chg.ofBelow (Below.refl _ _)
  have HF0 : Hid (LaidF nbrF Z (2 * (h : Int)) (List.replicate (2 * h) 0) ((l.map Pr.val).take 0)) := Lib.hid (laidF_nil _ _ _ _)
  clear hl hv hb hL1 hb1 bl2 hZ ba1 hI1 ba2
  go_wp2
  go_loopw [6] (fun s6 wr => ∃ (m : Nat) (L : List Int), m ≤ l.length ∧ s6 = .int .i64 m ∧ L.length = 2 * h ∧ Ints wr w.heap.size (.slice (some ⟨w.heap.size, 0, none⟩) (2 * h) (2 * h)) L ∧ Hid (LaidF nbrF Z (2 * (h : Int)) L ((l.map Pr.val).take m)) ∧ Chg w.heap.size (w.heap.size + 1) w2 wr) (fun s6 _ => l.length - (intOf s6).toNat)
  case atStart => exact ⟨0, _, Nat.zero_le _, rfl, by simp, hL2, HF0, hc0⟩
  case round =>
    clear hL2 HF0 hc0
    obtain ⟨m, L, hm, rfl, hLl, hL, HL, hc⟩ := hrel
    obtain ⟨hl, bl, bp⟩ := KP.out _ hc
    by_cases hlt : m < l.length
    · have hmem : (l.map Pr.val)[m]'(by simpa using hlt) ∈ btwL ⟨W, (h : Int), Bs⟩ (2 * W) (colN ⟨W, (h : Int), Bs⟩ + 1) := by rw [← HV.out]; exact List.getElem_mem _
      obtain ⟨i, i0, i1, ea, eb⟩ := btw_right HP.out (Nat.le_refl _) hmem
      simp only [] at i0 i1 ea eb
      obtain ⟨j0, j1, jinv⟩ := nbrF_inv (n := 2 * h) (by omega) i0 (by omega)
      replace j1 : nbrF i < 2 * (h : Int) := by omega
      obtain ⟨j, hj⟩ : ∃ j, nbrF i = j := ⟨_, rfl⟩
      rw [hj] at eb j0 j1 jinv
      rw [HZ.out] at ea eb
      have hst := laidF_step (f := nbrF) (Z := Z) (n := 2 * (h : Int)) (L := L) (l := (l.map Pr.val).take m) (by rw [hLl]; omega) i0 i1 j0 j1 hj jinv HL.out
      have htk : (l.map Pr.val).take m ++ [(Z + i, Z + j)] = (l.map Pr.val).take (m + 1) := by
        rw [List.take_succ_eq_append_getElem (by simpa using hlt)]
        congr 2
        exact (Prod.ext ea eb).symm
      rw [htk] at hst
      have HST := Lib.hid hst
      obtain ⟨x, hx⟩ : ∃ x, l[m] = x := ⟨_, rfl⟩
      rw [List.getElem_map, hx] at ea eb
      have c0 := Row.cell hl.1 (k := m) hlt
      rw [hx] at c0
      obtain ⟨x0, x1, x2, x3⟩ := (hl.2 x (by rw [← hx]; exact List.getElem_mem hlt)).cells
      have c0' : wr.cell? ⟨g, m, none⟩ = some (.slice (some ⟨x.g, 0, none⟩) 2 x.c) := c0
      have hgl := (Row.lt hl.1 (g := g) rfl).2
      have ea' : x.a = Z + i := ea
      have eb' : x.b = Z + j := eb
      rw [ea'] at x0
      rw [eb'] at x1
      have q0 := bp.cell 0
      have q1 := bp.cell 1
      have qn := bp.lt
      simp only [List.getElem?_toArray, List.getElem?_cons_zero, List.getElem?_cons_succ] at q0 q1
      have v1 : Z + i - Z = i := by omega
      have v2 : Z + j - Z = j := by omega
      clear hmem ea eb ea' eb' hj jinv hst htk hx c0 bp
      go_wp2
      go_quiet (fail)
      obtain ⟨nq1, hnq⟩ : ∃ m, m = nq := ⟨nq, rfl⟩
      subst hnq
      go_wp2
      go_quiet (fail)
      obtain ⟨nq2, hnq⟩ : ∃ m, m = nq := ⟨nq, rfl⟩
      subst hnq
      replace hL := (Row.drewN hL nq1).drewN nq2
      have hcd : Chg w.heap.size (w.heap.size + 1) w2 ((wr.drewN nq1).drewN nq2) := ⟨hc.os, hc.tape, hc.output, hc.size, hc.block⟩
      replace hc := hcd
      clear q0 q1 qn c0' x0 x1 x2 x3 hgl hcd
      generalize (wr.drewN nq1).drewN nq2 = W5 at *
      have hL2 : Ints (W5.setCell ⟨w.heap.size, i.toNat, none⟩ (.int .i64 j)) w.heap.size (.slice (some ⟨w.heap.size, 0, none⟩) (2 * h) (2 * h)) (L.set i.toNat j) := Row.set_ hL i.toNat j
      have hL3 : Ints ((W5.setCell ⟨w.heap.size, i.toNat, none⟩ (.int .i64 j)).setCell ⟨w.heap.size, j.toNat, none⟩ (.int .i64 i)) w.heap.size (.slice (some ⟨w.heap.size, 0, none⟩) (2 * h) (2 * h)) ((L.set i.toNat j).set j.toNat i) := Row.set_ hL2 j.toNat i
      have hc3 : Chg w.heap.size (w.heap.size + 1) w2 ((W5.setCell ⟨w.heap.size, i.toNat, none⟩ (.int .i64 j)).setCell ⟨w.heap.size, j.toNat, none⟩ (.int .i64 i)) := by
        refine hc.trans (Chg.trans (b := W5.setCell ⟨w.heap.size, i.toNat, none⟩ (.int .i64 j)) ⟨rfl, rfl, rfl, by simp [World.setCell], fun k _ hd => Below.heap_setCell _ _ _ k ?_⟩ ⟨rfl, rfl, rfl, by simp [World.setCell], fun k _ hd => Below.heap_setCell _ _ _ k ?_⟩)
        · show k ≠ w.heap.size
          omega
        · show k ≠ w.heap.size
          omega
      have d1 := Ints.cellI hL (i := i) i0 (by rw [hLl]; omega)
      have f1 := Row.free hL i.toNat
      have s1 := (Row.lt hL (g := w.heap.size) rfl).2
      have d2 := Ints.cellI hL2 (i := j) j0 (by rw [List.length_set, hLl]; omega)
      have f2 := Row.free hL2 j.toNat
      have R3 : Hid (∃ (m2 : Nat) (L2 : List Int), m2 ≤ l.length ∧ (.int .i64 ((m : Int) + 1) : Value) = .int .i64 m2 ∧ L2.length = 2 * h ∧ Ints ((W5.setCell ⟨w.heap.size, i.toNat, none⟩ (.int .i64 j)).setCell ⟨w.heap.size, j.toNat, none⟩ (.int .i64 i)) w.heap.size (.slice (some ⟨w.heap.size, 0, none⟩) (2 * h) (2 * h)) L2 ∧ Hid (LaidF nbrF Z (2 * (h : Int)) L2 ((l.map Pr.val).take m2)) ∧
          Chg w.heap.size (w.heap.size + 1) w2 ((W5.setCell ⟨w.heap.size, i.toNat, none⟩ (.int .i64 j)).setCell ⟨w.heap.size, j.toNat, none⟩ (.int .i64 i))) :=
        Lib.hid ⟨m + 1, _, by omega, by go_num, by rw [List.length_set, List.length_set, hLl], hL3, HST, hc3⟩
      have HZ2 := Lib.hid hZ2
      clear hL2 hL3 hc3 hL hc hl HL bl
      go_wp2
      go_roundw
      case rel => exact R3.out
      case measure => simp [intOf]; omega
    · have e : m = l.length := by omega
      subst e
      rw [List.take_of_length_le (by simp), HV.out] at HL
      have hfin : L = nbrsK (2 * h) := by
        rw [← HC.out]
        exact right_all HP.out (by rw [HC.out]; exact hLl) (by have := HL.out; rw [← HZ.out] at this; exact this)
      subst hfin
      clear HL hl
      go_wp2
      go_ret
      exact ⟨_, rfl, hL, bl⟩
end Go.Proofs.Ytnldahadldolpaa
