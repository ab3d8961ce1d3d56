/-
  The pairs at all points with an X, in order; the links between two columns and at the right border, by the reference.
-/
import Derived.Test.YtnldahadldolpaaBtw
import Derived.Test.YtnldahadldolpaaPlAllB
import Derived.Deep.LoopGhost
namespace Go.Proofs.Ytnldahadldolpaa
open Go.RowKit Knot

set_option maxHeartbeats 4000000 in
theorem l08Between_any {w : World} {b D : Nat} {W H X : Int} {v : Value} {Bs : List Int} (ba : Box w b 41 #[.int .i64 W, .int .i64 H, v]) (hI : Ints w D v Bs) (hp : Ok ⟨W, H, Bs⟩) (hX : 0 ≤ X ∧ X ≤ 2 * W) :
    Calls Try.prog 94 #[.pointer (some ⟨b, 0, none⟩), .int .i64 X] w fun e w' => ∃ g c l, e = .returned (.slice (some ⟨g, 0, none⟩) l.length c) ∧ PrsRow w' w.heap.size (.slice (some ⟨g, 0, none⟩) l.length c) l ∧
      l.map Pr.val = btwL ⟨W, H, Bs⟩ X (colN ⟨W, H, Bs⟩ + 1) ∧ Below w.heap.size w w' := by
  obtain ⟨h, rfl⟩ := Int.eq_ofNat_of_zero_le (show 0 ≤ H by have := hp.h1; simp only [] at this; omega)
  have hc : colN ⟨W, (h : Int), Bs⟩ = 2 * h := by unfold colN; simp only []; omega
  have h8 : 1 ≤ h ∧ h ≤ 8 := by have h1 := hp.h1; have h8 := hp.h8; simp only [] at h1 h8; omega
  have hX16 : X ≤ 16 := by have := hp.w8; simp only [] at this; omega
  have HC := Lib.hid hc
  have HP := Lib.hid hp
  have HX := Lib.hid hX
  obtain ⟨hX0, hX1⟩ := hX
  have HK : Hid (∀ w', Below w.heap.size w w' → Box w' b 41 #[.int .i64 W, .int .i64 (h : Int), v] ∧ Ints w' D v Bs) := Lib.hid (fun w' hb => ⟨ba.below hb, Row.below hI hb⟩)
  have bl := Joins.below_alloc1 w (.cells #[] 22)
  have hE : PrsRow (w.alloc (.cells #[] 22)) w.heap.size (.slice (some ⟨w.heap.size, 0, none⟩) 0 0) [] := ⟨Row.none_ w, fun x hx => by simp at hx⟩
  clear hc hp ba hI hX1
  go_enter Try.func94, Try.ntmps94
  go_wp2
  go_loopw [5, 6] (fun s5 s6 wr => ∃ (k g c : Nat) (l : List Pr), k ≤ 2 * h + 1 ∧ s5 = .slice (some ⟨g, 0, none⟩) l.length c ∧ s6 = .int .i64 k ∧ PrsRow wr w.heap.size (.slice (some ⟨g, 0, none⟩) l.length c) l ∧ Hid (l.map Pr.val = btwL ⟨W, (h : Int), Bs⟩ X k) ∧ Below w.heap.size w wr) (fun _ s6 _ => 2 * h + 2 - (intOf s6).toNat)
  case atStart => exact ⟨0, _, _, [], by omega, rfl, rfl, hE, Lib.hid rfl, bl⟩
  case round =>
    clear hE bl
    obtain ⟨k, g, c, l, hk, rfl, rfl, hl, hv, bl⟩ := hrel
    obtain ⟨ba, hI⟩ := HK.out _ bl
    have q0 := ba.cell 0
    have q1 := ba.cell 1
    have q2 := ba.cell 2
    have qn := ba.lt
    simp only [List.getElem?_toArray, List.getElem?_cons_zero, List.getElem?_cons_succ] at q0 q1 q2
    by_cases hlt : k < 2 * h + 1
    · have i1 : (k : Int) ≤ 2 * (h : Int) := by omega
      have hrm : (X + (k : Int)).tmod 2 = (X + k) % 2 := Int.tmod_eq_emod_of_nonneg (by omega)
      have hln : l.length ≤ 900 := by
        have := congrArg List.length hv.out
        rw [List.length_map] at this
        have h2 := btwL_len ⟨W, (h : Int), Bs⟩ X k
        omega
      by_cases hpar : (X + (k : Int)) % 2 = 1
      · have HH : Hid (Has ⟨W, (h : Int), Bs⟩ X k) := Lib.hid ⟨hX0, HX.out.2, by omega, by simp only []; omega, hpar⟩
        have HB : Hid (btwL ⟨W, (h : Int), Bs⟩ X (k + 1) = putAll (btwL ⟨W, (h : Int), Bs⟩ X k) (pairsP ⟨W, (h : Int), Bs⟩ X k)) := Lib.hid (btwL_yes hpar)
        rw [hpar] at hrm
        clear hpar
        go_wp2_with fail
        refine (l08At_any ba hI HP.out HH.out hl hln).mono ?_
        rintro e w2 ⟨g2, c2, l2, rfl, hl2, hv2, hb⟩
        have bl2 := bnext bl hb
        have HV : Hid (l2.map Pr.val = btwL ⟨W, (h : Int), Bs⟩ X (k + 1)) := Lib.hid (by rw [hv2, hv.out, HB.out])
        clear hv2 hb hl hv bl ba hI q0 q1 q2 qn hrm hln
        go_wp2
        go_roundw
        case rel => exact ⟨k + 1, g2, c2, l2, by omega, rfl, by go_num, hl2, HV, bl2⟩
        case measure => simp [intOf]; omega
      · have h0 : (X + (k : Int)) % 2 = 0 := by omega
        rw [h0] at hrm
        have HV : Hid (l.map Pr.val = btwL ⟨W, (h : Int), Bs⟩ X (k + 1)) := Lib.hid (by rw [hv.out, btwL_no hpar])
        clear h0 hpar hv
        go_wp2
        go_roundw
        case rel => exact ⟨k + 1, g, c, l, by omega, rfl, by go_num, hl, HV, bl⟩
        case measure => simp [intOf]; omega
    · have e : k = 2 * h + 1 := by omega
      subst e
      have hv2 : l.map Pr.val = btwL ⟨W, (h : Int), Bs⟩ X (colN ⟨W, (h : Int), Bs⟩ + 1) := by rw [hv.out, HC.out]
      have HV := Lib.hid hv2
      clear hv hv2 ba hI
      go_wp2
      go_ret
      exact ⟨g, c, l, rfl, hl, HV.out, bl⟩
set_option maxRecDepth 20000 in
set_option maxHeartbeats 8000000 in
theorem l09Links_any {w : World} {b D : Nat} {W H X : Int} {v : Value} {Bs : List Int} {N : Nat} (ba : Box w b 41 #[.int .i64 W, .int .i64 H, v]) (hI : Ints w D v Bs) (hp : Ok ⟨W, H, Bs⟩) (hX : 0 < X + 1 ∧ X + 1 < 2 * W) (hN : 2 * colN ⟨W, H, Bs⟩ = N) :
    Calls Try.prog 74 #[.pointer (some ⟨b, 0, none⟩), .int .i64 X] w fun e w' => ∃ g, e = .returned (.slice (some ⟨g, 0, none⟩) N N) ∧ Ints w' w.heap.size (.slice (some ⟨g, 0, none⟩) N N) (links ⟨W, H, Bs⟩ (X + 1)) ∧ Below w.heap.size w w' := by
  obtain ⟨h, rfl⟩ := Int.eq_ofNat_of_zero_le (show 0 ≤ H by have := hp.h1; simp only [] at this; omega)
  have hc : colN ⟨W, (h : Int), Bs⟩ = 2 * h := by unfold colN; simp only []; omega
  obtain rfl : N = 2 * (2 * h) := by rw [← hN, hc]
  have h8 : 1 ≤ h ∧ h ≤ 8 := by have h1 := hp.h1; have h8 := hp.h8; simp only [] at h1 h8; omega
  have hX16 : 0 ≤ X ∧ X ≤ 16 := by have := hp.w8; simp only [] at this; omega
  have HC := Lib.hid hc
  have HP := Lib.hid hp
  have HX := Lib.hid hX
  have HX2 : Hid (0 ≤ X + 1 ∧ X + 1 ≤ 2 * W) := Lib.hid ⟨by omega, by omega⟩
  have q0 := ba.cell 0
  have q1 := ba.cell 1
  have qn := ba.lt
  simp only [List.getElem?_toArray, List.getElem?_cons_zero, List.getElem?_cons_succ] at q0 q1
  obtain ⟨i0, hinf, hz0, hz1, hz2⟩ := info_parts info_int
  clear hc hp hN hX
  go_enter Try.func74, Try.ntmps74
  go_wp2_with (at_make; refine wpList_make_full _ rfl _ _ 22 rfl w.heap.size 2 i0 (.int .i64 0) 1 Try.underlying22 hinf hz0 hz1 _ _ _ _ (2 * (2 * h)) rfl rfl (by omega) (by omega) (by rw [hz2]; omega) (by unfold maxLen; omega) (Nat.le_refl _) ?_)
  intro w1 hown hgrow
  have hb1 : Below w.heap.size w w1 := (Below.refl _ _).grown hgrow (Nat.le_refl _) (by simp)
  have hL1 : Ints w1 w.heap.size (.slice (some ⟨w.heap.size, 0, none⟩) (2 * (2 * h)) (2 * (2 * h))) (List.replicate (2 * (2 * h)) 0) := by
    unfold Ints Row
    rw [List.length_replicate, List.map_replicate]
    simpa [Value.cells, toList_madeCells_one] using hown
  have hw1 := (Row.lt hL1 (g := w.heap.size) rfl).2
  have ba1 := ba.below hb1
  have hI1 := Row.below hI hb1
  clear hown hgrow hinf hz0 hz1 hz2 q0 q1 qn ba hI
  go_wp2_with fail
  refine (l08Between_any ba1 hI1 HP.out HX2.out).mono ?_
  rintro e w2 ⟨g, c, l, rfl, hl, hv, hb⟩
  have hL2 := Row.below hL1 hb
  have bl2 := bnext hb1 hb
  have hll : l.length ≤ 34 := by
    have := congrArg List.length hv
    rw [List.length_map] at this
    have h2 := btwL_len ⟨W, (h : Int), Bs⟩ (X + 1) (colN ⟨W, (h : Int), Bs⟩ + 1)
    rw [HC.out] at this h2
    omega
  have HV := Lib.hid hv
  obtain ⟨Z, hZ⟩ : ∃ Z : Int, (X + 1 - 1) * (2 * (h : Int)) = Z := ⟨_, rfl⟩
  have hZ2 : X * (2 * (h : Int)) = Z := by rw [← hZ]; congr 1; omega
  have hZ3 : 0 ≤ Z ∧ Z ≤ 256 := by
    rw [← hZ2]
    exact ⟨Int.mul_nonneg (by omega) (by omega), Int.le_trans (Int.mul_le_mul (show X ≤ 16 by omega) (show 2 * (h : Int) ≤ 16 by omega) (by omega) (by omega)) (by decide)⟩
  have HZ := Lib.hid hZ
  have KP : Hid (∀ w', Chg w.heap.size (w.heap.size + 1) w2 w' → PrsRow w' (w.heap.size + 1) (.slice (some ⟨g, 0, none⟩) l.length c) l ∧ Below w.heap.size w w') := by
    have hl1 := hl.le (C := w.heap.size + 1) (by omega)
    refine Lib.hid (fun w' hc => ⟨⟨Row.keep hl1.1 fun g' hg' hgl => hc.block g' hgl (.inr (Row.lt hl1.1 hg').1), fun x hx => Row.keep (hl1.2 x hx) fun g' hg' hgl => hc.block g' hgl (.inr (Row.lt (hl1.2 x hx) hg').1)⟩, bl2.trans (hc.toBelow (Nat.le_refl _) bl2.size)⟩)
  have hc0 : Chg w.heap.size (w.heap.size + 1) w2 w2 := Chg.ofBelow (Below.refl _ _)
  have HF0 : Hid (LaidF (linkA ⟨W, (h : Int), Bs⟩ (X + 1)) Z (4 * (h : Int)) (List.replicate (2 * (2 * h)) 0) ((l.map Pr.val).take 0)) := Lib.hid (laidF_nil _ _ _ _)
  clear hl hv hb hL1 hb1 bl2 hZ ba1 hI1
  go_wp2
  go_loopw [8] (fun s8 wr => ∃ (m : Nat) (L : List Int), m ≤ l.length ∧ s8 = .int .i64 m ∧ L.length = 2 * (2 * h) ∧ Ints wr w.heap.size (.slice (some ⟨w.heap.size, 0, none⟩) (2 * (2 * h)) (2 * (2 * h))) L ∧ Hid (LaidF (linkA ⟨W, (h : Int), Bs⟩ (X + 1)) Z (4 * (h : Int)) L ((l.map Pr.val).take m)) ∧ Chg w.heap.size (w.heap.size + 1) w2 wr) (fun s8 _ => l.length - (intOf s8).toNat)
  case atStart => exact ⟨0, _, Nat.zero_le _, rfl, by simp, hL2, HF0, hc0⟩
  case round =>
    clear hL2 HF0 hc0
    obtain ⟨m, L, hm, rfl, hLl, hL, HL, hc⟩ := hrel
    obtain ⟨hl, bl⟩ := KP.out _ hc
    by_cases hlt : m < l.length
    · have hmem : (l.map Pr.val)[m]'(by simpa using hlt) ∈ btwL ⟨W, (h : Int), Bs⟩ (X + 1) (colN ⟨W, (h : Int), Bs⟩ + 1) := by rw [← HV.out]; exact List.getElem_mem _
      obtain ⟨i, i0, i1, ea, eb⟩ := btw_link HP.out HX.out (Nat.le_refl _) hmem
      obtain ⟨j0, j1, _⟩ := linkA_rng (p := ⟨W, (h : Int), Bs⟩) (X := X + 1) i0 i1
      have jinv := linkA_inv (p := ⟨W, (h : Int), Bs⟩) (X := X + 1) i0 i1
      simp only [] at i0 i1 ea eb j0 j1
      obtain ⟨j, hj⟩ : ∃ j, linkA ⟨W, (h : Int), Bs⟩ (X + 1) i = j := ⟨_, rfl⟩
      rw [hj] at eb j0 j1 jinv
      rw [HZ.out] at ea eb
      have hst := laidF_step (f := linkA ⟨W, (h : Int), Bs⟩ (X + 1)) (Z := Z) (n := 4 * (h : Int)) (L := L) (l := (l.map Pr.val).take m) (by rw [hLl]; omega) i0 i1 j0 j1 hj jinv HL.out
      have htk : (l.map Pr.val).take m ++ [(Z + i, Z + j)] = (l.map Pr.val).take (m + 1) := by
        rw [List.take_succ_eq_append_getElem (by simpa using hlt)]
        congr 2
        exact (Prod.ext ea eb).symm
      rw [htk] at hst
      have HST := Lib.hid hst
      obtain ⟨x, hx⟩ : ∃ x, l[m] = x := ⟨_, rfl⟩
      rw [List.getElem_map, hx] at ea eb
      have c0 := Row.cell hl.1 (k := m) hlt
      rw [hx] at c0
      obtain ⟨x0, x1, x2, x3⟩ := (hl.2 x (by rw [← hx]; exact List.getElem_mem hlt)).cells
      have c0' : wr.cell? ⟨g, m, none⟩ = some (.slice (some ⟨x.g, 0, none⟩) 2 x.c) := c0
      have hgl := (Row.lt hl.1 (g := g) rfl).2
      have ea' : x.a = Z + i := ea
      have eb' : x.b = Z + j := eb
      rw [ea'] at x0
      rw [eb'] at x1
      have hL2 : Ints (wr.setCell ⟨w.heap.size, i.toNat, none⟩ (.int .i64 j)) w.heap.size (.slice (some ⟨w.heap.size, 0, none⟩) (2 * (2 * h)) (2 * (2 * h))) (L.set i.toNat j) := Row.set_ hL i.toNat j
      have hL3 : Ints ((wr.setCell ⟨w.heap.size, i.toNat, none⟩ (.int .i64 j)).setCell ⟨w.heap.size, j.toNat, none⟩ (.int .i64 i)) w.heap.size (.slice (some ⟨w.heap.size, 0, none⟩) (2 * (2 * h)) (2 * (2 * h))) ((L.set i.toNat j).set j.toNat i) := Row.set_ hL2 j.toNat i
      have hc3 : Chg w.heap.size (w.heap.size + 1) w2 ((wr.setCell ⟨w.heap.size, i.toNat, none⟩ (.int .i64 j)).setCell ⟨w.heap.size, j.toNat, none⟩ (.int .i64 i)) := by
        refine hc.trans (Chg.trans (b := wr.setCell ⟨w.heap.size, i.toNat, none⟩ (.int .i64 j)) ⟨rfl, rfl, rfl, by simp [World.setCell], fun k _ hd => Below.heap_setCell _ _ _ k ?_⟩ ⟨rfl, rfl, rfl, by simp [World.setCell], fun k _ hd => Below.heap_setCell _ _ _ k ?_⟩)
        · show k ≠ w.heap.size
          omega
        · show k ≠ w.heap.size
          omega
      have d1 := Ints.cellI hL (i := i) i0 (by rw [hLl]; omega)
      have f1 := Row.free hL i.toNat
      have s1 := (Row.lt hL (g := w.heap.size) rfl).2
      have d2 := Ints.cellI hL2 (i := j) j0 (by rw [List.length_set, hLl]; omega)
      have f2 := Row.free hL2 j.toNat
      have v1 : Z + i - Z = i := by omega
      have v2 : Z + j - Z = j := by omega
      have R3 : Hid (∃ (m2 : Nat) (L2 : List Int), m2 ≤ l.length ∧ (.int .i64 ((m : Int) + 1) : Value) = .int .i64 m2 ∧ L2.length = 2 * (2 * h) ∧ Ints ((wr.setCell ⟨w.heap.size, i.toNat, none⟩ (.int .i64 j)).setCell ⟨w.heap.size, j.toNat, none⟩ (.int .i64 i)) w.heap.size (.slice (some ⟨w.heap.size, 0, none⟩) (2 * (2 * h)) (2 * (2 * h))) L2 ∧ Hid (LaidF (linkA ⟨W, (h : Int), Bs⟩ (X + 1)) Z (4 * (h : Int)) L2 ((l.map Pr.val).take m2)) ∧
          Chg w.heap.size (w.heap.size + 1) w2 ((wr.setCell ⟨w.heap.size, i.toNat, none⟩ (.int .i64 j)).setCell ⟨w.heap.size, j.toNat, none⟩ (.int .i64 i))) :=
        Lib.hid ⟨m + 1, _, by omega, by go_num, by rw [List.length_set, List.length_set, hLl], hL3, HST, hc3⟩
      have HZ2 := Lib.hid hZ2
      clear hmem ea eb ea' eb' hj jinv hst htk hx c0 hL2 hL3 hc3 hL hc hl HL bl
      go_wp2
      go_roundw
      case rel => exact R3.out
      case measure => simp [intOf]; omega
    · have e : m = l.length := by omega
      subst e
      rw [List.take_of_length_le (by simp), HV.out] at HL
      have hfin : L = links ⟨W, (h : Int), Bs⟩ (X + 1) := btw_all HP.out HX.out (by rw [HC.out]; exact hLl) (by have := HL.out; rw [← HZ.out] at this; exact this)
      subst hfin
      clear HL hl
      go_wp2
      go_ret
      exact ⟨_, rfl, hL, bl⟩
end Go.Proofs.Ytnldahadldolpaa
