/-
  The places of a point under a symmetry, one after the other, by the reference.
-/
import Derived.Test.YtihfdgnocdphcaaMapC
import Derived.Test.YtihfdgnocdphcaaAppAt
import Derived.Test.YtihfdgnocdphcaaPlAllD
import Derived.Laws.OwnMore
import Derived.StillTailTactics
namespace Go.Proofs.Ytihfdgnocdphcaa
open Go.RowKit Knot

/-- A slice of one number. -/
theorem ints_one (w : World) (x : Int) : Ints (w.alloc (.cells #[.int .i64 x] 2)) w.heap.size (.slice (some ⟨w.heap.size, 0, none⟩) 1 1) [x] :=
  World.ownsRow_lit w #[.int .i64 x] 1 (Nat.le_refl _) (by decide) (by simp)
def lenV : Value → Nat
  | .slice _ n _ => n
  | _ => 0
def trnT (c : Int) (m : Nat) : Int := if m % 2 = 1 then c else 0
theorem trn_xor {c : Int} (hc : c = 4 ∨ c = 0) (m : Nat) : bits .xor .i64 (trnT c m) c = trnT c (m + 1) := by
  unfold trnT
  rcases hc with rfl | rfl
  · by_cases h : m % 2 = 1
    · rw [if_pos h, if_neg (by omega)]; decide +kernel
    · rw [if_neg h, if_pos (by omega)]; decide +kernel
  · by_cases h : m % 2 = 1
    · rw [if_pos h, if_neg (by omega)]; decide +kernel
    · rw [if_neg h, if_pos (by omega)]; decide +kernel
set_option maxRecDepth 20000 in
set_option maxHeartbeats 16000000 in
theorem l06Cycle_any {w : World} {b : Nat} {W H s k : Int} {v : Value} (hx : Box w b 30 #[.int .i64 W, .int .i64 H, v]) (hW : 1 ≤ W ∧ W ≤ 8) (hH : 1 ≤ H ∧ H ≤ 8) (hs : symOk s = true) (hq : 4 ≤ s → W = H) (k0 : 0 ≤ k) (k1 : k < inner W H) {t : Bool} (ht : decide (4 ≤ s ∧ perN W H s k % 2 = 1) = t) :
    Calls Try.prog 89 #[.pointer (some ⟨b, 0, none⟩), .int .i64 k, .int .i64 s] w fun e w' => ∃ A c, e = .returned (.tuple #[.slice A (perN W H s k) c, .bool t]) ∧
      Ints w' w.heap.size (.slice A (perN W H s k) c) (cycL W H s k (perN W H s k)) ∧ Below w.heap.size w w' := by
  obtain ⟨s0, s7⟩ := symOk_bd hs
  have hper := per_is hW hH s0 s7 hq k0 k1
  have hin := fun i => itN_in hW hH s0 s7 k0 k1 i
  have hat := fun i => itN_at hW hH s0 s7 hq k0 k1 i
  have HPE := Lib.hid hper
  have HIN := Lib.hid hin
  have HAT := Lib.hid hat
  have HW := Lib.hid hW
  have HH := Lib.hid hH
  have HS := Lib.hid hs
  have HT := Lib.hid ht
  have HKI : Hid (0 ≤ k ∧ k < inner W H) := Lib.hid ⟨k0, k1⟩
  have hbl := hx.lt
  obtain ⟨W1, W8⟩ := hW
  obtain ⟨H1, H8⟩ := hH
  have hand := and_four s0 s7
  obtain ⟨c, hc⟩ : ∃ c : Int, (if 4 ≤ s then (4 : Int) else 0) = c := ⟨_, rfl⟩
  have HC : Hid ((c = 4 ∨ c = 0) ∧ (c ≠ 0 ↔ 4 ≤ s)) := Lib.hid (by
    rw [← hc]
    by_cases h : 4 ≤ s
    · rw [if_pos h]; exact ⟨.inl rfl, by omega⟩
    · rw [if_neg h]; exact ⟨.inr rfl, by omega⟩)
  rw [hc] at hand
  obtain ⟨T, hT⟩ : ∃ T, perN W H s k = T := ⟨_, rfl⟩
  have HTT := Lib.hid hT
  clear hper hin hat hs hq ht hc
  obtain ⟨pi1, pi2, pi3, pi4, pi5⟩ := pt_in (H := H) W1 W8 k0 k1
  obtain ⟨u0, u1, hu⟩ : ∃ u0 u1, mapX W H (ptX W k) (ptY W k) s = (u0, u1) := ⟨_, _, rfl⟩
  have hu1 : u0 = ptX W (itN W H s k 1) ∧ u1 = ptY W (itN W H s k 1) := by
    have h := HAT.out 0
    rw [show itN W H s k 0 = k from rfl, hu] at h
    exact ⟨congrArg Prod.fst h, congrArg Prod.snd h⟩
  have HU := Lib.hid hu
  have HU1 := Lib.hid hu1
  have HX : Hid (0 ≤ ptX W k ∧ ptX W k ≤ 2 * W) := Lib.hid ⟨by omega, by omega⟩
  have HY : Hid (0 ≤ ptY W k ∧ ptY W k ≤ 2 * H) := Lib.hid ⟨by omega, by omega⟩
  have bl := Joins.below_alloc1 w (.cells #[.int .i64 k] 2)
  have hr := ints_one w k
  have ba3 := hx.alloc (.cells #[.int .i64 k] 2)
  have HBX0 := Lib.hid hx
  clear hx hu hu1 pi5 k0 k1
  go_enter Try.func89, Try.ntmps89
  generalize hV : w.alloc (.cells #[.int .i64 k] 2) = V at *
  have a0 := ba3.cell 0
  have a1 := ba3.cell 1
  have an := ba3.lt
  simp only [List.getElem?_toArray, List.getElem?_cons_zero, List.getElem?_cons_succ] at a0 a1
  have ba4 := ba3.alloc (.cells #[.int .i64 0, .int .i64 0] 36)
  have b0 := ba4.cell 0
  have b1 := ba4.cell 1
  simp only [List.getElem?_toArray, List.getElem?_cons_zero, List.getElem?_cons_succ] at b0 b1
  go_wp2
  have nb : (⟨b, 0, none⟩ : Addr).block ≠ V.heap.size := show b ≠ V.heap.size by omega
  go_cut [10] (fun s10 wc => ∃ pt : Nat, s10 = .pointer (some ⟨pt, 0, none⟩) ∧ Box wc pt 36 #[.int .i64 u0, .int .i64 u1] ∧ V.heap.size ≤ pt ∧ Below V.heap.size V wc)
  case first =>
    go_region_held3 (fun w' => w'.cell? ⟨b, 0, none⟩ = some (.int .i64 W) ∧ w'.cell? ⟨b, 1, none⟩ = some (.int .i64 H))
      (first | exact ⟨cell_b (Joins.below_alloc1 _ _) l0, cell_b (Joins.below_alloc1 _ _) l1⟩
             | exact ⟨l0, l1⟩
             | exact ⟨cell_f nb (cell_f nb l0), cell_f nb (cell_f nb l1)⟩
             | exact ⟨cell_f nb5 (cell_f nb5 l0), cell_f nb5 (cell_f nb5 l1)⟩
             | exact ⟨cell_b (Joins.below_alloc1 _ _) k0, cell_b (Joins.below_alloc1 _ _) k1⟩
             | exact ⟨k0, k1⟩
             | exact ⟨a0, a1⟩
             | exact ⟨b0, b1⟩)
      (first | (go_at_call 122; (with_reducible refine (l02Point_any (Box.drew1 ba3) HW.out HH.out HKI.out.1 HKI.out.2).mono ?_); rintro e w5 ⟨rfl, hb1⟩; have k0 := cell_b hb1 (show (V.drew).cell? ⟨b, 0, none⟩ = some (.int .i64 W) from a0); have k1 := cell_b hb1 (show (V.drew).cell? ⟨b, 1, none⟩ = some (.int .i64 H) from a1); have nb5 : (⟨b, 0, none⟩ : Addr).block ≠ w5.heap.size := (show b ≠ w5.heap.size by have := World.block_lt_of_cell? w5 _ k0; simp at this; omega); have B5 : Below V.heap.size V w5 := (below_drewN V.heap.size V 1).trans (hb1.mono (by simp)))
             | (go_at_call 122; (with_reducible refine (l02Point_any (Box.drew1 ba4) HW.out HH.out HKI.out.1 HKI.out.2).mono ?_); rintro e w5 ⟨rfl, hb1⟩; have k0 := cell_b hb1 (show ((V.alloc (.cells #[.int .i64 0, .int .i64 0] 36)).drew).cell? ⟨b, 0, none⟩ = some (.int .i64 W) from b0); have k1 := cell_b hb1 (show ((V.alloc (.cells #[.int .i64 0, .int .i64 0] 36)).drew).cell? ⟨b, 1, none⟩ = some (.int .i64 H) from b1); have nb5 : (⟨b, 0, none⟩ : Addr).block ≠ w5.heap.size := (show b ≠ w5.heap.size by have := World.block_lt_of_cell? w5 _ k0; simp at this; omega); have B5 : Below V.heap.size V w5 := (((Below.refl V.heap.size V).alloc (Nat.le_refl _) _).trans (below_drewN V.heap.size _ 1)).trans (hb1.mono (by simp)); have hy : Box w5 V.heap.size 36 #[.int .i64 0, .int .i64 0] := (hb1.block _ (by simp)).trans (Box.new V 36 #[.int .i64 0, .int .i64 0]))
             | (go_at_call 79; (with_reducible refine (l06Point_any ⟨by omega, by omega⟩ ⟨by omega, by omega⟩ HX.out HY.out HS.out HU.out).mono ?_); rintro e w6 ⟨rfl, hb2'⟩; first | (have hz := (hy.below hb2'); have l0 := cell_b hb2' k0; have l1 := cell_b hb2' k1; have B6 : Below V.heap.size V w6 := B5.trans (hb2'.mono B5.size); have z0 := hz.cell 0; have z1 := hz.cell 1; have y0 := hz.free 0; have y1 := hz.free 1; have zn := hz.lt) | (have hz := ((Box.new w5 36 #[.int .i64 0, .int .i64 0]).below hb2'); have l0 := cell_b hb2' (cell_b (Joins.below_alloc1 _ _) k0); have l1 := cell_b hb2' (cell_b (Joins.below_alloc1 _ _) k1); have B6 : Below V.heap.size V w6 := (B5.alloc B5.size _).trans (hb2'.mono (by simp; have := B5.size; omega)); have z0 := hz.cell 0; have z1 := hz.cell 1; have y0 := hz.free 0; have y1 := hz.free 1; have zn := hz.lt) | (have l0 := cell_b hb2' k0; have l1 := cell_b hb2' k1; have B6 : Below V.heap.size V w6 := B5.trans (hb2'.mono B5.size))))
    · have R : Hid (∃ pt : Nat, Value.pointer (some ⟨w6.heap.size, 0, none⟩) = .pointer (some ⟨pt, 0, none⟩) ∧ Box (w6.alloc (.cells #[.int .i64 u0, .int .i64 u1] 36)) pt 36 #[.int .i64 u0, .int .i64 u1] ∧ V.heap.size ≤ pt ∧ Below V.heap.size V (w6.alloc (.cells #[.int .i64 u0, .int .i64 u1] 36))) := Lib.hid ⟨_, rfl, Box.new _ _ _, B6.size, B6.alloc B6.size _⟩
      clear l0 l1 k0 k1 nb5 B5 B6 hb1 hb2'
      go_wp2_with fail
      go_meet
      case rel => exact R.out
    · have R : Hid (∃ pt : Nat, Value.pointer (some ⟨w5.heap.size, 0, none⟩) = .pointer (some ⟨pt, 0, none⟩) ∧ Box ((w6.setCell ⟨w5.heap.size, 0, none⟩ (.int .i64 u0)).setCell ⟨w5.heap.size, 1, none⟩ (.int .i64 u1)) pt 36 #[.int .i64 u0, .int .i64 u1] ∧ V.heap.size ≤ pt ∧ Below V.heap.size V ((w6.setCell ⟨w5.heap.size, 0, none⟩ (.int .i64 u0)).setCell ⟨w5.heap.size, 1, none⟩ (.int .i64 u1))) := Lib.hid ⟨_, rfl, Box.set2p hz _ _, B5.size, (B6.setCell (p := ⟨w5.heap.size, 0, none⟩) B5.size _).setCell (p := ⟨w5.heap.size, 1, none⟩) B5.size _⟩
      clear l0 l1 k0 k1 nb5 B5 B6 hb1 hb2' hz z0 z1 y0 y1 zn
      go_wp2_with fail
      go_meet
      case rel => exact R.out
    · have R : Hid (∃ pt : Nat, Value.pointer (some ⟨V.heap.size, 0, none⟩) = .pointer (some ⟨pt, 0, none⟩) ∧ Box ((w6.setCell ⟨V.heap.size, 0, none⟩ (.int .i64 u0)).setCell ⟨V.heap.size, 1, none⟩ (.int .i64 u1)) pt 36 #[.int .i64 u0, .int .i64 u1] ∧ V.heap.size ≤ pt ∧ Below V.heap.size V ((w6.setCell ⟨V.heap.size, 0, none⟩ (.int .i64 u0)).setCell ⟨V.heap.size, 1, none⟩ (.int .i64 u1))) := Lib.hid ⟨_, rfl, Box.set2p hz _ _, Nat.le_refl _, (B6.setCell (p := ⟨V.heap.size, 0, none⟩) (Nat.le_refl _) _).setCell (p := ⟨V.heap.size, 1, none⟩) (Nat.le_refl _) _⟩
      clear l0 l1 k0 k1 nb5 B5 B6 hb1 hb2' hz z0 z1 y0 y1 zn hy
      go_wp2_with fail
      go_meet
      case rel => exact R.out
  case rest =>
    obtain ⟨pt, rfl, bt, hpt, hbw⟩ := hcut
    clear a0 a1 an b0 b1 ba4
    have ba5 := ba3.below hbw
    have hr5 := Row.below hr hbw
    replace bl := bnext bl hbw
    clear ba3 hr
    obtain ⟨V1, hV1⟩ : ∃ x, x = wc := ⟨wc, rfl⟩
    subst hV1
    have t1 := HPE.out.1.1
    rw [HTT.out] at t1
    have hVs : V.heap.size = w.heap.size + 1 := by rw [← hV]; simp
    have hy0 : Hid ((.int .i64 u0 : Value) = .int .i64 (ptX W (itN W H s k 1)) ∧ (.int .i64 u1 : Value) = .int .i64 (ptY W (itN W H s k 1))) := Lib.hid ⟨by rw [HU1.out.1], by rw [HU1.out.2]⟩
    rw [hy0.out.1, hy0.out.2] at bt
    have gne0 : (some w.heap.size : Option Nat) ≠ some pt := fun e => by injection e with e; omega
    have hcy : cycL W H s k 1 = [k] := rfl
    have htr : trnT c 1 = c := rfl
    clear hV hbw
    go_wp2
    go_loopw [8, 9] (fun v tt wr => ∃ (m : Nat) (A : Option Addr) (cc : Nat), 1 ≤ m ∧ m ≤ T ∧ v = .slice A m cc ∧ tt = .int .i64 (trnT c m) ∧ Ints wr w.heap.size (.slice A m cc) (cycL W H s k m) ∧ (Value.slice A m cc).ownBlock ≠ some pt ∧
        Box wr pt 36 #[.int .i64 (ptX W (itN W H s k m)), .int .i64 (ptY W (itN W H s k m))] ∧ Below w.heap.size w wr) (fun v _ _ => T - lenV v)
    case atStart => exact ⟨1, _, _, Nat.le_refl _, t1, rfl, by rw [htr], by rw [hcy]; exact hr5, gne0, bt, bl⟩
    case round =>
      obtain ⟨m, A, cc, m1, mT, rfl, rfl, hR, hne, bt, bl⟩ := hrel
      clear hr5 ba5 gne0 hcy htr
      have HBX : Hid (∀ w', Below w.heap.size w w' → Box w' b 30 #[.int .i64 W, .int .i64 H, v]) := Lib.hid (fun w' hh => HBX0.out.below hh)
      have hj := HIN.out m
      obtain ⟨pi1, pi2, pi3, pi4, pi5⟩ := pt_in (H := H) W1 W8 hj.1 hj.2
      have hnum := pt_num W1 W8 hj.1
      have ha := HAT.out m
      have hmn : m < T → itN W H s k m ≠ k := fun h => HPE.out.2.2 m m1 (by rw [HTT.out]; exact h)
      have hmt : m = T → itN W H s k m = k := fun h => by rw [h, ← HTT.out]; exact HPE.out.2.1
      obtain ⟨j, hjj⟩ : ∃ j, itN W H s k m = j := ⟨_, rfl⟩
      have HJ := Lib.hid hjj
      rw [hjj] at hj pi1 pi2 pi3 pi4 hnum ha hmn hmt bt
      obtain ⟨x, hx⟩ : ∃ x, ptX W j = x := ⟨_, rfl⟩
      obtain ⟨y, hy⟩ : ∃ y, ptY W j = y := ⟨_, rfl⟩
      rw [hy] at pi1 pi2
      rw [hx] at pi3 pi4
      rw [hx, hy] at hnum ha bt
      have HNM := Lib.hid hnum
      have HA := Lib.hid ha
      clear hjj hx hy pi5 hnum ha
      have ba := HBX.out _ bl
      have q0 := bt.cell 0
      have q1 := bt.cell 1
      have qn := bt.lt
      simp only [List.getElem?_toArray, List.getElem?_cons_zero, List.getElem?_cons_succ] at q0 q1
      go_wp2_with fail
      refine (l02Number_any ba HW.out ⟨by omega, by omega⟩ ⟨by omega, by omega⟩ HNM.out).mono ?_
      rintro e w2 ⟨rfl, hb⟩
      replace bt := bt.below hb
      replace bl := bnext bl hb
      replace hR := Row.below hR hb
      clear hb q0 q1 qn ba
      by_cases hlt : m < T
      · have hjk : j ≠ k := hmn hlt
        have HTX := Lib.hid (trn_xor HC.out.1 m)
        have ba := HBX.out _ bl
        have q0 := bt.cell 0
        have q1 := bt.cell 1
        have qn := bt.lt
        simp only [List.getElem?_toArray, List.getElem?_cons_zero, List.getElem?_cons_succ] at q0 q1
        clear hmn hmt
        go_wp2_with fail
        refine (l02Number_any ba HW.out ⟨by omega, by omega⟩ ⟨by omega, by omega⟩ HNM.out).mono ?_
        rintro e w3 ⟨rfl, hb⟩
        replace bt := bt.below hb
        replace bl := bnext bl hb
        replace hR := Row.below hR hb
        clear hb q0 q1 qn ba
        have hlen : (cycL W H s k m).length < 1000000000 := by rw [cycL_len]; have := HPE.out.1.2; rw [HTT.out] at this; omega
        have hB3 : w.heap.size ≤ w3.heap.size := bl.size
        have hl2 := cycL_len W H s k m
        go_wp2_with (at_builtin; refine append_one_at rfl _ _ rfl w.heap.size w3.heap.size (.slice A m cc) (cycL W H s k m) j hR rfl rfl rfl hlen hB3 ?_)
        intro g c' w7 hI7 hg7 hat7
        try rw [hl2] at hI7
        try rw [hl2]
        have s7' := hg7.size
        have hne7 : (Value.slice (some ⟨g, 0, none⟩) (m + 1) c').ownBlock ≠ some pt := by
          rcases hat7 with h | h
          · rw [ownBlock_slice, ← h]; exact hne
          · rw [ownBlock_slice]
            intro e
            injection e with e
            have := bt.lt
            omega
        have hI8 : Ints w7 w.heap.size (.slice (some ⟨g, 0, none⟩) (m + 1) c') (cycL W H s k (m + 1)) := by
          rw [cycL, HJ.out]
          exact hI7
        have bt8 := bt.grown hg7 (fun e => hne e.symm)
        have bl8 : Below w.heap.size w w7 := bl.grown hg7 hB3 (fun i hi => (Row.lt hR hi).1)
        clear hI7 hR bt bl hg7 hat7 hl2 hlen hB3 s7' hne
        obtain ⟨x', hx'⟩ : ∃ x', ptX W (itN W H s k (m + 1)) = x' := ⟨_, rfl⟩
        obtain ⟨y', hy'⟩ : ∃ y', ptY W (itN W H s k (m + 1)) = y' := ⟨_, rfl⟩
        have HA2 : Hid (mapX W H x y s = (x', y')) := Lib.hid (by rw [HA.out, hx', hy'])
        have HX2 : Hid (0 ≤ x ∧ x ≤ 2 * W) := Lib.hid ⟨by omega, by omega⟩
        have HY2 : Hid (0 ≤ y ∧ y ≤ 2 * H) := Lib.hid ⟨by omega, by omega⟩
        have HXY := Lib.hid (And.intro hx' hy')
        clear hx' hy'
        have hxo := HTX.out
        have ba := HBX.out _ bl8
        have p0 := ba.cell 0
        have p1 := ba.cell 1
        have pn := ba.lt
        have q0 := bt8.cell 0
        have q1 := bt8.cell 1
        have qn := bt8.lt
        simp only [List.getElem?_toArray, List.getElem?_cons_zero, List.getElem?_cons_succ] at p0 p1 q0 q1
        go_wp2
        go_still_tail 10, (by kernel_rfl)
        change wpList _ _ _ _ _ w7.drew
        replace bl8 : Below w.heap.size w w7.drew := bl8.trans (below_drewN _ _ 1)
        replace bt8 : Box w7.drew pt 36 #[.int .i64 x, .int .i64 y] := bt8
        replace hI8 : Ints w7.drew w.heap.size (.slice (some ⟨g, 0, none⟩) (m + 1) c') (cycL W H s k (m + 1)) := hI8
        clear p0 p1 pn q0 q1 qn ba hxo
        generalize w7.drew = w8 at *
        go_wp2_with fail
        refine (l06Point_any ⟨by omega, by omega⟩ ⟨by omega, by omega⟩ HX2.out HY2.out HS.out HA2.out).mono ?_
        rintro e w9 ⟨rfl, hb⟩
        replace bt8 := bt8.below hb
        replace bl8 := bnext bl8 hb
        replace hI8 := Row.below hI8 hb
        clear hb
        have q0 := bt8.cell 0
        have q1 := bt8.cell 1
        have qf0 := bt8.free 0
        have qf1 := bt8.free 1
        have qn := bt8.lt
        have bt9 := Box.set2p bt8 (.int .i64 x') (.int .i64 y')
        rw [← HXY.out.1, ← HXY.out.2] at bt9
        have hpw : w.heap.size ≤ pt := by omega
        have bl9 := (bl8.setCell (p := ⟨pt, 0, none⟩) hpw (.int .i64 x')).setCell (p := ⟨pt, 1, none⟩) hpw (.int .i64 y')
        have hI9 : Ints ((w9.setCell ⟨pt, 0, none⟩ (.int .i64 x')).setCell ⟨pt, 1, none⟩ (.int .i64 y')) w.heap.size (.slice (some ⟨g, 0, none⟩) (m + 1) c') (cycL W H s k (m + 1)) :=
          Row.setCell (p := ⟨pt, 1, none⟩) (Row.setCell (p := ⟨pt, 0, none⟩) hI8 (fun i hi e => hne7 (by rw [hi]; exact congrArg some e)) _) (fun i hi e => hne7 (by rw [hi]; exact congrArg some e)) _
        rw [HXY.out.1, HXY.out.2] at bt9
        have R : Hid (∃ (m2 : Nat) (A : Option Addr) (cc : Nat), 1 ≤ m2 ∧ m2 ≤ T ∧ (Value.slice (some ⟨g, 0, none⟩) (m + 1) c') = .slice A m2 cc ∧ (Value.int .i64 (trnT c (m + 1))) = .int .i64 (trnT c m2) ∧ Ints ((w9.setCell ⟨pt, 0, none⟩ (.int .i64 x')).setCell ⟨pt, 1, none⟩ (.int .i64 y')) w.heap.size (.slice A m2 cc) (cycL W H s k m2) ∧ (Value.slice A m2 cc).ownBlock ≠ some pt ∧
            Box ((w9.setCell ⟨pt, 0, none⟩ (.int .i64 x')).setCell ⟨pt, 1, none⟩ (.int .i64 y')) pt 36 #[.int .i64 (ptX W (itN W H s k m2)), .int .i64 (ptY W (itN W H s k m2))] ∧ Below w.heap.size w ((w9.setCell ⟨pt, 0, none⟩ (.int .i64 x')).setCell ⟨pt, 1, none⟩ (.int .i64 y'))) :=
          Lib.hid ⟨m + 1, _, c', by omega, by omega, rfl, rfl, hI9, hne7, by rw [HXY.out.1, HXY.out.2]; exact bt9, bl9⟩
        clear bt9 bl9 hI9 bt8 bl8 hI8
        go_wp2
        go_roundw
        case rel => exact R.out
        case measure => simp [lenV]; omega
      · have e : m = T := by omega
        have hjk : j = k := hmt e
        have HRES : Hid (Ints w2 w.heap.size (.slice A T cc) (cycL W H s k T)) := Lib.hid (by rw [← e]; exact hR)
        have HBL := Lib.hid bl
        clear hmn hmt hR bl bt HNM HA
        subst e
        by_cases hz : trnT c m = 0
        · have HF : Hid (t = false) := Lib.hid (by
            rw [← HT.out]
            refine decide_eq_false ?_
            rintro ⟨h4, ho⟩
            rw [HTT.out] at ho
            unfold trnT at hz
            rw [if_pos ho] at hz
            exact HC.out.2.2 h4 hz)
          go_wp2
          go_ret2
          rw [HTT.out, HF.out]
          exact ⟨_, _, rfl, HRES.out, HBL.out⟩
        · have HF : Hid (t = true) := Lib.hid (by
            rw [← HT.out]
            refine decide_eq_true ?_
            rw [HTT.out]
            unfold trnT at hz
            by_cases ho : m % 2 = 1
            · rw [if_pos ho] at hz
              exact ⟨HC.out.2.1 hz, ho⟩
            · rw [if_neg ho] at hz
              exact absurd rfl hz)
          have hz2 : (trnT c m != 0) = true := bne_iff_ne.2 hz
          go_wp2
          go_ret2
          rw [HTT.out, HF.out]
          exact ⟨_, _, rfl, HRES.out, HBL.out⟩
end Go.Proofs.Ytihfdgnocdphcaa
