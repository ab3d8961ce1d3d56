/-
  What is known on one side of the points with an X, passed on to the other side, by the program.
-/
import Derived.Test.YtnldahadldolpaaPairs
import Derived.Test.YtnldahadldolpaaLoops
import Derived.Test.YtnldahadldolpaaPlAllB
import Derived.Deep.RegionHeld3
import Derived.Deep.DeepCutAuto
import Derived.Laws.MakeOwn
import Derived.BigRegion
namespace Go.Proofs.Ytnldahadldolpaa
open Go.RowKit Knot

section
variable {w w' : World} {B C n m g c : Nat} {v : Value} {zs : List Int}
theorem TRow.keep (h : TRow w B v n zs) (hb : ∀ g, v.ownBlock = some g → g < w.heap.size → w'.heap[g]? = w.heap[g]?) : TRow w' B v n zs := by
  obtain ⟨h1, h2⟩ := h
  refine ⟨h1, ?_⟩
  rcases h2 with h2 | ⟨g, cap, cur, hv, hg, hh, r⟩
  · exact .inl h2
  · have hgl : g < w.heap.size := (Array.getElem?_eq_some_iff.1 hh).1
    refine .inr ⟨g, cap, cur, hv, hg, ?_, r⟩
    rw [hb g (by rw [hv]; rfl) hgl]
    exact hh
theorem TRow.below (h : TRow w B v n zs) (hb : Below w.heap.size w w') : TRow w' B v n zs := h.keep fun g _ hg => hb.block g hg
theorem TRow.lt (h : TRow w B v n zs) {g : Nat} (hg : v.ownBlock = some g) : B ≤ g ∧ g < w.heap.size := World.ownsRow.lt h g hg
theorem TRow.cell (h : TRow w B (.slice (some ⟨g, 0, none⟩) m c) n zs) {j : Nat} (hj : j < n * 2) : w.cell? ⟨g, j, none⟩ = some (.int .i64 (gI zs (j : Nat))) := by
  obtain ⟨h1, h2⟩ := h
  rcases h2 with ⟨h2, _⟩ | ⟨g', cap, cur, hv, hg, hh, r1, r2, r3, r4⟩
  · cases h2
  · injection hv with e1 e2 e3
    injection e1 with e1
    injection e1 with e1
    subst e1
    have hl : j < zs.length := by simp at h1; omega
    have := cell_of_row w g j cur 109 (0, 0) hh
    rw [this]
    have hj2 : j < cur.size := by omega
    have e4 : (cur.toList.take (n * 2))[j]? = (zs.map (Value.int .i64))[j]? := by rw [r4]
    rw [List.getElem?_take, if_pos hj] at e4
    rw [← Array.getElem?_toList, e4]
    simp [gI, List.getD, hl]
end
theorem flat2_get (l : List (Int × Int)) : ∀ k (h : k < l.length), gI (flat2 l) ((k * 2 : Nat) : Int) = l[k].1 ∧ gI (flat2 l) ((k * 2 + 1 : Nat) : Int) = l[k].2 := by
  induction l with
  | nil => intro k h; simp at h
  | cons q l ih =>
    intro k h
    cases k with
    | zero => exact ⟨rfl, rfl⟩
    | succ k =>
      have := ih k (by simpa using h)
      have e : flat2 (q :: l) = q.1 :: q.2 :: flat2 l := rfl
      rw [e, show (k + 1) * 2 = k * 2 + 2 by omega, show k * 2 + 2 + 1 = k * 2 + 1 + 2 by omega]
      have g2 : ∀ (a b : Int) (l : List Int) (j : Nat), gI (a :: b :: l) ((j + 2 : Nat) : Int) = gI l (j : Int) := fun a b l j => by
        unfold gI
        rw [Int.toNat_natCast, Int.toNat_natCast]
        rfl
      rw [g2, g2]
      simpa using this
theorem make_bools (n : Nat) (hn : n ≤ 200) : ∃ M : Array Value, (∀ u : World, (Instr.makeSlice 94 (.int .i64 (n : Int)) (.int .i64 (n : Int))).run Try.prog u = .ok (.slice (some ⟨u.heap.size, 0, none⟩) n n) (u.alloc (.cells M 4))) ∧
    ∀ u : World, Bools (u.alloc (.cells M 4)) u.heap.size (.slice (some ⟨u.heap.size, 0, none⟩) n n) (List.replicate n false) := by
  obtain ⟨j0, hinf, hz0, hz1, hz2⟩ := info_parts info_bool
  refine ⟨madeCells (Value.bool false).cells (n * 1), fun u => ?_, fun u => ?_⟩
  · have h := run_make (P := Try.prog) u 94 4 j0 (.bool false) Try.underlying94 hinf hz0 .i64 .i64 n n (by omega) (Int.le_refl _) (by rw [hz2]; omega) (by omega)
    rw [hz1] at h
    simpa using h
  · have h := World.ownsRow_lit (base := u.heap.size) (e := 4) (size := 1) u (madeCells (Value.bool false).cells (n * 1)) n (Nat.le_refl _) (by unfold maxLen; omega) (size_madeCells _ _)
    unfold Bools Row
    rw [List.length_replicate, List.map_replicate]
    simpa [Value.cells, toList_madeCells_one] using h
theorem make_ints (n : Nat) (hn : n ≤ 200) : ∃ M : Array Value, (∀ u : World, (Instr.makeSlice 22 (.int .i64 (n : Int)) (.int .i64 (n : Int))).run Try.prog u = .ok (.slice (some ⟨u.heap.size, 0, none⟩) n n) (u.alloc (.cells M 2))) ∧
    ∀ u : World, Ints (u.alloc (.cells M 2)) u.heap.size (.slice (some ⟨u.heap.size, 0, none⟩) n n) (List.replicate n 0) := by
  obtain ⟨j0, hinf, hz0, hz1, hz2⟩ := info_parts info_int
  refine ⟨madeCells (Value.int .i64 0).cells (n * 1), fun u => ?_, fun u => ?_⟩
  · have h := run_make (P := Try.prog) u 22 2 j0 (.int .i64 0) Try.underlying22 hinf hz0 .i64 .i64 n n (by omega) (Int.le_refl _) (by rw [hz2]; omega) (by omega)
    rw [hz1] at h
    simpa using h
  · have h := World.ownsRow_lit (base := u.heap.size) (e := 2) (size := 1) u (madeCells (Value.int .i64 0).cells (n * 1)) n (Nat.le_refl _) (by unfold maxLen; omega) (size_madeCells _ _)
    unfold Ints Row
    rw [List.length_replicate, List.map_replicate]
    simpa [Value.cells, toList_madeCells_one] using h
/-- Two rows, one of numbers and one of marks. -/
def IntsBools (V wc : World) (n : Nat) (a b : Value) : Prop := ∃ go gs : Nat, a = .slice (some ⟨go, 0, none⟩) n n ∧ b = .slice (some ⟨gs, 0, none⟩) n n ∧ Ints wc V.heap.size (.slice (some ⟨go, 0, none⟩) n n) (List.replicate n 0) ∧ Bools wc V.heap.size (.slice (some ⟨gs, 0, none⟩) n n) (List.replicate n false) ∧
  go ≠ gs ∧ V.heap.size ≤ go ∧ V.heap.size ≤ gs ∧ go < V.heap.size + 2 ∧ gs < V.heap.size + 2 ∧ V.heap.size + 2 = wc.heap.size ∧ Below V.heap.size V wc
theorem ib_one {V : World} {n : Nat} {M1 M2 : Array Value} (h1 : ∀ u : World, Ints (u.alloc (.cells M1 2)) u.heap.size (.slice (some ⟨u.heap.size, 0, none⟩) n n) (List.replicate n 0)) (h2 : ∀ u : World, Bools (u.alloc (.cells M2 4)) u.heap.size (.slice (some ⟨u.heap.size, 0, none⟩) n n) (List.replicate n false)) :
    IntsBools V ((V.alloc (.cells M1 2)).alloc (.cells M2 4)) n (.slice (some ⟨V.heap.size, 0, none⟩) n n) (.slice (some ⟨V.heap.size + 1, 0, none⟩) n n) := by
  have a := h1 V
  have b := h2 (V.alloc (.cells M1 2))
  rw [World.size_alloc] at b
  exact ⟨_, _, rfl, rfl, Row.alloc a _, Row.le b (by omega), by omega, by omega, by omega, by omega, by omega, by simp, ((Below.refl _ _).alloc (Nat.le_refl _) _).alloc (by simp) _⟩
theorem ib_two {V : World} {n : Nat} {M1 M2 : Array Value} (h1 : ∀ u : World, Ints (u.alloc (.cells M1 2)) u.heap.size (.slice (some ⟨u.heap.size, 0, none⟩) n n) (List.replicate n 0)) (h2 : ∀ u : World, Bools (u.alloc (.cells M2 4)) u.heap.size (.slice (some ⟨u.heap.size, 0, none⟩) n n) (List.replicate n false)) :
    IntsBools V ((V.alloc (.cells M2 4)).alloc (.cells M1 2)) n (.slice (some ⟨V.heap.size + 1, 0, none⟩) n n) (.slice (some ⟨V.heap.size, 0, none⟩) n n) := by
  have a := h2 V
  have b := h1 (V.alloc (.cells M2 4))
  rw [World.size_alloc] at b
  exact ⟨_, _, rfl, rfl, Row.le b (by omega), Row.alloc a _, by omega, by omega, by omega, by omega, by omega, by simp, ((Below.refl _ _).alloc (Nat.le_refl _) _).alloc (by simp) _⟩
theorem IntsBools.drew {V wc : World} {n : Nat} {a b : Value} (h : IntsBools V wc n a b) : IntsBools V wc.drew n a b := by
  obtain ⟨go, gs, h1, h2, h3, h4, h5, h6, h7, h8, h9, h10, h11⟩ := h
  exact ⟨go, gs, h1, h2, h3, h4, h5, h6, h7, h8, h9, h10, h11.trans (below_drewN _ _ 1)⟩
/-- The number of a segment among the links. -/
def numL (n X s : Int) (tw : Bool) : Int := if decide (s / n < X) = tw then s % n else n + s % n
theorem numL_is {p : Pan} (hH : 1 ≤ p.H) {X i : Int} (i0 : 0 ≤ i) (i1 : i < 4 * p.H) (tw : Bool) : numL (2 * p.H) X ((X - 1) * (2 * p.H) + i) tw = if tw then i else swp p i := by
  have hXX : X * (2 * p.H) = (X - 1) * (2 * p.H) + 2 * p.H := by rw [Int.sub_mul]; omega
  unfold numL swp
  by_cases h : i < 2 * p.H
  · have e1 : ((X - 1) * (2 * p.H) + i) / (2 * p.H) = X - 1 := by
      rw [Int.add_comm, Int.add_mul_ediv_right _ _ (by omega), Int.ediv_eq_zero_of_lt i0 h]; omega
    have e2 : ((X - 1) * (2 * p.H) + i) % (2 * p.H) = i := by
      rw [Int.add_comm, Int.add_mul_emod_self_right, Int.emod_eq_of_lt i0 h]
    rw [e1, e2]
    cases tw <;> simp [h] <;> omega
  · have e1 : ((X - 1) * (2 * p.H) + i) / (2 * p.H) = X := by
      rw [show (X - 1) * (2 * p.H) + i = (i - 2 * p.H) + X * (2 * p.H) by rw [hXX]; omega, Int.add_mul_ediv_right _ _ (by omega), Int.ediv_eq_zero_of_lt (by omega) (by omega)]; omega
    have e2 : ((X - 1) * (2 * p.H) + i) % (2 * p.H) = i - 2 * p.H := by
      rw [show (X - 1) * (2 * p.H) + i = (i - 2 * p.H) + X * (2 * p.H) by rw [hXX]; omega, Int.add_mul_emod_self_right, Int.emod_eq_of_lt (by omega) (by omega)]
    rw [e1, e2]
    cases tw <;> simp [h] <;> omega
set_option maxHeartbeats 2000000 in
theorem passNum_any {w : World} {bn bx bl : Nat} {n X s r : Int} {tw : Bool} (hbn : Box w bn 2 #[.int .i64 n]) (hbx : Box w bx 2 #[.int .i64 X]) (hbl : Box w bl 4 #[.bool tw]) (hn : 2 ≤ n ∧ n ≤ 16) (hs : 0 ≤ s ∧ s ≤ 256) (hr : numL n X s tw = r) :
    Calls Try.prog 95 #[.int .i64 s, .pointer (some ⟨bn, 0, none⟩), .pointer (some ⟨bx, 0, none⟩), .pointer (some ⟨bl, 0, none⟩)] w fun e w' => e = .returned (.int .i64 r) ∧ ∃ k, w.drewN k = w' := by
  have n0 := hbn.cell 0
  have nn := hbn.lt
  have x0 := hbx.cell 0
  have xn := hbx.lt
  have l0 := hbl.cell 0
  have ln := hbl.lt
  simp only [List.getElem?_toArray, List.getElem?_cons_zero, List.getElem?_cons_succ] at n0 x0 l0
  obtain ⟨n1, n2⟩ := hn
  obtain ⟨s0, s1⟩ := hs
  have hn0 : n ≠ 0 := by omega
  have hd : s.tdiv n = s / n := Int.tdiv_eq_ediv_of_nonneg s0
  have hm : s.tmod n = s % n := Int.tmod_eq_emod_of_nonneg s0
  have d0 : 0 ≤ s / n := Int.ediv_nonneg s0 (by omega)
  have d1 : s / n ≤ 256 := Int.le_trans (Int.ediv_le_self _ s0) s1
  have m0 : 0 ≤ s % n := Int.emod_nonneg _ hn0
  have m1 : s % n < n := Int.emod_lt_of_pos _ (by omega)
  obtain ⟨a, ha⟩ : ∃ a, s / n = a := ⟨_, rfl⟩
  obtain ⟨b, hb⟩ : ∃ b, s % n = b := ⟨_, rfl⟩
  have hr' : (if decide (a < X) = tw then b else n + b) = r := by rw [← hr, ← ha, ← hb]; rfl
  rw [ha] at hd d0 d1
  rw [hb] at hm m0 m1
  have HR := Lib.hid hr'
  clear ha hb hr hr' hbn hbx hbl
  go_enter Try.func95, Try.ntmps95
  go_wp2
  go_region
  go_wp2
  · rename_i h
    go_ret
    refine ⟨?_, 1, rfl⟩
    rw [← HR.out, if_pos (by simpa using h)]
    rfl
  · rename_i h
    go_ret
    refine ⟨?_, 1, rfl⟩
    rw [← HR.out, if_neg (by simpa using h)]
    rfl
theorem passNumB_any {w : World} {bn bx bl : Nat} {n X s r : Int} {tw : Bool} (hbn : Box w bn 2 #[.int .i64 n]) (hbx : Box w bx 2 #[.int .i64 X]) (hbl : Box w bl 4 #[.bool tw]) (hn : 2 ≤ n ∧ n ≤ 16) (hs : 0 ≤ s ∧ s ≤ 256) (hr : numL n X s tw = r) :
    Calls Try.prog 95 #[.int .i64 s, .pointer (some ⟨bn, 0, none⟩), .pointer (some ⟨bx, 0, none⟩), .pointer (some ⟨bl, 0, none⟩)] w fun e w' => e = .returned (.int .i64 r) ∧ Below w.heap.size w w' :=
  (passNum_any hbn hbx hbl hn hs hr).mono fun e w' ⟨h1, k, h2⟩ => ⟨h1, by rw [← h2]; exact below_drewN _ _ k⟩
set_option maxRecDepth 20000 in
set_option maxHeartbeats 16000000 in
theorem passColumn_any {w : World} {Bd C : Nat} {W H X : Int} {v u : Value} {B P : List Int} {tw : Bool} (hI : Ints w Bd v B) (hp : Ok ⟨W, H, B⟩) (hX : 0 < X ∧ X < 2 * W) (hu : Ints w C u P) (hP : Pairing (colN ⟨W, H, B⟩) P) {N : Nat} (hN : colN ⟨W, H, B⟩ = N) {R : List Int × Int} (hR : pass P (lkOf ⟨W, H, B⟩ X tw) (colN ⟨W, H, B⟩) = R) :
    Calls Try.prog 77 #[.agg #[.int .i64 W, .int .i64 H, v], .int .i64 X, u, .bool tw] w fun e w' => ∃ g c, e = .returned (.tuple #[.slice (some ⟨g, 0, none⟩) N c, .int .i64 R.2]) ∧
      Ints w' w.heap.size (.slice (some ⟨g, 0, none⟩) N c) R.1 ∧ R.1.length = N ∧ Below w.heap.size w w' := by
  have hmf : ∀ (fn : Fn) (first cap : Array Value) (w : World), (Instr.makeFunc fn first cap).run Try.prog w = .ok (.func fn first cap) w := fun _ _ _ _ => rfl
  obtain ⟨h, rfl⟩ := Int.eq_ofNat_of_zero_le (show 0 ≤ H by have := hp.h1; simp only [] at this; omega)
  obtain rfl : N = 2 * h := by rw [← hN]; unfold colN; simp only []; omega
  obtain ⟨A, cA, rfl, _, _⟩ := hI.open_
  obtain ⟨D, cD, rfl, lD, hD⟩ := hu.open_
  rw [hN] at hP hR
  have hPl := hP.len
  have HP := Lib.hid hP
  have HO := Lib.hid hp
  have HX := Lib.hid hX
  have HR := Lib.hid hR
  have hN2 : 1 ≤ h ∧ h ≤ 8 := by have h1 := hp.h1; have h8 := hp.h8; simp only [] at *; omega
  have HCN := Lib.hid hN
  obtain ⟨gp, rfl, gp0, gp1⟩ := hD (by omega)
  have hX2 : 1 ≤ X ∧ X ≤ 15 := by have := hp.w8; simp only [] at *; omega
  have bl0 := Joins.below_alloc2 w (.cells #[.int .i64 W, .int .i64 (h : Int), .slice A B.length cA] 41) (.cells #[.int .i64 X] 2)
  have bl := bnext (bnext bl0 (Joins.below_alloc1 _ (.cells #[.bool tw] 4))) (Joins.below_alloc1 _ (.cells #[.int .i64 (2 * (h : Int))] 2))
  have bp := (((Box.new w 41 #[.int .i64 W, .int .i64 (h : Int), .slice A B.length cA]).alloc (.cells #[.int .i64 X] 2)).alloc (.cells #[.bool tw] 4)).alloc (.cells #[.int .i64 (2 * (h : Int))] 2)
  have bx := ((Box.new (w.alloc (.cells #[.int .i64 W, .int .i64 (h : Int), .slice A B.length cA] 41)) 2 #[.int .i64 X]).alloc (.cells #[.bool tw] 4)).alloc (.cells #[.int .i64 (2 * (h : Int))] 2)
  have bt := (Box.new ((w.alloc (.cells #[.int .i64 W, .int .i64 (h : Int), .slice A B.length cA] 41)).alloc (.cells #[.int .i64 X] 2)) 4 #[.bool tw]).alloc (.cells #[.int .i64 (2 * (h : Int))] 2)
  have bn := Box.new (((w.alloc (.cells #[.int .i64 W, .int .i64 (h : Int), .slice A B.length cA] 41)).alloc (.cells #[.int .i64 X] 2)).alloc (.cells #[.bool tw] 4)) 2 #[.int .i64 (2 * (h : Int))]
  simp only [World.size_alloc] at bx bt bn
  have hI1 := Row.below hI bl
  have hu1 := Row.below hu bl
  obtain ⟨i0, hinf, hz0, hz1, hz2⟩ := info_parts info_int
  have hIF := hI
  clear hp hX hP hN hR hI hu hD bl0
  go_enter Try.func77, Try.ntmps77
  go_wp2_with (at_make; refine wpList_make_full _ rfl _ _ 22 rfl (w.heap.size + 1 + 1 + 1 + 1) 2 i0 (.int .i64 0) 1 Try.underlying22 hinf hz0 hz1 _ _ _ _ (2 * (2 * h)) rfl rfl (by omega) (by omega) (by rw [hz2]; omega) (by unfold maxLen; omega) (by simp only [World.size_alloc]; omega) ?_)
  generalize hV : ((((w.alloc (.cells #[.int .i64 W, .int .i64 (h : Int), .slice A B.length cA] 41)).alloc (.cells #[.int .i64 X] 2)).alloc (.cells #[.bool tw] 4)).alloc (.cells #[.int .i64 (2 * (h : Int))] 2)) = V at *
  have hVs : V.heap.size = w.heap.size + 1 + 1 + 1 + 1 := by rw [← hV]; simp
  clear hV
  intro w1 hown hgrow
  have hb1 : Below V.heap.size V w1 := (Below.refl _ _).grown hgrow (Nat.le_refl _) (by simp)
  have hL1 : Ints w1 (w.heap.size + 1 + 1 + 1 + 1) (.slice (some ⟨(w.heap.size + 1 + 1 + 1 + 1), 0, none⟩) (2 * (2 * h)) (2 * (2 * h))) (List.replicate (2 * (2 * h)) 0) := by
    unfold Ints Row
    rw [List.length_replicate, List.map_replicate]
    simpa [Value.cells, toList_madeCells_one] using hown
  have hw1 := (Row.lt hL1 (g := (w.heap.size + 1 + 1 + 1 + 1)) rfl).2
  replace bp := bp.below hb1
  replace bx := bx.below hb1
  replace bt := bt.below hb1
  replace bn := bn.below hb1
  replace hI1 := Row.below hI1 hb1
  replace hu1 := Row.below hu1 hb1
  replace bl := bnext bl hb1
  have hgpV : gp < (w.heap.size + 1 + 1 + 1 + 1) := by omega
  have KX : Hid (∀ wr, Chg (w.heap.size + 1 + 1 + 1 + 1) ((w.heap.size + 1 + 1 + 1 + 1) + 1) w1 wr → Box wr w.heap.size 41 #[.int .i64 W, .int .i64 (h : Int), .slice A B.length cA] ∧ Box wr (w.heap.size + 1) 2 #[.int .i64 X] ∧ Box wr (w.heap.size + 1 + 1) 4 #[.bool tw] ∧ Box wr (w.heap.size + 1 + 1 + 1) 2 #[.int .i64 (2 * (h : Int))] ∧
      Ints wr Bd (.slice A B.length cA) B ∧ Ints wr C (.slice (some ⟨gp, 0, none⟩) P.length cD) P ∧ Below w.heap.size w wr) := by
    refine Lib.hid (fun wr hc => ⟨bp.chg hc (.inl (by omega)), bx.chg hc (.inl (by omega)), bt.chg hc (.inl (by omega)), bn.chg hc (.inl (by omega)), ?_, ?_, bl.trans (hc.toBelow (by omega) bl.size)⟩)
    · refine Row.keep hI1 fun g hg hl => hc.block g hl (.inl ?_)
      have := (Row.lt hIF hg).2
      omega
    · refine Row.keep hu1 fun g hg hl => hc.block g hl (.inl ?_)
      rw [ownBlock_slice] at hg
      injection hg with hg
      omega
  have hy0 : (X + 1).tmod 2 = (X + 1) % 2 := Int.tmod_eq_emod_of_nonneg (by omega)
  obtain ⟨y0, hy⟩ : ∃ y0, (X + 1) % 2 = y0 := ⟨_, rfl⟩
  rw [hy] at hy0
  have HY : Hid ((X + y0) % 2 = 1 ∧ 0 ≤ y0 ∧ y0 ≤ 1) := Lib.hid (by omega)
  clear hy hown hgrow hb1 hIF
  have q0 := bx.cell 0
  have qn := bx.lt
  simp only [List.getElem?_toArray, List.getElem?_cons_zero, List.getElem?_cons_succ] at q0
  clear bp bx bt bn hI1 hu1 bl hinf hz0 hz1 hz2
  go_wp2
  clear q0 qn
  go_loopw [13] (fun s13 wr => ∃ (y : Int) (L : List Int), s13 = .int .i64 y ∧ 0 ≤ y ∧ y ≤ 2 * h + 2 ∧ L.length = 2 * (2 * h) ∧ Ints wr (w.heap.size + 1 + 1 + 1 + 1) (.slice (some ⟨(w.heap.size + 1 + 1 + 1 + 1), 0, none⟩) (2 * (2 * h)) (2 * (2 * h))) L ∧ Hid ((X + y) % 2 = 1 ∧ Laid ⟨W, (h : Int), B⟩ X tw L y) ∧ Chg (w.heap.size + 1 + 1 + 1 + 1) ((w.heap.size + 1 + 1 + 1 + 1) + 1) w1 wr) (fun s13 _ => 2 * h + 4 - (intOf s13).toNat)
  case atStart => exact ⟨y0, _, rfl, HY.out.2.1, by have := HY.out.2.2; omega, by simp, hL1, Lib.hid ⟨HY.out.1, fun i h0 h1 hlt => by
      exfalso
      have := ptL_le (p := ⟨W, (h : Int), B⟩) (X := X) h0 h1
      have hh := pt_has (p := ⟨W, (h : Int), B⟩) HX.out h0 h1
      have := hh.2.2.2.2
      have := HY.out
      omega⟩, Chg.ofBelow (Below.refl _ _)⟩
  case round =>
    obtain ⟨y, L, rfl, y1, y2, hLl, hL, HL, hc⟩ := hrel
    clear hL1
    obtain ⟨bp, bx, bt, bn, hI1, hu1, bl⟩ := KX.out _ hc
    by_cases hyn : y ≤ 2 * (h : Int)
    · have HHas : Hid (Has ⟨W, (h : Int), B⟩ X y) := Lib.hid ⟨by omega, by have := HX.out.2; simp only []; omega, y1, hyn, HL.out.1⟩
      have q0 := bp.cell 0
      have q1 := bp.cell 1
      have q2 := bp.cell 2
      have qn := bp.lt
      have x0 := bx.cell 0
      have xn := bx.lt
      have n0 := bn.cell 0
      have nn := bn.lt
      simp only [List.getElem?_toArray, List.getElem?_cons_zero, List.getElem?_cons_succ] at q0 q1 q2 x0 n0
      have hWs : w.heap.size + 1 + 1 + 1 + 1 + 1 ≤ wr.heap.size := by have := hc.size; omega
      go_wp2_with fail
      refine (pairsAt_any hI1 HO.out HHas.out).mono ?_
      rintro e w2 ⟨g, c, rfl, hT, hb⟩
      obtain ⟨pr, hpr⟩ : ∃ pr, pairsP ⟨W, (h : Int), B⟩ X y = pr := ⟨_, rfl⟩
      rw [hpr] at hT ⊢
      have HPR := Lib.hid hpr
      have hL2 := Row.below hL hb
      have hc2 := hc.trans (Chg.ofBelow hb)
      have hT2 := hT.le hWs
      have hpl : pr.length ≤ 2 := by
        rw [← hpr]
        unfold pairsP
        repeat' (first | split | exact Nat.le_refl _ | exact Nat.le_succ _)
      have hL0 : Hid (LaidAt ⟨W, (h : Int), B⟩ X tw L y 0) := Lib.hid (laidAt_zero HL.out.2)
      clear hb hT hL hc hpr q0 q1 q2 qn x0 xn n0 nn bp bx bt bn hI1 hu1 bl
      go_wp2
      go_loopw [46] (fun s46 wr => ∃ (m : Nat) (L : List Int), m ≤ pr.length ∧ s46 = .int .i64 m ∧ L.length = 2 * (2 * h) ∧ Ints wr (w.heap.size + 1 + 1 + 1 + 1) (.slice (some ⟨w.heap.size + 1 + 1 + 1 + 1, 0, none⟩) (2 * (2 * h)) (2 * (2 * h))) L ∧ Hid (LaidAt ⟨W, (h : Int), B⟩ X tw L y m) ∧
          TRow wr (w.heap.size + 1 + 1 + 1 + 1 + 1) (.slice (some ⟨g, 0, none⟩) pr.length c) pr.length (flat2 pr) ∧ Chg (w.heap.size + 1 + 1 + 1 + 1) (w.heap.size + 1 + 1 + 1 + 1 + 1) w1 wr) (fun s46 _ => pr.length - (intOf s46).toNat)
      case atStart => exact ⟨0, L, Nat.zero_le _, rfl, hLl, hL2, hL0, hT2, hc2⟩
      case round =>
        clear hL2 hL0 hT2 hc2 hLl HL L
        obtain ⟨m, L, hm, rfl, hLl, hL, HL, hT, hc⟩ := hrel
        by_cases hlt : m < pr.length
        · obtain ⟨⟨a, b⟩, hab⟩ : ∃ q, pr[m] = q := ⟨_, rfl⟩
          have hmem : (a, b) ∈ pairsP ⟨W, (h : Int), B⟩ X y := by rw [HPR.out, ← hab]; exact List.getElem_mem hlt
          obtain ⟨i, hi0, hi1, ea, eb, ept⟩ := pairs_link HO.out HX.out HHas.out hmem
          have hlk := linkA_rng (p := ⟨W, (h : Int), B⟩) (X := X) hi0 hi1
          have hsx := swp_swp (p := ⟨W, (h : Int), B⟩) hi0 hi1
          have hsy := swp_swp (p := ⟨W, (h : Int), B⟩) hlk.1 hlk.2.1
          have hna := numL_is (p := ⟨W, (h : Int), B⟩) (X := X) (by show 1 ≤ (h : Int); omega) hi0 hi1 tw
          have hnb := numL_is (p := ⟨W, (h : Int), B⟩) (X := X) (by show 1 ≤ (h : Int); omega) hlk.1 hlk.2.1 tw
          rw [← ea] at hna
          rw [← eb] at hnb
          have hst := (laidAt_step HO.out HX.out (tw := tw) (L := L) (by rw [HCN.out]; exact hLl) HHas.out (m := m) (a := a) (b := b) (by rw [HPR.out]; exact hlt) (by simp only [HPR.out]; exact hab) ea eb hi0 hi1 HL.out).2
          simp only [] at ea eb hi0 hi1 hlk hna hnb hsx hsy
          have hmul : (X - 1) * (2 * (h : Int)) ≤ 14 * 16 := Int.mul_le_mul (by omega) (by omega) (by omega) (by omega)
          have hmul0 : 0 ≤ (X - 1) * (2 * (h : Int)) := Int.mul_nonneg (by omega) (by omega)
          have HAR : Hid (0 ≤ a ∧ a ≤ 256) := Lib.hid (by omega)
          have HBR : Hid (0 ≤ b ∧ b ≤ 256) := Lib.hid (by omega)
          have hcr : (0 ≤ (if tw = true then i else swp ⟨W, (h : Int), B⟩ i) ∧ (if tw = true then i else swp ⟨W, (h : Int), B⟩ i) < 4 * (h : Int)) ∧ 0 ≤ (if tw = true then linkA ⟨W, (h : Int), B⟩ X i else swp ⟨W, (h : Int), B⟩ (linkA ⟨W, (h : Int), B⟩ X i)) ∧ (if tw = true then linkA ⟨W, (h : Int), B⟩ X i else swp ⟨W, (h : Int), B⟩ (linkA ⟨W, (h : Int), B⟩ X i)) < 4 * (h : Int) := by
            split
            · exact ⟨⟨hi0, hi1⟩, hlk.1, hlk.2.1⟩
            · exact ⟨hsx.2, hsy.2⟩
          obtain ⟨ci, hci⟩ : ∃ ci, (if tw = true then i else swp ⟨W, (h : Int), B⟩ i) = ci := ⟨_, rfl⟩
          obtain ⟨cj, hcj⟩ : ∃ cj, (if tw = true then linkA ⟨W, (h : Int), B⟩ X i else swp ⟨W, (h : Int), B⟩ (linkA ⟨W, (h : Int), B⟩ X i)) = cj := ⟨_, rfl⟩
          rw [hci] at hna hcr hst
          rw [hcj] at hnb hcr hst
          have HNA := Lib.hid hna
          have HNB := Lib.hid hnb
          have HST := Lib.hid hst
          obtain ⟨⟨ci0, ci1⟩, cj0, cj1⟩ := hcr
          have c0 := hT.cell (j := m * 2) (by omega)
          have c1 := hT.cell (j := m * 2 + 1) (by omega)
          rw [(flat2_get pr m hlt).1, hab] at c0
          rw [(flat2_get pr m hlt).2, hab] at c1
          simp only [] at c0 c1
          have hgl := (hT.lt (g := g) rfl).2
          clear hab hmem ea eb ept hlk hsx hsy hna hnb hst hmul hmul0 hci hcj hi0 hi1
          have bq := Box.new wr 109 #[.int .i64 a, .int .i64 b]
          have hz := Joins.below_alloc1 wr (.cells #[.int .i64 a, .int .i64 b] 109)
          replace hL := Row.below hL hz
          replace hT := hT.below hz
          replace hc := hc.trans (Chg.ofBelow hz)
          clear hz
          go_wp2
          clear c0 c1
          obtain ⟨bp, bx, bt, bn, hI1, hu1, bl⟩ := KX.out _ hc
          clear bp hI1 hu1 bl
          have hn2 : 2 ≤ 2 * (h : Int) ∧ 2 * (h : Int) ≤ 16 := by omega
          generalize hV2 : wr.alloc (.cells #[.int .i64 a, .int .i64 b] 109) = V2 at *
          clear hV2
          have HN2 := Lib.hid hn2
          have KS : Hid (∀ w', Below V2.heap.size V2 w' → (Below V2.heap.size V2 w' ∧ w'.cell? ⟨wr.heap.size, 0, none⟩ = some (.int .i64 a) ∧ w'.cell? ⟨wr.heap.size, 1, none⟩ = some (.int .i64 b))) := Lib.hid (fun w' hb => ⟨hb, (bq.below hb).cell 0, (bq.below hb).cell 1⟩)
          have KB : Hid (∀ w', Below V2.heap.size V2 w' → Box w' (w.heap.size + 1 + 1 + 1) 2 #[.int .i64 (2 * (h : Int))] ∧ Box w' (w.heap.size + 1) 2 #[.int .i64 X] ∧ Box w' (w.heap.size + 1 + 1) 4 #[.bool tw]) := Lib.hid (fun w' hb => ⟨bn.below hb, bx.below hb, bt.below hb⟩)
          have KL := Lib.hid (And.intro hL (And.intro hT hc))
          have q0 := bq.cell 0
          have q1 := bq.cell 1
          have qn := bq.lt
          simp only [List.getElem?_toArray, List.getElem?_cons_zero, List.getElem?_cons_succ] at q0 q1
          clear bq bx bt bn hL hT hc hn2
          go_region_held3 (fun w' => Below V2.heap.size V2 w' ∧ w'.cell? ⟨wr.heap.size, 0, none⟩ = some (.int .i64 a) ∧ w'.cell? ⟨wr.heap.size, 1, none⟩ = some (.int .i64 b))
            ((refine KS.out _ ?_; first | exact cut_drew | exact hBn))
            ((go_at_call 95; go_split_ands; (first | (with_reducible refine (passNumB_any (KB.out _ (by assumption)).1 (KB.out _ (by assumption)).2.1 (KB.out _ (by assumption)).2.2 HN2.out HAR.out HNA.out).mono ?_) | (with_reducible refine (passNumB_any (KB.out _ (by assumption)).1 (KB.out _ (by assumption)).2.1 (KB.out _ (by assumption)).2.2 HN2.out HBR.out HNB.out).mono ?_)); rintro e w7 ⟨rfl, hb7⟩; have hBn := bnext (w := V2) (by assumption) hb7))
          go_split_ands
          obtain ⟨hL, hT, hc⟩ := KL.out
          replace hL := Row.below hL hBn
          replace hT := hT.below hBn
          replace hc := hc.trans (Chg.ofBelow hBn)
          clear hBn hb7 KS KB KL q0 q1 qn HNA HNB HAR HBR
          have hL2 : Ints (w7.setCell ⟨w.heap.size + 1 + 1 + 1 + 1, ci.toNat, none⟩ (.int .i64 cj)) (w.heap.size + 1 + 1 + 1 + 1) (.slice (some ⟨w.heap.size + 1 + 1 + 1 + 1, 0, none⟩) (2 * (2 * h)) (2 * (2 * h))) (L.set ci.toNat cj) := Row.set_ hL ci.toNat cj
          have hL3 : Ints ((w7.setCell ⟨w.heap.size + 1 + 1 + 1 + 1, ci.toNat, none⟩ (.int .i64 cj)).setCell ⟨w.heap.size + 1 + 1 + 1 + 1, cj.toNat, none⟩ (.int .i64 ci)) (w.heap.size + 1 + 1 + 1 + 1) (.slice (some ⟨w.heap.size + 1 + 1 + 1 + 1, 0, none⟩) (2 * (2 * h)) (2 * (2 * h))) ((L.set ci.toNat cj).set cj.toNat ci) := Row.set_ hL2 cj.toNat ci
          have hgG : g ≠ w.heap.size + 1 + 1 + 1 + 1 := by have := (hT.lt (g := g) rfl).1; omega
          have hT3 : TRow ((w7.setCell ⟨w.heap.size + 1 + 1 + 1 + 1, ci.toNat, none⟩ (.int .i64 cj)).setCell ⟨w.heap.size + 1 + 1 + 1 + 1, cj.toNat, none⟩ (.int .i64 ci)) (w.heap.size + 1 + 1 + 1 + 1 + 1) (.slice (some ⟨g, 0, none⟩) pr.length c) pr.length (flat2 pr) := hT.keep fun g' hg' hl => by
            rw [ownBlock_slice] at hg'
            injection hg' with hg'
            subst hg'
            exact (Below.heap_setCell _ _ _ _ hgG).trans (Below.heap_setCell _ _ _ _ hgG)
          have hc3 : Chg (w.heap.size + 1 + 1 + 1 + 1) (w.heap.size + 1 + 1 + 1 + 1 + 1) w1 ((w7.setCell ⟨w.heap.size + 1 + 1 + 1 + 1, ci.toNat, none⟩ (.int .i64 cj)).setCell ⟨w.heap.size + 1 + 1 + 1 + 1, cj.toNat, none⟩ (.int .i64 ci)) := by
            refine hc.trans (Chg.trans (b := w7.setCell ⟨w.heap.size + 1 + 1 + 1 + 1, ci.toNat, none⟩ (.int .i64 cj)) ⟨rfl, rfl, rfl, by simp [World.setCell], fun k _ hd => Below.heap_setCell _ _ _ k ?_⟩ ⟨rfl, rfl, rfl, by simp [World.setCell], fun k _ hd => Below.heap_setCell _ _ _ k ?_⟩)
            · show k ≠ w.heap.size + 1 + 1 + 1 + 1
              omega
            · show k ≠ w.heap.size + 1 + 1 + 1 + 1
              omega
          have d1 := Ints.cellI hL (i := ci) ci0 (by rw [hLl]; omega)
          have f1 := Row.free hL ci.toNat
          have s1 := (Row.lt hL (g := w.heap.size + 1 + 1 + 1 + 1) rfl).2
          have d2 := Ints.cellI hL2 (i := cj) cj0 (by rw [List.length_set, hLl]; omega)
          have f2 := Row.free hL2 cj.toNat
          have R3 : Hid (∃ (m2 : Nat) (L2 : List Int), m2 ≤ pr.length ∧ (.int .i64 ((m : Int) + 1) : Value) = .int .i64 m2 ∧ L2.length = 2 * (2 * h) ∧ Ints ((w7.setCell ⟨w.heap.size + 1 + 1 + 1 + 1, ci.toNat, none⟩ (.int .i64 cj)).setCell ⟨w.heap.size + 1 + 1 + 1 + 1, cj.toNat, none⟩ (.int .i64 ci)) (w.heap.size + 1 + 1 + 1 + 1) (.slice (some ⟨w.heap.size + 1 + 1 + 1 + 1, 0, none⟩) (2 * (2 * h)) (2 * (2 * h))) L2 ∧ Hid (LaidAt ⟨W, (h : Int), B⟩ X tw L2 y m2) ∧
              TRow ((w7.setCell ⟨w.heap.size + 1 + 1 + 1 + 1, ci.toNat, none⟩ (.int .i64 cj)).setCell ⟨w.heap.size + 1 + 1 + 1 + 1, cj.toNat, none⟩ (.int .i64 ci)) (w.heap.size + 1 + 1 + 1 + 1 + 1) (.slice (some ⟨g, 0, none⟩) pr.length c) pr.length (flat2 pr) ∧ Chg (w.heap.size + 1 + 1 + 1 + 1) (w.heap.size + 1 + 1 + 1 + 1 + 1) w1 ((w7.setCell ⟨w.heap.size + 1 + 1 + 1 + 1, ci.toNat, none⟩ (.int .i64 cj)).setCell ⟨w.heap.size + 1 + 1 + 1 + 1, cj.toNat, none⟩ (.int .i64 ci))) :=
            Lib.hid ⟨m + 1, _, by omega, by go_num, by rw [List.length_set, List.length_set, hLl], hL3, Lib.hid HST.out, hT3, hc3⟩
          clear hL hL2 hL3 hT hT3 hc hc3 hgG HL
          go_wp2
          go_roundw
          case rel => exact R3.out
          case measure => simp [intOf]; omega
        · have hms : m = pr.length := by omega
          have HLD : Hid ((X + (y + 2)) % 2 = 1 ∧ Laid ⟨W, (h : Int), B⟩ X tw L (y + 2)) := by
            have h1 := HHas.out.2.2.2.2
            exact Lib.hid ⟨by omega, laidAt_full HO.out HX.out h1 (m := m) (by rw [HPR.out]; omega) HL.out⟩
          clear HL hT
          go_wp2
          go_roundw
          case rel => exact ⟨y + 2, L, rfl, by omega, by omega, hLl, hL, HLD, hc⟩
          case measure => simp [intOf]; omega
    · obtain rfl : L = lkOf ⟨W, (h : Int), B⟩ X tw := laid_all (by show 1 ≤ (h : Int); omega) (by rw [HCN.out]; exact hLl) (y := y) (by show 2 * (h : Int) < y; omega) HL.out.2
      obtain ⟨bp, bx, bt, bn, hI1, hu1, bl⟩ := KX.out _ hc
      clear HL KX bp bx bt hI1
      obtain ⟨V, hV⟩ : ∃ z, z = wr := ⟨wr, rfl⟩
      subst hV
      obtain ⟨M1, hM1, hM1'⟩ := make_ints (2 * h) (by omega)
      obtain ⟨M2, hM2, hM2'⟩ := make_bools (2 * h) (by omega)
      have HM1 := Lib.hid hM1'
      have HM2 := Lib.hid hM2'
      have hK1 : ∀ u : World, (Instr.makeSlice 22 (.int .i64 (2 * (h : Int))) (.int .i64 (2 * (h : Int)))).run Try.prog u = .ok (.slice (some ⟨u.heap.size, 0, none⟩) (2 * h) (2 * h)) (u.alloc (.cells M1 2)) := hM1
      have hK2 : ∀ u : World, (Instr.makeSlice 94 (.int .i64 (2 * (h : Int))) (.int .i64 (2 * (h : Int)))).run Try.prog u = .ok (.slice (some ⟨u.heap.size, 0, none⟩) (2 * h) (2 * h)) (u.alloc (.cells M2 4)) := hM2
      clear hM1 hM2 hM1' hM2'
      have n0 := bn.cell 0
      have nn := bn.lt
      simp only [List.getElem?_toArray, List.getElem?_cons_zero, List.getElem?_cons_succ] at n0
      go_wp2
      go_cut [18, 19] (fun s18 s19 wc => IntsBools V wc (2 * h) s18 s19)
      case first =>
        go_region
        all_goals
          go_wp2_with fail
          go_meet
          case rel =>
            first
              | exact (ib_one HM1.out HM2.out).drew
              | exact (ib_two HM1.out HM2.out).drew
      case rest =>
        obtain ⟨go, gs, rfl, rfl, hOut, hSeen, hne, ho1, hs1, ho2, hs2, hsz, hbw⟩ := hcut
        obtain ⟨V2, hV2⟩ : ∃ z, z = wc := ⟨wc, rfl⟩
        subst hV2
        have HPL : Hid (Pairing (2 * (2 * h)) (lkOf ⟨W, (h : Int), B⟩ X tw)) := Lib.hid (by
          have hc := HCN.out
          unfold colN at hc
          have h1 : 1 ≤ (Pan.mk W (h : Int) B).H := by show 1 ≤ (h : Int); omega
          unfold lkOf
          rw [← hc]
          split
          · exact links_pair h1 X
          · exact linksR_pair h1 X)
        generalize hLK : lkOf ⟨W, (h : Int), B⟩ X tw = LK at *
        clear hLK
        have hgV : w.heap.size + 1 + 1 + 1 + 1 + 1 ≤ V.heap.size := by have := hc.size; omega
        have KY : Hid (∀ wr, Chg V.heap.size (V.heap.size + 2) V2 wr → Box wr (w.heap.size + 1 + 1 + 1) 2 #[.int .i64 (2 * (h : Int))] ∧ Ints wr C (.slice (some ⟨gp, 0, none⟩) P.length cD) P ∧
            Ints wr (w.heap.size + 1 + 1 + 1 + 1) (.slice (some ⟨w.heap.size + 1 + 1 + 1 + 1, 0, none⟩) (2 * (2 * h)) (2 * (2 * h))) LK ∧ Below w.heap.size w wr) := by
          have bn2 := bn.below hbw
          have hu2 := Row.below hu1 hbw
          have hL2 := Row.below hL hbw
          have bl2 := bnext bl hbw
          refine Lib.hid (fun wr hc => ⟨bn2.chg hc (.inl (by omega)), Row.keep hu2 fun g hg hl => hc.block g hl (.inl ?_), Row.keep hL2 fun g hg hl => hc.block g hl (.inl ?_), bl2.trans (hc.toBelow (by omega) bl2.size)⟩)
          · rw [ownBlock_slice] at hg
            injection hg with hg
            omega
          · rw [ownBlock_slice] at hg
            injection hg with hg
            omega
        clear n0 nn bn hu1 hL bl hK1 hK2 HM1 HM2 hc hbw hyn hLl y2
        have hc0 : Chg V.heap.size (V.heap.size + 2) V2 V2 := Chg.ofBelow (Below.refl _ _)
        have HCH : Hid (∀ k : Nat, k < 2 * h → ∃ (j : Nat) (e : Int) (sf : List Bool), j ≤ 2 * h ∧ ((2 * h : Nat) : Int) ≤ e ∧ e < ((2 * (2 * h) : Nat) : Int) ∧ Ch P LK (2 * h) (gI LK (((2 * h : Nat) : Int) + k)) (pass1 P LK (2 * h) k).2 j e sf ∧ pass1 P LK (2 * h) (k + 1) = ((pass1 P LK (2 * h) k).1 ++ [e - ((2 * h : Nat) : Int)], sf)) := Lib.hid (fun k hk => pass1_chain HP.out HPL.out hk)
        have HLE : Hid (∀ k, k ≤ 2 * h → (pass1 P LK (2 * h) k).1.length = k ∧ (pass1 P LK (2 * h) k).2.length = 2 * h) := Lib.hid (fun k hk => pass1_len HP.out HPL.out k hk)
        have hO0 : Ints V2 V.heap.size (.slice (some ⟨go, 0, none⟩) (2 * h) (2 * h)) (oZ (pass1 P LK (2 * h) 0).1 (2 * h)) := by
          show Ints V2 V.heap.size (.slice (some ⟨go, 0, none⟩) (2 * h) (2 * h)) (oZ [] (2 * h))
          rw [oZ_nil]
          exact hOut
        have hS0 : Bools V2 V.heap.size (.slice (some ⟨gs, 0, none⟩) (2 * h) (2 * h)) (pass1 P LK (2 * h) 0).2 := hSeen
        obtain ⟨bn, hu1, hL, bl⟩ := KY.out _ hc0
        have n0 := bn.cell 0
        have nn := bn.lt
        simp only [List.getElem?_toArray, List.getElem?_cons_zero, List.getElem?_cons_succ] at n0
        clear bn hu1 hL bl hOut hSeen
        go_wp2
        clear n0 nn
        go_loopw [72] (fun s72 wr => ∃ k : Nat, k ≤ 2 * h ∧ s72 = .int .i64 k ∧ Ints wr V.heap.size (.slice (some ⟨go, 0, none⟩) (2 * h) (2 * h)) (oZ (pass1 P LK (2 * h) k).1 (2 * h)) ∧ Bools wr V.heap.size (.slice (some ⟨gs, 0, none⟩) (2 * h) (2 * h)) (pass1 P LK (2 * h) k).2 ∧
            Chg V.heap.size (V.heap.size + 2) V2 wr) (fun s72 _ => 2 * h - (intOf s72).toNat)
        case atStart => exact ⟨0, Nat.zero_le _, rfl, hO0, hS0, hc0⟩
        case round =>
          clear hO0 hS0 hc0
          obtain ⟨k, hk, rfl, hO, hS, hc⟩ := hrel
          obtain ⟨hle1, hle2⟩ := HLE.out k hk
          by_cases hlt : k < 2 * h
          · obtain ⟨j, e, sf, hj, he1, he2, hch, hnx⟩ := HCH.out k hlt
            have HNX := Lib.hid hnx
            obtain ⟨Q, hQ⟩ : ∃ Q, pass1 P LK (2 * h) k = Q := ⟨_, rfl⟩
            rw [hQ] at hO hS hle1 hle2 hch
            have HQ := Lib.hid hQ
            obtain ⟨a0, ha0⟩ : ∃ a0, gI LK (((2 * h : Nat) : Int) + k) = a0 := ⟨_, rfl⟩
            obtain ⟨bn, hu1, hL, bl⟩ := KY.out _ hc
            have hLKl := HPL.out.len
            have cL := Ints.cell hL (k := 2 * h + k) (by rw [hLKl]; omega)
            rw [show ((2 * h + k : Nat) : Int) = ((2 * h : Nat) : Int) + k by omega] at cL
            have sL := (Row.lt hL (g := w.heap.size + 1 + 1 + 1 + 1) rfl).2
            rw [ha0] at hch cL
            have e2 : ((2 * h : Nat) : Int) = 2 * (h : Int) := by omega
            rw [e2] at he1
            have HCH0 := Lib.hid hch
            have HE2 : Hid (e < 4 * (h : Int)) := Lib.hid (by omega)
            have he3 : e < 64 := by omega
            have n0 := bn.cell 0
            have nn := bn.lt
            simp only [List.getElem?_toArray, List.getElem?_cons_zero, List.getElem?_cons_succ] at n0
            clear hch hnx hQ ha0 e2 he2 bn hu1 hL bl hLKl
            go_wp2
            clear n0 nn cL sL
            go_loopg [21] j (fun gk s21 wr => ∃ (a : Int) (s : List Bool), s21 = .int .i64 a ∧ Hid (Ch P LK (2 * h) a s gk e sf) ∧ s.length = 2 * h ∧ Ints wr V.heap.size (.slice (some ⟨go, 0, none⟩) (2 * h) (2 * h)) (oZ Q.1 (2 * h)) ∧
                Bools wr V.heap.size (.slice (some ⟨gs, 0, none⟩) (2 * h) (2 * h)) s ∧ Chg V.heap.size (V.heap.size + 2) V2 wr)
            case atStart => exact ⟨a0, Q.2, rfl, HCH0, hle2, hO, hS, hc⟩
            case round =>
              clear hO hS hc HCH0
              obtain ⟨a, s, rfl, HC, hsl, hO, hS, hc⟩ := hrel
              obtain ⟨bn, hu1, hL, bl⟩ := KY.out _ hc
              have n0 := bn.cell 0
              have nn := bn.lt
              simp only [List.getElem?_toArray, List.getElem?_cons_zero, List.getElem?_cons_succ] at n0
              clear bn bl
              cases gk with
              | zero =>
                obtain ⟨rfl, rfl⟩ := HC.out.zero
                have hHi := HE2.out
                have hout : Ints (wr.setCell ⟨go, k, none⟩ (.int .i64 (a - 2 * (h : Int)))) V.heap.size (.slice (some ⟨go, 0, none⟩) (2 * h) (2 * h)) (oZ (pass1 P LK (2 * h) (k + 1)).1 (2 * h)) := by
                  have h1 := Row.set_ hO k (a - 2 * (h : Int))
                  rw [oZ_set hle1 hlt] at h1
                  rw [HNX.out, HQ.out]
                  have e2 : ((2 * h : Nat) : Int) = 2 * (h : Int) := by omega
                  rw [e2]
                  exact h1
                have hseen : Bools (wr.setCell ⟨go, k, none⟩ (.int .i64 (a - 2 * (h : Int)))) V.heap.size (.slice (some ⟨gs, 0, none⟩) (2 * h) (2 * h)) (pass1 P LK (2 * h) (k + 1)).2 := by
                  rw [HNX.out]
                  exact Row.setCell (p := ⟨go, k, none⟩) hS (fun g' hg' e' => hne (by rw [ownBlock_slice] at hg'; injection hg' with hg'; exact (hg'.trans e').symm)) _
                have hc3 : Chg V.heap.size (V.heap.size + 2) V2 (wr.setCell ⟨go, k, none⟩ (.int .i64 (a - 2 * (h : Int)))) := hc.trans ⟨rfl, rfl, rfl, by simp [World.setCell], fun q _ hd => Below.heap_setCell _ _ _ q (by show q ≠ go; omega)⟩
                have d1 := Ints.cell hO (k := k) (by rw [oZ_len (by omega)]; exact hlt)
                have f1 := Row.free hO k
                have s1 := (Row.lt hO (g := go) rfl).2
                have R3 : Hid (∃ k2 : Nat, k2 ≤ 2 * h ∧ (.int .i64 ((k : Int) + 1) : Value) = .int .i64 k2 ∧ Ints (wr.setCell ⟨go, k, none⟩ (.int .i64 (a - 2 * (h : Int)))) V.heap.size (.slice (some ⟨go, 0, none⟩) (2 * h) (2 * h)) (oZ (pass1 P LK (2 * h) k2).1 (2 * h)) ∧
                    Bools (wr.setCell ⟨go, k, none⟩ (.int .i64 (a - 2 * (h : Int)))) V.heap.size (.slice (some ⟨gs, 0, none⟩) (2 * h) (2 * h)) (pass1 P LK (2 * h) k2).2 ∧ Chg V.heap.size (V.heap.size + 2) V2 (wr.setCell ⟨go, k, none⟩ (.int .i64 (a - 2 * (h : Int))))) :=
                  Lib.hid ⟨k + 1, by omega, by go_num, hout, hseen, hc3⟩
                clear hout hseen hc3 hO hS hc hu1 hL HC
                go_wp2
                go_roundw
                case rel => exact R3.out
                case measure => simp [intOf]; omega
              | succ gk =>
                have hd := HC.out.head
                have hPr := HP.out
                have p0 := hPr.lo a hd.1 hd.2
                have p1 := hPr.hi a hd.1 hd.2
                have HC2 := Lib.hid HC.out.next
                obtain ⟨a1, a2⟩ := hd
                have hLKl := HPL.out.len
                have c1 := Ints.cellI hu1 (i := a) a1 (by omega)
                have c2 := Ints.cellI hL (i := gI P a) p0 (by rw [hLKl]; omega)
                have s3 := (Row.lt hL (g := w.heap.size + 1 + 1 + 1 + 1) rfl).2
                have d1 := Bools.cellI hS (i := a) a1 (by rw [hsl]; exact a2)
                have d2 := Bools.cellI hS (i := gI P a) p0 (by rw [hsl]; exact p1)
                have d3 := Bools.cellI (hS.put a) (i := gI P a) p0 (by rw [sB_length, hsl]; exact p1)
                have f1 := Bools.free hS a.toNat
                have f2 := Bools.free hS (gI P a).toNat
                have f3 := Bools.free (hS.put a) (gI P a).toNat
                have s1 := (Row.lt hS (g := gs) rfl).2
                have s4 := (Row.lt hu1 (g := gp) rfl).2
                have hS2 := (hS.put a).put (gI P a)
                have hO2 := Row.setCell (p := ⟨gs, (gI P a).toNat, none⟩) (Row.setCell (p := ⟨gs, a.toNat, none⟩) hO (fun g' hg' e' => hne (by rw [ownBlock_slice] at hg'; injection hg' with hg'; exact hg'.trans e')) (.bool true)) (fun g' hg' e' => hne (by rw [ownBlock_slice] at hg'; injection hg' with hg'; exact hg'.trans e')) (.bool true)
                have hc3 : Chg V.heap.size (V.heap.size + 2) V2 ((wr.setCell ⟨gs, a.toNat, none⟩ (.bool true)).setCell ⟨gs, (gI P a).toNat, none⟩ (.bool true)) := by
                  refine hc.trans (Chg.trans (b := wr.setCell ⟨gs, a.toNat, none⟩ (.bool true)) ⟨rfl, rfl, rfl, by simp [World.setCell], fun q _ hd => Below.heap_setCell _ _ _ q ?_⟩ ⟨rfl, rfl, rfl, by simp [World.setCell], fun q _ hd => Below.heap_setCell _ _ _ q ?_⟩)
                  · show q ≠ gs
                    omega
                  · show q ≠ gs
                    omega
                have q1 : (gs = gp) = False := by simp; omega
                have q2 : (gs = w.heap.size + 1 + 1 + 1 + 1) = False := by simp; omega
                have q1' : (gp = gs) = False := by simp; omega
                have q2' : (w.heap.size + 1 + 1 + 1 + 1 = gs) = False := by simp; omega
                have q3' : (w.heap.size + 1 + 1 + 1 = gs) = False := by simp; omega
                have HS2 : Hid ((sB (sB s a) (gI P a)).length = 2 * h) := Lib.hid (by rw [sB_length, sB_length, hsl])
                have R3 := Lib.hid (And.intro hO2 (And.intro hS2 hc3))
                clear hO2 hS2 hc3 hO hS hc hu1 hL HC hPr hLKl hsl
                go_wp2
                go_roundg gk
                case rel => exact ⟨_, _, rfl, HC2, HS2.out, R3.out.1, R3.out.2.1, R3.out.2.2⟩
                case measure => omega
          · have e : k = 2 * h := by omega
            subst e
            rw [oZ_full hle1] at hO
            clear hle1
            have HPI : Hid (Pairing (2 * h) (inL P LK (2 * h))) := Lib.hid (inL_pair HP.out HPL.out)
            have HAG : Hid (∀ x : Int, 0 ≤ x → x < ((2 * h : Nat) : Int) → gB (pass1 P LK (2 * h) (2 * h)).2 x = false → gI LK (gI P x) = gI (inL P LK (2 * h)) (gI P x)) := Lib.hid (fun x x0 x1 hx => pass_agree HP.out HPL.out x0 x1 hx)
            have HRR : Hid (R = ((pass1 P LK (2 * h) (2 * h)).1, (cycTo P (inL P LK (2 * h)) (2 * h) (pass1 P LK (2 * h) (2 * h)).2 (2 * h)).1)) := Lib.hid (HR.out.symm.trans (pass_as HP.out HPL.out))
            have HOL : Hid ((pass1 P LK (2 * h) (2 * h)).1.length = 2 * h) := Lib.hid (HLE.out _ (Nat.le_refl _)).1
            generalize inL P LK (2 * h) = LI at *
            obtain ⟨S0, hS0⟩ : ∃ S0, (pass1 P LK (2 * h) (2 * h)).2 = S0 := ⟨_, rfl⟩
            obtain ⟨O0, hO0⟩ : ∃ O0, (pass1 P LK (2 * h) (2 * h)).1 = O0 := ⟨_, rfl⟩
            have hrest := Lib.hid (And.intro hS0 hO0)
            rw [hS0] at hS hle2 HAG HRR
            rw [hO0] at hO HRR HOL
            clear hS0 hO0
            obtain ⟨bn, hu1, hL, bl⟩ := KY.out _ hc
            have n0 := bn.cell 0
            have nn := bn.lt
            simp only [List.getElem?_toArray, List.getElem?_cons_zero, List.getElem?_cons_succ] at n0
            clear bn bl hu1 hL
            have hS0 : Bools wr V.heap.size (.slice (some ⟨gs, 0, none⟩) (2 * h) (2 * h)) (cycTo P LI (2 * h) S0 0).2 := hS
            have h00 : (0 : Int) = (cycTo P LI (2 * h) S0 0).1 := rfl
            clear hS
            go_wp2
            clear n0 nn
            go_loopw [22, 108] (fun s22 s108 wr => ∃ k : Nat, k ≤ 2 * h ∧ s22 = .int .i64 (cycTo P LI (2 * h) S0 k).1 ∧ s108 = .int .i64 k ∧ Ints wr V.heap.size (.slice (some ⟨go, 0, none⟩) (2 * h) (2 * h)) O0 ∧ Bools wr V.heap.size (.slice (some ⟨gs, 0, none⟩) (2 * h) (2 * h)) (cycTo P LI (2 * h) S0 k).2 ∧
                Chg V.heap.size (V.heap.size + 2) V2 wr) (fun _ s108 _ => 2 * h - (intOf s108).toNat)
            case atStart => exact ⟨0, Nat.zero_le _, rfl, rfl, hO, hS0, hc⟩
            case round =>
              clear hO hS0 hc h00 hk
              obtain ⟨k, hk, rfl, rfl, hO, hS, hc⟩ := hrel
              have hcl : (cycTo P LI (2 * h) S0 k).2.length = 2 * h := by rw [cycTo_length]; exact hle2
              obtain ⟨hb0, hb1⟩ := cycTo_bd P LI (2 * h) S0 k
              by_cases hlt : k < 2 * h
              · have i1 : (k : Int) < ((2 * h : Nat) : Int) := by omega
                have i0 : (0 : Int) ≤ (k : Int) := by omega
                have c1 := Bools.cell hS (k := k) (by omega)
                have s1 := (Row.lt hS (g := gs) rfl).2
                have HWD := Lib.hid (cyc_wide HP.out HPI.out hle2 hk)
                have hrg : Hid (∀ a : Int, 0 ≤ a → a < ((2 * h : Nat) : Int) → 0 ≤ nxt P LI a ∧ nxt P LI a < ((2 * h : Nat) : Int)) := Lib.hid (fun a a0 a1 => ⟨HPI.out.lo _ (HP.out.lo a a0 a1) (HP.out.hi a a0 a1), HPI.out.hi _ (HP.out.lo a a0 a1) (HP.out.hi a a0 a1)⟩)
                cases hbk : gB (cycTo P LI (2 * h) S0 k).2 k
                · rw [hbk] at c1
                  have HN := Lib.hid (cycTo_new hbk)
                  have HC := Lib.hid hcl
                  generalize hQ : (cycTo P LI (2 * h) S0 k) = Q at *
                  clear hbk hcl hQ
                  have HST : Hid (cyc P LI (unseen Q.2 + 1) k Q.2 = cyc P LI (2 * h + 1) k Q.2) := Lib.hid (cyc_start hrg.out HC.out i0 i1).symm
                  go_wp2
                  clear c1 s1
                  go_loopg [24] (unseen Q.2) (fun gk s24 wr => ∃ (a : Int) (s : List Bool), gk = unseen s ∧ s24 = .int .i64 a ∧ 0 ≤ a ∧ a < 2 * (h : Int) ∧ s.length = 2 * h ∧ Ints wr V.heap.size (.slice (some ⟨go, 0, none⟩) (2 * h) (2 * h)) O0 ∧ Bools wr V.heap.size (.slice (some ⟨gs, 0, none⟩) (2 * h) (2 * h)) s ∧
                      Chg V.heap.size (V.heap.size + 2) V2 wr ∧ Hid (cyc P LI (unseen s + 1) a s = cyc P LI (2 * h + 1) k Q.2) ∧ Hid (Wide S0 s))
                  case atStart => exact ⟨k, Q.2, rfl, rfl, i0, by omega, HC.out, hO, hS, hc, HST, HWD⟩
                  case round =>
                    clear hO hS hc
                    obtain ⟨a, s, rfl, rfl, a0, a1, hsl, hO, hS, hc, hcy, hwd⟩ := hrel
                    obtain ⟨bn, hu1, hL, bl⟩ := KY.out _ hc
                    clear bn bl
                    have a2 : a < ((2 * h : Nat) : Int) := by omega
                    have d1 := Bools.cellI hS (i := a) a0 (by omega)
                    have s1 := (Row.lt hS (g := gs) rfl).2
                    cases hga : gB s a
                    · rw [hga] at d1
                      have hag := HAG.out a a0 a2 (hwd.out a a0 hga)
                      have p0 := HP.out.lo a a0 a2
                      have p1 := HP.out.hi a a0 a2
                      have n1 := hrg.out a a0 a2
                      have HS3 : Hid (cyc P LI (unseen (sB (sB s a) (gI P a)) + 1) (nxt P LI a) (sB (sB s a) (gI P a)) = cyc P LI (2 * h + 1) k Q.2) := Lib.hid (by rw [← hcy.out]; exact (cyc_step hrg.out hsl a0 a2 hga).symm)
                      have HM : Hid (unseen (sB (sB s a) (gI P a)) < unseen s) := Lib.hid (by have := unseen_set a0 (by omega) hga; have := unseen_set_le (sB s a) (gI P a); omega)
                      have HW2 : Hid (Wide S0 (sB (sB s a) (gI P a))) := Lib.hid (wide_put (n := 2 * h) (by rw [sB_length]; exact hsl) (wide_put hsl hwd.out a0 a2) p0 p1)
                      have hLKl := HPL.out.len
                      have c1 := Ints.cellI hu1 (i := a) a0 (by omega)
                      have c2 := Ints.cellI hL (i := gI P a) p0 (by rw [hLKl]; omega)
                      rw [hag] at c2
                      have s3 := (Row.lt hL (g := w.heap.size + 1 + 1 + 1 + 1) rfl).2
                      have d2 := Bools.cellI hS (i := gI P a) p0 (by rw [hsl]; exact p1)
                      have d3 := Bools.cellI (hS.put a) (i := gI P a) p0 (by rw [sB_length, hsl]; exact p1)
                      have f1 := Bools.free hS a.toNat
                      have f2 := Bools.free hS (gI P a).toNat
                      have f3 := Bools.free (hS.put a) (gI P a).toNat
                      have s4 := (Row.lt hu1 (g := gp) rfl).2
                      have hS2 := (hS.put a).put (gI P a)
                      have hO2 := Row.setCell (p := ⟨gs, (gI P a).toNat, none⟩) (Row.setCell (p := ⟨gs, a.toNat, none⟩) hO (fun g' hg' e' => hne (by rw [ownBlock_slice] at hg'; injection hg' with hg'; exact hg'.trans e')) (.bool true)) (fun g' hg' e' => hne (by rw [ownBlock_slice] at hg'; injection hg' with hg'; exact hg'.trans e')) (.bool true)
                      have hc3 : Chg V.heap.size (V.heap.size + 2) V2 ((wr.setCell ⟨gs, a.toNat, none⟩ (.bool true)).setCell ⟨gs, (gI P a).toNat, none⟩ (.bool true)) := by
                        refine hc.trans (Chg.trans (b := wr.setCell ⟨gs, a.toNat, none⟩ (.bool true)) ⟨rfl, rfl, rfl, by simp [World.setCell], fun q _ hd => Below.heap_setCell _ _ _ q ?_⟩ ⟨rfl, rfl, rfl, by simp [World.setCell], fun q _ hd => Below.heap_setCell _ _ _ q ?_⟩)
                        · show q ≠ gs
                          omega
                        · show q ≠ gs
                          omega
                      have q1 : (gs = gp) = False := by simp; omega
                      have q2 : (gs = w.heap.size + 1 + 1 + 1 + 1) = False := by simp; omega
                      have q1' : (gp = gs) = False := by simp; omega
                      have q2' : (w.heap.size + 1 + 1 + 1 + 1 = gs) = False := by simp; omega
                      have HS2 : Hid ((sB (sB s a) (gI P a)).length = 2 * h) := Lib.hid (by rw [sB_length, sB_length, hsl])
                      have R3 := Lib.hid (And.intro hO2 (And.intro hS2 hc3))
                      obtain ⟨n2, n3⟩ := n1
                      unfold nxt at n2 n3 HS3
                      have n4 : gI LI (gI P a) < 2 * (h : Int) := by omega
                      clear hO2 hS2 hc3 hO hS hc hu1 hL hLKl hsl hcy hwd hga hag n3
                      go_wp2
                      go_roundg (unseen (sB (sB s a) (gI P a)))
                      case rel => exact ⟨_, _, rfl, rfl, n2, n4, HS2.out, R3.out.1, R3.out.2.1, R3.out.2.2, HS3, HW2⟩
                      case measure => exact HM.out
                    · rw [hga] at d1
                      have HE : Hid (s = cyc P LI (2 * h + 1) k Q.2) := Lib.hid (by rw [← hcy.out, cyc_stop _ hga])
                      have R4 : Hid (∃ k2 : Nat, k2 ≤ 2 * h ∧ (.int .i64 (Q.1 + 1) : Value) = .int .i64 (cycTo P LI (2 * h) S0 k2).1 ∧ (.int .i64 ((k : Int) + 1) : Value) = .int .i64 k2 ∧ Ints wr V.heap.size (.slice (some ⟨go, 0, none⟩) (2 * h) (2 * h)) O0 ∧ Bools wr V.heap.size (.slice (some ⟨gs, 0, none⟩) (2 * h) (2 * h)) (cycTo P LI (2 * h) S0 k2).2 ∧
                          Chg V.heap.size (V.heap.size + 2) V2 wr) := Lib.hid ⟨k + 1, by omega, by rw [HN.out], by go_num, hO, by rw [HN.out]; show Bools _ _ _ (cyc _ _ _ _ _); rw [← HE.out]; exact hS, hc⟩
                      clear hga hcy hO hS hc hu1 hL
                      go_wp2
                      go_roundw
                      case rel => exact R4.out
                      case measure => simp [intOf]; omega
                · rw [hbk] at c1
                  have HN := Lib.hid (cycTo_seen hbk)
                  have R4 : Hid (∃ k2 : Nat, k2 ≤ 2 * h ∧ (.int .i64 (cycTo P LI (2 * h) S0 k).1 : Value) = .int .i64 (cycTo P LI (2 * h) S0 k2).1 ∧ (.int .i64 ((k : Int) + 1) : Value) = .int .i64 k2 ∧ Ints wr V.heap.size (.slice (some ⟨go, 0, none⟩) (2 * h) (2 * h)) O0 ∧ Bools wr V.heap.size (.slice (some ⟨gs, 0, none⟩) (2 * h) (2 * h)) (cycTo P LI (2 * h) S0 k2).2 ∧
                          Chg V.heap.size (V.heap.size + 2) V2 wr) := Lib.hid ⟨k + 1, by omega, by rw [HN.out], by go_num, hO, by rw [HN.out]; exact hS, hc⟩
                  clear hbk hcl hO hS hc
                  go_wp2
                  go_roundw
                  case rel => exact R4.out
                  case measure => simp [intOf]; omega
              · have e : k = 2 * h := by omega
                subst e
                have hRR := HRR.out
                obtain ⟨bn, hu1, hL, bl⟩ := KY.out _ hc
                have hOV : Ints wr w.heap.size (.slice (some ⟨go, 0, none⟩) (2 * h) (2 * h)) O0 := Row.le hO (by omega)
                have RR : Hid (R.2 = (cycTo P LI (2 * h) S0 (2 * h)).1 ∧ R.1 = O0) := Lib.hid (by rw [hRR]; exact ⟨rfl, rfl⟩)
                clear hS hcl hRR bn hu1 hL hO hc
                go_wp2
                go_ret2
                rw [RR.out.1, RR.out.2]
                exact ⟨_, _, rfl, hOV, HOL.out, bl⟩
end Go.Proofs.Ytnldahadldolpaa
