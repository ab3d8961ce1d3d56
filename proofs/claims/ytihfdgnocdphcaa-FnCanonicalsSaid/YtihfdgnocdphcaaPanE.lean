/-
  Panels as the reference draws them.
-/
import Derived.Test.YtihfdgnocdphcaaSrcB
import Derived.Test.YtihfdgnocdphcaaPick
import Derived.Test.YtihfdgnocdphcaaMapB
import Derived.Test.YtihfdgnocdphcaaCut
import Derived.Deep.RegionHeld3
namespace Go.Proofs.Ytihfdgnocdphcaa
open Go.RowKit Knot

theorem IntsIn.put {w : World} {lo hi g n c : Nat} {xs : List Int} (h : IntsIn w lo hi (.slice (some ⟨g, 0, none⟩) n c) xs) (k : Nat) (x : Int) : IntsIn (w.setCell ⟨g, k, none⟩ (.int .i64 x)) lo hi (.slice (some ⟨g, 0, none⟩) n c) (xs.set k x) :=
  ⟨Row.set_ h.1 k x, h.2.1, by have := h.2.2.1; simpa [World.setCell] using this, by rw [List.length_set]; exact h.2.2.2⟩
theorem IntsIn.at3 {w : World} {lo hi : Nat} {v : Value} {xs : List Int} (h : IntsIn w lo hi v xs) {p q r : Addr} (hp : p.block < lo) (hq : q.block < lo) (hr : r.block < lo) (a b c : Value) : IntsIn (((w.setCell p a).setCell q b).setCell r c) lo hi v xs :=
  ((h.at_store hp a).at_store hq b).at_store hr c
set_option maxHeartbeats 8000000 in
theorem l02Draw_any {w : World} {b m : Nat} {n : Int} (hs : Src w b m) (hm : m ≤ 100000000) (n1 : 1 ≤ n) (n8 : n ≤ 8) :
    Calls Try.prog 104 #[.pointer (some ⟨b, 0, none⟩), .int .i64 n] w fun e w' => ∃ (x y : Int) (g : Nat) (B : List Int), e = .returned (.agg #[.int .i64 x, .int .i64 y, .slice (some ⟨g, 0, none⟩) B.length B.length]) ∧ Ok ⟨x, y, B⟩ ∧ (x ≤ n ∧ y ≤ n) ∧
      IntsIn w' w.heap.size w'.heap.size (.slice (some ⟨g, 0, none⟩) B.length B.length) B ∧ Src w' b (m + 1000) ∧ Chg b (b + 1) w w' := by
  have hbl := hs.lt
  have ZO := Box.new w 30 #[.int .i64 0, .int .i64 0, .slice none 0 0]
  have hS0 := hs.below (Joins.below_alloc1 w (.cells #[.int .i64 0, .int .i64 0, .slice none 0 0] 30))
  have hc0 : Chg b (b + 1) w (w.alloc (.cells #[.int .i64 0, .int .i64 0, .slice none 0 0] 30)) := Chg.ofBelow (Joins.below_alloc1 w _)
  clear hs
  go_enter Try.func104, Try.ntmps104
  go_wp2_with fail
  refine (src_pick hS0 (by omega) (by omega)).mono ?_
  rintro e w1 ⟨x, rfl, x0, x1, _, hS1, hc1⟩
  have x2 := x1 (by omega)
  have s1 := hc1.size
  simp only [World.size_alloc] at s1
  replace ZO := ZO.chgb hc1 (by omega)
  replace hc0 := hc0.trans hc1
  clear hS0 hc1 x1
  go_wp2_with fail
  refine (src_pick hS1 (by omega) (by omega)).mono ?_
  rintro e w2 ⟨y, rfl, y0, y1, _, hS2, hc2⟩
  have y2 := y1 (by omega)
  have s2 := hc2.size
  replace ZO := ZO.chgb hc2 (by omega)
  replace hc0 := hc0.trans hc2
  clear hS1 hc2 y1
  obtain ⟨X, hX⟩ : ∃ X, 1 + x = X := ⟨_, rfl⟩
  obtain ⟨Y, hY⟩ : ∃ Y, 1 + y = Y := ⟨_, rfl⟩
  have X1 : 1 ≤ X := by omega
  have X8 : X ≤ n := by omega
  have Y1 : 1 ≤ Y := by omega
  have Y8 : Y ≤ n := by omega
  have hin : ∃ q : Nat, inner X Y = q ∧ q ≤ 200 := by
    have hb := inner_bd X1 (show X ≤ 8 by omega) Y1 (show Y ≤ 8 by omega)
    refine ⟨(inner X Y).toNat, ?_, ?_⟩ <;> unfold inner <;> omega
  obtain ⟨q, hq, hq2⟩ := hin
  have HQ := Lib.hid hq
  clear hq x0 x2 y0 y2
  go_wp2_with fail
  try rw [hX, hY]
  refine (l02New_any (x := X) (y := Y) (n := q) (by omega) (by omega) HQ.out).mono ?_
  rintro e w3 ⟨g, rfl, hI, hb3⟩
  have s3 := hb3.size
  have g0 := (Row.lt hI.1 (g := g) rfl).1
  have bp := Box.new w3 30 #[.int .i64 X, .int .i64 Y, .slice (some ⟨g, 0, none⟩) q q]
  have hb4 := Joins.below_alloc1 w3 (.cells #[.int .i64 X, .int .i64 Y, .slice (some ⟨g, 0, none⟩) q q] 30)
  have g1 := (Row.lt hI.1 (g := g) rfl).2
  replace hI := (hI.alloc (.cells #[.int .i64 X, .int .i64 Y, .slice (some ⟨g, 0, none⟩) q q] 30))
  replace hS2 := (hS2.below hb3).below hb4
  replace hc0 := hc0.trans ((Chg.ofBelow hb3).trans (Chg.ofBelow hb4))
  replace ZO := (ZO.below hb3).below hb4
  have hVs : (w3.alloc (.cells #[.int .i64 X, .int .i64 Y, .slice (some ⟨g, 0, none⟩) q q] 30)).heap.size = w3.heap.size + 1 := by simp
  clear hb3 hb4 hX hY
  go_wp2_with fail
  generalize hV : (w3.alloc (.cells #[.int .i64 X, .int .i64 Y, .slice (some ⟨g, 0, none⟩) q q] 30)) = V at *
  clear hV
  refine (src_pick hS2 (by omega) (by omega)).mono ?_
  rintro e w4 ⟨z, rfl, _, _, _, hS3, hc3⟩
  have s4 := hc3.size
  replace ZO := ZO.chgb hc3 (by omega)
  replace hc0 := hc0.trans hc3
  replace bp := bp.chgb hc3 (by omega)
  replace hI := hI.chgb hc3 (by omega)
  have hlr : (List.replicate q (0 : Int)).length = q := by simp
  have hk0 : Hid (∀ i : Nat, 0 ≤ gI (List.replicate q (0 : Int)) i ∧ gI (List.replicate q (0 : Int)) i ≤ 2) := Lib.hid (fun i => by
    unfold gI
    simp [List.getD, List.getElem?_replicate]
    split <;> simp)
  clear hS2 hc3
  go_wp2
  go_loopw [8] (fun i wr => ∃ (k : Nat) (B : List Int), k ≤ q ∧ i = .int .i64 k ∧ B.length = q ∧ IntsIn wr w2.heap.size w3.heap.size (.slice (some ⟨g, 0, none⟩) q q) B ∧ Hid (∀ i : Nat, 0 ≤ gI B i ∧ gI B i ≤ 2) ∧
      Box wr w3.heap.size 30 #[.int .i64 X, .int .i64 Y, .slice (some ⟨g, 0, none⟩) q q] ∧ Box wr w.heap.size 30 #[.int .i64 0, .int .i64 0, .slice none 0 0] ∧ Src wr b (m + 3 + 2 * k) ∧ Chg b (b + 1) w wr ∧ w4.heap.size ≤ wr.heap.size) (fun i _ => q - (intOf i).toNat)
  case atStart => exact ⟨0, _, by omega, rfl, hlr, hI, hk0, bp, ZO, hS3, hc0, Nat.le_refl _⟩
  case round =>
    obtain ⟨k, B, hk, rfl, hBl, hI, hB, bp, ZO, hS, hc, hs⟩ := hrel
    clear hk0 hlr hS3 hc0
    by_cases hlt : k < q
    · have p2 := bp.cell 2
      have pn := bp.lt
      simp only [List.getElem?_toArray, List.getElem?_cons_zero, List.getElem?_cons_succ] at p2
      go_wp2_with fail
      refine (src_pick hS (by omega) (by omega)).mono ?_
      rintro e w5 ⟨u, rfl, _, _, _, hS5, hc5⟩
      have s5 := hc5.size
      replace ZO := ZO.chgb hc5 (by omega)
      replace hc := hc.trans hc5
      replace bp := bp.chgb hc5 (by omega)
      replace hI := hI.chgb hc5 (by omega)
      clear hS hc5 p2 pn
      by_cases huz : u < z
      · have p2 := bp.cell 2
        have pn := bp.lt
        simp only [List.getElem?_toArray, List.getElem?_cons_zero, List.getElem?_cons_succ] at p2
        have gne : (⟨w3.heap.size, 2, none⟩ : Addr).block ≠ (⟨g, k, none⟩ : Addr).block := by show w3.heap.size ≠ g; omega
        have hSd : Src w5.drew b (m + 3 + 2 * k + 1) := hS5.drewN 1
        have hId : IntsIn w5.drew w2.heap.size w3.heap.size (.slice (some ⟨g, 0, none⟩) q q) B := hI.below (below_drewN _ _ 1)
        have hpd : Box w5.drew w3.heap.size 30 #[.int .i64 X, .int .i64 Y, .slice (some ⟨g, 0, none⟩) q q] := bp
        have hcd : Chg b (b + 1) w w5.drew := hc.trans (Chg.ofBelow (below_drewN _ _ 1))
        have hzd : Box w5.drew w.heap.size 30 #[.int .i64 0, .int .i64 0, .slice none 0 0] := ZO
        clear hS5 hI hc ZO
        go_wp2
        go_region_held3 (fun w' => w'.cell? ⟨w3.heap.size, 2, none⟩ = some (.slice (some ⟨g, 0, none⟩) q q))
          (first | exact p2 | exact q2 | exact cell_f gne q2 | assumption)
          ((go_at_call 103; (with_reducible refine (src_pick hSd (by omega) (by omega)).mono ?_); rintro e w6 ⟨v, rfl, v0, v1, _, hS6, hc6⟩; have v2 := v1 (by omega); have q2 : w6.cell? ⟨w3.heap.size, 2, none⟩ = some (.slice (some ⟨g, 0, none⟩) q q) := (hpd.chgb hc6 (by omega)).cell 2; have hI6 := hId.chgb hc6 (by omega); have z1 := Ints.cell hI6.1 (k := k) (by omega); have z2 := Row.free hI6.1 k; have z3 := (Row.lt hI6.1 (g := g) rfl).2))
        have s6 := hc6.size
        have s6' : w5.heap.size ≤ w6.heap.size := s6
        obtain ⟨uu, huu⟩ : ∃ uu, 1 + v = uu := ⟨_, rfl⟩
        rw [huu]
        have hB2 : Hid (∀ i : Nat, 0 ≤ gI (B.set k uu) i ∧ gI (B.set k uu) i ≤ 2) := Lib.hid (fun i => by
          by_cases e : k = i
          · subst e
            have : gI (B.set k uu) k = uu := by simp [gI, List.getD, show k < B.length by omega]
            rw [this]
            omega
          · have : gI (B.set k uu) i = gI B i := by simp [gI, List.getD, List.getElem?_set_ne e]
            rw [this]
            exact hB.out i)
        have hI7 := hI6.put k uu
        have bp7 := ((hpd.chgb hc6 (by omega)).far (p := ⟨g, k, none⟩) (by show w3.heap.size ≠ g; omega) (.int .i64 uu))
        have zo7 := ((hzd.chgb hc6 (by omega)).far (p := ⟨g, k, none⟩) (by show w.heap.size ≠ g; omega) (.int .i64 uu))
        have hS7 := (hS6.put (p := ⟨g, k, none⟩) (by show b < g; omega) (.int .i64 uu))
        have hc7 := ((hcd.trans hc6).put (p := ⟨g, k, none⟩) (by show w.heap.size ≤ g; omega) (.int .i64 uu))
        have hs7 : w4.heap.size ≤ (w6.setCell ⟨g, k, none⟩ (.int .i64 uu)).heap.size := by simp [World.setCell]; omega
        have hl7 : (B.set k uu).length = q := by rw [List.length_set]; exact hBl
        have hwr : IntKind.i64.wrap uu = uu := by rw [IntKind.wrap_i64]; omega
        rw [hwr]
        have hS8 := hS7.more (m' := m + 3 + 2 * (k + 1)) (by omega)
        clear hI6 hId hpd hzd hSd hcd hS6 hS7 hc6 z1 z2 z3 p2 pn q2 gne hwr hB
        generalize (w6.setCell ⟨g, k, none⟩ (.int .i64 uu)) = V2 at *
        generalize B.set k uu = B2 at *
        go_wp2
        go_roundw
        case rel => exact ⟨k + 1, B2, by omega, by go_num, hl7, hI7, hB2, bp7, zo7, hS8, hc7, hs7⟩
        case measure => simp [intOf]; omega
      · have hS6 := hS5.more (m' := m + 3 + 2 * (k + 1)) (by omega)
        clear hS5
        go_wp2
        go_roundw
        case rel => exact ⟨k + 1, B, by omega, by go_num, hBl, hI, hB, bp, ZO, hS6, hc, by omega⟩
        case measure => simp [intOf]; omega
    · have e : k = q := by omega
      subst e
      have hok : Ok ⟨X, Y, B⟩ := by
        refine ⟨X1, by simp only []; omega, Y1, by simp only []; omega, by simp only []; rw [hBl]; exact HQ.out.symm, fun z hz => ?_⟩
        obtain ⟨i, hi, rfl⟩ := List.getElem_of_mem hz
        have := hB.out i
        rwa [gI_nat B i hi] at this
      have HOK := Lib.hid hok
      subst hBl
      have p0 := bp.cell 0
      have p1 := bp.cell 1
      have p2 := bp.cell 2
      have pn := bp.lt
      simp only [List.getElem?_toArray, List.getElem?_cons_zero, List.getElem?_cons_succ] at p0 p1 p2
      have r0 := ZO.cell 0
      have r1 := ZO.cell 1
      have r2 := ZO.cell 2
      have y0 := ZO.free 0
      have y1 := ZO.free 1
      have y2 := ZO.free 2
      have rn := ZO.lt
      clear hB hok
      go_wp2
      refine bodyPost_ret (v := .agg #[.int .i64 X, .int .i64 Y, .slice (some ⟨g, 0, none⟩) B.length B.length]) (by simp [results, Try.results104, go_sem, r0, r1, r2, y0, y1, y2, rn]) rfl ⟨X, Y, g, B, rfl, HOK.out, ⟨by omega, by omega⟩, ?_, ?_, ?_⟩
      · exact ((hI.wider (lo' := w2.heap.size) (Nat.le_refl _) (Nat.le_refl _) hI.hi_le).at3 (p := ⟨w.heap.size, 0, none⟩) (q := ⟨w.heap.size, 1, none⟩) (r := ⟨w.heap.size, 2, none⟩) (by show w.heap.size < w2.heap.size; omega) (by show w.heap.size < w2.heap.size; omega) (by show w.heap.size < w2.heap.size; omega) _ _ _).wider (by omega) (by simp [World.setCell]; omega) (by simp [World.setCell])
      · exact (((hS.more (m' := m + 1000) (by omega)).put (p := ⟨w.heap.size, 0, none⟩) hbl _).put (p := ⟨w.heap.size, 1, none⟩) hbl _).put (p := ⟨w.heap.size, 2, none⟩) hbl _
      · exact ((hc.put (p := ⟨w.heap.size, 0, none⟩) (Nat.le_refl _) _).put (p := ⟨w.heap.size, 1, none⟩) (Nat.le_refl _) _).put (p := ⟨w.heap.size, 2, none⟩) (Nat.le_refl _) _
end Go.Proofs.Ytihfdgnocdphcaa
