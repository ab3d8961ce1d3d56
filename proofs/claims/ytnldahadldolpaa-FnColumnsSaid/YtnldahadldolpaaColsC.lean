/-
  What is known at all columns, with the rows' blocks all different: by the program and by the reference.
-/
import Derived.Test.YtnldahadldolpaaKCols
namespace Go.Proofs.Ytnldahadldolpaa
open Go.RowKit Knot

theorem nodup_snoc {l : List Cl} {x : Cl} (h : (l.map Cl.g).Nodup) (hx : ∀ y ∈ l, y.g ≠ x.g) : ((l ++ [x]).map Cl.g).Nodup := by
  rw [List.map_append]
  refine List.nodup_append.2 ⟨h, List.nodup_cons.2 ⟨by simp, List.nodup_nil⟩, fun a ha b hb => ?_⟩
  obtain ⟨y, hy, rfl⟩ := List.mem_map.1 ha
  simp at hb
  rw [hb]
  exact hx y hy
set_option maxRecDepth 20000 in
set_option maxHeartbeats 8000000 in
theorem columns_nd {w : World} {Bd : Nat} {W : Int} {h : Nat} {v : Value} {B : List Int} (hI : Ints w Bd v B) (hp : Ok ⟨W, (h : Int), B⟩) {K : Nat} (hK : (K : Int) = 2 * W - 1) :
    Calls Try.prog 72 #[.agg #[.int .i64 W, .int .i64 (h : Int), v]] w fun e w' => ∃ g c l, e = .returned (.slice (some ⟨g, 0, none⟩) (K + 1) c) ∧ CsRow (2 * h) w' w.heap.size (.slice (some ⟨g, 0, none⟩) (K + 1) c) (K + 1) l ∧
      l.map Cl.val = colsL ⟨W, (h : Int), B⟩ (K + 1) ∧ (l.map Cl.g).Nodup ∧ Below w.heap.size w w' := by
  obtain ⟨A, cA, rfl, _, _⟩ := hI.open_
  have hcn : colN ⟨W, (h : Int), B⟩ = 2 * h := by unfold colN; simp only []; omega
  have h8 : 1 ≤ h ∧ h ≤ 8 := by have h1 := hp.h1; have h8 := hp.h8; simp only [] at h1 h8; omega
  have hW : 1 ≤ W ∧ W ≤ 8 := ⟨hp.w1, hp.w8⟩
  have HO := Lib.hid hp
  have HCN := Lib.hid hcn
  have HCP : Hid (∀ k, Pairing (2 * h) (colL ⟨W, (h : Int), B⟩ k).1) := Lib.hid (fun k => by rw [← hcn]; exact colL_pair hp k)
  have HCB : Hid (∀ k : Nat, 0 ≤ (colL ⟨W, (h : Int), B⟩ k).2 ∧ (colL ⟨W, (h : Int), B⟩ k).2 ≤ 16 * k) := Lib.hid (fun k => colL_bd hp k)
  have HCS : Hid (∀ k : Nat, colL ⟨W, (h : Int), B⟩ (k + 1) = ((pass (colL ⟨W, (h : Int), B⟩ k).1 (links ⟨W, (h : Int), B⟩ ((k : Int) + 1)) (2 * h)).1, (colL ⟨W, (h : Int), B⟩ k).2 + (pass (colL ⟨W, (h : Int), B⟩ k).1 (links ⟨W, (h : Int), B⟩ ((k : Int) + 1)) (2 * h)).2)) := Lib.hid (fun k => by rw [← hcn]; rfl)
  have HC0 : Hid (colL ⟨W, (h : Int), B⟩ 0 = (nbrsK (2 * h), 0)) := Lib.hid (by rw [← hcn]; rfl)
  have HKK := Lib.hid hK
  have bl := Joins.below_alloc1 w (.cells #[.int .i64 W, .int .i64 (h : Int), .slice A B.length cA] 41)
  have ba := Box.new w 41 #[.int .i64 W, .int .i64 (h : Int), .slice A B.length cA]
  have bl1 := Lib.hid bl
  have HI0 := Lib.hid hI
  have hI1 := Row.below hI bl
  have q0 := ba.cell 0
  have q1 := ba.cell 1
  have q2 := ba.cell 2
  have qn := ba.lt
  simp only [List.getElem?_toArray, List.getElem?_cons_zero, List.getElem?_cons_succ] at q0 q1 q2
  clear hp hcn hI hK
  go_enter Try.func72, Try.ntmps72
  go_wp2_with fail
  refine (neighbours_any (n := 2 * h) (by omega)).mono ?_
  rintro e w2 ⟨D, cD, rfl, hD, hb⟩
  replace ba := ba.below hb
  replace hI1 := Row.below hI1 hb
  replace bl := bnext bl hb
  have s2 := hb.size
  rw [World.size_alloc] at s2
  have hnl : (nbrsK (2 * h)).length = 2 * h := by simp [nbrsK]
  obtain ⟨gd, rfl⟩ : ∃ gd, D = some ⟨gd, 0, none⟩ := by
    rcases hD.1.form with ⟨h1, h2⟩ | ⟨g', c', h1, _⟩
    · have h3 : (nbrsK (2 * h)) = [] := h2
      rw [h3] at hnl
      simp at hnl
      omega
    · injection h1 with h1
      exact ⟨g', h1⟩
  have hx0 : ClOk (2 * h) w2 (w.heap.size + 1) ⟨gd, cD, nbrsK (2 * h), 0⟩ := ⟨Row.le hD.1 (by simp), hnl⟩
  have hl0 := row_one hx0 (by omega)
  have HL0 := Lib.hid hl0
  have hz := Joins.below_alloc1 w2 (.cells #[.slice (some ⟨gd, 0, none⟩) (2 * h) cD, .int .i64 0] 38)
  have HZ : Hid (Below (w.heap.size + 1) (w.alloc (.cells #[.int .i64 W, .int .i64 (h : Int), .slice A B.length cA] 41)) (w2.alloc (.cells #[.slice (some ⟨gd, 0, none⟩) (2 * h) cD, .int .i64 0] 38))) := Lib.hid (by
    have hbb := hb
    rw [World.size_alloc] at hbb
    exact hbb.trans (hz.mono (by omega)))
  have HV0 : Hid ([(⟨gd, cD, nbrsK (2 * h), 0⟩ : Cl)].map Cl.val = colsL ⟨W, (h : Int), B⟩ 1 ∧ ([(⟨gd, cD, nbrsK (2 * h), 0⟩ : Cl)].map Cl.g).Nodup) := Lib.hid (by
    refine ⟨?_, List.nodup_cons.2 ⟨by simp, List.nodup_nil⟩⟩
    show [(nbrsK (2 * h), (0 : Int))] = [colL ⟨W, (h : Int), B⟩ 0]
    rw [HC0.out])
  have KX : Hid (∀ wr, Below (w.heap.size + 1) (w.alloc (.cells #[.int .i64 W, .int .i64 (h : Int), .slice A B.length cA] 41)) wr → Box wr w.heap.size 41 #[.int .i64 W, .int .i64 (h : Int), .slice A B.length cA] ∧ Ints wr Bd (.slice A B.length cA) B ∧ Below w.heap.size w wr) := Lib.hid (fun wr hb => by
    have hb' : Below (w.alloc (.cells #[.int .i64 W, .int .i64 (h : Int), .slice A B.length cA] 41)).heap.size (w.alloc (.cells #[.int .i64 W, .int .i64 (h : Int), .slice A B.length cA] 41)) wr := by rw [World.size_alloc]; exact hb
    exact ⟨(Box.new w 41 #[.int .i64 W, .int .i64 (h : Int), .slice A B.length cA]).below hb', Row.below (Row.below HI0.out bl1.out) hb', bnext bl1.out hb'⟩)
  have ba3 := ba.below hz
  clear q0 q1 q2 qn
  have q0 := ba3.cell 0
  have q1 := ba3.cell 1
  have q2 := ba3.cell 2
  have qn := ba3.lt
  simp only [List.getElem?_toArray, List.getElem?_cons_zero, List.getElem?_cons_succ] at q0 q1 q2
  clear hb hx0 hl0 hz ba ba3 hI1 bl hD hnl
  go_wp2
  clear q0 q1 q2 qn
  go_loopw [3, 15] (fun s3 s15 wr => ∃ (k g c : Nat) (l : List Cl), k ≤ K ∧ s3 = .slice (some ⟨g, 0, none⟩) (k + 1) c ∧ s15 = .int .i64 k ∧ CsRow (2 * h) wr (w.heap.size + 1) (.slice (some ⟨g, 0, none⟩) (k + 1) c) (k + 1) l ∧ Hid (l.map Cl.val = colsL ⟨W, (h : Int), B⟩ (k + 1) ∧ (l.map Cl.g).Nodup) ∧ Below (w.heap.size + 1) (w.alloc (.cells #[.int .i64 W, .int .i64 (h : Int), .slice A B.length cA] 41)) wr) (fun _ s15 _ => K + 1 - (intOf s15).toNat)
  case atStart => exact ⟨0, _, _, _, Nat.zero_le _, rfl, rfl, HL0.out, HV0, HZ.out⟩
  case round =>
    obtain ⟨k, g, c, l, hk, rfl, rfl, hl, hv, hb⟩ := hrel
    obtain ⟨ba, hI1, bl⟩ := KX.out _ hb
    have hKv := HKK.out
    obtain ⟨m, hm⟩ : ∃ m, k + 1 = m := ⟨_, rfl⟩
    have HM := Lib.hid hm
    have hkm : (k : Int) < (m : Int) := by omega
    have hkm2 : k < m := by omega
    rw [hm] at hl
    rw [hm]
    by_cases hlt : k < K
    · have hi1 : (k : Int) < 2 * W - 1 := by omega
      have hll := hl.2.1
      have hkl : k < l.length := by omega
      have hcell := hl.cell (k := k) hkl
      have hxk := hl.2.2 l[k] (List.getElem_mem hkl)
      have hvk : l[k].val = colL ⟨W, (h : Int), B⟩ k := by
        have e1 : (l.map Cl.val)[k]? = (colsL ⟨W, (h : Int), B⟩ (k + 1))[k]? := by rw [hv.out.1]
        rw [List.getElem?_map, List.getElem?_eq_getElem (show k < l.length by have := hl.2.1; omega)] at e1
        simp [colsL, List.getElem?_range] at e1
        exact e1
      obtain ⟨x, hx⟩ : ∃ x, l[k] = x := ⟨_, rfl⟩
      rw [hx] at hcell hxk hvk
      have hps : x.ps = (colL ⟨W, (h : Int), B⟩ k).1 := congrArg Prod.fst hvk
      have hcl : x.cl = (colL ⟨W, (h : Int), B⟩ k).2 := congrArg Prod.snd hvk
      have HPX : Hid (Pairing (colN ⟨W, (h : Int), B⟩) x.ps) := Lib.hid (by rw [HCN.out, hps]; exact HCP.out k)
      have HXX : Hid (0 < (k : Int) + 1 ∧ (k : Int) + 1 < 2 * W) := Lib.hid (by omega)
      have HCC : Hid (0 ≤ x.cl ∧ x.cl ≤ 100000) := Lib.hid (by rw [hcl]; have := HCB.out k; omega)
      obtain ⟨R, hR⟩ : ∃ R, pass x.ps (links ⟨W, (h : Int), B⟩ ((k : Int) + 1)) (colN ⟨W, (h : Int), B⟩) = R := ⟨_, rfl⟩
      have HNX : Hid (colL ⟨W, (h : Int), B⟩ (k + 1) = (R.1, x.cl + R.2)) := Lib.hid (by rw [HCS.out, ← hps, ← hcl, ← hR, HCN.out])
      have HR := Lib.hid hR
      obtain ⟨c0, c1⟩ := hcell
      have gl := (World.ownsRow.lt hl.1 g rfl).2
      have q0 := ba.cell 0
      have q1 := ba.cell 1
      have q2 := ba.cell 2
      have qn := ba.lt
      simp only [List.getElem?_toArray, List.getElem?_cons_zero, List.getElem?_cons_succ] at q0 q1 q2
      have hxi := hxk.1
      clear hvk hps hcl hR hx hll hm hkl
      have hrow := hl.1
      have HL := Lib.hid hl
      generalize hVV : wr = V at *
      clear hVV
      have KB : Hid (∀ w', Below V.heap.size V w' → Ints w' Bd (.slice A B.length cA) B ∧ Ints w' (w.heap.size + 1) (.slice (some ⟨x.g, 0, none⟩) (2 * h) x.c) x.ps) := Lib.hid (fun w' hb => ⟨Row.below hI1 hb, Row.below hxi hb⟩)
      have HBB := Lib.hid hb
      have hVs : w.heap.size + 1 ≤ V.heap.size := by have := hb.size; rw [World.size_alloc] at this; omega
      have hg1 := (World.ownsRow.lt hrow g rfl).1
      have q0' : V.drew.cell? ⟨w.heap.size, 0, none⟩ = some (.int .i64 W) := q0
      have q1' : V.drew.cell? ⟨w.heap.size, 1, none⟩ = some (.int .i64 (h : Int)) := q1
      have q2' : V.drew.cell? ⟨w.heap.size, 2, none⟩ = some (.slice A B.length cA) := q2
      have c0' : V.drew.cell? ⟨g, k * 2, none⟩ = some (.slice (some ⟨x.g, 0, none⟩) (2 * h) x.c) := c0
      have c1' : V.drew.cell? ⟨g, k * 2 + 1, none⟩ = some (.int .i64 x.cl) := c1
      have qn' : w.heap.size < V.drew.heap.size := qn
      have gl' : g < V.drew.heap.size := gl
      have hmb : m < 1000000000 := by have := hv.out.1; have h1 := congrArg List.length this; simp [colsL] at h1; have := HM.out; omega
      clear hI1 hxi hl hrow ba hb bl
      go_wp2
      go_region_law (first
        | (refine step_append_cells Try.underlying51 info_column (by decide) (by decide) (by decide) rfl _ _ rfl (w.heap.size + 1) w5.heap.size m _ (l.flatMap (Cl.cells (2 * h))) _ rfl (two_cells _ _) hl6.1 rfl rfl rfl hmb hs5 ?_; intro g6 c6 w6 hr6 hgr6 hat6; have hB6 := (HBB.out.trans (hBn.mono hVs)).grown hgr6 hs5 (fun i hi => (World.ownsRow.lt hl6.1 i hi).1); have hl7 := CsRow.snoc hl6 hx6 hr6 hgr6)
        | (go_simp; go_at_call 81; (with_reducible refine (nextColumn_any (KB.out _ cut_drew).1 HO.out HXX.out (KB.out _ cut_drew).2 HPX.out HCN.out HCC.out HR.out).mono ?_); rintro e w5 ⟨g5, c5, rfl, hg5, hl5, hb5⟩; have hBn := bnext (w := V) cut_drew hb5; have hl6 := HL.out.below hBn; have hs5 : w.heap.size + 1 ≤ w5.heap.size := Nat.le_trans hVs hBn.size; have hx6 : ClOk (2 * h) w5 (w.heap.size + 1) ⟨g5, c5, R.1, x.cl + R.2⟩ := ⟨Row.le hg5 hVs, hl5⟩))
      all_goals
        have HV2 : Hid ((l ++ [(⟨g5, c5, R.1, x.cl + R.2⟩ : Cl)]).map Cl.val = colsL ⟨W, (h : Int), B⟩ (k + 1 + 1) ∧ ((l ++ [(⟨g5, c5, R.1, x.cl + R.2⟩ : Cl)]).map Cl.g).Nodup) := Lib.hid (by
          refine ⟨?_, nodup_snoc hv.out.2 fun y hy => by have h1 := (Row.lt (HL.out.2.2 y hy).1 (g := y.g) rfl).2; have h2 := (Row.lt hg5 (g := g5) rfl).1; simp only [World.size_drew] at h2; show y.g ≠ g5; omega⟩
          rw [List.map_append, hv.out.1, colsL_succ ⟨W, (h : Int), B⟩ (k + 1), HNX.out]
          rfl)
        have R9 : Hid (∃ (k2 g c : Nat) (l2 : List Cl), k2 ≤ K ∧ (.slice (some ⟨g6, 0, none⟩) (m + 1) c6 : Value) = .slice (some ⟨g, 0, none⟩) (k2 + 1) c ∧ (.int .i64 ((k : Int) + 1) : Value) = .int .i64 k2 ∧ CsRow (2 * h) w6 (w.heap.size + 1) (.slice (some ⟨g, 0, none⟩) (k2 + 1) c) (k2 + 1) l2 ∧ Hid (l2.map Cl.val = colsL ⟨W, (h : Int), B⟩ (k2 + 1) ∧ (l2.map Cl.g).Nodup) ∧ Below (w.heap.size + 1) (w.alloc (.cells #[.int .i64 W, .int .i64 (h : Int), .slice A B.length cA] 41)) w6) :=
          Lib.hid ⟨k + 1, g6, c6, l ++ [⟨g5, c5, R.1, x.cl + R.2⟩], by omega, by rw [HM.out], by go_num, by rw [HM.out]; exact hl7, HV2, hB6⟩
        clear hl7 hB6 hr6 hgr6 hat6 hl6 hx6 hg5 hb5 hBn
        go_wp2
        go_roundw
        case rel => exact R9.out
        case measure => simp [intOf]; omega
    · have e : k = K := by omega
      subst e
      have hfin : CsRow (2 * h) wr w.heap.size (.slice (some ⟨g, 0, none⟩) (k + 1) c) (k + 1) l := by rw [← hm] at hl; exact hl.le (by omega)
      have hi1 : ¬ (k : Int) < 2 * W - 1 := by omega
      have HF := Lib.hid hfin
      clear hl hfin hI1 ba
      rw [← hm]
      clear hm HM hkm hkm2
      go_wp2
      go_ret
      first
        | exact ⟨g, c, l, rfl, HF.out, hv.out.1, hv.out.2, bl⟩
        | exact ⟨g, c, rfl, l, HF.out, hv.out.1, hv.out.2, bl⟩
set_option maxRecDepth 20000 in
set_option maxHeartbeats 8000000 in
theorem l09All_nd {w : World} {b Bd : Nat} {W : Int} {h : Nat} {v : Value} {B : List Int} (ba : Box w b 41 #[.int .i64 W, .int .i64 (h : Int), v]) (hI : Ints w Bd v B) (hp : Ok ⟨W, (h : Int), B⟩) {K : Nat} (hK : (K : Int) = 2 * W - 1) :
    Calls Try.prog 70 #[.pointer (some ⟨b, 0, none⟩)] w fun e w' => ∃ g c l, e = .returned (.slice (some ⟨g, 0, none⟩) (K + 1) c) ∧ CsRow (2 * h) w' w.heap.size (.slice (some ⟨g, 0, none⟩) (K + 1) c) (K + 1) l ∧
      l.map Cl.val = colsL ⟨W, (h : Int), B⟩ (K + 1) ∧ (l.map Cl.g).Nodup ∧ Below w.heap.size w w' := by
  have hcn : colN ⟨W, (h : Int), B⟩ = 2 * h := by unfold colN; simp only []; omega
  have h8 : 1 ≤ h ∧ h ≤ 8 := by have h1 := hp.h1; have h8 := hp.h8; simp only [] at h1 h8; omega
  have hW : 1 ≤ W ∧ W ≤ 8 := ⟨hp.w1, hp.w8⟩
  have HO := Lib.hid hp
  have HCN := Lib.hid hcn
  have HCP : Hid (∀ k, Pairing (2 * h) (colL ⟨W, (h : Int), B⟩ k).1) := Lib.hid (fun k => by rw [← hcn]; exact colL_pair hp k)
  have HCB : Hid (∀ k : Nat, 0 ≤ (colL ⟨W, (h : Int), B⟩ k).2 ∧ (colL ⟨W, (h : Int), B⟩ k).2 ≤ 16 * k) := Lib.hid (fun k => colL_bd hp k)
  have HCS : Hid (∀ k : Nat, colL ⟨W, (h : Int), B⟩ (k + 1) = ((pass (colL ⟨W, (h : Int), B⟩ k).1 (links ⟨W, (h : Int), B⟩ ((k : Int) + 1)) (2 * h)).1, (colL ⟨W, (h : Int), B⟩ k).2 + (pass (colL ⟨W, (h : Int), B⟩ k).1 (links ⟨W, (h : Int), B⟩ ((k : Int) + 1)) (2 * h)).2)) := Lib.hid (fun k => by rw [← hcn]; rfl)
  have HC0 : Hid (colL ⟨W, (h : Int), B⟩ 0 = (nbrsK (2 * h), 0)) := Lib.hid (by rw [← hcn]; rfl)
  have HKK := Lib.hid hK
  have hbl := ba.lt
  have KX : Hid (∀ wr, Below w.heap.size w wr → Box wr b 41 #[.int .i64 W, .int .i64 (h : Int), v] ∧ Ints wr Bd v B) := Lib.hid (fun wr hb => ⟨ba.below hb, Row.below hI hb⟩)
  have q0 := ba.cell 0
  have q1 := ba.cell 1
  have qn := ba.lt
  simp only [List.getElem?_toArray, List.getElem?_cons_zero, List.getElem?_cons_succ] at q0 q1
  have hh8 : (h : Int) ≤ 8 := by omega
  clear hp hcn hI hK ba
  go_enter Try.func70, Try.ntmps70
  go_wp2_with fail
  refine (l09First_any (h := h) (by omega)).mono ?_
  rintro e w2 ⟨D, cD, rfl, hD, hb⟩
  have s2 := hb.size
  have hnl : (nbrsK (2 * h)).length = 2 * h := by simp [nbrsK]
  obtain ⟨gd, rfl⟩ : ∃ gd, D = some ⟨gd, 0, none⟩ := by
    rcases hD.1.form with ⟨h1, h2⟩ | ⟨g', c', h1, _⟩
    · have h3 : (nbrsK (2 * h)) = [] := h2
      rw [h3] at hnl
      simp at hnl
      omega
    · injection h1 with h1
      exact ⟨g', h1⟩
  have hx0 : ClOk (2 * h) w2 w.heap.size ⟨gd, cD, nbrsK (2 * h), 0⟩ := ⟨hD.1, hnl⟩
  have hx1 : ClOk (2 * h) (w2.alloc (.cells #[.slice (some ⟨gd, 0, none⟩) (2 * h) cD, .int .i64 0] 38)) w.heap.size ⟨gd, cD, nbrsK (2 * h), 0⟩ := ⟨Row.alloc hx0.1 _, hx0.2⟩
  have bo := Box.new w2 38 #[.slice (some ⟨gd, 0, none⟩) (2 * h) cD, .int .i64 0]
  have hz := Joins.below_alloc1 w2 (.cells #[.slice (some ⟨gd, 0, none⟩) (2 * h) cD, .int .i64 0] 38)
  have hb1 := bnext hb hz
  have HB1 := Lib.hid hb1
  obtain ⟨pb, hpb⟩ : ∃ pb, w2.heap.size = pb := ⟨_, rfl⟩
  rw [hpb] at bo
  clear q0 q1 qn hD hb hz hx0
  go_wp2
  try rw [hpb]
  generalize hV : w2.alloc (.cells #[.slice (some ⟨gd, 0, none⟩) (2 * h) cD, .int .i64 0] 38) = V at *
  have hVs : V.heap.size = pb + 1 := by rw [← hV, World.size_alloc, hpb]
  clear hV
  have hl0 := row_one hx1 (show w.heap.size ≤ V.heap.size by omega)
  rw [hVs] at hl0
  have bo1 := bo.alloc (.cells #[.slice (some ⟨gd, 0, none⟩) (2 * h) cD, .int .i64 0] 38)
  have hz1 := Joins.below_alloc1 V (.cells #[.slice (some ⟨gd, 0, none⟩) (2 * h) cD, .int .i64 0] 38)
  have hb2 := bnext hb1 hz1
  have hx2 : ClOk (2 * h) (V.alloc (.cells #[.slice (some ⟨gd, 0, none⟩) (2 * h) cD, .int .i64 0] 38)) w.heap.size ⟨gd, cD, nbrsK (2 * h), 0⟩ := ⟨Row.alloc hx1.1 _, hx1.2⟩
  have HV0 : Hid ([(⟨gd, cD, nbrsK (2 * h), 0⟩ : Cl)].map Cl.val = colsL ⟨W, (h : Int), B⟩ 1 ∧ ([(⟨gd, cD, nbrsK (2 * h), 0⟩ : Cl)].map Cl.g).Nodup) := Lib.hid (by
    refine ⟨?_, List.nodup_cons.2 ⟨by simp, List.nodup_nil⟩⟩
    show [(nbrsK (2 * h), (0 : Int))] = [colL ⟨W, (h : Int), B⟩ 0]
    rw [HC0.out])
  have HV1 : Hid ((⟨gd, cD, nbrsK (2 * h), 0⟩ : Cl).val = colL ⟨W, (h : Int), B⟩ ((0 : Nat) : Int).toNat) := Lib.hid (by
    show (nbrsK (2 * h), (0 : Int)) = colL ⟨W, (h : Int), B⟩ 0
    rw [HC0.out])
  have HVN : Hid (pb + 1 ≠ pb ∧ w.heap.size ≤ pb) := Lib.hid (by omega)
  have HST := Lib.hid (And.intro hl0 (And.intro bo1 (And.intro hb2 hx2)))
  clear hl0 bo1 hz1 hb2 hx2 hx1 bo hb1 hpb
  go_loopw [4, 5] (fun s4 s5 wr => ∃ (k g c : Nat) (l : List Cl) (x : Cl), k ≤ K ∧ s4 = .slice (some ⟨g, 0, none⟩) (k + 1) c ∧ s5 = .int .i64 k ∧ CsRow (2 * h) wr w.heap.size (.slice (some ⟨g, 0, none⟩) (k + 1) c) (k + 1) l ∧ Hid (l.map Cl.val = colsL ⟨W, (h : Int), B⟩ (k + 1) ∧ (l.map Cl.g).Nodup) ∧ ClOk (2 * h) wr w.heap.size x ∧ Hid (x.val = colL ⟨W, (h : Int), B⟩ k) ∧
      Box wr pb 38 #[.slice (some ⟨x.g, 0, none⟩) (2 * h) x.c, .int .i64 x.cl] ∧ g ≠ pb ∧ Below w.heap.size w wr) (fun _ s5 _ => K + 1 - (intOf s5).toNat)
  case atStart => exact ⟨0, pb + 1, 1, _, ⟨gd, cD, nbrsK (2 * h), 0⟩, Nat.zero_le _, rfl, rfl, HST.out.1, HV0, HST.out.2.2.2, HV1, HST.out.2.1, HVN.out.1, HST.out.2.2.1⟩
  case round =>
    obtain ⟨k, g, c, l, x, hk, rfl, rfl, hl, hv, hxk, hvk, bo, hgp, hb⟩ := hrel
    obtain ⟨ba, hI1⟩ := KX.out _ hb
    have hKv := HKK.out
    have hpbw := HVN.out.2
    by_cases hlt : k < K
    · have hi1 : (k : Int) < 2 * W - 1 := by omega
      have hps : x.ps = (colL ⟨W, (h : Int), B⟩ k).1 := congrArg Prod.fst hvk.out
      have hcl : x.cl = (colL ⟨W, (h : Int), B⟩ k).2 := congrArg Prod.snd hvk.out
      have HPX : Hid (Pairing (colN ⟨W, (h : Int), B⟩) x.ps) := Lib.hid (by rw [HCN.out, hps]; exact HCP.out k)
      have HXX : Hid (0 < (k : Int) + 1 ∧ (k : Int) + 1 < 2 * W) := Lib.hid (by omega)
      have HCC : Hid (0 ≤ x.cl ∧ x.cl ≤ 100000) := Lib.hid (by rw [hcl]; have := HCB.out k; omega)
      obtain ⟨R, hR⟩ : ∃ R, pass x.ps (links ⟨W, (h : Int), B⟩ ((k : Int) + 1)) (colN ⟨W, (h : Int), B⟩) = R := ⟨_, rfl⟩
      have HNX : Hid (colL ⟨W, (h : Int), B⟩ (k + 1) = (R.1, x.cl + R.2)) := Lib.hid (by rw [HCS.out, ← hps, ← hcl, ← hR, HCN.out])
      have HR := Lib.hid hR
      have hxi := hxk.1
      have q0 := ba.cell 0
      have q1 := ba.cell 1
      have qn := ba.lt
      have o0 := bo.cell 0
      have o1 := bo.cell 1
      have on := bo.lt
      simp only [List.getElem?_toArray, List.getElem?_cons_zero, List.getElem?_cons_succ] at q0 q1 o0 o1
      clear hps hcl hR hxk
      go_wp2_with fail
      refine (l09Next_any ba hI1 HO.out HXX.out hxi HPX.out HCN.out HCC.out HR.out).mono ?_
      rintro e w5 ⟨g5, rfl, hg5, hl5, hb5⟩
      have hs5 := hb5.size
      have hws := hb.size
      have HND : Hid (((l ++ [(⟨g5, 2 * h, R.1, x.cl + R.2⟩ : Cl)]).map Cl.g).Nodup) := Lib.hid (nodup_snoc hv.out.2 fun y hy => by have h1 := (Row.lt (hl.2.2 y hy).1 (g := y.g) rfl).2; have h2 := (Row.lt hg5 (g := g5) rfl).1; show y.g ≠ g5; omega)
      replace bo := bo.below hb5
      replace hl := hl.below hb5
      replace hb := bnext hb hb5
      clear hb5 q0 q1 qn o0 o1 on hxi ba hI1
      have o0 := bo.cell 0
      have o1 := bo.cell 1
      have of0 := bo.free 0
      have of1 := bo.free 1
      have on := bo.lt
      simp only [List.getElem?_toArray, List.getElem?_cons_zero, List.getElem?_cons_succ] at o0 o1
      have hx5 : ClOk (2 * h) w5 w.heap.size ⟨g5, 2 * h, R.1, x.cl + R.2⟩ := ⟨Row.le hg5 (by omega), hl5⟩
      have hgo : ∀ g' : Nat, (Value.slice (some ⟨g, 0, none⟩) (k + 1) c).ownBlock = some g' → g' ≠ pb := fun g' hg' => by rw [ownBlock_slice] at hg'; injection hg' with hg'; rw [← hg']; exact hgp
      have b1 := bo.set_ 0 (.slice (some ⟨g5, 0, none⟩) (2 * h) (2 * h))
      have hl6 := (hl.setBox (i := 0) bo hgo (.slice (some ⟨g5, 0, none⟩) (2 * h) (2 * h))).setBox (i := 1) b1 hgo (.int .i64 (x.cl + R.2))
      have hxr : Ints ((w5.setCell ⟨pb, 0, none⟩ (.slice (some ⟨g5, 0, none⟩) (2 * h) (2 * h))).setCell ⟨pb, 1, none⟩ (.int .i64 (x.cl + R.2))) w.heap.size (.slice (some ⟨g5, 0, none⟩) (2 * h) (2 * h)) R.1 :=
        Row.setCell (p := ⟨pb, 1, none⟩) (Row.setCell (p := ⟨pb, 0, none⟩) hx5.1 (row_ne_box hx5.1 bo (by decide)) _) (row_ne_box hx5.1 bo (by decide)) _
      have bo6 : Box ((w5.setCell ⟨pb, 0, none⟩ (.slice (some ⟨g5, 0, none⟩) (2 * h) (2 * h))).setCell ⟨pb, 1, none⟩ (.int .i64 (x.cl + R.2))) pb 38 #[.slice (some ⟨g5, 0, none⟩) (2 * h) (2 * h), .int .i64 (x.cl + R.2)] := by simpa using b1.set_ 1 (.int .i64 (x.cl + R.2))
      have hb6 := (hb.setCell (p := ⟨pb, 0, none⟩) hpbw (.slice (some ⟨g5, 0, none⟩) (2 * h) (2 * h))).setCell (p := ⟨pb, 1, none⟩) hpbw (.int .i64 (x.cl + R.2))
      have hlk := hl.2.1
      have hl5' := hl5
      clear hl hb bo b1 hg5 hl5 hx5
      have hmb : k + 1 < 1000000000 := by omega
      have hB6 : w.heap.size ≤ ((w5.setCell ⟨pb, 0, none⟩ (.slice (some ⟨g5, 0, none⟩) (2 * h) (2 * h))).setCell ⟨pb, 1, none⟩ (.int .i64 (x.cl + R.2))).heap.size := by rw [World.size_setCell, World.size_setCell]; omega
      have hxc : ClOk (2 * h) ((w5.setCell ⟨pb, 0, none⟩ (.slice (some ⟨g5, 0, none⟩) (2 * h) (2 * h))).setCell ⟨pb, 1, none⟩ (.int .i64 (x.cl + R.2))) w.heap.size ⟨g5, 2 * h, R.1, x.cl + R.2⟩ := ⟨hxr, hl5'⟩
      go_wp2_with (at_builtin; refine append_cells Try.underlying51 info_column (by decide) (by decide) (by decide) rfl _ _ rfl w.heap.size w5.heap.size (k + 1) _ (l.flatMap (Cl.cells (2 * h))) _ rfl (two_cells _ _) hl6.1 rfl rfl (by simp) hmb hB6 ?_)
      intro g7 c7 w7 hr7 hgr7 hat7
      have hl7 := CsRow.snoc hl6 hxc hr7 hgr7
      have hb7 : Below w.heap.size w w7 := hb6.grown hgr7 hB6 (fun i hi => (World.ownsRow.lt hl6.1 i hi).1)
      have bo7 := bo6.grown hgr7 (fun e => hgp (by rw [ownBlock_slice] at e; injection e with e; exact e.symm))
      have hx7 : ClOk (2 * h) w7 w.heap.size ⟨g5, 2 * h, R.1, x.cl + R.2⟩ := ⟨Row.keep hxr fun q hq hql => hgr7.block q hql (fun e => apart_rows hxr hl6.1 (by decide) hq e.symm), hxc.2⟩
      have hg7 : g7 ≠ pb := by
        rcases hat7 with e | e
        · rw [ownBlock_slice] at e; injection e with e; rw [← e]; exact hgp
        · try rw [World.size_setCell, World.size_setCell] at e
          omega
      have HV2 : Hid ((l ++ [(⟨g5, 2 * h, R.1, x.cl + R.2⟩ : Cl)]).map Cl.val = colsL ⟨W, (h : Int), B⟩ (k + 1 + 1) ∧ ((l ++ [(⟨g5, 2 * h, R.1, x.cl + R.2⟩ : Cl)]).map Cl.g).Nodup) := Lib.hid (by
        refine ⟨?_, HND.out⟩
        rw [List.map_append, hv.out.1, colsL_succ ⟨W, (h : Int), B⟩ (k + 1), HNX.out]
        rfl)
      have HV3 : Hid ((⟨g5, 2 * h, R.1, x.cl + R.2⟩ : Cl).val = colL ⟨W, (h : Int), B⟩ (k + 1)) := Lib.hid (by rw [HNX.out]; rfl)
      have R9 : Hid (∃ (k2 g c : Nat) (l2 : List Cl) (x2 : Cl), k2 ≤ K ∧ (.slice (some ⟨g7, 0, none⟩) (k + 1 + 1) c7 : Value) = .slice (some ⟨g, 0, none⟩) (k2 + 1) c ∧ (.int .i64 ((k : Int) + 1) : Value) = .int .i64 k2 ∧ CsRow (2 * h) w7 w.heap.size (.slice (some ⟨g, 0, none⟩) (k2 + 1) c) (k2 + 1) l2 ∧ Hid (l2.map Cl.val = colsL ⟨W, (h : Int), B⟩ (k2 + 1) ∧ (l2.map Cl.g).Nodup) ∧ ClOk (2 * h) w7 w.heap.size x2 ∧ Hid (x2.val = colL ⟨W, (h : Int), B⟩ k2) ∧
          Box w7 pb 38 #[.slice (some ⟨x2.g, 0, none⟩) (2 * h) x2.c, .int .i64 x2.cl] ∧ g ≠ pb ∧ Below w.heap.size w w7) :=
        Lib.hid ⟨k + 1, g7, c7, l ++ [⟨g5, 2 * h, R.1, x.cl + R.2⟩], ⟨g5, 2 * h, R.1, x.cl + R.2⟩, by omega, rfl, by go_num, hl7, HV2, hx7, HV3, bo7, hg7, hb7⟩
      clear hl7 hb7 bo7 hx7 hg7 hr7 hgr7 hat7 hl6 hxr bo6 hb6 hxc hB6 o0 o1 of0 of1 on
      go_wp2
      go_roundw
      case rel => exact R9.out
      case measure => simp [intOf]; omega
    · have e : k = K := by omega
      subst e
      have hi1 : ¬ (k : Int) < 2 * W - 1 := by omega
      have q0 := ba.cell 0
      have qn := ba.lt
      simp only [List.getElem?_toArray, List.getElem?_cons_zero, List.getElem?_cons_succ] at q0
      have HF := Lib.hid hl
      clear hl hI1 ba bo hxk
      go_wp2
      go_ret
      first
        | exact ⟨g, c, l, rfl, HF.out, hv.out.1, hv.out.2, hb⟩
        | exact ⟨g, c, rfl, l, HF.out, hv.out.1, hv.out.2, hb⟩

open Classical in
/-- What ColumnsOf answers. -/
noncomputable def colsM (p : Pan) : List (List Int × Int) × Int := if Ok p then (colsL p (2 * p.W).toNat, 0) else ([], 1)
theorem colsM_inv {p : Pan} (h : ¬ Ok p) : colsM p = ([], 1) := by unfold colsM; rw [if_neg h]
theorem colsM_ok {p : Pan} (h : Ok p) : colsM p = (colsL p (2 * p.W).toNat, 0) := by unfold colsM; rw [if_pos h]
theorem ColsIn.of_row {w : World} {n B m : Nat} {v : Value} {l : List Cl} {cs : List (List Int × Int)} (h : CsRow n w B v m l) (hv : l.map Cl.val = cs) (hd : (l.map Cl.g).Nodup) (hn : n ≤ 1000) (hm : m ≤ 1000) : ColsIn w B w.heap.size v cs := by
  have hl : cs.length = m := by rw [← hv, List.length_map]; exact h.2.1
  exact ⟨⟨n, l, by rw [hl]; exact h, hv, fun x hx => (Row.lt (h.2.2 x hx).1 (g := x.g) rfl).2, hd, hn⟩, fun g hg => (World.ownsRow.lt h.1 g hg).2, Nat.le_refl _, by omega⟩
set_option maxRecDepth 20000 in
set_option maxHeartbeats 8000000 in
theorem K_impl_ColumnsOf {w : World} {lo hi : Nat} {x y r : Int} {v : Value} {xs : List Int} {cs : List (List Int × Int)} (hv : IntsIn w lo hi v xs) (hm : colsM ⟨x, y, xs⟩ = (cs, r)) :
    Calls Try.prog 41 #[.agg #[.int .i64 x, .int .i64 y, v]] w fun e w' => ∃ A c, e = .returned (.tuple #[.slice A cs.length c, .int .i64 r]) ∧
      ColsIn w' w.heap.size w'.heap.size (.slice A cs.length c) cs ∧ Below w.heap.size w w' := by
  obtain ⟨A, cA, rfl, _, _⟩ := hv.1.open_
  have bl := Joins.below_alloc1 w (.cells #[.int .i64 x, .int .i64 y, .slice A xs.length cA] 41)
  have ba := Box.new w 41 #[.int .i64 x, .int .i64 y, .slice A xs.length cA]
  replace hv := hv.below bl
  have q0 := ba.cell 0
  have q1 := ba.cell 1
  have q2 := ba.cell 2
  have qn := ba.lt
  simp only [List.getElem?_toArray, List.getElem?_cons_zero, List.getElem?_cons_succ] at q0 q1 q2
  by_cases ho : Ok ⟨x, y, xs⟩
  rotate_left
  · rw [colsM_inv ho] at hm
    obtain ⟨rfl, rfl⟩ : [] = cs ∧ 1 = r := by simpa using hm
    have HO := Lib.hid ho
    clear hm ho
    go_enter Try.func41, Try.ntmps41
    go_wp2_with fail
    refine (ValidPanel_any x y _ xs false (no_iff HO.out) _ hv.ints).mono ?_
    rintro e w2 ⟨rfl, hb⟩
    have hbb := bnext bl hb
    have HF := Lib.hid (ColsIn.nil w2 w.heap.size w2.heap.size (Nat.le_refl _))
    clear hb
    go_wp2
    go_ret2
    first
      | exact ⟨none, 0, rfl, HF.out, hbb⟩
      | exact ⟨none, rfl, 0, HF.out, hbb⟩
      | exact ⟨none, 0, ⟨rfl, rfl⟩, HF.out, hbb⟩
  rw [colsM_ok ho] at hm
  have hW8 := ho.w8
  have hW1 := ho.w1
  have hH8 := ho.h8
  have hH1 := ho.h1
  simp only [] at hW8 hW1 hH8 hH1 hm
  obtain ⟨h, rfl⟩ := Int.eq_ofNat_of_zero_le (show 0 ≤ y by omega)
  obtain ⟨K, hK⟩ : ∃ K, (2 * x - 1).toNat = K := ⟨_, rfl⟩
  have hKX : (K : Int) = 2 * x - 1 := by omega
  rw [show (2 * x).toNat = K + 1 by omega] at hm
  obtain ⟨hn, rfl⟩ : colsL ⟨x, (h : Int), xs⟩ (K + 1) = cs ∧ 0 = r := by simpa using hm
  have hcl : cs.length = K + 1 := by rw [← hn]; simp [colsL]
  have HO := Lib.hid ho
  have HN := Lib.hid hn
  have HCL := Lib.hid hcl
  have HKX := Lib.hid hKX
  have hK16 : K ≤ 15 := by omega
  have hh8 : h ≤ 8 := by omega
  clear hm ho hK hKX hn hcl
  rw [HCL.out]
  go_enter Try.func41, Try.ntmps41
  go_wp2_with fail
  refine (ValidPanel_any x (h : Int) _ xs true (yes_iff HO.out) _ hv.ints).mono ?_
  rintro e w2 ⟨rfl, hb⟩
  replace ba := ba.below hb
  have bl2 := bnext bl hb
  clear q0 q1 q2 qn
  have q0 := ba.cell 0
  have q1 := ba.cell 1
  have q2 := ba.cell 2
  have qn := ba.lt
  simp only [List.getElem?_toArray, List.getElem?_cons_zero, List.getElem?_cons_succ] at q0 q1 q2
  go_wp2_with fail
  refine (columns_nd (hv.below hb).1 HO.out HKX.out).mono ?_
  rintro e w3 ⟨g, c, l, rfl, hl, hlv, hld, hb3⟩
  have hbf := bnext bl2 hb3
  have HF : Hid (ColsIn w3 w.heap.size w3.heap.size (.slice (some ⟨g, 0, none⟩) (K + 1) c) cs) := Lib.hid ((ColsIn.of_row hl (hlv.trans HN.out) hld (by omega) (by omega)).wider bl2.size (Nat.le_refl _) (Nat.le_refl _))
  clear hl hlv hld hb3 hb ba hv q0 q1 q2 qn
  go_wp2
  go_ret2
  first
    | exact ⟨some ⟨g, 0, none⟩, c, rfl, HF.out, hbf⟩
    | exact ⟨some ⟨g, 0, none⟩, rfl, c, HF.out, hbf⟩
    | exact ⟨some ⟨g, 0, none⟩, c, ⟨rfl, rfl⟩, HF.out, hbf⟩
set_option maxRecDepth 20000 in
set_option maxHeartbeats 8000000 in
theorem K_spec_ColumnsOf {w : World} {lo hi : Nat} {x y r : Int} {v : Value} {xs : List Int} {cs : List (List Int × Int)} (hv : IntsIn w lo hi v xs) (hm : colsM ⟨x, y, xs⟩ = (cs, r)) :
    Calls Try.prog 40 #[.agg #[.int .i64 x, .int .i64 y, v]] w fun e w' => ∃ A c, e = .returned (.tuple #[.slice A cs.length c, .int .i64 r]) ∧
      ColsIn w' w.heap.size w'.heap.size (.slice A cs.length c) cs ∧ Below w.heap.size w w' := by
  obtain ⟨A, cA, rfl, _, _⟩ := hv.1.open_
  have bl := Joins.below_alloc1 w (.cells #[.int .i64 x, .int .i64 y, .slice A xs.length cA] 41)
  have ba := Box.new w 41 #[.int .i64 x, .int .i64 y, .slice A xs.length cA]
  replace hv := hv.below bl
  have q0 := ba.cell 0
  have q1 := ba.cell 1
  have q2 := ba.cell 2
  have qn := ba.lt
  simp only [List.getElem?_toArray, List.getElem?_cons_zero, List.getElem?_cons_succ] at q0 q1 q2
  by_cases ho : Ok ⟨x, y, xs⟩
  rotate_left
  · rw [colsM_inv ho] at hm
    obtain ⟨rfl, rfl⟩ : [] = cs ∧ 1 = r := by simpa using hm
    have HO := Lib.hid ho
    clear hm ho
    go_enter Try.func40, Try.ntmps40
    go_wp2_with fail
    refine (l02Ok_any w.heap.size x y _ xs false (no_iff HO.out) _ ⟨ba, hv.ints⟩).mono ?_
    rintro e w2 ⟨rfl, hd⟩
    have hb := bdrawn hd
    clear hd
    have hbb := bnext bl hb
    have HF := Lib.hid (ColsIn.nil w2 w.heap.size w2.heap.size (Nat.le_refl _))
    clear hb
    go_wp2
    go_ret2
    first
      | exact ⟨none, 0, rfl, HF.out, hbb⟩
      | exact ⟨none, rfl, 0, HF.out, hbb⟩
      | exact ⟨none, 0, ⟨rfl, rfl⟩, HF.out, hbb⟩
  rw [colsM_ok ho] at hm
  have hW8 := ho.w8
  have hW1 := ho.w1
  have hH8 := ho.h8
  have hH1 := ho.h1
  simp only [] at hW8 hW1 hH8 hH1 hm
  obtain ⟨h, rfl⟩ := Int.eq_ofNat_of_zero_le (show 0 ≤ y by omega)
  obtain ⟨K, hK⟩ : ∃ K, (2 * x - 1).toNat = K := ⟨_, rfl⟩
  have hKX : (K : Int) = 2 * x - 1 := by omega
  rw [show (2 * x).toNat = K + 1 by omega] at hm
  obtain ⟨hn, rfl⟩ : colsL ⟨x, (h : Int), xs⟩ (K + 1) = cs ∧ 0 = r := by simpa using hm
  have hcl : cs.length = K + 1 := by rw [← hn]; simp [colsL]
  have HO := Lib.hid ho
  have HN := Lib.hid hn
  have HCL := Lib.hid hcl
  have HKX := Lib.hid hKX
  have hK16 : K ≤ 15 := by omega
  have hh8 : h ≤ 8 := by omega
  clear hm ho hK hKX hn hcl
  rw [HCL.out]
  go_enter Try.func40, Try.ntmps40
  go_wp2_with fail
  refine (l02Ok_any w.heap.size x (h : Int) _ xs true (yes_iff HO.out) _ ⟨ba, hv.ints⟩).mono ?_
  rintro e w2 ⟨rfl, hd⟩
  have hb := bdrawn hd
  clear hd
  replace ba := ba.below hb
  have bl2 := bnext bl hb
  clear q0 q1 q2 qn
  have q0 := ba.cell 0
  have q1 := ba.cell 1
  have q2 := ba.cell 2
  have qn := ba.lt
  simp only [List.getElem?_toArray, List.getElem?_cons_zero, List.getElem?_cons_succ] at q0 q1 q2
  go_wp2_with fail
  refine (l09All_nd ba (hv.below hb).1 HO.out HKX.out).mono ?_
  rintro e w3 ⟨g, c, l, rfl, hl, hlv, hld, hb3⟩
  have hbf := bnext bl2 hb3
  have HF : Hid (ColsIn w3 w.heap.size w3.heap.size (.slice (some ⟨g, 0, none⟩) (K + 1) c) cs) := Lib.hid ((ColsIn.of_row hl (hlv.trans HN.out) hld (by omega) (by omega)).wider bl2.size (Nat.le_refl _) (Nat.le_refl _))
  clear hl hlv hld hb3 hb ba hv q0 q1 q2 qn
  go_wp2
  go_ret2
  first
    | exact ⟨some ⟨g, 0, none⟩, c, rfl, HF.out, hbf⟩
    | exact ⟨some ⟨g, 0, none⟩, rfl, c, HF.out, hbf⟩
    | exact ⟨some ⟨g, 0, none⟩, c, ⟨rfl, rfl⟩, HF.out, hbf⟩
end Go.Proofs.Ytnldahadldolpaa
