/-
  The number of curves by columns, by the program and by the reference.
-/
import Derived.Test.YtnldahadldolpaaCols
import Derived.Deep.RegionHeld3
namespace Go.Proofs.Ytnldahadldolpaa
open Go.RowKit Knot

theorem isPr_of {n : Nat} {P : List Int} (h : Pairing n P) (h1 : 2 ≤ n) (h2 : n ≤ 16) (h3 : n % 2 = 0) : IsPr P := by
  have hl := h.len
  refine ⟨by omega, by omega, by omega, fun k hk => ?_⟩
  have hk' : k < n := by omega
  refine ⟨h.lo _ (by omega) (by omega), ?_, h.ne _ (by omega) (by omega), h.inv _ (by omega) (by omega)⟩
  have := h.hi (k : Int) (by omega) (by omega)
  omega
open Classical in
/-- What CountByColumns answers. -/
noncomputable def cbcM (p : Pan) : Int × Int := if Ok p then ((colL p (2 * p.W - 1).toNat).2 + loopsOf (colL p (2 * p.W - 1).toNat).1 (nbrsK (colN p)) (colN p), 0) else (0, 1)
theorem cbcM_inv {p : Pan} (h : ¬ Ok p) : cbcM p = (0, 1) := by unfold cbcM; rw [if_neg h]
theorem cbcM_ok {p : Pan} (h : Ok p) : cbcM p = ((colL p (2 * p.W - 1).toNat).2 + loopsOf (colL p (2 * p.W - 1).toNat).1 (nbrsK (colN p)) (colN p), 0) := by unfold cbcM; rw [if_pos h]
set_option maxRecDepth 20000 in
set_option maxHeartbeats 8000000 in
theorem K_impl_CountByColumns {w : World} {lo hi : Nat} {x y n r : Int} {v : Value} {xs : List Int} (hv : IntsIn w lo hi v xs) (hm : cbcM ⟨x, y, xs⟩ = (n, r)) :
    Calls Try.prog 37 #[.agg #[.int .i64 x, .int .i64 y, v]] w fun e w' => e = .returned (.tuple #[.int .i64 n, .int .i64 r]) ∧ Below w.heap.size w w' := by
  obtain ⟨A, cA, rfl, _, _⟩ := hv.1.open_
  have bl := Joins.below_alloc1 w (.cells #[.int .i64 x, .int .i64 y, .slice A xs.length cA] 41)
  have ba := Box.new w 41 #[.int .i64 x, .int .i64 y, .slice A xs.length cA]
  replace hv := hv.below bl
  have q0 := ba.cell 0
  have q1 := ba.cell 1
  have q2 := ba.cell 2
  have qn := ba.lt
  simp only [List.getElem?_toArray, List.getElem?_cons_zero, List.getElem?_cons_succ] at q0 q1 q2
  by_cases ho : Ok ⟨x, y, xs⟩
  rotate_left
  · rw [cbcM_inv ho] at hm
    obtain ⟨rfl, rfl⟩ : 0 = n ∧ 1 = r := by simpa using hm
    have HO := Lib.hid ho
    clear hm ho
    go_enter Try.func37, Try.ntmps37
    go_wp2_with fail
    refine (ValidPanel_any x y _ xs false (no_iff HO.out) _ hv.ints).mono ?_
    rintro e w2 ⟨rfl, hb⟩
    go_wp2
    go_ret2
    exact ⟨rfl, bnext bl hb⟩
  rw [cbcM_ok ho] at hm
  have hW8 := ho.w8
  have hW1 := ho.w1
  have hH8 := ho.h8
  have hH1 := ho.h1
  simp only [] at hW8 hW1 hH8 hH1 hm
  obtain ⟨h, rfl⟩ := Int.eq_ofNat_of_zero_le (show 0 ≤ y by omega)
  have hcn : colN ⟨x, (h : Int), xs⟩ = 2 * h := by unfold colN; simp only []; omega
  obtain ⟨K, hK⟩ : ∃ K, (2 * x - 1).toNat = K := ⟨_, rfl⟩
  have hKX : (K : Int) = 2 * x - 1 := by omega
  rw [hK, hcn] at hm
  obtain ⟨hn, rfl⟩ : (colL ⟨x, (h : Int), xs⟩ K).2 + loopsOf (colL ⟨x, (h : Int), xs⟩ K).1 (nbrsK (2 * h)) (2 * h) = n ∧ 0 = r := by simpa using hm
  subst hn
  have HO := Lib.hid ho
  have hP := colL_pair ho K
  rw [hcn] at hP
  have hcb := colL_bd ho K
  have hPl := hP.len
  have HP1 : Hid (IsPr (colL ⟨x, (h : Int), xs⟩ K).1) := Lib.hid (isPr_of hP (by omega) (by omega) (by omega))
  have HP2 : Hid (IsPr (nbrs (2 * h))) := Lib.hid (isPr_of (nbrsK_pair (by omega)) (by omega) (by omega) (by omega))
  have hnl : (nbrsK (2 * h)).length = 2 * h := by simp [nbrsK]
  have hlb : 0 ≤ loopsOf (colL ⟨x, (h : Int), xs⟩ K).1 (nbrsK (2 * h)) (2 * h) ∧ loopsOf (colL ⟨x, (h : Int), xs⟩ K).1 (nbrsK (2 * h)) (2 * h) ≤ (2 * h : Nat) := cycTo_bd _ _ _ _ _
  have HKX := Lib.hid hKX
  have hK16 : K ≤ 15 := by omega
  clear hm ho hcn hK hP hKX
  go_enter Try.func37, Try.ntmps37
  go_wp2_with fail
  refine (ValidPanel_any x (h : Int) _ xs true (yes_iff HO.out) _ hv.ints).mono ?_
  rintro e w2 ⟨rfl, hb⟩
  replace ba := ba.below hb
  replace hv := hv.below hb
  replace bl := bnext bl hb
  clear hb q0 q1 q2 qn
  have q0 := ba.cell 0
  have q1 := ba.cell 1
  have q2 := ba.cell 2
  have qn := ba.lt
  simp only [List.getElem?_toArray, List.getElem?_cons_zero, List.getElem?_cons_succ] at q0 q1 q2
  go_wp2_with fail
  refine (columns_any hv.1 HO.out HKX.out).mono ?_
  rintro e w3 ⟨g, c, l, rfl, hl, hlv, hb⟩
  replace ba := ba.below hb
  replace bl := bnext bl hb
  clear hb q0 q1 q2 qn hv
  have hll := hl.2.1
  have hkl : K < l.length := by omega
  obtain ⟨c0, c1⟩ := hl.cell (k := K) hkl
  have hxk := hl.2.2 l[K] (List.getElem_mem hkl)
  have hvk : l[K].val = colL ⟨x, (h : Int), xs⟩ K := by
    have e1 : (l.map Cl.val)[K]? = (colsL ⟨x, (h : Int), xs⟩ (K + 1))[K]? := by rw [hlv]
    rw [List.getElem?_map, List.getElem?_eq_getElem hkl] at e1
    simp [colsL, List.getElem?_range] at e1
    exact e1
  obtain ⟨z, hz⟩ : ∃ z, l[K] = z := ⟨_, rfl⟩
  rw [hz] at c0 c1 hxk hvk
  have hps : z.ps = (colL ⟨x, (h : Int), xs⟩ K).1 := congrArg Prod.fst hvk
  have hcl : z.cl = (colL ⟨x, (h : Int), xs⟩ K).2 := congrArg Prod.snd hvk
  rw [← hps] at HP1
  have hgl := (World.ownsRow.lt hl.1 g rfl).2
  rw [← hcl] at hcb
  rw [← hps] at hlb
  have HFN : Hid ((colL ⟨x, (h : Int), xs⟩ K).2 + loopsOf (colL ⟨x, (h : Int), xs⟩ K).1 (nbrsK (2 * h)) (2 * h) = z.cl + loopsOf z.ps (nbrsK (2 * h)) (2 * h)) := Lib.hid (by rw [hps, hcl])
  have hzp : z.ps.length = 2 * h := hxk.2
  have hzi := hxk.1
  have hloop : Hid (loopsOf z.ps (nbrs (2 * h)) z.ps.length = loopsOf z.ps (nbrsK (2 * h)) (2 * h)) := Lib.hid (by rw [hzp]; rfl)
  have hb4 := Joins.below_alloc1 w3 (.cells #[.slice (some ⟨z.g, 0, none⟩) (2 * h) z.c, .int .i64 z.cl] 38)
  have bz := Box.new w3 38 #[.slice (some ⟨z.g, 0, none⟩) (2 * h) z.c, .int .i64 z.cl]
  have ba4 := ba.below hb4
  have hz4 := Row.below hzi hb4
  have bl4 := bnext bl hb4
  have hkk : (K : Int) + 1 - 1 = K := by omega
  have hkk2 : (K : Int) < (K : Int) + 1 := by omega
  clear hvk hps hcl hz hl hlv hxk hll hkl ba bl hb4 hzi hPl
  go_wp2
  generalize hV : w3.alloc (.cells #[.slice (some ⟨z.g, 0, none⟩) (2 * h) z.c, .int .i64 z.cl] 38) = V at *
  clear hV c0 c1
  have q1 := ba4.cell 1
  have qn := ba4.lt
  have z0 := bz.cell 0
  have z1 := bz.cell 1
  have zn := bz.lt
  simp only [List.getElem?_toArray, List.getElem?_cons_zero, List.getElem?_cons_succ] at q1 z0 z1
  have KS : Hid (∀ w', Below V.heap.size V w' → (Below V.heap.size V w' ∧ w'.cell? ⟨w.heap.size, 1, none⟩ = some (.int .i64 (h : Int)) ∧ w'.cell? ⟨w3.heap.size, 0, none⟩ = some (.slice (some ⟨z.g, 0, none⟩) (2 * h) z.c) ∧ w'.cell? ⟨w3.heap.size, 1, none⟩ = some (.int .i64 z.cl))) := Lib.hid (fun w' hb => ⟨hb, (ba4.below hb).cell 1, (bz.below hb).cell 0, (bz.below hb).cell 1⟩)
  have KB : Hid (∀ w', Below V.heap.size V w' → Ints w' 0 (.slice (some ⟨z.g, 0, none⟩) (2 * h) z.c) z.ps) := Lib.hid (fun w' hb => Row.le (Row.below hz4 hb) (Nat.zero_le _))
  have HWR : Hid (IntKind.i64.wrap (2 * (h : Int)) = ((2 * h : Nat) : Int)) := Lib.hid (by rw [IntKind.wrap_i64] <;> omega)
  have H16 : Hid (2 * h ≤ 16) := Lib.hid (by omega)
  have HLN : Hid ((nbrs (2 * h)).length = z.ps.length) := Lib.hid (by rw [hzp]; exact hnl)
  have HWS : Hid (IntKind.i64.wrap (z.cl + loopsOf z.ps (nbrs (2 * h)) (2 * h)) = z.cl + loopsOf z.ps (nbrsK (2 * h)) (2 * h)) := Lib.hid (by rw [nbrs_K, IntKind.wrap_i64] <;> omega)
  have HBL := Lib.hid bl4
  clear ba4 bz hz4 bl4
  go_region_held3 (fun w' => Below V.heap.size V w' ∧ w'.cell? ⟨w.heap.size, 1, none⟩ = some (.int .i64 (h : Int)) ∧ w'.cell? ⟨w3.heap.size, 0, none⟩ = some (.slice (some ⟨z.g, 0, none⟩) (2 * h) z.c) ∧ w'.cell? ⟨w3.heap.size, 1, none⟩ = some (.int .i64 z.cl))
    ((refine KS.out _ ?_; first | exact cut_drew | exact hBn))
    ((first
      | (go_at_call 67; go_split_ands; rw [HWR.out]; (with_reducible refine (neighbours_any (n := 2 * h) H16.out).mono ?_); rintro e w7 ⟨D7, c7, rfl, hd7, hb7⟩; have hBn := bnext (w := V) (by assumption) hb7)
      | (go_at_call 57; go_split_ands; (refine (loops_any (KB.out _ (by assumption)) hd7.1 HP1.out HP2.out HLN.out).mono ?_); rintro e w8 ⟨rfl, hb8⟩; have hBn := bnext (w := V) (by assumption) hb8)))
  all_goals
    go_split_ands
    rw [HWS.out]
    have hbf := bnext HBL.out hBn
    clear KS KB HWR HWS hb7 hb8 hBn
    go_wp2
    go_ret2
    first
      | exact ⟨by rw [HFN.out]; rfl, hbf⟩
      | (rw [HFN.out]; exact ⟨rfl, hbf⟩)
set_option maxRecDepth 20000 in
set_option maxHeartbeats 8000000 in
theorem K_spec_CountByColumns {w : World} {lo hi : Nat} {x y n r : Int} {v : Value} {xs : List Int} (hv : IntsIn w lo hi v xs) (hm : cbcM ⟨x, y, xs⟩ = (n, r)) :
    Calls Try.prog 36 #[.agg #[.int .i64 x, .int .i64 y, v]] w fun e w' => e = .returned (.tuple #[.int .i64 n, .int .i64 r]) ∧ Below w.heap.size w w' := by
  obtain ⟨A, cA, rfl, _, _⟩ := hv.1.open_
  have bl := Joins.below_alloc1 w (.cells #[.int .i64 x, .int .i64 y, .slice A xs.length cA] 41)
  have ba := Box.new w 41 #[.int .i64 x, .int .i64 y, .slice A xs.length cA]
  replace hv := hv.below bl
  have q0 := ba.cell 0
  have q1 := ba.cell 1
  have q2 := ba.cell 2
  have qn := ba.lt
  simp only [List.getElem?_toArray, List.getElem?_cons_zero, List.getElem?_cons_succ] at q0 q1 q2
  by_cases ho : Ok ⟨x, y, xs⟩
  rotate_left
  · rw [cbcM_inv ho] at hm
    obtain ⟨rfl, rfl⟩ : 0 = n ∧ 1 = r := by simpa using hm
    have HO := Lib.hid ho
    clear hm ho
    go_enter Try.func36, Try.ntmps36
    go_wp2_with fail
    refine (l02Ok_any w.heap.size x y _ xs false (no_iff HO.out) _ ⟨ba, hv.ints⟩).mono ?_
    rintro e w2 ⟨rfl, hd⟩
    have hb := bdrawn hd
    clear hd
    go_wp2
    go_ret2
    exact ⟨rfl, bnext bl hb⟩
  rw [cbcM_ok ho] at hm
  have hW8 := ho.w8
  have hW1 := ho.w1
  have hH8 := ho.h8
  have hH1 := ho.h1
  simp only [] at hW8 hW1 hH8 hH1 hm
  obtain ⟨h, rfl⟩ := Int.eq_ofNat_of_zero_le (show 0 ≤ y by omega)
  have hcn : colN ⟨x, (h : Int), xs⟩ = 2 * h := by unfold colN; simp only []; omega
  obtain ⟨K, hK⟩ : ∃ K, (2 * x - 1).toNat = K := ⟨_, rfl⟩
  have hKX : (K : Int) = 2 * x - 1 := by omega
  rw [hK, hcn] at hm
  obtain ⟨hn, rfl⟩ : (colL ⟨x, (h : Int), xs⟩ K).2 + loopsOf (colL ⟨x, (h : Int), xs⟩ K).1 (nbrsK (2 * h)) (2 * h) = n ∧ 0 = r := by simpa using hm
  subst hn
  have HO := Lib.hid ho
  have hP := colL_pair ho K
  rw [hcn] at hP
  have hcb := colL_bd ho K
  have hPl := hP.len
  have HP1 : Hid (IsPr (colL ⟨x, (h : Int), xs⟩ K).1) := Lib.hid (isPr_of hP (by omega) (by omega) (by omega))
  have HP2 : Hid (IsPr (nbrsK (2 * h))) := Lib.hid (isPr_of (nbrsK_pair (by omega)) (by omega) (by omega) (by omega))
  have hnl : (nbrsK (2 * h)).length = 2 * h := by simp [nbrsK]
  have hlb : 0 ≤ loopsOf (colL ⟨x, (h : Int), xs⟩ K).1 (nbrsK (2 * h)) (2 * h) ∧ loopsOf (colL ⟨x, (h : Int), xs⟩ K).1 (nbrsK (2 * h)) (2 * h) ≤ (2 * h : Nat) := cycTo_bd _ _ _ _ _
  have HKX := Lib.hid hKX
  have hK16 : K ≤ 15 := by omega
  clear hm ho hcn hK hP hKX
  go_enter Try.func36, Try.ntmps36
  go_wp2_with fail
  refine (l02Ok_any w.heap.size x (h : Int) _ xs true (yes_iff HO.out) _ ⟨ba, hv.ints⟩).mono ?_
  rintro e w2 ⟨rfl, hd⟩
  have hb := bdrawn hd
  clear hd
  replace ba := ba.below hb
  replace hv := hv.below hb
  replace bl := bnext bl hb
  clear hb q0 q1 q2 qn
  have q0 := ba.cell 0
  have q1 := ba.cell 1
  have q2 := ba.cell 2
  have qn := ba.lt
  simp only [List.getElem?_toArray, List.getElem?_cons_zero, List.getElem?_cons_succ] at q0 q1 q2
  go_wp2_with fail
  refine (l09All_any ba hv.1 HO.out HKX.out).mono ?_
  rintro e w3 ⟨g, c, l, rfl, hl, hlv, hb⟩
  replace ba := ba.below hb
  replace bl := bnext bl hb
  replace hv := hv.below hb
  clear hb q0 q1 q2 qn
  have hll := hl.2.1
  have hkl : K < l.length := by omega
  obtain ⟨c0, c1⟩ := hl.cell (k := K) hkl
  have hxk := hl.2.2 l[K] (List.getElem_mem hkl)
  have hvk : l[K].val = colL ⟨x, (h : Int), xs⟩ K := by
    have e1 : (l.map Cl.val)[K]? = (colsL ⟨x, (h : Int), xs⟩ (K + 1))[K]? := by rw [hlv]
    rw [List.getElem?_map, List.getElem?_eq_getElem hkl] at e1
    simp [colsL, List.getElem?_range] at e1
    exact e1
  obtain ⟨z, hz⟩ : ∃ z, l[K] = z := ⟨_, rfl⟩
  rw [hz] at c0 c1 hxk hvk
  have hps : z.ps = (colL ⟨x, (h : Int), xs⟩ K).1 := congrArg Prod.fst hvk
  have hcl : z.cl = (colL ⟨x, (h : Int), xs⟩ K).2 := congrArg Prod.snd hvk
  rw [← hps] at HP1
  have hgl := (World.ownsRow.lt hl.1 g rfl).2
  rw [← hcl] at hcb
  rw [← hps] at hlb
  have HFN : Hid ((colL ⟨x, (h : Int), xs⟩ K).2 + loopsOf (colL ⟨x, (h : Int), xs⟩ K).1 (nbrsK (2 * h)) (2 * h) = z.cl + loopsOf z.ps (nbrsK (2 * h)) (2 * h)) := Lib.hid (by rw [hps, hcl])
  have hzp : z.ps.length = 2 * h := hxk.2
  have hzi := hxk.1
  have hloop : Hid (loopsOf z.ps (nbrs (2 * h)) z.ps.length = loopsOf z.ps (nbrsK (2 * h)) (2 * h)) := Lib.hid (by rw [hzp]; rfl)
  have hkk : (K : Int) + 1 - 1 = K := by omega
  have hkk2 : (K : Int) < (K : Int) + 1 := by omega
  have HCN : Hid (colN ⟨x, (h : Int), xs⟩ = 2 * h) := Lib.hid (by unfold colN; simp only []; omega)
  clear hvk hps hcl hz hl hlv hxk hll hkl hPl
  go_wp2
  generalize hV : w3 = V at *
  clear hV
  have KS : Hid (∀ w', Below V.heap.size V w' → (Below V.heap.size V w' ∧ w'.cell? ⟨g, K * 2, none⟩ = some (.slice (some ⟨z.g, 0, none⟩) (2 * h) z.c) ∧ w'.cell? ⟨g, K * 2 + 1, none⟩ = some (.int .i64 z.cl))) := Lib.hid (fun w' hb => ⟨hb, (hb.cell (p := ⟨g, K * 2, none⟩) hgl).trans c0, (hb.cell (p := ⟨g, K * 2 + 1, none⟩) hgl).trans c1⟩)
  have KB : Hid (∀ w', Below V.heap.size V w' → Ints w' 0 (.slice (some ⟨z.g, 0, none⟩) (2 * h) z.c) z.ps ∧ Box w' w.heap.size 41 #[.int .i64 x, .int .i64 (h : Int), .slice A xs.length cA] ∧ Ints w' lo (.slice A xs.length cA) xs) := Lib.hid (fun w' hb => ⟨Row.le (Row.below hzi hb) (Nat.zero_le _), ba.below hb, Row.below hv.1 hb⟩)
  have HLN : Hid ((nbrsK (2 * h)).length = z.ps.length) := Lib.hid (by rw [hzp]; exact hnl)
  have HWS : Hid (IntKind.i64.wrap (z.cl + loopsOf z.ps (nbrsK (2 * h)) (2 * h)) = z.cl + loopsOf z.ps (nbrsK (2 * h)) (2 * h)) := Lib.hid (by rw [IntKind.wrap_i64] <;> omega)
  have HBL := Lib.hid bl
  clear ba hzi bl hv
  go_region_held3 (fun w' => Below V.heap.size V w' ∧ w'.cell? ⟨g, K * 2, none⟩ = some (.slice (some ⟨z.g, 0, none⟩) (2 * h) z.c) ∧ w'.cell? ⟨g, K * 2 + 1, none⟩ = some (.int .i64 z.cl))
    ((refine KS.out _ ?_; first | exact cut_drew | exact hBn))
    ((first
      | (go_at_call 71; go_split_ands; (refine (l09Right_any (KB.out _ (by assumption)).2.1 (KB.out _ (by assumption)).2.2 HO.out HCN.out).mono ?_); rintro e w7 ⟨g7, rfl, hd7, hb7⟩; have hBn := bnext (w := V) (by assumption) hb7)
      | (go_at_call 56; go_split_ands; (refine (l09Loops_any (KB.out _ (by assumption)).1 hd7 HP1.out HP2.out HLN.out).mono ?_); rintro e w8 ⟨rfl, hb8⟩; have hBn := bnext (w := V) (by assumption) hb8)))
  all_goals
    go_split_ands
    rw [HWS.out]
    have hbf := bnext HBL.out hBn
    clear KS KB HWS hb7 hb8 hBn
    go_wp2
    go_ret2
    first
      | exact ⟨by rw [HFN.out]; rfl, hbf⟩
      | (rw [HFN.out]; exact ⟨rfl, hbf⟩)
end Go.Proofs.Ytnldahadldolpaa
