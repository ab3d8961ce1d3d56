/-
  The law FnColumns, walked.
-/
import Derived.Test.YtnldahadldolpaaLawA
import Derived.Test.YtnldahadldolpaaA2Pan
import Derived.Test.YtnldahadldolpaaStrip
import Derived.Test.YtnldahadldolpaaColsC
import Derived.Test.YtnldahadldolpaaCbc
import Derived.Test.YtnldahadldolpaaPlAllB
import Derived.Deep.RegionLaw
import Derived.Test.YtnldahadldolpaaFromR
import Derived.Test.YtnldahadldolpaaFirst
import Derived.Test.YtnldahadldolpaaNest
import Derived.Test.YtnldahadldolpaaLoops
import Derived.Test.YtnldahadldolpaaSame
import Derived.Test.YtnldahadldolpaaCut
import Derived.Deep.RegionHeld3
import Derived.StillTailTactics
namespace Go.Proofs.Ytnldahadldolpaa
open Go.RowKit Knot

theorem nest_of {n : Nat} {P : List Int} (hP : Pairing n P) (hI : IsPr P) (h : Nc (gI P) n) : NestX P := by
  refine ⟨hI, fun i hi j hij hj => ?_⟩
  have hl := hP.len
  obtain ⟨a0, a1, a2, a3⟩ := h.rng i (by omega) (by omega)
  have := (h.nc i j (by omega) (by omega) (by omega) (by omega) (by omega) (by omega)).1 ⟨by omega, hj⟩
  omega
theorem cnt_zero (B : List Int) (kd : Int) : ∀ m : Nat, m ≤ B.length → cntTo B kd m = 0 → ∀ i : Nat, i < m → gI B i ≠ kd
  | 0, _, _, i, hi => absurd hi (by omega)
  | m + 1, hm, h, i, hi => by
    have hp := (cntTo_bd B kd m).1
    unfold cntTo at h
    by_cases e : gI B m = kd
    · rw [if_pos e] at h
      omega
    · rw [if_neg e] at h
      rcases Nat.lt_or_ge i m with h1 | h1
      · exact cnt_zero B kd m (by omega) (by omega) i h1
      · have e2 : i = m := by omega
        subst e2
        exact e
set_option maxRecDepth 20000 in
set_option maxHeartbeats 8000000 in
theorem FnColumns_walk (a0 : Option Addr) (l0 : Nat) (c0 : Nat) (z0 : List Int) (w : World) (r0 : IsRow .u8 w a0 l0 c0 z0) :
    Calls Try.prog 13 #[.slice a0 l0 c0] w fun e w' => e = .returned (.bool true) ∧ Below w.heap.size w w' := by
  by_cases e_0 : (l0 : Int) ≤ 3000
  rotate_left
  · have hd : decide ((l0 : Int) > 3000 ∨ ((0 : Nat) : Int) > 3000) = true := decide_eq_true (by omega)
    go_enter Try.func13, Try.ntmps13
    go_wp2_with fail
    refine (a2Long2_any a0 l0 c0 none 0 0 true hd _).mono ?_
    rintro e w' ⟨rfl, rfl⟩
    go_wp2_with fail
    go_ret
    exact ⟨rfl, Below.refl _ _⟩
  have hd : decide ((l0 : Int) > 3000 ∨ ((0 : Nat) : Int) > 3000) = false := decide_eq_false (by omega)
  go_enter Try.func13, Try.ntmps13
  go_wp2_with fail
  refine (a2Long2_any a0 l0 c0 none 0 0 false hd _).mono ?_
  rintro e w' ⟨rfl, rfl⟩
  clear hd e_0
  go_wp2_with fail
  refine (A2Panel_any r0).mono ?_
  rintro e w1 ⟨W, H, g, B, rfl, hok, hI, hb⟩
  have bl := bnext hb (Joins.below_alloc1 _ (.cells #[.int .i64 W, .int .i64 H, .slice (some ⟨g, 0, none⟩) B.length B.length] 41))
  have bp := Box.new w1 41 #[.int .i64 W, .int .i64 H, .slice (some ⟨g, 0, none⟩) B.length B.length]
  replace hI := hI.alloc (.cells #[.int .i64 W, .int .i64 H, .slice (some ⟨g, 0, none⟩) B.length B.length] 41)
  have sz1 := hb.size
  obtain ⟨pp, hpp⟩ : ∃ pp, w1.heap.size = pp := ⟨_, rfl⟩
  rw [hpp] at bp
  have HP := Lib.hid hok
  have hW8 := hok.w8
  have hW1 := hok.w1
  have hH8 := hok.h8
  have hH1 := hok.h1
  simp only [] at hW8 hW1 hH8 hH1
  obtain ⟨h, rfl⟩ := Int.eq_ofNat_of_zero_le (show 0 ≤ H by omega)
  clear hb hok
  have q0 := bp.cell 0
  have q1 := bp.cell 1
  have q2 := bp.cell 2
  have qn := bp.lt
  simp only [List.getElem?_toArray, List.getElem?_cons_zero, List.getElem?_cons_succ] at q0 q1 q2
  go_wp2_with fail
  try rw [hpp]
  generalize hV : w1.alloc (.cells #[.int .i64 W, .int .i64 (h : Int), .slice (some ⟨g, 0, none⟩) B.length B.length] 41) = V1 at *
  clear hV
  refine (sCountCurves_any hI HP.out).mono ?_
  rintro e w2 ⟨rfl, hb⟩
  replace bp := bp.below hb
  replace hI := hI.below hb
  replace bl := bnext bl hb
  clear hb q0 q1 q2 qn
  have q0 := bp.cell 0
  have q1 := bp.cell 1
  have q2 := bp.cell 2
  have qn := bp.lt
  simp only [List.getElem?_toArray, List.getElem?_cons_zero, List.getElem?_cons_succ] at q0 q1 q2
  obtain ⟨N, hN⟩ : ∃ N, cntP ⟨W, (h : Int), B⟩ = N := ⟨_, rfl⟩
  have HN := Lib.hid hN
  rw [hN]
  clear hN
  obtain ⟨cb, hcb⟩ : ∃ cb, cbM ⟨W, (h : Int), B⟩ 0 = (cb, 0) := ⟨cntTo B 0 B.length, by unfold cbM; rw [if_pos HP.out, if_pos ⟨by omega, by omega⟩]⟩
  have HCB := Lib.hid hcb
  clear hcb
  go_wp2_with fail
  refine (K_spec_CountBreaks hI HCB.out).mono ?_
  rintro e w3 ⟨rfl, hb⟩
  replace bp := bp.below hb
  replace hI := hI.below hb
  replace bl := bnext bl hb
  clear hb q0 q1 q2 qn
  have q0 := bp.cell 0
  have q1 := bp.cell 1
  have q2 := bp.cell 2
  have qn := bp.lt
  simp only [List.getElem?_toArray, List.getElem?_cons_zero, List.getElem?_cons_succ] at q0 q1 q2
  obtain ⟨cs, hcs⟩ : ∃ cs, colsL ⟨W, (h : Int), B⟩ (2 * W).toNat = cs := ⟨_, rfl⟩
  have HCS := Lib.hid hcs
  have HCM : Hid (colsM ⟨W, (h : Int), B⟩ = (cs, 0)) := Lib.hid (by rw [colsM_ok HP.out, ← hcs])
  have hcl : (cs.length : Int) = 2 * W := by rw [← hcs]; simp [colsL]; omega
  have HCL := Lib.hid hcl
  clear hcs hcl
  go_wp2_with fail
  refine (K_impl_ColumnsOf hI HCM.out).mono ?_
  rintro e w4 ⟨A4, c4, rfl, hC, hb⟩
  replace bp := bp.below hb
  replace hI := hI.below hb
  replace bl := bnext bl hb
  clear hb q0 q1 q2 qn
  have q0 := bp.cell 0
  have q1 := bp.cell 1
  have q2 := bp.cell 2
  have qn := bp.lt
  simp only [List.getElem?_toArray, List.getElem?_cons_zero, List.getElem?_cons_succ] at q0 q1 q2
  have HFM : Hid (firstM ⟨W, (h : Int), B⟩ = (nbrs (2 * h), 0, 0)) := Lib.hid (by unfold firstM; rw [if_pos HP.out]; simp)
  go_wp2_with fail
  refine (K_impl_FirstColumn hI HFM.out).mono ?_
  rintro e w5 ⟨A5, c5, rfl, hF, hb⟩
  replace bp := bp.below hb
  replace hI := hI.below hb
  replace hC := hC.below hb
  replace bl := bnext bl hb
  clear hb q0 q1 q2 qn
  -- the columns' row, the first of it
  obtain ⟨n, l, hrow, hval, hgh, hnd, hn1⟩ := hC.ex
  have hll := hrow.2.1
  obtain ⟨A, cA, hA, _, hA2⟩ := hrow.open_
  injection hA with hA3 hA4 hA5
  subst hA3 hA5
  obtain ⟨gc, hgc, _⟩ := hA2 (by have := HCL.out; omega)
  subst hgc
  have hcol : ∀ k : Nat, (k : Int) < 2 * W → ∃ hk : k < l.length, l[k].val = colL ⟨W, (h : Int), B⟩ k := fun k hk => by
    have h1 : k < l.length := by have := HCL.out; omega
    refine ⟨h1, ?_⟩
    have e : (l.map Cl.val)[k]? = cs[k]? := by rw [hval]
    rw [← HCS.out, List.getElem?_map, List.getElem?_eq_getElem h1] at e
    have h2 : k < (2 * W).toNat := by omega
    simp [colsL, List.getElem?_range, h2] at e
    exact e
  have hcn : colN ⟨W, (h : Int), B⟩ = 2 * h := by unfold colN; simp only []; omega
  have HCO := Lib.hid hcol
  have HCN := Lib.hid hcn
  have HRW := Lib.hid hrow
  obtain ⟨k0, hv0⟩ := hcol 0 (by omega)
  obtain ⟨d0, d1⟩ := hrow.cell (k := 0) k0
  have hx0 := hrow.2.2 l[0] (List.getElem_mem k0)
  have hps0 : l[0].ps = nbrs (2 * h) := by have := congrArg Prod.fst hv0; simp only [Cl.val] at this; rw [this]; show (nbrsK (colN _)) = _; rw [hcn]; rfl
  have hcl0 : l[0].cl = 0 := congrArg Prod.snd hv0
  have gl := (World.ownsRow.lt hrow.1 gc rfl).2
  rw [hcl0] at d1
  simp only [Nat.zero_mul] at d0 d1
  obtain ⟨pc, hpc⟩ : ∃ pc, w5.heap.size = pc := ⟨_, rfl⟩
  have bc := Box.new w5 38 #[.slice A5 (nbrs (2 * h)).length c5, .int .i64 0]
  have hbz := Joins.below_alloc1 w5 (.cells #[.slice A5 (nbrs (2 * h)).length c5, .int .i64 0] 38)
  have hcc0 := (hbz.cell (p := ⟨gc, 0, none⟩) gl).trans d0
  have hcc1 := (hbz.cell (p := ⟨gc, 0 + 1, none⟩) gl).trans d1
  replace bp := bp.below hbz
  replace hI := hI.below hbz
  replace hC := hC.below hbz
  replace hF := hF.below hbz
  have hx1 := Row.below hx0.1 hbz
  have hr1 := hrow.below hbz
  replace bl := bnext bl hbz
  have hw2 : IntKind.i64.wrap (2 * W) = 2 * W := by rw [IntKind.wrap_i64]; omega
  have hne : ((cs.length : Int) != 2 * W) = false := by have := HCL.out; simp [this]
  have hcp : 0 < cs.length := by have := HCL.out; omega
  have hcpI : (0 : Int) < cs.length := by omega
  rw [hpc] at bc
  clear d0 d1 hcol hrow hval hx0 hcl0 hv0 hcn hbz
  go_wp2_with fail
  try rw [hpc]
  generalize hV : w5.alloc (.cells #[.slice A5 (nbrs (2 * h)).length c5, .int .i64 0] 38) = V at *
  clear hV
  have q0 := bp.cell 0
  have p0 := bc.cell 0
  have p1 := bc.cell 1
  have qn := bp.lt
  have pn := bc.lt
  simp only [List.getElem?_toArray, List.getElem?_cons_zero, List.getElem?_cons_succ] at q0 p0 p1
  have KS : Hid (∀ w', Below V.heap.size V w' → (Below V.heap.size V w' ∧ w'.cell? ⟨pp, 0, none⟩ = some (.int .i64 W) ∧ w'.cell? ⟨pc, 0, none⟩ = some (.slice A5 (nbrs (2 * h)).length c5) ∧ w'.cell? ⟨pc, 1, none⟩ = some (.int .i64 0) ∧ w'.cell? ⟨gc, 0, none⟩ = some (.slice (some ⟨l[0].g, 0, none⟩) n l[0].c) ∧ w'.cell? ⟨gc, 0 + 1, none⟩ = some (.int .i64 0))) :=
    Lib.hid (fun w' hb => ⟨hb, (bp.below hb).cell 0, (bc.below hb).cell 0, (bc.below hb).cell 1, (hb.cell (p := ⟨gc, 0, none⟩) (World.ownsRow.lt hr1.1 gc rfl).2).trans hcc0, (hb.cell (p := ⟨gc, 0 + 1, none⟩) (World.ownsRow.lt hr1.1 gc rfl).2).trans hcc1⟩)
  have KB : Hid (∀ w', Below V.heap.size V w' → Ints w' 0 (.slice A5 (nbrs (2 * h)).length c5) (nbrs (2 * h)) ∧ Ints w' 0 (.slice (some ⟨l[0].g, 0, none⟩) n l[0].c) l[0].ps) := Lib.hid (fun w' hb => ⟨Row.le (Row.below hF.1 hb) (Nat.zero_le _), Row.le (Row.below hx1 hb) (Nat.zero_le _)⟩)
  have HS8 : Hid (decide (nbrs (2 * h) = l[0].ps) = true) := Lib.hid (by rw [hps0]; simp)
  have HBP := Lib.hid (And.intro bp (And.intro hI (And.intro hC (And.intro hr1 bl))))
  clear bp hI hC hr1 bl hF hx1 bc hps0
  first
    | go_region_held3 (fun w' => Below V.heap.size V w' ∧ w'.cell? ⟨pp, 0, none⟩ = some (.int .i64 W) ∧ w'.cell? ⟨pc, 0, none⟩ = some (.slice A5 (nbrs (2 * h)).length c5) ∧ w'.cell? ⟨pc, 1, none⟩ = some (.int .i64 0) ∧ w'.cell? ⟨gc, 0, none⟩ = some (.slice (some ⟨l[0].g, 0, none⟩) n l[0].c) ∧ w'.cell? ⟨gc, 0 + 1, none⟩ = some (.int .i64 0))
        ((refine KS.out _ ?_; first | exact cut_drew | exact hb6 | assumption))
        ((go_at_call 26; go_split_ands; (with_reducible refine (a2Same_any _ _ _ _ _ _ _ (KB.out _ (by assumption)).1 (KB.out _ (by assumption)).2 true HS8.out).mono ?_); rintro e w6 ⟨rfl, hd6⟩; have hb6 := bnext (w := V) (by assumption) (bdrawn hd6); clear hd6))
    | fail
  clear KS KB HS8 q0 p0 p1 hcc0 hcc1
  have hB8 := hb6
  clear hb6
  go_wp2
  go_loopw [12] (fun s12 wr => ∃ k : Nat, k ≤ cs.length ∧ s12 = .int .i64 k ∧ Below V.heap.size V wr) (fun s12 _ => cs.length - (intOf s12).toNat)
  case atStart => exact ⟨0, Nat.zero_le _, rfl, hB8⟩
  case round =>
    obtain ⟨k, hk, rfl, hb⟩ := hrel
    obtain ⟨bp, hI, hC, hr1, bl⟩ := HBP.out
    replace bp := bp.below hb
    replace hI := hI.below hb
    replace hr1 := hr1.below hb
    replace bl := bnext bl hb
    by_cases hlt : k < cs.length
    · have hlt2 : (k : Int) < cs.length := by omega
      obtain ⟨R, hR⟩ : ∃ R, colR ⟨W, (h : Int), B⟩ (2 * W - 1 - k).toNat = R := ⟨_, rfl⟩
      have HR := Lib.hid hR
      have hkW : (k : Int) < 2 * W := by have := HCL.out; omega
      have HRM : Hid (rightM ⟨W, (h : Int), B⟩ k = (R.1, R.2, 0)) := Lib.hid (by rw [rightM_ok (colCode_ok HP.out ⟨by omega, by simp only []; omega⟩)]; simp only []; rw [hR])
      have q0 := bp.cell 0
      have q1 := bp.cell 1
      have q2 := bp.cell 2
      have qn := bp.lt
      simp only [List.getElem?_toArray, List.getElem?_cons_zero, List.getElem?_cons_succ] at q0 q1 q2
      clear hR hC hr1
      go_wp2_with fail
      refine (K_impl_FromRight hI HRM.out).mono ?_
      rintro e w7 ⟨A7, c7, rfl, hI7, hb7⟩
      replace bp := bp.below hb7
      replace hI := hI.below hb7
      replace bl := bnext bl hb7
      have hb8 := bnext hb hb7
      have hbz := Joins.below_alloc1 w7 (.cells #[.slice A7 R.1.length c7, .int .i64 R.2] 38)
      have br := Box.new w7 38 #[.slice A7 R.1.length c7, .int .i64 R.2]
      replace hI7 := hI7.below hbz
      replace bp := bp.below hbz
      replace hI := hI.below hbz
      replace bl := bnext bl hbz
      have hb9 := bnext hb8 hbz
      have hr1 := HBP.out.2.2.2.1.below hb9
      obtain ⟨pr, hpr⟩ : ∃ pr, w7.heap.size = pr := ⟨_, rfl⟩
      rw [hpr] at br
      clear hb7 hb8 hbz hb
      -- the column k
      obtain ⟨hkl, hvk⟩ := HCO.out k hkW
      obtain ⟨d0, d1⟩ := hr1.cell (k := k) hkl
      have hxk := hr1.2.2 l[k] (List.getElem_mem hkl)
      obtain ⟨z, hz⟩ : ∃ z, l[k] = z := ⟨_, rfl⟩
      rw [hz] at d0 d1 hxk hvk
      have hps : z.ps = (colL ⟨W, (h : Int), B⟩ k).1 := congrArg Prod.fst hvk
      have hcl : z.cl = (colL ⟨W, (h : Int), B⟩ k).2 := congrArg Prod.snd hvk
      have gl2 := (World.ownsRow.lt hr1.1 gc rfl).2
      have hPk := colL_pair HP.out k
      have hRk := colR_pair HP.out (2 * W - 1 - k).toNat
      rw [HCN.out] at hPk hRk
      rw [← hps] at hPk
      rw [HR.out] at hRk
      have HPZ : Hid (IsPr z.ps) := Lib.hid (isPr_of hPk (by omega) (by omega) (by omega))
      have HPR : Hid (IsPr R.1) := Lib.hid (isPr_of hRk (by omega) (by omega) (by omega))
      have r0 := br.cell 0
      have rn := br.lt
      simp only [List.getElem?_toArray, List.getElem?_cons_zero, List.getElem?_cons_succ] at r0
      have HXK := Lib.hid hxk
      have HZC := Lib.hid hcl
      have HZP := Lib.hid hps
      have HPK := Lib.hid (And.intro hPk hRk)
      clear hps hcl hvk hPk hRk hxk
      have HZ := Lib.hid hz
      clear hz
      go_wp2_with fail
      try rw [hpr]
      generalize hV2 : w7.alloc (.cells #[.slice A7 R.1.length c7, .int .i64 R.2] 38) = V2 at *
      clear hV2 q0 q1 q2 qn
      refine (sIsPairing_any _ z.ps true (yes_iff HPZ.out) _ _ HXK.out.1).mono ?_
      rintro e w' ⟨rfl, rfl⟩
      go_wp2_with fail
      refine (sIsPairing_any _ R.1 true (yes_iff HPR.out) _ _ hI7.1).mono ?_
      rintro e w' ⟨rfl, rfl⟩
      go_wp2_with fail
      obtain ⟨q, hq⟩ : ∃ q, loopsOf z.ps R.1 z.ps.length = q := ⟨_, rfl⟩
      have hqb : 0 ≤ loopsOf z.ps R.1 z.ps.length ∧ loopsOf z.ps R.1 z.ps.length ≤ (z.ps.length : Nat) := cycTo_bd _ _ _ _ _
      rw [hq] at hqb
      have HQN : Hid (z.cl + R.2 + q = N) := Lib.hid (by
        have e := columns_count HP.out (x := k) (k := (2 * W - 1 - k).toNat) (by simp only []; omega)
        rw [HN.out, HR.out, ← HZC.out, ← HZP.out, HCN.out, ← HPK.out.1.len, hq] at e
        exact e)
      have HLM : Hid (loopM z.ps R.1 = (q, 0)) := Lib.hid (by unfold loopM; rw [if_pos ⟨HPZ.out, HPR.out⟩, if_pos (by rw [HPK.out.1.len, HPK.out.2.len]), hq])
      have hzl : z.ps.length = 2 * h := HPK.out.1.len
      have HXI : Hid (IntsIn V2 0 V2.heap.size (.slice (some ⟨z.g, 0, none⟩) n z.c) z.ps) := Lib.hid (IntsIn.ofInts (Row.le HXK.out.1 (Nat.zero_le _)) (by omega))
      have HRI := Lib.hid hI7
      have HBQ := Lib.hid (And.intro bp (And.intro hI (And.intro br (And.intro hr1 (And.intro bl hb9)))))
      have r1 := br.cell 1
      simp only [List.getElem?_toArray, List.getElem?_cons_zero, List.getElem?_cons_succ] at r1
      clear bp hI br hr1 bl hb9 hI7 hzl
      go_wp2
      have KS16 : Hid (∀ w', Below V2.heap.size V2 w' → (Below V2.heap.size V2 w' ∧ w'.cell? ⟨gc, k * 2, none⟩ = some (.slice (some ⟨z.g, 0, none⟩) n z.c) ∧ w'.cell? ⟨pr, 0, none⟩ = some (.slice A7 R.1.length c7))) :=
        Lib.hid (fun w' hb => ⟨hb, (hb.cell (p := ⟨gc, k * 2, none⟩) gl2).trans d0, (hb.cell (p := ⟨pr, 0, none⟩) rn).trans r0⟩)
      first
        | go_region_held3 (fun w' => Below V2.heap.size V2 w' ∧ w'.cell? ⟨gc, k * 2, none⟩ = some (.slice (some ⟨z.g, 0, none⟩) n z.c) ∧ w'.cell? ⟨pr, 0, none⟩ = some (.slice A7 R.1.length c7))
          ((refine KS16.out _ ?_; first | exact hB10 | exact cut_drew | assumption))
          ((go_at_call 20; go_split_ands; (with_reducible refine (K_spec_LoopsOf (HXI.out.below (by assumption)) (HRI.out.below (by assumption)) HLM.out).mono ?_); rintro e w10 ⟨rfl, hb10⟩; have hB10 := bnext (w := V2) (by assumption) hb10))
        | fail
      all_goals
        try simp only [List.getElem_toArray, List.getElem_cons_zero, List.getElem_cons_succ, Act.put, List.setIfInBounds_toArray, List.set_cons_zero, List.set_cons_succ]
        have HB10 := Lib.hid hB10
        clear hb10 hB10 KS16
        have zlb := colL_bd HP.out k
        rw [← HZC.out] at zlb
        have rlb := colR_bd HP.out (2 * W - 1 - k).toNat
        rw [HR.out] at rlb
        have hzl : z.ps.length = 2 * h := HPK.out.1.len
        have hwa : IntKind.i64.wrap (z.cl + R.2) = z.cl + R.2 := by rw [IntKind.wrap_i64]; omega
        have hwb : IntKind.i64.wrap (z.cl + R.2 + q) = z.cl + R.2 + q := by rw [IntKind.wrap_i64]; omega
        have hnq : ((z.cl + R.2 + q) != N) = false := by rw [HQN.out]; simp
        obtain ⟨bp, hI, br, hr1, bl, hb9⟩ := HBQ.out
        have brk := br.below HB10.out
        have hrk := hr1.below HB10.out
        obtain ⟨e0, e1⟩ := hrk.cell (k := k) hkl
        rw [HZ.out] at e0 e1
        have t1 := brk.cell 1
        have tn := brk.lt
        have gl3 := (World.ownsRow.lt hrk.1 gc rfl).2
        simp only [List.getElem?_toArray, List.getElem?_cons_zero, List.getElem?_cons_succ] at t1
        clear zlb rlb hzl bp hI br hr1 bl hb9 brk hrk d0 d1 r0 r1 rn gl2
        have HXN : Hid (IntsIn w10 0 V2.heap.size (.slice (some ⟨z.g, 0, none⟩) n z.c) z.ps) := Lib.hid (HXI.out.below HB10.out)
        have HXD : Hid (IntsIn w10.drew 0 V2.heap.size (.slice (some ⟨z.g, 0, none⟩) n z.c) z.ps) := Lib.hid (HXN.out.below cut_drew)
        have HBD : Hid (Below w10.heap.size w10 w10.drew) := Lib.hid cut_drew
        go_wp2
        go_cut [147] (fun s147 wc => s147 = .bool false ∧ Below w10.heap.size w10 wc)
        case first =>
          by_cases hcz : cb = 0
          case pos =>
            have hc0 : (cb == 0) = true := by simp [hcz]
            have HNS : Hid (nestM z.ps = true) := Lib.hid ((nestM_iff (rfl : nestM z.ps = nestM z.ps)).2 (nest_of HPK.out.1 HPZ.out (by
              have hcc := HCB.out
              unfold cbM at hcc
              rw [if_pos HP.out, if_pos ⟨by omega, by omega⟩] at hcc
              have hce : cntTo B 0 B.length = cb := congrArg Prod.fst hcc
              rw [hcz] at hce
              have hnz := cnt_zero B 0 B.length (Nat.le_refl _) hce
              have := colL_nested HP.out (by
                intro x hx
                obtain ⟨i, hi, rfl⟩ := List.getElem_of_mem hx
                have := hnz i hi
                rwa [gI_nat _ _ hi] at this) k (by simp only []; omega)
              rw [HCN.out, ← HZP.out] at this
              exact this)))
            subst hcz
            clear hc0
            rw [HQN.out] at hwb hnq
            have hqn := HQN.out
            obtain ⟨zc, hzc⟩ : ∃ zc, z.cl = zc := ⟨_, rfl⟩
            obtain ⟨rc, hrc⟩ : ∃ rc, R.2 = rc := ⟨_, rfl⟩
            rw [hzc] at e1 hwa hqn
            rw [hrc] at t1 hwa hqn
            obtain ⟨s1, hs1⟩ : ∃ s1, zc + rc = s1 := ⟨_, rfl⟩
            rw [hs1] at hqn
            replace hwa : IntKind.i64.wrap (zc + rc) = s1 := by rw [hwa, hs1]
            have hqN : IntKind.i64.wrap (s1 + q) = N := by rw [hqn]; exact hwb
            clear hwb hzc hrc hs1 hqn hgh hnd hn1 hA2 hA4 gl hpc hw2 hne hcp hcpI qn pn hB8 hq hpr
            have HSE : Hid (∀ w', Below w10.heap.size w10 w' → (Below w10.heap.size w10 w' ∧ w'.cell? ⟨gc, k * 2, none⟩ = some (.slice (some ⟨z.g, 0, none⟩) n z.c) ∧ w'.cell? ⟨gc, k * 2 + 1, none⟩ = some (.int .i64 zc) ∧ w'.cell? ⟨pr, 1, none⟩ = some (.int .i64 rc))) := Lib.hid (fun w' hb => ⟨hb, (hb.cell (p := ⟨gc, k * 2, none⟩) gl3).trans e0, (hb.cell (p := ⟨gc, k * 2 + 1, none⟩) gl3).trans e1, (hb.cell (p := ⟨pr, 1, none⟩) tn).trans t1⟩)
            first
              | go_region_held3 (fun w' => Below w10.heap.size w10 w' ∧ w'.cell? ⟨gc, k * 2, none⟩ = some (.slice (some ⟨z.g, 0, none⟩) n z.c) ∧ w'.cell? ⟨gc, k * 2 + 1, none⟩ = some (.int .i64 zc) ∧ w'.cell? ⟨pr, 1, none⟩ = some (.int .i64 rc))
                ((refine HSE.out _ ?_; first | exact cut_drew | exact hB11 | assumption))
                ((go_at_call 19; go_split_ands; (with_reducible refine (K_impl_IsNested (HXN.out.below (by assumption)) HNS.out).mono ?_); rintro e w11 ⟨rfl, hb11⟩; have hB11 := bnext (w := w10) (by assumption) hb11))
              | fail
            have HB11 : Hid (Below w10.heap.size w10 w11) := Lib.hid hB11
            clear hB11 hb11 e0 e1 t1 tn gl3 hwa hqN hnq HSE HNS
            go_wp2_with fail
            go_meet
            exact ⟨rfl, HB11.out⟩
          case neg =>
            rw [HQN.out] at hwb hnq
            have hqn := HQN.out
            obtain ⟨zc, hzc⟩ : ∃ zc, z.cl = zc := ⟨_, rfl⟩
            obtain ⟨rc, hrc⟩ : ∃ rc, R.2 = rc := ⟨_, rfl⟩
            rw [hzc] at e1 hwa hqn
            rw [hrc] at t1 hwa hqn
            obtain ⟨s1, hs1⟩ : ∃ s1, zc + rc = s1 := ⟨_, rfl⟩
            rw [hs1] at hqn
            replace hwa : IntKind.i64.wrap (zc + rc) = s1 := by rw [hwa, hs1]
            have hqN : IntKind.i64.wrap (s1 + q) = N := by rw [hqn]; exact hwb
            clear hwb hzc hrc hs1 hqn hgh hnd hn1 hA2 hA4 gl hpc hw2 hne hcp hcpI qn pn hB8 hq hpr
            go_quiet (fail)
            obtain ⟨nq1, hnq1⟩ : ∃ m, m = nq := ⟨_, rfl⟩
            rw [← hnq1]
            have HB11 : Hid (Below w10.heap.size w10 (w10.drewN nq1)) := Lib.hid (below_drewN _ _ _)
            clear hnq1 e0 e1 t1 tn gl3 hwa hqN hnq
            generalize (w10.drewN nq1) = w11 at HB11 ⊢
            go_wp2_with fail
            go_meet
            exact ⟨rfl, HB11.out⟩
        case rest =>
          obtain ⟨rfl, hb11⟩ := hcut
          obtain ⟨w11, hW11⟩ : ∃ x, x = wc := ⟨wc, rfl⟩
          subst hW11
          have HB11 : Hid (Below V2.heap.size V2 w11) := Lib.hid (bnext HB10.out hb11)
          clear hb11 e0 e1 t1 tn gl3 hwa hwb hnq hgh hnd hn1 hA2 hA4 gl hpc hw2 hne hcp hcpI qn pn hB8 hq hpr
          obtain ⟨bp, hI, _, hr1, bl, hb9⟩ := HBQ.out
          replace bp := bp.below HB11.out
          replace hI := hI.below HB11.out
          replace hr1 := hr1.below HB11.out
          have hb12 := bnext hb9 HB11.out
          have HXK2 : Hid (ClOk n w11 w3.heap.size z) := Lib.hid ⟨Row.below HXK.out.1 HB11.out, HXK.out.2⟩
          clear hb9 bl
          by_cases hk0 : k = 0
          · subst hk0
            have HB13 := Lib.hid hb12
            clear bp hI hr1 hb12
            go_wp2
            go_roundw
            case rel => exact ⟨1, by omega, rfl, HB13.out⟩
            case measure => simp [intOf]; omega
          · obtain ⟨j, rfl⟩ : ∃ j, k = j + 1 := ⟨k - 1, by omega⟩
            have hjW : (j : Int) < 2 * W := by omega
            obtain ⟨hjl, hvj⟩ := HCO.out j hjW
            obtain ⟨d0, d1⟩ := hr1.cell (k := j) hjl
            obtain ⟨f0, f1⟩ := hr1.cell (k := j + 1) hkl
            have hxj := hr1.2.2 l[j] (List.getElem_mem hjl)
            obtain ⟨y, hy⟩ : ∃ y, l[j] = y := ⟨_, rfl⟩
            rw [hy] at d0 d1 hxj hvj
            rw [HZ.out] at f0 f1
            have gl2 := (World.ownsRow.lt hr1.1 gc rfl).2
            have hyp : y.ps = (colL ⟨W, (h : Int), B⟩ j).1 := congrArg Prod.fst hvj
            have hyc : y.cl = (colL ⟨W, (h : Int), B⟩ j).2 := congrArg Prod.snd hvj
            have hPj := colL_pair HP.out j
            rw [HCN.out, ← hyp] at hPj
            have ylb := colL_bd HP.out j
            rw [← hyc] at ylb
            have HNM : Hid (nextM ⟨W, (h : Int), B⟩ j y.ps y.cl = (z.ps, z.cl, 0)) := Lib.hid (by
              rw [nextM_ok (colCode_ok HP.out ⟨by omega, by simp only []; omega⟩) (by simp only []; push_cast at hkW; omega) ⟨isPr_of hPj (by omega) (by omega) (by omega), by rw [hPj.len]; simp, by omega, by omega⟩, HZP.out, HZC.out, hyp, hyc]
              rfl)
            have HYI : Hid (IntsIn w11 0 w11.heap.size (.slice (some ⟨y.g, 0, none⟩) n y.c) y.ps) := Lib.hid (IntsIn.ofInts (Row.le hxj.1 (Nat.zero_le _)) (by rw [hPj.len]; omega))
            have HII := Lib.hid hI
            have j1 : (j : Int) < cs.length := by omega
            have j2 : (j : Int) + 1 < cs.length := by omega
            have hjn : ((j : Int) + 1).toNat = j + 1 := by omega
            have hj0 : ((j : Int) + 1 - 1) = j := by omega
            have hjw : IntKind.i64.wrap (j : Int) = j := by rw [IntKind.wrap_i64]; omega
            have hjz : ¬ ((j : Int) + 1 = 0) := by omega
            have h0j : (0 : Int) ≤ (j : Int) + 1 := by omega
            have KN : Hid (∀ w', Below w11.heap.size w11 w' → (Below w11.heap.size w11 w' ∧ w'.cell? ⟨pp, 0, none⟩ = some (.int .i64 W) ∧ w'.cell? ⟨pp, 1, none⟩ = some (.int .i64 (h : Int)) ∧ w'.cell? ⟨pp, 2, none⟩ = some (.slice (some ⟨g, 0, none⟩) B.length B.length) ∧ w'.cell? ⟨gc, j * 2, none⟩ = some (.slice (some ⟨y.g, 0, none⟩) n y.c) ∧ w'.cell? ⟨gc, j * 2 + 1, none⟩ = some (.int .i64 y.cl))) :=
              Lib.hid (fun w' hb => ⟨hb, (bp.below hb).cell 0, (bp.below hb).cell 1, (bp.below hb).cell 2, (hb.cell (p := ⟨gc, j * 2, none⟩) gl2).trans d0, (hb.cell (p := ⟨gc, j * 2 + 1, none⟩) gl2).trans d1⟩)
            have q0 := bp.cell 0
            have q1 := bp.cell 1
            have q2 := bp.cell 2
            have qn := bp.lt
            simp only [List.getElem?_toArray, List.getElem?_cons_zero, List.getElem?_cons_succ] at q0 q1 q2
            have HFF := Lib.hid (And.intro f0 (And.intro f1 gl2))
            have HB13 := Lib.hid hb12
            have HY := Lib.hid hy
            clear bp hI hr1 hb12 hyp hyc hPj ylb hxj hvj f0 f1 hy
            go_wp2
            go_cut [17, 18] (fun s17 s18 wc => ∃ (pb : Nat) (An : Option Addr) (cn : Nat), s17 = .pointer (some ⟨pb, 0, none⟩) ∧ s18 = .int .i64 0 ∧ Box wc pb 38 #[.slice An z.ps.length cn, .int .i64 z.cl] ∧ Ints wc 0 (.slice An z.ps.length cn) z.ps ∧ w11.heap.size ≤ pb ∧ Below w11.heap.size w11 wc)
            case first =>
              go_region_held3 (fun w' => Below w11.heap.size w11 w' ∧ w'.cell? ⟨pp, 0, none⟩ = some (.int .i64 W) ∧ w'.cell? ⟨pp, 1, none⟩ = some (.int .i64 (h : Int)) ∧ w'.cell? ⟨pp, 2, none⟩ = some (.slice (some ⟨g, 0, none⟩) B.length B.length) ∧ w'.cell? ⟨gc, j * 2, none⟩ = some (.slice (some ⟨y.g, 0, none⟩) n y.c) ∧ w'.cell? ⟨gc, j * 2 + 1, none⟩ = some (.int .i64 y.cl))
                ((refine KN.out _ ?_; first | exact cut_drew | exact hBz | exact cut_alloc (by assumption) _ | exact cut_alloc cut_drew _ | (refine cut_set (cut_set (by assumption) ?_ _) ?_ _ <;> (first | exact Nat.le_refl _ | exact cut_le (V := w11) (by assumption))) | assumption))
                ((go_at_call 48; go_split_ands; have hBp := cut_le (V := w11) (by assumption); (with_reducible refine (K_impl_NextColumn (HII.out.below (by assumption)) (HYI.out.below (by assumption)) HNM.out).mono ?_); rintro e w12 ⟨An, cn, rfl, rh0, hbz⟩; have hBz := bnext (w := w11) (by assumption) hbz; (first | (have hz := (Box.new _ 38 #[.slice none 0 0, .int .i64 0]).below hbz) | (have hz := (cut_drewbox (Box.new _ 38 #[.slice none 0 0, .int .i64 0])).below hbz) | skip); try (skip; have z0 := hz.cell 0; have y0 := hz.free 0; have z1 := hz.cell 1; have y1 := hz.free 1; have zn := hz.lt)))
              all_goals go_wp2_with fail
              all_goals go_meet
              all_goals exact ⟨_, _, _, rfl, rfl, by first | exact Box.new _ _ _ | exact cut_box2 hz _ _, by first | exact Row.le (Row.alloc rh0.1 _) (Nat.zero_le _) | exact Row.le rh0.1 (Nat.zero_le _) | exact Row.le (Row.setCell (Row.setCell rh0.1 (by intro k hk; have h1 := (Row.lt rh0.1 hk).1; (try simp only [World.size_alloc, World.size_drew, World.size_setCell] at h1 ⊢); (try dsimp only); omega) _) (by intro k hk; have h1 := (Row.lt rh0.1 hk).1; (try simp only [World.size_alloc, World.size_drew, World.size_setCell] at h1 ⊢); (try dsimp only); omega) _) (Nat.zero_le _), by first | exact Nat.le_refl _ | exact cut_le (V := w11) (by assumption), by first | exact cut_alloc (by assumption) _ | exact cut_set (cut_set (by assumption) (by first | exact Nat.le_refl _ | exact cut_le (V := w11) (by assumption)) _) (by first | exact Nat.le_refl _ | exact cut_le (V := w11) (by assumption)) _⟩
            case rest =>
              obtain ⟨pb, An, cn, rfl, rfl, bn, hNx, hpb, hx⟩ := hcut
              obtain ⟨w13, hW13⟩ : ∃ x, x = wc := ⟨wc, rfl⟩
              subst hW13
              have hb14 := bnext HB13.out hx
              have p0 := bn.cell 0
              have p1 := bn.cell 1
              have pn := bn.lt
              simp only [List.getElem?_toArray, List.getElem?_cons_zero, List.getElem?_cons_succ] at p0 p1
              have f0 := (hx.cell (p := ⟨gc, (j + 1) * 2, none⟩) HFF.out.2.2).trans HFF.out.1
              have f1 := (hx.cell (p := ⟨gc, (j + 1) * 2 + 1, none⟩) HFF.out.2.2).trans HFF.out.2.1
              have gl4 : gc < w13.heap.size := by have := hx.size; have := HFF.out.2.2; omega
              have hZ2 : Ints w13 0 (.slice (some ⟨z.g, 0, none⟩) n z.c) z.ps := Row.le (Row.below HXK2.out.1 hx) (Nat.zero_le _)
              have KB : Hid (∀ w', Below w13.heap.size w13 w' → Ints w' 0 (.slice An z.ps.length cn) z.ps ∧ Ints w' 0 (.slice (some ⟨z.g, 0, none⟩) n z.c) z.ps) := Lib.hid (fun w' hb => ⟨Row.below hNx hb, Row.below hZ2 hb⟩)
              have KS : Hid (∀ w', Below w13.heap.size w13 w' → (Below w13.heap.size w13 w' ∧ w'.cell? ⟨pb, 0, none⟩ = some (.slice An z.ps.length cn) ∧ w'.cell? ⟨pb, 1, none⟩ = some (.int .i64 z.cl) ∧ w'.cell? ⟨gc, (j + 1) * 2, none⟩ = some (.slice (some ⟨z.g, 0, none⟩) n z.c) ∧ w'.cell? ⟨gc, (j + 1) * 2 + 1, none⟩ = some (.int .i64 z.cl))) :=
                Lib.hid (fun w' hb => ⟨hb, (bn.below hb).cell 0, (bn.below hb).cell 1, (hb.cell (p := ⟨gc, (j + 1) * 2, none⟩) gl4).trans f0, (hb.cell (p := ⟨gc, (j + 1) * 2 + 1, none⟩) gl4).trans f1⟩)
              have HS21 : Hid (decide (z.ps = z.ps) = true) := Lib.hid (by simp)
              have HB14 := Lib.hid hb14
              clear hb14 bn hNx hx hZ2 KN q0 q1 q2 qn d0 d1
              go_wp2
              go_region_held3 (fun w' => Below w13.heap.size w13 w' ∧ w'.cell? ⟨pb, 0, none⟩ = some (.slice An z.ps.length cn) ∧ w'.cell? ⟨pb, 1, none⟩ = some (.int .i64 z.cl) ∧ w'.cell? ⟨gc, (j + 1) * 2, none⟩ = some (.slice (some ⟨z.g, 0, none⟩) n z.c) ∧ w'.cell? ⟨gc, (j + 1) * 2 + 1, none⟩ = some (.int .i64 z.cl))
                  ((refine KS.out _ ?_; first | exact cut_drew | exact hb6 | assumption))
                  ((go_at_call 26; go_split_ands; (with_reducible refine (a2Same_any _ _ _ _ _ _ _ (KB.out _ (by assumption)).1 (KB.out _ (by assumption)).2 true (decide_eq_true rfl)).mono ?_); rintro e w14 ⟨rfl, hd6⟩; have hb6 := bnext (w := w13) (by assumption) (bdrawn hd6); clear hd6))
              have HB15 := Lib.hid (bnext HB14.out hb6)
              clear hb6 KS KB f0 f1 p0 p1
              go_wp2
              go_roundw
              case rel => exact ⟨j + 2, by omega, by go_num, HB15.out⟩
              case measure => simp [intOf]; omega
    · have e : k = cs.length := by omega
      subst e
      have hbb := bl
      clear bp hI hC hr1 bl
      go_wp2
      go_ret
      exact ⟨rfl, hbb⟩
end Go.Proofs.Ytnldahadldolpaa
