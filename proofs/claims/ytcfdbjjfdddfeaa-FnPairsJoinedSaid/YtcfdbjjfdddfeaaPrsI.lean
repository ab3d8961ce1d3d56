/-
  All points and all pairs of joined segments, by the program.
-/
import Derived.Test.YtcfdbjjfdddfeaaPrsS
import Derived.Test.YtcfdbjjfdddfeaaSortW
import Derived.Test.YtcfdbjjfdddfeaaSortP
import Derived.Test.YtcfdbjjfdddfeaaPts
import Derived.Test.YtcfdbjjfdddfeaaFndC
namespace Go.Proofs.Ytcfdbjjfdddfeaa
open Go.RowKit Knot

set_option maxHeartbeats 8000000 in
theorem allPoints_any {w : World} {D : Nat} {W H : Int} {v : Value} {Bs : List Int} (hI : Ints w D v Bs) (hW : 1 ≤ W ∧ W ≤ 8) (hH : 1 ≤ H ∧ H ≤ 8) :
    Calls Try.prog 90 #[.agg #[.int .i64 W, .int .i64 H, v]] w fun e w' => ∃ g c, e = .returned (.slice (some ⟨g, 0, none⟩) (allPt W (2 * H + 1).toNat).length c) ∧
      PRow w' w.heap.size (.slice (some ⟨g, 0, none⟩) (allPt W (2 * H + 1).toNat).length c) (allPt W (2 * H + 1).toNat).length (ptF (allPt W (2 * H + 1).toNat)) ∧ Below w.heap.size w w' := by
  obtain ⟨A, cA, rfl, _, _⟩ := hI.open_
  obtain ⟨W1, W8⟩ := hW
  obtain ⟨H1, H8⟩ := hH
  obtain ⟨W, rfl⟩ := Int.eq_ofNat_of_zero_le (show 0 ≤ W by omega)
  obtain ⟨H, rfl⟩ := Int.eq_ofNat_of_zero_le (show 0 ≤ H by omega)
  have bl := Joins.below_alloc2 w (.cells #[.int .i64 W, .int .i64 H, .slice A Bs.length cA] 56) (.cells #[] 103)
  have ba := (Box.new w 56 #[.int .i64 W, .int .i64 H, .slice A Bs.length cA]).alloc (.cells #[] 103)
  have h0 := PRow.none_ (w.alloc (.cells #[.int .i64 W, .int .i64 H, .slice A Bs.length cA] 56))
  rw [World.size_alloc] at h0
  have HA : Hid (∀ w', Below (w.heap.size + 1) ((w.alloc (.cells #[.int .i64 W, .int .i64 H, .slice A Bs.length cA] 56)).alloc (.cells #[] 103)) w' → Box w' w.heap.size 56 #[.int .i64 W, .int .i64 H, .slice A Bs.length cA] ∧ Below w.heap.size w w') := Lib.hid (fun w' hb => ⟨(hb.block w.heap.size (by omega)).trans ba, bl.trans (hb.mono (by omega))⟩)
  have hsz : w.heap.size + 1 ≤ ((w.alloc (.cells #[.int .i64 W, .int .i64 H, .slice A Bs.length cA] 56)).alloc (.cells #[] 103)).heap.size := by simp
  have q0 := ba.cell 0
  have q1 := ba.cell 1
  have qn := ba.lt
  simp only [List.getElem?_toArray, List.getElem?_cons_zero, List.getElem?_cons_succ] at q0 q1
  clear bl ba hI
  go_enter Try.func90, Try.ntmps90
  go_wp2
  generalize hV : (w.alloc (.cells #[.int .i64 W, .int .i64 H, .slice A Bs.length cA] 56)).alloc (.cells #[] 103) = V at *
  clear hV q0 q1 qn
  go_loopw [3, 11] (fun s t wr => ∃ (m g c : Nat), m ≤ 2 * H + 1 ∧ s = .slice (some ⟨g, 0, none⟩) (allPt W m).length c ∧ t = .int .i64 m ∧ PRow wr (w.heap.size + 1) (.slice (some ⟨g, 0, none⟩) (allPt W m).length c) (allPt W m).length (ptF (allPt W m)) ∧ Below (w.heap.size + 1) V wr) (fun _ t _ => 2 * H + 1 - (intOf t).toNat)
  case atStart => exact ⟨0, _, 0, Nat.zero_le _, rfl, rfl, h0, Below.refl _ _⟩
  case round =>
    obtain ⟨m, g, c, hm, rfl, rfl, hr, hb⟩ := hrel
    clear h0
    by_cases hlt : m < 2 * H + 1
    · have i1 : (m : Int) < 2 * (H : Int) + 1 := by omega
      obtain ⟨ba, _⟩ := HA.out _ hb
      have q0 := ba.cell 0
      have qn := ba.lt
      simp only [List.getElem?_toArray, List.getElem?_cons_zero, List.getElem?_cons_succ] at q0
      have hla := allPt_len (W := (W : Int)) (by omega) m
      have HR := Lib.hid hr
      have HBB := Lib.hid hb
      obtain ⟨n0, hn0⟩ : ∃ n0, (allPt W m).length = n0 := ⟨_, rfl⟩
      have HN0 := Lib.hid hn0
      rw [hn0] at hla ⊢
      clear hr hb ba hn0
      go_wp2
      obtain ⟨W1', hW1'⟩ : ∃ x, x = wr := ⟨wr, rfl⟩
      subst hW1'
      clear q0 qn
      go_loopw [3, 18] (fun s t wr => ∃ (k g c : Nat), k ≤ 2 * W + 1 ∧ s = .slice (some ⟨g, 0, none⟩) (n0 + (rowPt m k).length) c ∧ t = .int .i64 k ∧ PRow wr (w.heap.size + 1) (.slice (some ⟨g, 0, none⟩) (n0 + (rowPt m k).length) c) (n0 + (rowPt m k).length) (ptF (allPt W m ++ rowPt m k)) ∧ Below (w.heap.size + 1) V wr) (fun _ t _ => 2 * W + 1 - (intOf t).toNat)
      case atStart => exact ⟨0, g, c, Nat.zero_le _, by simp [rowPt], rfl, by have := HR.out; rw [HN0.out] at this; simpa [rowPt] using this, HBB.out⟩
      case round =>
        obtain ⟨k, g2, c2, hk, rfl, rfl, hr2, hb2⟩ := hrel
        have hlr := rowPt_len (m : Int) k
        by_cases hlk : k < 2 * W + 1
        · have i2 : (k : Int) < 2 * (W : Int) + 1 := by omega
          by_cases ho : ((k : Int) + m) % 2 = 1
          · have hyes := rowPt_yes ho
            have hrm : ((k : Int) + m).tmod 2 = ((k : Int) + m) % 2 := Int.tmod_eq_emod_of_nonneg (by omega)
            have hpl : ptF (allPt W m ++ rowPt m (k + 1)) = ptF (allPt W m ++ rowPt m k) ++ [(k : Int), (m : Int)] := by
              rw [hyes, ← List.append_assoc, ptF_append (allPt W m ++ rowPt m k)]
              rfl
            have hln : (rowPt m (k + 1)).length = (rowPt m k).length + 1 := by rw [hyes]; simp
            have HPL := Lib.hid hpl
            have HLN := Lib.hid hln
            have hlI : n0 + (rowPt m k).length < 1000000000 := by omega
            have hlw : w.heap.size + 1 ≤ wr.heap.size := by have := hb2.size; omega
            generalize (rowPt m k).length = n1 at *
            clear hyes hpl hln
            go_wp2_with (at_builtin; refine append_pt rfl _ _ rfl (w.heap.size + 1) _ (n0 + n1) (.slice (some ⟨g2, 0, none⟩) (n0 + n1) c2) (ptF (allPt W m ++ rowPt m k)) (k : Int) (m : Int) hr2 rfl rfl rfl hlI hlw ?_)
            intro g3 c3 w3 hr3 hg3 _
            rw [← HPL.out] at hr3
            have HR3 := Lib.hid hr3
            have HB3 := Lib.hid (hb2.grown hg3 hlw (fun j hj => (PRow.lt hr2 hj).1))
            clear hr2 hb2 hr3 hg3
            go_wp2
            go_roundw
            case rel => exact ⟨k + 1, g3, c3, by omega, by rw [HLN.out]; rfl, by go_num, by rw [HLN.out]; exact HR3.out, HB3.out⟩
            case measure => simp [intOf]; omega
          · have hno := rowPt_no ho
            have hrm : ((k : Int) + m).tmod 2 = ((k : Int) + m) % 2 := Int.tmod_eq_emod_of_nonneg (by omega)
            have HNO := Lib.hid hno
            have HR3 := Lib.hid hr2
            have HB3 := Lib.hid hb2
            clear hno hr2 hb2
            go_wp2
            go_roundw
            case rel => exact ⟨k + 1, g2, c2, by omega, by rw [HNO.out], by go_num, by rw [HNO.out]; exact HR3.out, HB3.out⟩
            case measure => simp [intOf]; omega
        · have e : k = 2 * W + 1 := by omega
          have i2 : ¬ (k : Int) < 2 * (W : Int) + 1 := by omega
          have hst : allPt W (m + 1) = allPt W m ++ rowPt m k := by
            have : (2 * (W : Int) + 1).toNat = k := by omega
            rw [allPt, this]
          have HST := Lib.hid hst
          have HLN : Hid ((allPt W (m + 1)).length = n0 + (rowPt m k).length) := Lib.hid (by rw [hst, List.length_append, HN0.out])
          have HR3 := Lib.hid hr2
          have HB3 := Lib.hid hb2
          generalize (rowPt m k).length = n1 at *
          clear hst hr2 hb2
          go_wp2
          go_roundw
          case rel => exact ⟨m + 1, g2, c2, by omega, by rw [HLN.out], by go_num, by rw [HLN.out, HST.out]; exact HR3.out, HB3.out⟩
          case measure => simp [intOf]; omega
    · have e : m = 2 * H + 1 := by omega
      have i1 : ¬ (m : Int) < 2 * (H : Int) + 1 := by omega
      have e2 : (2 * (H : Int) + 1).toNat = m := by omega
      have E2 := Lib.hid e2
      have hbf := (HA.out _ hb).2
      have hr' := hr.le (show w.heap.size ≤ w.heap.size + 1 by omega)
      clear hr e2 e
      go_wp2
      go_ret
      exact ⟨g, c, by rw [E2.out]; rfl, by rw [E2.out]; exact hr', hbf⟩
theorem two2p (w : World) (y z : Int) : Ints (w.alloc (.cells #[.int .i64 y, .int .i64 z] 2)) w.heap.size (.slice (some ⟨w.heap.size, 0, none⟩) 2 2) [y, z] :=
  World.ownsRow_lit w #[.int .i64 y, .int .i64 z] 2 (Nat.le_refl _) (by decide) (by simp)
section
variable {w w' : World} {B C n m g c : Nat} {v : Value} {zs : List Int}
theorem trow_keep (h : TRow w B v n zs) (hb : ∀ g, v.ownBlock = some g → g < w.heap.size → w'.heap[g]? = w.heap[g]?) : TRow w' B v n zs := by
  obtain ⟨h1, h2⟩ := h
  refine ⟨h1, ?_⟩
  rcases h2 with h2 | ⟨g, cap, cur, hv, hg, hh, r⟩
  · exact .inl h2
  · have hgl : g < w.heap.size := (Array.getElem?_eq_some_iff.1 hh).1
    refine .inr ⟨g, cap, cur, hv, hg, ?_, r⟩
    rw [hb g (by rw [hv]; rfl) hgl]
    exact hh
theorem trow_below (h : TRow w B v n zs) (hb : Below w.heap.size w w') : TRow w' B v n zs := trow_keep h fun g _ hg => hb.block g hg
theorem trow_cell (h : TRow w B (.slice (some ⟨g, 0, none⟩) m c) n zs) {j : Nat} (hj : j < n * 2) (hz : zs.length = n * 2) : w.cell? ⟨g, j, none⟩ = some (.int .i64 (gI zs (j : Nat))) := by
  have hm : m = n := by
    rcases h.2 with ⟨h2, _⟩ | ⟨g', cap, cur, hv, _⟩
    · cases h2
    · cases hv; rfl
  subst hm
  have := World.ownsRow.cellAt h j hj
  rw [this, gI_nat _ _ (by omega)]
  simp [show j < zs.length by omega]
end
/-- A row of pairs has got one pair more at its end. -/
theorem prs_append {w0 w1 : World} {B g c g' c' : Nat} {l : List Pr} {y : Pr} (h : PrsRow w0 B (.slice (some ⟨g, 0, none⟩) l.length c) l) (hy : PrOk w0 B y) (hr : Row Pr.enc 22 w1 B (.slice (some ⟨g', 0, none⟩) (l.length + 1) c') (l ++ [y])) (hg : w0.grownBy w1 (some g)) :
    PrsRow w1 B (.slice (some ⟨g', 0, none⟩) (l.length + 1) c') (l ++ [y]) := by
  refine ⟨hr, fun x hx => ?_⟩
  have hx0 : PrOk w0 B x := by
    rcases List.mem_append.1 hx with e | e
    · exact h.2 x e
    · rw [List.mem_singleton.1 e]; exact hy
  exact Row.grown hx0 hg fun k hk e => two_rows hx0 h.1 (by decide) hk (by rw [ownBlock_slice]; exact e.symm)
def prsK (p : Pan) (pts : List (Int × Int)) (i : Nat) : List (Int × Int) := ((pts.take i).flatMap (prsAt p)).map nrm
theorem prsK_succ {p : Pan} {pts : List (Int × Int)} {i : Nat} (h : i < pts.length) : prsK p pts (i + 1) = prsK p pts i ++ (pairsP p pts[i].1 pts[i].2).map nrm := by
  unfold prsK
  rw [List.take_succ_eq_append_getElem h, List.flatMap_append, List.map_append]
  simp [prsAt]
theorem flat2_two (l : List (Int × Int)) : ∀ (i : Nat) (h : i < l.length), gI (flat2 l) ((2 * i : Nat) : Int) = l[i].1 ∧ gI (flat2 l) ((2 * i + 1 : Nat) : Int) = l[i].2 := ptF_at l
theorem flat2_len (l : List (Int × Int)) : (flat2 l).length = l.length * 2 := by rw [Nat.mul_comm]; exact ptF_length l
set_option maxRecDepth 20000 in
set_option maxHeartbeats 8000000 in
theorem pairs_any {w : World} {D : Nat} {W H : Int} {v : Value} {Bs : List Int} (hI : Ints w D v Bs) (hp : Ok ⟨W, H, Bs⟩) :
    Calls Try.prog 77 #[.agg #[.int .i64 W, .int .i64 H, v]] w fun e w' => ∃ g c l, e = .returned (.slice (some ⟨g, 0, none⟩) l.length c) ∧ PrsRow w' w.heap.size (.slice (some ⟨g, 0, none⟩) l.length c) l ∧ l.map Pr.val = putAll [] (allQ ⟨W, H, Bs⟩) ∧
      (l.map Pr.g).Nodup ∧ Below w.heap.size w w' := by
  obtain ⟨A, cA, rfl, _, _⟩ := hI.open_
  have bl := Joins.below_alloc2 w (.cells #[.int .i64 W, .int .i64 H, .slice A Bs.length cA] 56) (.cells #[] 22)
  have ba := (Box.new w 56 #[.int .i64 W, .int .i64 H, .slice A Bs.length cA]).alloc (.cells #[] 22)
  have h0 : Row Pr.enc 22 ((w.alloc (.cells #[.int .i64 W, .int .i64 H, .slice A Bs.length cA] 56)).alloc (.cells #[] 22)) (w.heap.size + 1) (.slice (some ⟨w.heap.size + 1, 0, none⟩) 0 0) [] := by
    have := Row.none_ (α := Pr) (enc := Pr.enc) (E := 22) (w.alloc (.cells #[.int .i64 W, .int .i64 H, .slice A Bs.length cA] 56))
    rw [World.size_alloc] at this
    exact this
  have hI2 := Row.below hI bl
  have hlow : ∀ g, (Value.slice A Bs.length cA).ownBlock = some g → g < w.heap.size := fun g hg => (Row.lt hI hg).2
  have q0 := ba.cell 0
  have q1 := ba.cell 1
  have q2 := ba.cell 2
  have qn := ba.lt
  simp only [List.getElem?_toArray, List.getElem?_cons_zero, List.getElem?_cons_succ] at q0 q1 q2
  have HP := Lib.hid hp
  have hsz : ((w.alloc (.cells #[.int .i64 W, .int .i64 H, .slice A Bs.length cA] 56)).alloc (.cells #[] 22)).heap.size = w.heap.size + 2 := by simp
  clear hI hp
  go_enter Try.func77, Try.ntmps77
  go_wp2_with fail
  generalize hV : (w.alloc (.cells #[.int .i64 W, .int .i64 H, .slice A Bs.length cA] 56)).alloc (.cells #[] 22) = V at *
  clear hV
  refine (allPoints_any hI2 ⟨HP.out.w1, HP.out.w8⟩ ⟨HP.out.h1, HP.out.h8⟩).mono ?_
  rintro e w1 ⟨gp, cp, rfl, hpt, hb1⟩
  obtain ⟨pts, hpts⟩ : ∃ pts, allPt W (2 * H + 1).toNat = pts := ⟨_, rfl⟩
  have hpm : ∀ q ∈ pts, Has ⟨W, H, Bs⟩ q.1 q.2 := fun q hq => by
    rw [← hpts] at hq
    have h1 := (allPt_mem W q _).1 hq
    have h2 := HP.out.h1
    simp only [] at h2
    exact ⟨h1.1, by simp only []; omega, h1.2.2.1, by simp only []; omega, h1.2.2.2.2⟩
  have hpl : pts.length ≤ 300 := by
    rw [← hpts]
    have h1 := allPt_len (show W ≤ 8 from HP.out.w8) (2 * H + 1).toNat
    have h2 := HP.out.h8
    simp only [] at h2
    omega
  rw [hpts] at hpt ⊢
  have HPT := Lib.hid hpts
  have HPM := Lib.hid hpm
  have HA : Hid (∀ w', Below (w.heap.size + 1) V w' → Box w' w.heap.size 56 #[.int .i64 W, .int .i64 H, .slice A Bs.length cA] ∧ Ints w' D (.slice A Bs.length cA) Bs ∧ Below w.heap.size w w') := Lib.hid (fun w' hb => ⟨(hb.block w.heap.size (by omega)).trans ba, Row.keep hI2 fun g hg hl => hb.block g (by have := hlow g hg; omega), bl.trans (hb.mono (by omega))⟩)
  have hr0 : PrsRow w1 (w.heap.size + 1) (.slice (some ⟨w.heap.size + 1, 0, none⟩) 0 0) [] := ⟨Row.below h0 hb1, fun x hx => by simp at hx⟩
  have hpt0 := hpt.le (show w.heap.size + 2 ≤ V.heap.size by omega)
  have hbv : Below (w.heap.size + 1) V w1 := hb1.mono (by omega)
  obtain ⟨n, hn⟩ : ∃ n, pts.length = n := ⟨_, rfl⟩
  have HN := Lib.hid hn
  rw [hn] at hpt0 hpl ⊢
  clear hpts hpm h0 hb1 hI2 ba bl q0 q1 q2 qn hpt hlow hn
  go_wp2
  go_loopw [3, 12] (fun s t wr => ∃ (i g c : Nat) (l : List Pr), i ≤ n ∧ s = .slice (some ⟨g, 0, none⟩) l.length c ∧ t = .int .i64 i ∧ PrsRow wr (w.heap.size + 1) (.slice (some ⟨g, 0, none⟩) l.length c) l ∧ l.map Pr.val = prsK ⟨W, H, Bs⟩ pts i ∧ (l.map Pr.g).Nodup ∧ PRow wr (w.heap.size + 2) (.slice (some ⟨gp, 0, none⟩) n cp) n (ptF pts) ∧ Below (w.heap.size + 1) V wr) (fun _ t _ => n - (intOf t).toNat)
  case atStart => exact ⟨0, _, 0, [], Nat.zero_le _, rfl, rfl, hr0, rfl, by simp, hpt0, hbv⟩
  case round =>
    obtain ⟨i, g, c, l, hi, rfl, rfl, hr, hv, hnd, hpt, hb⟩ := hrel
    clear hr0 hpt0 hbv
    have hll : l.length ≤ 2 * i := by
      have e := congrArg List.length hv
      rw [List.length_map] at e
      rw [e]
      unfold prsK
      rw [List.length_map]
      have h1 := flatQ_len ⟨W, H, Bs⟩ (pts.take i)
      rw [List.length_take] at h1
      omega
    by_cases hlt : i < n
    · have i1 : (i : Int) < n := by omega
      have hin : i < pts.length := by rw [HN.out]; exact hlt
      obtain ⟨x, hx⟩ : ∃ x, pts[i] = x := ⟨_, rfl⟩
      obtain ⟨y, z⟩ := x
      have hh : Has ⟨W, H, Bs⟩ y z := by
        have := HPM.out pts[i] (List.getElem_mem _)
        rw [hx] at this
        exact this
      obtain ⟨f0, f1⟩ := ptF_at pts i hin
      rw [hx] at f0 f1
      have d0 := hpt.cell (j := i * 2) (by omega)
      have d1 := hpt.cell (j := i * 2 + 1) (by omega)
      rw [Nat.mul_comm i 2, f0] at d0
      rw [Nat.mul_comm i 2, f1] at d1
      rw [Nat.mul_comm 2 i] at d0 d1
      simp only [] at d0 d1
      have hsk := prsK_succ (p := ⟨W, H, Bs⟩) hin
      rw [hx] at hsk
      simp only [] at hsk
      obtain ⟨ba, hI, _⟩ := HA.out _ hb
      have hszl := hb.size
      have bl1 := Joins.below_alloc1 wr (.cells #[.int .i64 y, .int .i64 z] 103)
      have hr1 := hr.below bl1
      have hpt1 := hpt.below bl1
      have hI1 := Row.below hI bl1
      have hb1 : Below (w.heap.size + 1) V (wr.alloc (.cells #[.int .i64 y, .int .i64 z] 103)) := hb.alloc (by omega) _
      have q0 := ba.cell 0
      have q1 := ba.cell 1
      have q2 := ba.cell 2
      have qn := ba.lt
      simp only [List.getElem?_toArray, List.getElem?_cons_zero, List.getElem?_cons_succ] at q0 q1 q2
      have HV := Lib.hid hv
      have HND := Lib.hid hnd
      have HSK := Lib.hid hsk
      clear hr hpt hI ba hx f0 f1 hv hnd hsk hb hin
      go_wp2_with fail
      generalize hV : wr.alloc (.cells #[.int .i64 y, .int .i64 z] 103) = V1 at *
      clear hV
      refine (pairsAt_any hI1 HP.out hh).mono ?_
      rintro e w2 ⟨gt, ct, rfl, hT, hb2⟩
      obtain ⟨pr, hpr⟩ : ∃ pr, pairsP ⟨W, H, Bs⟩ y z = pr := ⟨_, rfl⟩
      have hpr2 : pr.length ≤ 2 := by rw [← hpr]; exact pairsP_len _ _ _
      rw [hpr] at hT ⊢
      rw [hpr] at HSK
      have hr2 := hr1.below hb2
      have hpt2 := hpt1.below hb2
      have hbb2 : Below (w.heap.size + 1) V w2 := hb1.trans (hb2.mono (by have := hb1.size; omega))
      have hT2 : TRow w2 0 (.slice (some ⟨gt, 0, none⟩) pr.length ct) pr.length (flat2 pr) := hT.le (Nat.zero_le _)
      clear hr1 hpt1 hI1 hb1 hb2 hpr q0 q1 q2 qn hT bl1 d0 d1
      go_wp2
      go_loopw [3, 20] (fun s t wr => ∃ (j g c : Nat) (l : List Pr), j ≤ pr.length ∧ s = .slice (some ⟨g, 0, none⟩) l.length c ∧ t = .int .i64 j ∧ PrsRow wr (w.heap.size + 1) (.slice (some ⟨g, 0, none⟩) l.length c) l ∧ l.map Pr.val = prsK ⟨W, H, Bs⟩ pts i ++ (pr.take j).map nrm ∧ (l.map Pr.g).Nodup ∧ TRow wr 0 (.slice (some ⟨gt, 0, none⟩) pr.length ct) pr.length (flat2 pr) ∧ PRow wr (w.heap.size + 2) (.slice (some ⟨gp, 0, none⟩) n cp) n (ptF pts) ∧ Below (w.heap.size + 1) V wr) (fun _ t _ => pr.length - (intOf t).toNat)
      case atStart => exact ⟨0, g, c, l, Nat.zero_le _, rfl, rfl, hr2, by rw [HV.out]; simp, HND.out, hT2, hpt2, hbb2⟩
      case round =>
        obtain ⟨j, g, c, l, hj, rfl, rfl, hr, hv, hnd, hT, hpt, hb⟩ := hrel
        clear hr2 hpt2 hbb2 hT2 HV HND hll
        have hll : l.length ≤ 1000 := by
          have e := congrArg List.length hv
          rw [List.length_map] at e
          rw [e, List.length_append]
          unfold prsK
          rw [List.length_map, List.length_map]
          have h1 := flatQ_len ⟨W, H, Bs⟩ (pts.take i)
          rw [List.length_take] at h1
          rw [List.length_take]
          omega
        by_cases hlj : j < pr.length
        · have j1 : (j : Int) < pr.length := by omega
          obtain ⟨q, hq⟩ : ∃ q, pr[j] = q := ⟨_, rfl⟩
          obtain ⟨a, b⟩ := q
          obtain ⟨f0, f1⟩ := flat2_two pr j hlj
          rw [hq] at f0 f1
          have d0 := trow_cell hT (j := j * 2) (by omega) (flat2_len pr)
          have d1 := trow_cell hT (j := j * 2 + 1) (by omega) (flat2_len pr)
          rw [Nat.mul_comm j 2, f0] at d0
          rw [Nat.mul_comm j 2, f1] at d1
          rw [Nat.mul_comm 2 j] at d0 d1
          simp only [] at d0 d1
          have htk : (pr.take (j + 1)).map nrm = (pr.take j).map nrm ++ [nrm (a, b)] := by
            rw [List.take_succ_eq_append_getElem hlj, List.map_append, hq]
            rfl
          obtain ⟨mn, hmn⟩ : ∃ mn, min a b = mn := ⟨_, rfl⟩
          obtain ⟨mx, hmx⟩ : ∃ mx, max a b = mx := ⟨_, rfl⟩
          have hnm : nrm (a, b) = (mn, mx) := by
            rw [← hmn, ← hmx]
            rfl
          have HMN := Lib.hid (And.intro hmn hmx)
          have HTK := Lib.hid (And.intro htk hnm)
          have hszl := hb.size
          obtain ⟨og, hog⟩ : ∃ og, wr.heap.size = og := ⟨_, rfl⟩
          have bl1 := Joins.below_alloc1 wr (.cells #[.int .i64 a, .int .i64 b] 109)
          have bl2 := bnext bl1 (Joins.below_alloc1 _ (.cells #[.int .i64 mn, .int .i64 mx] 2))
          have hrA := hr.below bl2
          have hTA := trow_below hT bl2
          have hPA := hpt.below bl2
          have hbA : Below (w.heap.size + 1) V ((wr.alloc (.cells #[.int .i64 a, .int .i64 b] 109)).alloc (.cells #[.int .i64 mn, .int .i64 mx] 2)) := (hb.alloc (by omega) _).alloc (by simp; omega) _
          have hyA : PrOk ((wr.alloc (.cells #[.int .i64 a, .int .i64 b] 109)).alloc (.cells #[.int .i64 mn, .int .i64 mx] 2)) (w.heap.size + 1) ⟨og + 1, 2, mn, mx⟩ := by
            have := two2p (wr.alloc (.cells #[.int .i64 a, .int .i64 b] 109)) mn mx
            rw [World.size_alloc, hog] at this
            exact Row.le this (by omega)
          have hszA : ((wr.alloc (.cells #[.int .i64 a, .int .i64 b] 109)).alloc (.cells #[.int .i64 mn, .int .i64 mx] 2)).heap.size = og + 1 + 1 := by rw [World.size_alloc, World.size_alloc, hog]
          have hnew : (l ++ [(⟨og + 1, 2, mn, mx⟩ : Pr)]).map Pr.g = l.map Pr.g ++ [og + 1] := by simp
          have HND2 : Hid (((l ++ [(⟨og + 1, 2, mn, mx⟩ : Pr)]).map Pr.g).Nodup) := Lib.hid (by
            rw [hnew, List.nodup_append]
            refine ⟨hnd, by simp, fun u hu k hk e => ?_⟩
            obtain ⟨x, hx, rfl⟩ := List.mem_map.1 hu
            have := (hr.2 x hx).cells.2.2.1
            simp at hk
            omega)
          have HV2 : Hid ((l ++ [(⟨og + 1, 2, mn, mx⟩ : Pr)]).map Pr.val = prsK ⟨W, H, Bs⟩ pts i ++ (pr.take (j + 1)).map nrm) := Lib.hid (by
            rw [List.map_append, hv, htk, hnm, List.append_assoc]
            rfl)
          have HRA := Lib.hid hrA
          have HYA := Lib.hid hyA
          have HTA := Lib.hid hTA
          have HPA := Lib.hid hPA
          have HBA := Lib.hid hbA
          have HSA := Lib.hid hszA
          have hal : l.length < 1000000000 := by omega
          clear hr hv hnd hT hpt hb hq f0 f1 htk hnm hrA hyA hTA hPA hbA hszA hnew bl1 bl2
          go_wp2_with (at_builtin; refine append_gen (enc := Pr.enc) Try.underlying41 info_rows rfl (by decide) rfl _ _ rfl (w.heap.size + 1) _ (.slice (some ⟨g, 0, none⟩) l.length c) l (⟨og + 1, 2, mn, mx⟩ : Pr) rfl HRA.out.1 rfl rfl HSA.out hal (by rw [HSA.out]; omega) ?_)
          intro g3 c3 w3 hr3 hg3 _
          have hrow3 := prs_append HRA.out HYA.out hr3 (by rw [ownBlock_slice] at hg3; exact hg3)
          have HR3 := Lib.hid hrow3
          have HT3 : Hid (TRow w3 0 (.slice (some ⟨gt, 0, none⟩) pr.length ct) pr.length (flat2 pr)) := Lib.hid (trow_keep HTA.out fun u hu hl => hg3.block u hl (fun e => two_rows HTA.out HRA.out.1 (by decide) hu e.symm))
          have HP3 : Hid (PRow w3 (w.heap.size + 2) (.slice (some ⟨gp, 0, none⟩) n cp) n (ptF pts)) := Lib.hid (HPA.out.keep fun u hu hl => hg3.block u hl (fun e => two_rows HPA.out HRA.out.1 (by decide) hu e.symm))
          have HB3 : Hid (Below (w.heap.size + 1) V w3) := Lib.hid (HBA.out.grown hg3 (by rw [HSA.out]; omega) (fun u hu => (Row.lt HRA.out.1 hu).1))
          have HLL : Hid ((l ++ [(⟨og + 1, 2, mn, mx⟩ : Pr)]).length = l.length + 1) := Lib.hid (by simp)
          clear hr3 hg3 hrow3 hmn hmx d0 d1
          go_wp2
          go_roundw
          case rel => exact ⟨j + 1, g3, c3, _, by omega, by rw [HLL.out], by go_num, by rw [HLL.out]; exact HR3.out, HV2.out, HND2.out, HT3.out, HP3.out, HB3.out⟩
          case measure => simp [intOf]; omega
        · have e : pr.length = j := by omega
          have HV3 : Hid (l.map Pr.val = prsK ⟨W, H, Bs⟩ pts (i + 1)) := Lib.hid (by
            rw [hv, HSK.out, ← e, List.take_length])
          have HR3 := Lib.hid hr
          have HN3 := Lib.hid hnd
          have HP3 := Lib.hid hpt
          have HB3 := Lib.hid hb
          clear hr hv hnd hT hpt hb e
          go_wp2
          go_roundw
          case rel => exact ⟨i + 1, g, c, l, by omega, rfl, by go_num, HR3.out, HV3.out, HN3.out, HP3.out, HB3.out⟩
          case measure => simp [intOf]; omega
    · have e : n = i := by omega
      have HVA : Hid (l.map Pr.val = (allQ ⟨W, H, Bs⟩).map nrm) := Lib.hid (by
        rw [hv, ← e, ← HN.out]
        unfold prsK allQ
        rw [List.take_length, ← HPT.out])
      have HQ := putAll_perm [] (allQ ⟨W, H, Bs⟩)
      rw [List.append_nil] at HQ
      have hl0 : 0 < l.length := by
        have e2 := congrArg List.length HVA.out
        rw [List.length_map, List.length_map] at e2
        have hm : ((1 : Int), (0 : Int)) ∈ allPt W (2 * H + 1).toNat := (allPt_mem W _ _).2 ⟨by simp, by have := HP.out.w1; simp only [] at this ⊢; omega, by simp, by have := HP.out.h1; simp only [] at this ⊢; omega, by simp⟩
        have hx : 0 < (allQ ⟨W, H, Bs⟩).length := by
          unfold allQ
          obtain ⟨q, hq⟩ : ∃ q, q ∈ prsAt ⟨W, H, Bs⟩ ((1 : Int), (0 : Int)) := by
            unfold prsAt pairsP
            have := HP.out.w1
            simp only [] at this ⊢
            rw [if_neg (by omega), if_neg (by omega), if_pos trivial]
            exact ⟨_, List.mem_singleton.2 rfl⟩
          exact List.length_pos_of_mem (List.mem_flatMap.2 ⟨_, hm, hq⟩)
        omega
      have HR := Lib.hid hr
      have HND := Lib.hid hnd
      have HBB := Lib.hid (HA.out _ hb).2.2
      have HB2 := Lib.hid hb
      have hsr := sortPrs_any hr hl0 (by omega)
      have HQH := Lib.hid HQ
      clear hr hv hnd hpt hb e HQ hl0
      go_wp2_with (go_at_call 92; refine hsr.mono ?_; rintro e w3 ⟨rfl, l', hp, hs, hr3, hg3⟩)
      have hl' : l'.length = l.length := hp.length_eq
      have hfin : l'.map Pr.val = putAll [] (allQ ⟨W, H, Bs⟩) := srq_unique hs (putAll_srq _ List.Pairwise.nil) (((hp.map Pr.val).trans (by rw [HVA.out])).trans HQH.out.symm)
      have hnd' : (l'.map Pr.g).Nodup := ((hp.map Pr.g).nodup_iff).2 HND.out
      have hbf : Below w.heap.size w w3 := HBB.out.grown hg3 HBB.out.size (fun u hu => by
        have := (Row.lt HR.out.1 (g := u) (by rw [ownBlock_slice]; exact hu)).1
        omega)
      have HFIN := Lib.hid (And.intro hfin (And.intro hnd' (And.intro hbf (hr3.le (show w.heap.size ≤ w.heap.size + 1 by omega)))))
      have HL' := Lib.hid hl'
      clear hfin hnd' hbf hr3 hg3 hp hs hsr hl'
      go_wp2
      go_ret
      exact ⟨g, c, l', by rw [HL'.out]; rfl, HFIN.out.2.2.2, HFIN.out.1, HFIN.out.2.1, HFIN.out.2.2.1⟩
end Go.Proofs.Ytcfdbjjfdddfeaa
