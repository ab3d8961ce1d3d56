/-
  JoinPanel, by the program.
-/
import Derived.Test.YtcfdbjjfdddfeaaJp
import Derived.Test.YtcfdbjjfdddfeaaPrsI
import Derived.Test.YtcfdbjjfdddfeaaEdge
namespace Go.Proofs.Ytcfdbjjfdddfeaa
open Go.RowKit Knot

set_option maxRecDepth 20000 in
set_option maxHeartbeats 8000000 in
theorem K_impl_JoinPanel {w : World} {lo hi : Nat} {W H r1 : Int} {v : Value} {Bs zs us : List Int} (hI : IntsIn w lo hi v Bs) (hm : jpanM ⟨W, H, Bs⟩ = (zs, us, r1)) :
    Calls Try.prog 49 #[.agg #[.int .i64 W, .int .i64 H, v]] w fun e w' => ∃ A c D d, e = .returned (.tuple #[.agg #[.slice A zs.length c, .slice D us.length d], .int .i64 r1]) ∧
      JoinedIn w' w.heap.size w'.heap.size (.slice A zs.length c) (.slice D us.length d) zs us ∧ Below w.heap.size w w' := by
  obtain ⟨A, c, rfl, _, _⟩ := hI.1.open_
  have bl := Joins.below_alloc2 w (.cells #[.int .i64 W, .int .i64 H, .slice A Bs.length c] 56) (.cells #[.slice none 0 0, .slice none 0 0] 27)
  have ba := (Box.new w 56 #[.int .i64 W, .int .i64 H, .slice A Bs.length c]).alloc (.cells #[.slice none 0 0, .slice none 0 0] 27)
  have br := Box.new (w.alloc (.cells #[.int .i64 W, .int .i64 H, .slice A Bs.length c] 56)) 27 #[.slice none 0 0, .slice none 0 0]
  rw [World.size_alloc] at br
  have hv := hI.below bl
  have q0 := ba.cell 0
  have q1 := ba.cell 1
  have q2 := ba.cell 2
  have qn := ba.lt
  simp only [List.getElem?_toArray, List.getElem?_cons_zero, List.getElem?_cons_succ] at q0 q1 q2
  by_cases ho : Ok ⟨W, H, Bs⟩
  rotate_left
  · have HP := Lib.hid ho
    unfold jpanM at hm
    rw [if_neg ho] at hm
    injection hm with h1 h2
    injection h2 with h2 h3
    subst h1 h2 h3
    clear hI ho
    go_enter Try.func49, Try.ntmps49
    go_wp2_with fail
    refine (ValidPanel_any W H _ Bs false (no_iff HP.out) _ hv.ints).mono ?_
    rintro e w2 ⟨rfl, hb⟩
    clear q0 q1 q2 qn
    replace br := br.below hb
    replace bl := bnext bl hb
    have q0 := br.cell 0
    have q1 := br.cell 1
    have f0 := br.free 0
    have f1 := br.free 1
    have qn := br.lt
    simp only [List.getElem?_toArray, List.getElem?_cons_zero, List.getElem?_cons_succ] at q0 q1
    clear hb ba hv
    go_wp2
    refine bodyPost_ret (v := .tuple #[.agg #[.slice none 0 0, .slice none 0 0], .int .i64 1]) (by simp [results, Try.results49, go_sem, q0, q1, f0, f1, qn]) rfl ⟨none, 0, none, 0, rfl, by simpa using JoinedIn.nilAt (by simp), ?_⟩
    exact (bl.setCell (p := ⟨w.heap.size + 1, 0, none⟩) (by show w.heap.size ≤ w.heap.size + 1; omega) _).setCell (p := ⟨w.heap.size + 1, 1, none⟩) (by show w.heap.size ≤ w.heap.size + 1; omega) _
  have HP := Lib.hid ho
  unfold jpanM at hm
  rw [if_pos ho] at hm
  injection hm with h1 h2
  injection h2 with h2 h3
  have HZ := Lib.hid h1
  have HU := Lib.hid h2
  have HR := Lib.hid h3
  have hm4 := mul4 (W := W) (H := H) ⟨ho.w1, ho.w8⟩ ⟨ho.h1, ho.h8⟩
  obtain ⟨n, hn⟩ : ∃ n : Nat, 4 * W * H = n := ⟨(4 * W * H).toNat, by omega⟩
  have HN := Lib.hid hn
  have hW8 : 1 ≤ W ∧ W ≤ 8 := ⟨ho.w1, ho.w8⟩
  have hH8 : 1 ≤ H ∧ H ≤ 8 := ⟨ho.h1, ho.h8⟩
  rw [hn] at hm4
  clear hI ho h1 h2 h3
  go_enter Try.func49, Try.ntmps49
  go_wp2_with fail
  refine (ValidPanel_any W H _ Bs true (yes_iff HP.out) _ hv.ints).mono ?_
  rintro e w1 ⟨rfl, hb⟩
  replace ba := ba.below hb
  replace br := br.below hb
  replace hv := hv.below hb
  replace bl := bnext bl hb
  clear hb q0 q1 q2 qn
  have q0 := ba.cell 0
  have q1 := ba.cell 1
  have q2 := ba.cell 2
  have qn := ba.lt
  simp only [List.getElem?_toArray, List.getElem?_cons_zero, List.getElem?_cons_succ] at q0 q1 q2
  go_wp2_with fail
  refine (segments_any (A := A) (n := Bs.length) (c := c) hW8 hH8).mono ?_
  rintro e w2 ⟨rfl, hb⟩
  replace ba := ba.below hb
  replace br := br.below hb
  replace hv := hv.below hb
  replace bl := bnext bl hb
  clear hb q0 q1 q2 qn
  have HNM : Hid (newM n = (upFrom 0 n, [], 0)) := Lib.hid (by unfold newM; rw [if_pos (inR_t ⟨by omega, by omega⟩)]; simp)
  have sz2 := br.lt
  rw [hn]
  go_wp2_with fail
  refine (NewJoinedK_any n _ (upFrom 0 n) [] 0 HNM.out).mono ?_
  rintro e w3 ⟨A2, c2, D2, d2, rfl, hJ, hb⟩
  simp only [upFrom_length, List.length_nil] at hJ ⊢
  replace ba := ba.below hb
  replace br := br.below hb
  replace hv := hv.below hb
  have s3 := hb.size
  have bl3 := bnext bl hb
  have hb23 := hb
  have bj := Box.new w3 27 #[.slice A2 n c2, .slice D2 0 d2]
  have hbz := Joins.below_alloc1 w3 (.cells #[.slice A2 n c2, .slice D2 0 d2] 27)
  have hvl : ∀ k, (Value.slice A2 n c2).ownBlock = some k → k < w3.heap.size := fun k hk => (Row.lt hJ.1.1 hk).2
  have hul : ∀ k, (Value.slice D2 0 d2).ownBlock = some k → k < w3.heap.size := fun k hk => (Row.lt hJ.2.1.1 hk).2
  have hJO : JOwn (w3.alloc (.cells #[.slice A2 n c2, .slice D2 0 d2] 27)) w2.heap.size w3.heap.size (.slice A2 n c2) (.slice D2 0 d2) (upFrom 0 n) [] :=
    ⟨bj, by omega, Row.below hJ.1.1 hbz, Row.below hJ.2.1.1 hbz, fun k hk => ⟨by have := hvl k hk; omega, hJ.2.2 k hk⟩, fun k hk => by have := hul k hk; omega⟩
  replace ba := ba.below hbz
  replace br := br.below hbz
  replace hv := hv.below hbz
  replace bl3 := bnext bl3 hbz
  obtain ⟨pj, hpj⟩ : ∃ pj, w3.heap.size = pj := ⟨_, rfl⟩
  have hVs : (w3.alloc (.cells #[.slice A2 n c2, .slice D2 0 d2] 27)).heap.size = pj + 1 := by rw [World.size_alloc, hpj]
  have HVL := Lib.hid hvl
  have HUL := Lib.hid hul
  rw [hpj] at hJO HVL HUL
  clear hJ hb hb23 hbz bj hvl hul bl
  have q0 := ba.cell 0
  have q1 := ba.cell 1
  have q2 := ba.cell 2
  have qn := ba.lt
  simp only [List.getElem?_toArray, List.getElem?_cons_zero, List.getElem?_cons_succ] at q0 q1 q2
  go_wp2_with fail
  try rw [hpj]
  generalize hV : w3.alloc (.cells #[.slice A2 n c2, .slice D2 0 d2] 27) = V at *
  clear hV
  clear q0 q1 q2 qn
  refine (pairs_any hv.1 HP.out).mono ?_
  rintro e w4 ⟨g, pc, l, rfl, hr, hvl, _, hb4⟩
  have hJ4 := hJO.below hb4
  have s4 := hb4.size
  replace br := br.below hb4
  replace bl3 := bnext bl3 hb4
  have hll : l.length ≤ 1000 := by
    have e := congrArg List.length hvl
    rw [List.length_map] at e
    rw [e]
    exact allQ_len HP.out
  have HLG : Hid (g < w4.heap.size ∧ ∀ x ∈ l, x.g < w4.heap.size) := Lib.hid ⟨(Row.lt hr.1 (g := g) rfl).2, fun x hx => (hr.2 x hx).cells.2.2.1⟩
  obtain ⟨PQ, hPQ⟩ : ∃ PQ, putAll [] (allQ ⟨W, H, Bs⟩) = PQ := ⟨_, rfl⟩
  have HRG : Hid (∀ q ∈ PQ, (0 ≤ q.1 ∧ q.1 < (n : Int)) ∧ 0 ≤ q.2 ∧ q.2 < (n : Int)) := Lib.hid (by
    intro q hq
    rw [← hPQ] at hq
    have := allQ_rng HP.out q hq
    simp only [] at this
    rw [HN.out] at this
    exact this)
  rw [hPQ] at hvl HZ HU
  have hnn : (4 * W * H).toNat = n := by rw [HN.out]; simp
  rw [hnn] at HZ HU
  have HVL2 := Lib.hid hvl
  have hs0 : OkJ (upFrom 0 n) [] := ok_upFrom (by omega) (by omega)
  have HS : Hid (∀ i, OkJ ((PQ.take i).foldl joinK (upFrom 0 n, [])).1 ((PQ.take i).foldl joinK (upFrom 0 n, [])).2 ∧ ((PQ.take i).foldl joinK (upFrom 0 n, [])).1.length = n) := Lib.hid (fun i => joinAll_ok (s := (upFrom 0 n, [])) (PQ.take i) hs0 (upFrom_length 0 n) (fun q hq => HRG.out q (List.mem_of_mem_take hq)))
  have HBR : Hid (Box w4 (w.heap.size + 1) 27 #[.slice none 0 0, .slice none 0 0] ∧ Below w.heap.size w w4) := Lib.hid ⟨br, bl3⟩
  have hlo : pj + 1 ≤ w4.heap.size := by omega
  clear hJO ba hv br bl3 hb4 hPQ hvl hs0 hnn
  go_wp2
  go_loopw [21] (fun s wr => ∃ (i : Nat) (u : Value), i ≤ l.length ∧ s = .int .i64 i ∧ JOwn wr w2.heap.size pj (.slice A2 n c2) u ((PQ.take i).foldl joinK (upFrom 0 n, [])).1 ((PQ.take i).foldl joinK (upFrom 0 n, [])).2 ∧ (∀ k, u.ownBlock = some k → k < pj + 1 ∨ w4.heap.size ≤ k) ∧ PrsRow wr V.heap.size (.slice (some ⟨g, 0, none⟩) l.length pc) l ∧ Below w2.heap.size w4 wr) (fun s _ => l.length - (intOf s).toNat)
  case atStart => exact ⟨0, _, Nat.zero_le _, rfl, hJ4, fun k hk => .inl (by have := HUL.out k hk; omega), hr, Below.refl _ _⟩
  case round =>
    obtain ⟨i, u, hi, rfl, hJ, hu, hr, hb⟩ := hrel
    have hsz := hb.size
    by_cases hlt : i < l.length
    · have i1 : (i : Int) < l.length := by omega
      obtain ⟨x, hx⟩ : ∃ x, l[i] = x := ⟨_, rfl⟩
      have cx := Row.cell hr.1 hlt
      have hxo := hr.2 l[i] (List.getElem_mem hlt)
      rw [hx] at cx hxo
      obtain ⟨d0, d1, _, _⟩ := hxo.cells
      have hpi : i < PQ.length := by
        have e := congrArg List.length HVL2.out
        rw [List.length_map] at e
        omega
      have hpq : PQ[i] = (x.a, x.b) := by
        have e : (l.map Pr.val)[i]? = PQ[i]? := by rw [HVL2.out]
        rw [List.getElem?_map, List.getElem?_eq_getElem hlt, List.getElem?_eq_getElem hpi, hx] at e
        injection e with e
        exact e.symm
      have hst := foldl_take hpi (upFrom 0 n, [])
      rw [hpq] at hst
      have hrg := HRG.out PQ[i] (List.getElem_mem _)
      rw [hpq] at hrg
      simp only [] at hrg
      obtain ⟨a, ha⟩ : ∃ a, x.a = a := ⟨_, rfl⟩
      obtain ⟨b, hbb⟩ : ∃ b, x.b = b := ⟨_, rfl⟩
      rw [ha, hbb] at hst hrg
      rw [ha] at d0
      rw [hbb] at d1
      have cx2 : wr.cell? ⟨g, i, none⟩ = some (.slice (some ⟨x.g, 0, none⟩) 2 x.c) := cx
      obtain ⟨S, hS⟩ : ∃ S, (PQ.take i).foldl joinK (upFrom 0 n, []) = S := ⟨_, rfl⟩
      have hso := HS.out i
      rw [hS] at hst hJ hso
      have HST := Lib.hid hst
      have HJ := Lib.hid hJ
      have HOK := Lib.hid hso.1
      have HRG2 : Hid ((0 ≤ a ∧ a < (S.1.length : Int)) ∧ 0 ≤ b ∧ b < (S.1.length : Int)) := Lib.hid (by rw [hso.2]; exact hrg)
      have HR2 := Lib.hid hr
      have HUU := Lib.hid hu
      have HB2 := Lib.hid hb
      have HX := Lib.hid (And.intro ha hbb)
      clear hJ hu hr hb cx hxo hpi hpq hst hrg ha hbb hS hso hx hJ4
      go_wp2
      go_region_law (go_simp; go_at_call 72; (with_reducible refine (join2_any (HJ.out.below cut_drew) HOK.out HRG2.out.1.1 HRG2.out.1.2 HRG2.out.2.1 HRG2.out.2.2).mono ?_); rintro e w5 ⟨u', rfl, hJ5, hb5, hk5⟩)
      all_goals
        have hPR : PrsRow w5 V.heap.size (.slice (some ⟨g, 0, none⟩) l.length pc) l := prs_keep (HR2.out.below (cut_drew (V := wr))) HLG.out.1 HLG.out.2 (fun k k0 k1 kl => hk5.1 k kl (by omega) (fun e => by have := HVL.out k e; omega) (fun e => by have := HUU.out k e; omega))
        have hUN : ∀ k, u'.ownBlock = some k → k < pj + 1 ∨ w4.heap.size ≤ k := fun k hk => by
          rcases hk5.2 with e | e
          · exact HUU.out k (by rw [← e]; exact hk)
          · have := e k hk
            have e2 : wr.drew.heap.size = wr.heap.size := rfl
            exact .inr (by omega)
        have hBN : Below w2.heap.size w4 w5 := HB2.out.trans ((below_drewN w2.heap.size wr 1).trans hb5)
        have HPR := Lib.hid hPR
        have HUN := Lib.hid hUN
        have HBN := Lib.hid hBN
        have HJ5 : Hid (JOwn w5 w2.heap.size pj (.slice A2 n c2) u' ((PQ.take (i + 1)).foldl joinK (upFrom 0 n, [])).1 ((PQ.take (i + 1)).foldl joinK (upFrom 0 n, [])).2) := Lib.hid (by rw [HST.out]; exact hJ5)
        clear hPR hUN hBN hJ5 hb5 hk5 d0 d1 cx2
        go_wp2
        go_roundw
        case rel => exact ⟨i + 1, u', by omega, by go_num, HJ5.out, HUN.out, HPR.out, HBN.out⟩
        case measure => simp [intOf]; omega
    · have e : l.length = i := by omega
      have hpl : PQ.length = l.length := by
        have e2 := congrArg List.length HVL2.out
        rw [List.length_map] at e2
        omega
      rw [← e, ← hpl, List.take_length, HZ.out, HU.out] at hJ
      obtain ⟨D5, d5, rfl, _, _⟩ := hJ.2.2.2.1.open_
      have hso := HS.out PQ.length
      rw [List.take_length, HZ.out, HU.out] at hso
      have hr1 : Box wr (w.heap.size + 1) 27 #[.slice none 0 0, .slice none 0 0] := (hb.block (w.heap.size + 1) (by omega)).trans HBR.out.1
      have hzl : zs.length = n := hso.2
      have hbb : Below w.heap.size w wr := HBR.out.2.trans (hb.mono (by omega))
      have q0 := hJ.1.cell 0
      have q1 := hJ.1.cell 1
      have qn := hJ.1.lt
      have p0 := hr1.cell 0
      have p1 := hr1.cell 1
      have f0 := hr1.free 0
      have f1 := hr1.free 1
      have rn := hr1.lt
      simp only [List.getElem?_toArray, List.getElem?_cons_zero, List.getElem?_cons_succ] at q0 q1 p0 p1
      have h1 : Ints wr w2.heap.size (.slice A2 n c2) zs := hJ.2.2.1
      have h2 := hJ.2.2.2.1
      have hx1 : ∀ j, (Value.slice A2 n c2).ownBlock = some j → j ≠ w.heap.size + 1 := fun j hj => by have := (Row.lt h1 hj).1; omega
      have hx2 : ∀ j, (Value.slice D5 us.length d5).ownBlock = some j → j ≠ w.heap.size + 1 := fun j hj => by have := (Row.lt h2 hj).1; omega
      have HJ : Hid (JoinedIn ((wr.setCell ⟨w.heap.size + 1, 0, none⟩ (.slice A2 n c2)).setCell ⟨w.heap.size + 1, 1, none⟩ (.slice D5 us.length d5)) w.heap.size ((wr.setCell ⟨w.heap.size + 1, 0, none⟩ (.slice A2 n c2)).setCell ⟨w.heap.size + 1, 1, none⟩ (.slice D5 us.length d5)).heap.size (.slice A2 n c2) (.slice D5 us.length d5) zs us) := Lib.hid ⟨IntsIn.ofInts (Row.le (Row.setCell (Row.setCell h1 (p := ⟨w.heap.size + 1, 0, none⟩) hx1 _) (p := ⟨w.heap.size + 1, 1, none⟩) hx1 _) (by omega)) (by omega), IntsIn.ofInts (Row.le (Row.setCell (Row.setCell h2 (p := ⟨w.heap.size + 1, 0, none⟩) hx2 _) (p := ⟨w.heap.size + 1, 1, none⟩) hx2 _) (by omega)) (by have := nodup_length_le hso.1.nd hso.1.llo hso.1.lhi; omega), fun j hj => (hJ.2.2.2.2.1 j hj).2⟩
      have HB := Lib.hid ((hbb.setCell (p := ⟨w.heap.size + 1, 0, none⟩) (by show w.heap.size ≤ w.heap.size + 1; omega) (.slice A2 n c2)).setCell (p := ⟨w.heap.size + 1, 1, none⟩) (by show w.heap.size ≤ w.heap.size + 1; omega) (.slice D5 us.length d5))
      have HZL := Lib.hid hzl
      have hr0 : r1 = 0 := HR.out.symm
      subst hr0
      clear hJ hu hr hb h1 h2 hx1 hx2 hbb hso hzl hr1 e hpl hJ4
      go_wp2
      refine bodyPost_ret (v := .tuple #[.agg #[.slice A2 n c2, .slice D5 us.length d5], .int .i64 0]) (by simp [results, Try.results49, go_sem, rn, p0, p1, q0, q1, f0, f1]) rfl ⟨A2, c2, D5, d5, by rw [HZL.out], by rw [HZL.out]; exact HJ.out, HB.out⟩
end Go.Proofs.Ytcfdbjjfdddfeaa
