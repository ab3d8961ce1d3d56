/-
  The law FnPairsJoined, walked.
-/
import Derived.Test.YtcfdbjjfdddfeaaA2At
import Derived.Test.YtcfdbjjfdddfeaaA2Pan
import Derived.Test.YtcfdbjjfdddfeaaA2J
import Derived.Test.YtcfdbjjfdddfeaaPrsK
import Derived.Test.YtcfdbjjfdddfeaaJpI
import Derived.Test.YtcfdbjjfdddfeaaSegCur
import Derived.Test.YtcfdbjjfdddfeaaValJ
import Derived.Test.YtcfdbjjfdddfeaaGrp
import Derived.Test.YtcfdbjjfdddfeaaPlAllC
namespace Go.Proofs.Ytcfdbjjfdddfeaa
open Go.RowKit Knot

theorem gI_upFrom {n : Nat} {k : Int} (k0 : 0 ≤ k) (k1 : k < n) : gI (upFrom 0 n) k = k := by
  obtain ⟨m, rfl⟩ := Int.eq_ofNat_of_zero_le k0
  rw [gI_nat _ _ (by rw [upFrom_length]; omega)]
  simp [upFrom]
set_option maxRecDepth 20000 in
set_option maxHeartbeats 8000000 in
theorem FnPairsJoined_walk (a0 : Option Addr) (l0 : Nat) (c0 : Nat) (z0 : List Int) (w : World) (r0 : IsRow .u8 w a0 l0 c0 z0) :
    Calls Try.prog 14 #[.slice a0 l0 c0] w fun e w' => e = .returned (.bool true) ∧ Below w.heap.size w w' := by
  by_cases e_0 : (l0 : Int) ≤ 3000
  rotate_left
  · have hd : decide ((l0 : Int) > 3000 ∨ ((0 : Nat) : Int) > 3000) = true := decide_eq_true (by omega)
    go_enter Try.func14, Try.ntmps14
    go_wp2_with fail
    refine (a2Long2_any a0 l0 c0 none 0 0 true hd _).mono ?_
    rintro e w' ⟨rfl, rfl⟩
    go_wp2_with fail
    go_ret
    exact ⟨rfl, Below.refl _ _⟩
  have hd : decide ((l0 : Int) > 3000 ∨ ((0 : Nat) : Int) > 3000) = false := decide_eq_false (by omega)
  obtain ⟨i0, hinf, hz0, hz1, hz2⟩ := info_parts info_int
  have HINF := Lib.hid (And.intro hinf (And.intro hz0 (And.intro hz1 hz2)))
  clear hinf hz0 hz1 hz2
  go_enter Try.func14, Try.ntmps14
  go_wp2_with fail
  refine (a2Long2_any a0 l0 c0 none 0 0 false hd _).mono ?_
  rintro e w' ⟨rfl, rfl⟩
  clear hd e_0
  go_wp2_with fail
  refine (A2Panel_any r0).mono ?_
  rintro e w1 ⟨W, H, g, B, rfl, hok, hI, hb⟩
  have bl := bnext hb (Joins.below_alloc1 _ (.cells #[.int .i64 W, .int .i64 H, .slice (some ⟨g, 0, none⟩) B.length B.length] 56))
  have bp := Box.new w1 56 #[.int .i64 W, .int .i64 H, .slice (some ⟨g, 0, none⟩) B.length B.length]
  replace hI := hI.alloc (.cells #[.int .i64 W, .int .i64 H, .slice (some ⟨g, 0, none⟩) B.length B.length] 56)
  obtain ⟨pp, hpp⟩ : ∃ pp, w1.heap.size = pp := ⟨_, rfl⟩
  rw [hpp] at bp
  have HP := Lib.hid hok
  -- the plain facts
  obtain ⟨n, hn⟩ : ∃ n, segN ⟨W, H, B⟩ = n := ⟨_, rfl⟩
  have hn256 : n ≤ 256 := by rw [← hn]; exact segN_le hok
  have hn4 := segN_four hok
  have hn1 : 1 ≤ n := by
    have h4 := (mul4 ⟨hok.w1, hok.w8⟩ ⟨hok.h1, hok.h8⟩).1
    rw [← hn]
    omega
  obtain ⟨of, hof⟩ : ∃ of, (traceP ⟨W, H, B⟩ (segN ⟨W, H, B⟩)).2 = of := ⟨_, rfl⟩
  have hofl : of.length = n := by rw [← hof, ← hn]; exact traceP_len _ _
  obtain ⟨qs, hqs⟩ : ∃ qs, putAll [] (allQ ⟨W, H, B⟩) = qs := ⟨_, rfl⟩
  have hql : qs.length = n := by rw [← hqs, ← hn]; exact put_len hok
  have hlaw := pjoin_law hok (up := upFrom 0 n) (ok_upFrom hn1 hn256) (by rw [upFrom_length]; exact hn.symm) (fun k k0 k1 => gI_upFrom k0 (by rw [← hn]; exact k1))
  have hpl := fun (q : Int × Int) (hq : q ∈ putAll [] (allQ ⟨W, H, B⟩)) => pair_law hok hq
  have htwo := fun (k : Int) (k0 : 0 ≤ k) (k1 : k < segN ⟨W, H, B⟩) => cntL_two hok k0 k1
  rw [hof, hn, hqs] at hlaw
  rw [hqs, hof, hn] at hpl
  rw [hqs, hn] at htwo
  obtain ⟨zs, hzs⟩ : ∃ zs, (qs.foldl joinK (upFrom 0 n, [])).1 = zs := ⟨_, rfl⟩
  obtain ⟨us, hus⟩ : ∃ us, (qs.foldl joinK (upFrom 0 n, [])).2 = us := ⟨_, rfl⟩
  rw [hzs, hus] at hlaw
  obtain ⟨hoz, hzl, hgr⟩ := hlaw
  have HPM : Hid (pairsM ⟨W, H, B⟩ = (qs.map (fun q => [q.1, q.2]), 0)) := Lib.hid (by unfold pairsM; rw [if_pos hok, hqs])
  have HJM : Hid (jpanM ⟨W, H, B⟩ = (zs, us, 0)) := Lib.hid (by
    unfold jpanM
    rw [if_pos hok, hqs, show (4 * (⟨W, H, B⟩ : Pan).W * (⟨W, H, B⟩ : Pan).H).toNat = n from hn, hzs, hus])
  have HOF := Lib.hid hof
  have HNN := Lib.hid hn
  have HVZ : Hid (validM zs us = true) := Lib.hid (by rw [validM_iff (xs := zs) (ys := us) rfl]; exact hoz)
  have HGM : Hid (∀ k : Int, 0 ≤ k → k < n → groupM zs us k = (root zs k, 0)) := Lib.hid (fun k k0 k1 => by
    unfold groupM
    rw [if_pos (codeJ_ok hoz ((InJ_one zs k).2 ⟨k0, by rw [hzl]; omega⟩))])
  have HGR := Lib.hid hgr
  have HPL := Lib.hid hpl
  have HTW := Lib.hid htwo
  have HOFL := Lib.hid hofl
  have HQL := Lib.hid hql
  have hxl : (qs.map (fun q => [q.1, q.2])).length = n := by rw [List.length_map]; exact hql
  clear hb hok hn hof hofl hqs hql hpl htwo hzs hus hoz hgr hn4
  have q0 := bp.cell 0
  have q1 := bp.cell 1
  have q2 := bp.cell 2
  have qn := bp.lt
  simp only [List.getElem?_toArray, List.getElem?_cons_zero, List.getElem?_cons_succ] at q0 q1 q2
  go_wp2_with fail
  try rw [hpp]
  generalize hV : w1.alloc (.cells #[.int .i64 W, .int .i64 H, .slice (some ⟨g, 0, none⟩) B.length B.length] 56) = V1 at *
  clear hV
  refine (K_impl_PairsOf hI HPM.out).mono ?_
  rintro e w2 ⟨A, cA, rfl, hL, hb⟩
  rw [hxl] at hL ⊢
  replace hI := hI.below hb
  replace bp := bp.below hb
  replace bl := bnext bl hb
  clear hb q0 q1 q2 qn
  have q0 := bp.cell 0
  have q1 := bp.cell 1
  have q2 := bp.cell 2
  have qn := bp.lt
  simp only [List.getElem?_toArray, List.getElem?_cons_zero, List.getElem?_cons_succ] at q0 q1 q2
  go_wp2_with fail
  refine (K_impl_JoinPanel hI HJM.out).mono ?_
  rintro e w3 ⟨E, cE, F, cF, rfl, hJ, hb⟩
  rw [hzl] at hJ ⊢
  replace hI := hI.below hb
  replace hL := hL.below hb
  replace bp := bp.below hb
  replace bl := bnext bl hb
  clear hb q0 q1 q2 qn
  have q0 := bp.cell 0
  have q1 := bp.cell 1
  have q2 := bp.cell 2
  have qn := bp.lt
  simp only [List.getElem?_toArray, List.getElem?_cons_zero, List.getElem?_cons_succ] at q0 q1 q2
  have hbz := Joins.below_alloc1 w3 (.cells #[.slice E n cE, .slice F us.length cF] 27)
  have bj := Box.new w3 27 #[.slice E n cE, .slice F us.length cF]
  obtain ⟨pj, hpj⟩ : ∃ pj, w3.heap.size = pj := ⟨_, rfl⟩
  rw [hpj] at bj
  replace bp := bp.below hbz
  replace hI := hI.below hbz
  replace hL := hL.below hbz
  replace hJ := hJ.below hbz
  replace bl := bnext bl hbz
  clear hbz q0 q1 q2 qn
  have q0 := bp.cell 0
  have q1 := bp.cell 1
  have q2 := bp.cell 2
  have qn := bp.lt
  simp only [List.getElem?_toArray, List.getElem?_cons_zero, List.getElem?_cons_succ] at q0 q1 q2
  have x0 := bj.cell 0
  have x1 := bj.cell 1
  have xn := bj.lt
  simp only [List.getElem?_toArray, List.getElem?_cons_zero, List.getElem?_cons_succ] at x0 x1
  go_wp2_with fail
  try rw [hpj]
  generalize hV : w3.alloc (.cells #[.slice E n cE, .slice F us.length cF] 27) = V3 at *
  clear hV
  refine (SegmentCurves_any hI HP.out HOF.out HNN.out).mono ?_
  rintro e w4 ⟨go, rfl, hO, hb⟩
  replace hI := hI.below hb
  replace hL := hL.below hb
  replace hJ := hJ.below hb
  replace bp := bp.below hb
  replace bj := bj.below hb
  replace bl := bnext bl hb
  clear hb q0 q1 q2 qn x0 x1 xn
  have q0 := bp.cell 0
  have q1 := bp.cell 1
  have q2 := bp.cell 2
  have qn := bp.lt
  simp only [List.getElem?_toArray, List.getElem?_cons_zero, List.getElem?_cons_succ] at q0 q1 q2
  have x0 := bj.cell 0
  have x1 := bj.cell 1
  have xn := bj.lt
  simp only [List.getElem?_toArray, List.getElem?_cons_zero, List.getElem?_cons_succ] at x0 x1
  go_wp2_with fail
  refine (K_spec_ValidJoined hJ HVZ.out).mono ?_
  rintro e w5 ⟨rfl, hb⟩
  replace hL := hL.below hb
  replace hJ := hJ.below hb
  replace hO := Row.below hO hb
  replace bp := bp.below hb
  replace bj := bj.below hb
  replace bl := bnext bl hb
  clear hb q0 q1 q2 qn x0 x1 xn
  have q0 := bp.cell 0
  have q1 := bp.cell 1
  have q2 := bp.cell 2
  have qn := bp.lt
  simp only [List.getElem?_toArray, List.getElem?_cons_zero, List.getElem?_cons_succ] at q0 q1 q2
  have x0 := bj.cell 0
  have x1 := bj.cell 1
  have xn := bj.lt
  simp only [List.getElem?_toArray, List.getElem?_cons_zero, List.getElem?_cons_succ] at x0 x1
  have hnn : ((n : Int) != n) = false := by simp
  obtain ⟨ls, hl1, hl2, hl3, hl4, hl5⟩ := hL.ex
  have hll : ls.length = n := by
    have := congrArg List.length hl2
    rw [List.length_map, List.length_map, HQL.out] at this
    exact this
  obtain ⟨A', cA', hA1, hA2⟩ := hl1.open_
  rw [hll] at hA1 hA2
  injection hA1 with hA3 hA4 hA5
  subst hA3 hA5
  obtain ⟨gm, rfl, hgm⟩ := hA2 (by omega)
  have HLS := Lib.hid (And.intro hl1 hl2)
  have HLL := Lib.hid hll
  have hO' : Ints w5 0 (.slice (some ⟨go, 0, none⟩) n n) of := Row.le hO (Nat.zero_le _)
  have hgo := (Row.lt hO (g := go) rfl).2
  have HO := Lib.hid hO'
  have HJ := Lib.hid hJ
  have HBJ := Lib.hid bj
  have HB := Lib.hid bl
  clear hl1 hl2 hl3 hl4 hl5 hll hA2 hA4 hL hI hO hO' hJ bp bj bl q0 q1 q2 qn
  go_wp2_with (at_make; refine wpList_make_full _ rfl _ _ 22 rfl w5.heap.size 2 i0 (.int .i64 0) 1 Try.underlying22 HINF.out.1 HINF.out.2.1 HINF.out.2.2.1 _ _ _ _ n rfl rfl (by omega) (by omega) (by rw [HINF.out.2.2.2]; omega) (by unfold maxLen; omega) (Nat.le_refl _) ?_)
  intro w6 hown hgrow
  have hb6 : Below w5.heap.size w5 w6 := (Below.refl _ _).grown hgrow (Nat.le_refl _) (by simp)
  have hC : Ints w6 w5.heap.size (.slice (some ⟨w5.heap.size, 0, none⟩) n n) (cntL n (qs.take 0)) := by
    rw [List.take_zero, cntL_nil]
    unfold Ints Row
    rw [List.length_replicate, List.map_replicate]
    simpa [Value.cells, toList_madeCells_one] using hown
  obtain ⟨gc, hgc⟩ : ∃ gc, w5.heap.size = gc := ⟨_, rfl⟩
  rw [hgc] at hC hgm hgo ⊢
  clear hown hgrow x0 x1 xn
  go_wp2
  go_loopw [11] (fun s wr => ∃ i : Nat, i ≤ n ∧ s = .int .i64 i ∧ Ints wr gc (.slice (some ⟨gc, 0, none⟩) n n) (cntL n (qs.take i)) ∧ Below w5.heap.size w5 wr) (fun s _ => n - (intOf s).toNat)
  case atStart => exact ⟨0, Nat.zero_le _, rfl, hC, hb6⟩
  case round =>
    obtain ⟨i, hi, rfl, hC, hb⟩ := hrel
    by_cases hlt : i < n
    · have i1 : (i : Int) < n := by omega
      have hil : i < ls.length := by rw [HLL.out]; exact hlt
      have hiq : i < qs.length := by rw [HQL.out]; exact hlt
      have hlr := HLS.out.1.below hb
      have cx := Row.cell hlr.1 hil
      have hx := hlr.2 ls[i] (List.getElem_mem hil)
      have hps : ls[i].ps = [qs[i].1, qs[i].2] := by
        have e : (ls.map Ll.ps)[i]? = (qs.map (fun q => [q.1, q.2]))[i]? := by rw [HLS.out.2]
        rw [List.getElem?_map, List.getElem?_map, List.getElem?_eq_getElem hil, List.getElem?_eq_getElem hiq] at e
        injection e
      obtain ⟨xg, xc, hxe⟩ : ∃ xg xc, ls[i].enc = .slice (some ⟨xg, 0, none⟩) 2 xc := ⟨ls[i].g, ls[i].c, by unfold Ll.enc; rw [hps]; rfl⟩
      rw [hxe] at cx
      unfold LlOk at hx
      rw [hxe, hps] at hx
      have hpq := HPL.out qs[i] (List.getElem_mem hiq)
      have htk : qs.take (i + 1) = qs.take i ++ [qs[i]] := List.take_succ_eq_append_getElem hiq
      generalize qs[i] = q at hx hpq htk
      obtain ⟨a, b⟩ := q
      simp only [] at hx hpq
      obtain ⟨a0, ab, bn, hab⟩ := hpq
      obtain ⟨a, rfl⟩ := Int.eq_ofNat_of_zero_le a0
      obtain ⟨b, rfl⟩ := Int.eq_ofNat_of_zero_le (show 0 ≤ b by omega)
      have hxg0 : xg < w5.heap.size := by
        have hx5 := HLS.out.1.2 ls[i] (List.getElem_mem hil)
        unfold LlOk at hx5
        rw [hxe] at hx5
        exact (Row.lt hx5 (g := xg) rfl).2
      rw [hgc] at hxg0
      have x0 : wr.cell? ⟨xg, 0, none⟩ = some (.int .i64 (a : Int)) := by have := Ints.cell hx (k := 0) (by simp); simpa [gI] using this
      have x1 : wr.cell? ⟨xg, 1, none⟩ = some (.int .i64 (b : Int)) := by have := Ints.cell hx (k := 1) (by simp); simpa [gI] using this
      replace cx : wr.cell? ⟨gm, i, none⟩ = some (.slice (some ⟨xg, 0, none⟩) 2 xc) := cx
      have hOr : Ints wr 0 (.slice (some ⟨go, 0, none⟩) n n) of := Row.below HO.out hb
      have o0 := Ints.cell hOr (k := a) (by rw [HOFL.out]; omega)
      have o1 := Ints.cell hOr (k := b) (by rw [HOFL.out]; omega)
      rw [← hab] at o1
      have d0 := Ints.cell hC (k := a) (by rw [cntL_len]; omega)
      have d1 := Ints.cell hC (k := b) (by rw [cntL_len]; omega)
      have f0 := Row.free hC a
      have f1 := Row.free hC b
      have oa := occ_bd (a : Int) (qs.take i)
      have ob := occ_bd (b : Int) (qs.take i)
      rw [List.length_take] at oa ob
      rw [cntL_at (by omega) (by omega)] at d0 d1
      generalize gI of (a : Int) = o at o0 o1
      have hst := cntL_snoc (n := n) (l := qs.take i) (a := (a : Int)) (b := (b : Int)) (by omega) ab
      rw [← htk, Int.toNat_natCast, Int.toNat_natCast] at hst
      obtain ⟨ca, hca⟩ : ∃ ca, occ (a : Int) (qs.take i) = ca := ⟨_, rfl⟩
      obtain ⟨cb, hcb⟩ : ∃ cb, occ (b : Int) (qs.take i) = cb := ⟨_, rfl⟩
      rw [hca] at oa hst d0
      rw [hcb] at ob hst d1
      have HST := Lib.hid hst
      have hgw : gc < wr.heap.size := by rw [← hgc]; exact (Row.lt hC (g := gc) rfl).2 |> fun h => by omega
      have hgmw : gm < wr.heap.size := by omega
      have n1 : gm ≠ gc := by omega
      have n2 : xg ≠ gc := by omega
      have n3 : a ≠ b := by omega
      have hz : ((a : Int) < 0) = False := eq_false (by omega)
      have hba : ((b : Int) ≤ (a : Int)) = False := eq_false (by omega)
      have hnb : ((n : Int) ≤ (b : Int)) = False := eq_false (by omega)
      have an1 : (a : Int) < n := by omega
      have bn1 : (b : Int) < n := bn
      have HB2 := Lib.hid hb
      have HC2 := Lib.hid hC
      have oa1 : 0 ≤ ca := oa.1
      have oa2 : ca ≤ 1000 := by omega
      have ob1 : 0 ≤ cb := ob.1
      have ob2 : cb ≤ 1000 := by omega
      clear hlr hx hps hxe htk hab hOr hst hca hcb hb hC oa ob bn ab
      go_wp2_with fail
      go_quiet (fail)
      obtain ⟨nq1, hnq1⟩ : ∃ m, m = nq := ⟨_, rfl⟩
      rw [← hnq1]
      have hC7 : Hid (Ints (wr.drewN nq1) gc (.slice (some ⟨gc, 0, none⟩) n n) (cntL n (qs.take i))) := Lib.hid (Row.drewN HC2.out nq1)
      have hB7 : Hid (Below w5.heap.size w5 (wr.drewN nq1)) := Lib.hid (bnext HB2.out (below_drewN _ _ _))
      replace cx : (wr.drewN nq1).cell? ⟨gm, i, none⟩ = some (.slice (some ⟨xg, 0, none⟩) 2 xc) := cx
      replace x0 : (wr.drewN nq1).cell? ⟨xg, 0, none⟩ = some (.int .i64 (a : Int)) := x0
      replace x1 : (wr.drewN nq1).cell? ⟨xg, 1, none⟩ = some (.int .i64 (b : Int)) := x1
      replace d0 : (wr.drewN nq1).cell? ⟨gc, a, none⟩ = some (.int .i64 ca) := d0
      replace d1 : (wr.drewN nq1).cell? ⟨gc, b, none⟩ = some (.int .i64 cb) := d1
      replace f0 : (wr.drewN nq1).frozen? ⟨gc, a, none⟩ = false := f0
      replace f1 : (wr.drewN nq1).frozen? ⟨gc, b, none⟩ = false := f1
      replace hgw : gc < (wr.drewN nq1).heap.size := hgw
      clear hnq1 o0 o1
      generalize (wr.drewN nq1) = W7 at hC7 hB7 cx x0 x1 d0 d1 f0 f1 hgw ⊢
      have cy := cell_far (q := ⟨gc, a, none⟩) (x := .int .i64 (ca + 1)) (show gm ≠ gc by omega) cx
      have y0 := cell_far (q := ⟨gc, a, none⟩) (x := .int .i64 (ca + 1)) (show xg ≠ gc by omega) x0
      have y1 := cell_far (q := ⟨gc, a, none⟩) (x := .int .i64 (ca + 1)) (show xg ≠ gc by omega) x1
      have HC8 : Hid (Ints ((W7.setCell ⟨gc, a, none⟩ (.int .i64 (ca + 1))).setCell ⟨gc, b, none⟩ (.int .i64 (cb + 1))) gc (.slice (some ⟨gc, 0, none⟩) n n) (cntL n (qs.take (i + 1)))) := Lib.hid (by
        rw [HST.out]
        exact Row.set_ (Row.set_ hC7.out a (ca + 1)) b (cb + 1))
      have HB8 : Hid (Below w5.heap.size w5 ((W7.setCell ⟨gc, a, none⟩ (.int .i64 (ca + 1))).setCell ⟨gc, b, none⟩ (.int .i64 (cb + 1)))) := Lib.hid ((hB7.out.setCell (p := ⟨gc, a, none⟩) (by show _ ≤ gc; omega) _).setCell (p := ⟨gc, b, none⟩) (by show _ ≤ gc; omega) _)
      clear hC7 hB7 HC2 HB2 hz hba hnb
      go_wp2
      go_roundw
      case rel => exact ⟨i + 1, by omega, by go_num, HC8.out, HB8.out⟩
      case measure => simp [intOf]; omega
    · have e : i = n := by omega
      subst e
      have hC9 : Ints wr gc (.slice (some ⟨gc, 0, none⟩) i i) (cntL i qs) := by
        have := hC
        rw [List.take_of_length_le (by rw [HQL.out]; exact Nat.le_refl _)] at this
        exact this
      have HC9 := Lib.hid hC9
      have hg9 : gc < wr.heap.size := (Row.lt hC (g := gc) rfl).2
      obtain ⟨W9, hW9⟩ : ∃ x, x = wr := ⟨wr, rfl⟩
      subst hW9
      have HB9 := Lib.hid hb
      have hgs9 : gc ≤ W9.heap.size := by omega
      have hgc2 := Lib.hid hgc
      clear hC hC9 hb
      go_wp2
      go_loopw [12] (fun s wr => ∃ k : Nat, k ≤ i ∧ s = .int .i64 k ∧ Below W9.heap.size W9 wr) (fun s _ => i - (intOf s).toNat)
      case atStart => exact ⟨0, Nat.zero_le _, rfl, Below.refl _ _⟩
      case round =>
        obtain ⟨k, hk, rfl, hb⟩ := hrel
        have hb5 := bnext HB9.out hb
        by_cases hlt : k < i
        · have i1 : (k : Int) < i := by omega
          obtain ⟨⟨r0, r1⟩, r2, r3⟩ := HGR.out (k : Int) (by omega) i1
          obtain ⟨⟨t0, t1⟩, _, _⟩ := HGR.out 0 (by omega) (by omega)
          have hG := HGM.out (k : Int) (by omega) i1
          have hG0 := HGM.out 0 (by omega) (by omega)
          obtain ⟨r, hr⟩ : ∃ r : Nat, root zs k = r := ⟨(root zs k).toNat, by omega⟩
          obtain ⟨t, ht⟩ : ∃ t : Nat, root zs 0 = t := ⟨(root zs 0).toNat, by omega⟩
          rw [hr] at r1 r2 r3 hG
          rw [ht] at t1 r3 hG0
          have HG := Lib.hid hG
          have HG0 := Lib.hid hG0
          obtain ⟨o, ho⟩ : ∃ o, gI of k = o := ⟨_, rfl⟩
          obtain ⟨oz, hoz⟩ : ∃ oz, gI of 0 = oz := ⟨_, rfl⟩
          rw [ho] at r2 r3
          rw [hoz] at r3
          obtain ⟨bb, hbb⟩ : ∃ bb, ((r : Int) == (t : Int)) = bb := ⟨_, rfl⟩
          have hoo : (o == oz) = bb := by
            rw [← hbb]
            by_cases e : o = oz
            · rw [beq_iff_eq.2 e, beq_iff_eq.2 (r3.2 e)]
            · rw [beq_eq_false_iff_ne.2 e, beq_eq_false_iff_ne.2 (fun e2 => e (r3.1 e2))]
          have bj := HBJ.out.below hb5
          have hJr := HJ.out.below hb5
          have hOr : Ints wr 0 (.slice (some ⟨go, 0, none⟩) i i) of := Row.below HO.out hb5
          have hCr : Ints wr gc (.slice (some ⟨gc, 0, none⟩) i i) (cntL i qs) := Row.below HC9.out hb
          have HO2 := Lib.hid (And.intro hOr hCr)
          have HR2 := Lib.hid (And.intro r2 (And.intro ho hoz))
          have HB3 := Lib.hid hb
          clear r0 t0 r2 r3 hG hG0 hr ht ho hoz hOr hCr hb hb5
          have x0 := bj.cell 0
          have x1 := bj.cell 1
          have xn := bj.lt
          simp only [List.getElem?_toArray, List.getElem?_cons_zero, List.getElem?_cons_succ] at x0 x1
          go_wp2_with fail
          refine (K_spec_GroupOf hJr HG.out).mono ?_
          rintro e w10 ⟨rfl, hb⟩
          replace bj := bj.below hb
          replace hJr := hJr.below hb
          have hO1 := Row.below HO2.out.1 hb
          have hC1 := Row.below HO2.out.2 hb
          have HB4 := Lib.hid (bnext HB3.out hb)
          have o0 := Ints.cell hO1 (k := r) (by rw [HOFL.out]; omega)
          have o1 := Ints.cell hO1 (k := k) (by rw [HOFL.out]; omega)
          have o2 := Ints.cell hO1 (k := 0) (by rw [HOFL.out]; omega)
          have d0 := Ints.cell hC1 (k := k) (by rw [cntL_len]; omega)
          rw [HTW.out (k : Int) (by omega) i1] at d0
          rw [HR2.out.1] at o0
          rw [HR2.out.2.1] at o1
          rw [show gI of ((0 : Nat) : Int) = oz from HR2.out.2.2] at o2
          have hgl := (Row.lt hC1 (g := gc) rfl).2
          have hol := (Row.lt hO1 (g := go) rfl).2
          clear hb hO1 hC1 x0 x1 xn
          have x0 := bj.cell 0
          have x1 := bj.cell 1
          have xn := bj.lt
          simp only [List.getElem?_toArray, List.getElem?_cons_zero, List.getElem?_cons_succ] at x0 x1
          have HJ3 := Lib.hid hJr
          have HBJ3 := Lib.hid bj
          have n0 : (0 : Int) < i := by omega
          clear hJr bj
          go_wp2_with fail
          go_quiet (fail)
          obtain ⟨nq1, hnq1⟩ : ∃ m, m = nq := ⟨_, rfl⟩
          rw [← hnq1]
          have hb11 : Hid (Below w10.heap.size w10 (w10.drewN nq1)) := Lib.hid (below_drewN _ _ _)
          have HJ4 : Hid (JoinedIn (w10.drewN nq1) w2.heap.size w3.heap.size (.slice E i cE) (.slice F us.length cF) zs us) := Lib.hid (HJ3.out.below hb11.out)
          replace o1 : (w10.drewN nq1).cell? ⟨go, k, none⟩ = some (.int .i64 o) := o1
          replace o2 : (w10.drewN nq1).cell? ⟨go, 0, none⟩ = some (.int .i64 oz) := o2
          replace x0 : (w10.drewN nq1).cell? ⟨pj, 0, none⟩ = _ := x0
          replace x1 : (w10.drewN nq1).cell? ⟨pj, 1, none⟩ = _ := x1
          replace xn : pj < (w10.drewN nq1).heap.size := xn
          replace hol : go < (w10.drewN nq1).heap.size := hol
          clear hnq1 o0 d0 HJ3 HBJ3 hgl
          generalize (w10.drewN nq1) = w11 at hb11 HJ4 o1 o2 x0 x1 xn hol ⊢
          go_wp2_with fail
          refine (K_spec_GroupOf HJ4.out HG0.out).mono ?_
          rintro e w12 ⟨rfl, hb⟩
          replace o1 := (hb.cell (p := ⟨go, k, none⟩) hol).trans o1
          replace o2 := (hb.cell (p := ⟨go, 0, none⟩) hol).trans o2
          have hol2 : go < w12.heap.size := by have := hb.size; omega
          have HB5 := Lib.hid (bnext HB4.out (bnext hb11.out hb))
          clear hb x0 x1 xn hol
          go_wp2_with fail
          go_quiet (fail)
          obtain ⟨nq2, hnq2⟩ : ∃ m, m = nq := ⟨_, rfl⟩
          rw [← hnq2]
          have HB6 : Hid (Below W9.heap.size W9 (w12.drewN nq2)) := Lib.hid (bnext HB5.out (below_drewN _ _ _))
          clear hnq2 o1 o2 hbb hoo
          go_wp2
          go_roundw
          case rel => exact ⟨k + 1, by omega, by go_num, HB6.out⟩
          case measure => simp [intOf]; omega
        · have e : k = i := by omega
          subst e
          have HBE := Lib.hid (bnext HB.out hb5)
          clear hb hb5
          go_wp2
          go_ret
          exact ⟨rfl, HBE.out⟩
end Go.Proofs.Ytcfdbjjfdddfeaa
