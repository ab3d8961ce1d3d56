/-
  The law FnJoins, walked.
-/
import Derived.Test.YtcfdbjjfdddfeaaA2J
import Derived.Test.YtcfdbjjfdddfeaaA2At
import Derived.Test.YtcfdbjjfdddfeaaGrps
import Derived.Test.YtcfdbjjfdddfeaaJGroups
import Derived.Test.YtcfdbjjfdddfeaaJUndo
import Derived.Test.YtcfdbjjfdddfeaaJoinS
import Derived.Test.YtcfdbjjfdddfeaaPlJn3
namespace Go.Proofs.Ytcfdbjjfdddfeaa
open Go.RowKit Knot

set_option maxHeartbeats 2000000 in
theorem A2Joined_any {w : World} {a : Option Addr} {len cap : Nat} {zs : List Int} (h : IsRow .u8 w a len cap zs) :
    Calls Try.prog 38 #[.slice a len cap] w fun e w' => ∃ A c D d xs ys, e = .returned (.agg #[.slice A xs.length c, .slice D ys.length d]) ∧ OkJ xs ys ∧ xs.length ≤ 14 ∧
      JoinedIn w' w.heap.size w'.heap.size (.slice A xs.length c) (.slice D ys.length d) xs ys ∧ Below w.heap.size w w' := by
  have bl := Joins.below_alloc1 w (.cells #[.slice none 0 0, .slice none 0 0] 27)
  have h1 := h.below bl
  have r1 := Box.new w 27 #[.slice none 0 0, .slice none 0 0]
  clear h
  go_enter Try.func38, Try.ntmps38
  go_wp2_with fail
  generalize hV : w.alloc (.cells #[.slice none 0 0, .slice none 0 0] 27) = V at *
  have hVs : V.heap.size = w.heap.size + 1 := by rw [← hV]; exact World.size_alloc _ _
  clear hV
  refine (src_from h1).mono ?_
  rintro e w1 ⟨rfl, hS, s1, hb1⟩
  clear h1
  have HV := Lib.hid hVs
  have r2 := r1.below hb1
  have bl2 := bnext bl hb1
  obtain ⟨sb, hsb⟩ : ∃ sb, V.heap.size = sb := ⟨_, rfl⟩
  rw [hsb] at hS s1
  clear hVs r1 bl hb1
  go_wp2_with fail
  try rw [hsb]
  refine (l08Draw_any hS (by omega)).mono ?_
  rintro e w2 ⟨A, c, D, d, xs, ys, rfl, ho, hl, hJ, _, hc⟩
  have hlt := HV.out
  have r3 := r2.chgb hc (by omega)
  have hr2 := r2.lt
  have hb2 : Below w.heap.size w w2 := ⟨hc.os.trans bl2.os, hc.tape.trans bl2.tape, hc.output.trans bl2.output, Nat.le_trans bl2.size hc.size, fun j hj => (hc.block j (by omega) (.inl (by omega))).trans (bl2.block j hj)⟩
  have p0 := r3.cell 0
  have p1 := r3.cell 1
  have pf0 := r3.free 0
  have pf1 := r3.free 1
  have rn := r3.lt
  simp only [List.getElem?_toArray, List.getElem?_cons_zero, List.getElem?_cons_succ] at p0 p1
  have hx1 : ∀ j, (Value.slice A xs.length c).ownBlock = some j → j ≠ w.heap.size := fun j hj => by have := (Row.lt hJ.1.1 hj).1; omega
  have hx2 : ∀ j, (Value.slice D ys.length d).ownBlock = some j → j ≠ w.heap.size := fun j hj => by have := (Row.lt hJ.2.1.1 hj).1; omega
  have HJ : Hid (JoinedIn ((w2.setCell ⟨w.heap.size, 0, none⟩ (.slice A xs.length c)).setCell ⟨w.heap.size, 1, none⟩ (.slice D ys.length d)) w.heap.size ((w2.setCell ⟨w.heap.size, 0, none⟩ (.slice A xs.length c)).setCell ⟨w.heap.size, 1, none⟩ (.slice D ys.length d)).heap.size (.slice A xs.length c) (.slice D ys.length d) xs ys) := Lib.hid ⟨IntsIn.ofInts (Row.le (Row.setCell (Row.setCell hJ.1.1 (p := ⟨w.heap.size, 0, none⟩) hx1 _) (p := ⟨w.heap.size, 1, none⟩) hx1 _) (by omega)) (by omega), IntsIn.ofInts (Row.le (Row.setCell (Row.setCell hJ.2.1.1 (p := ⟨w.heap.size, 0, none⟩) hx2 _) (p := ⟨w.heap.size, 1, none⟩) hx2 _) (by omega)) (by have := nodup_length_le ho.nd ho.llo ho.lhi; omega), hJ.2.2⟩
  have HB := Lib.hid ((hb2.setCell (p := ⟨w.heap.size, 0, none⟩) (Nat.le_refl _) (.slice A xs.length c)).setCell (p := ⟨w.heap.size, 1, none⟩) (Nat.le_refl _) (.slice D ys.length d))
  have HO := Lib.hid ho
  have HL := Lib.hid hl
  clear hJ hc ho hl hx1 hx2 hb2 r3 r2 bl2 hlt hS
  go_wp2_with fail
  refine bodyPost_ret (v := .agg #[.slice A xs.length c, .slice D ys.length d]) ?_ rfl ?_
  · simp [results, Try.results38, go_sem, rn, p0, p1]
  · exact ⟨A, c, D, d, xs, ys, rfl, HO.out, HL.out, HJ.out, HB.out⟩
set_option maxRecDepth 20000 in
set_option maxHeartbeats 8000000 in
theorem FnJoins_walk (a0 : Option Addr) (l0 : Nat) (c0 : Nat) (z0 : List Int) (a1 : Option Addr) (l1 : Nat) (c1 : Nat) (z1 : List Int) (w : World) (r0 : IsRow .u8 w a0 l0 c0 z0) (r1 : IsRow .u8 w a1 l1 c1 z1) :
    Calls Try.prog 10 #[.slice a0 l0 c0, .slice a1 l1 c1] w fun e w' => e = .returned (.bool true) ∧ Below w.heap.size w w' := by
  by_cases e_0 : (l0 : Int) ≤ 3000 ∧ (l1 : Int) ≤ 3000
  rotate_left
  · have hd : decide ((l0 : Int) > 3000 ∨ (l1 : Int) > 3000) = true := decide_eq_true (by omega)
    go_enter Try.func10, Try.ntmps10
    go_wp2_with fail
    refine (a2Long2_any a0 l0 c0 a1 l1 c1 true hd _).mono ?_
    rintro e w' ⟨rfl, rfl⟩
    go_wp2_with fail
    go_ret
    exact ⟨rfl, Below.refl _ _⟩
  have hd : decide ((l0 : Int) > 3000 ∨ (l1 : Int) > 3000) = false := decide_eq_false (by omega)
  go_enter Try.func10, Try.ntmps10
  go_wp2_with fail
  refine (a2Long2_any a0 l0 c0 a1 l1 c1 false hd _).mono ?_
  rintro e w' ⟨rfl, rfl⟩
  clear hd e_0
  go_wp2_with fail
  refine (A2Joined_any r0).mono ?_
  rintro e w1 ⟨A, c, D, d, xs, ys, rfl, ho, hl, hJ, bl⟩
  replace r1 := r1.below bl
  have hn1 := ho.n1
  have HO := Lib.hid ho
  have hbz := Joins.below_alloc1 w1 (.cells #[.slice A xs.length c, .slice D ys.length d] 27)
  have bj := Box.new w1 27 #[.slice A xs.length c, .slice D ys.length d]
  obtain ⟨pj, hpj⟩ : ∃ pj, w1.heap.size = pj := ⟨_, rfl⟩
  rw [hpj] at bj
  replace hJ := hJ.below hbz
  replace r1 := r1.below hbz
  replace bl := bnext bl hbz
  obtain ⟨n, hn⟩ : ∃ n, xs.length = n := ⟨_, rfl⟩
  have HN := Lib.hid hn
  rw [hn] at hl hn1 bj hJ
  have q0 := bj.cell 0
  have q1 := bj.cell 1
  have qn := bj.lt
  simp only [List.getElem?_toArray, List.getElem?_cons_zero, List.getElem?_cons_succ] at q0 q1
  clear r0 ho hbz
  go_wp2_with fail
  try rw [hpj]
  rw [hn] at r1 bl
  generalize hV : w1.alloc (.cells #[.slice A n c, .slice D ys.length d] 27) = V1 at *
  clear hV hn
  refine (a2At_any r1 (by omega) (by omega) (by omega) (by omega)).mono ?_
  rintro e w' ⟨a, rfl, ⟨ha0, ha1⟩, rfl⟩
  go_wp2_with fail
  refine (a2At_any r1 (by omega) (by omega) (by omega) (by omega)).mono ?_
  rintro e w' ⟨b, rfl, ⟨hb0, hb1⟩, rfl⟩
  clear r1
  -- the joined one
  have hax : a < xs.length := by rw [HN.out]; exact ha1
  have hbx : b < xs.length := by rw [HN.out]; exact hb1
  obtain ⟨ra0, ra1, ra2⟩ := root_spec HO.out.forest ha0 hax
  obtain ⟨rb0, rb1, rb2⟩ := root_spec HO.out.forest hb0 hbx
  obtain ⟨zs, hzs⟩ : ∃ zs, (joinR xs ys (root xs a) (root xs b)).1 = zs := ⟨_, rfl⟩
  obtain ⟨us, hus⟩ : ∃ us, (joinR xs ys (root xs a) (root xs b)).2 = us := ⟨_, rfl⟩
  have hoz : OkJ zs us := by
    have := ok_joinAt HO.out ha0 hax hb0 hbx
    rw [hzs, hus] at this
    exact this
  have hzl : zs.length = n := by rw [← hzs, joinR_length]; exact HN.out
  have hJM : joinM xs ys a b = (zs, us, 0) := by
    have hin : InJ xs [a, b] 2 := (InJ_two xs a b).2 ⟨⟨ha0, by omega⟩, hb0, by omega⟩
    unfold joinM
    rw [if_pos (codeJ_ok HO.out hin), hzs, hus]
  have hroot : root zs a = root zs b := by
    have := join_one HO.out ha0 hax hb0 hbx
    rw [hzs] at this
    exact this
  have hund := join_undo (log := ys) ra0 ra1 rb0 rb1 ra2 rb2
  rw [show joinR xs ys (root xs a) (root xs b) = (zs, us) by rw [← hzs, ← hus]] at hund
  obtain ⟨bf, hbf⟩ : ∃ bf : Int, (xs.length : Int) - ys.length = bf := ⟨_, rfl⟩
  obtain ⟨af, haf⟩ : ∃ af : Int, (zs.length : Int) - us.length = af := ⟨_, rfl⟩
  have hyl := nodup_length_le HO.out.nd HO.out.llo HO.out.lhi
  have hul := nodup_length_le hoz.nd hoz.llo hoz.lhi
  have hbf0 : 0 ≤ bf ∧ bf ≤ 14 := by rw [HN.out] at hbf hyl; omega
  have haf0 : 0 ≤ af ∧ af ≤ 14 := by omega
  have HCB : Hid (cntGM xs ys = (bf, 0)) := Lib.hid (by unfold cntGM; rw [if_pos HO.out, hbf])
  have HCA : Hid (cntGM zs us = (af, 0)) := Lib.hid (by unfold cntGM; rw [if_pos hoz, haf])
  obtain ⟨g, hg⟩ : ∃ g, root zs a = g := ⟨_, rfl⟩
  have hz1 : ∀ k : Int, 0 ≤ k → k < n → codeJ zs us [k] = 0 := fun k h0 h1 => codeJ_ok hoz ((InJ_one zs k).2 ⟨h0, by omega⟩)
  have HGA : Hid (groupM zs us a = (g, 0)) := Lib.hid (by unfold groupM; rw [if_pos (hz1 a ha0 ha1), hg])
  have HGB : Hid (groupM zs us b = (g, 0)) := Lib.hid (by unfold groupM; rw [if_pos (hz1 b hb0 hb1), ← hroot, hg])
  have HVZ : Hid (validM zs us = true) := Lib.hid (by rw [(validM_iff (xs := zs) (ys := us) rfl)]; exact hoz)
  obtain ⟨L, hL⟩ : ∃ L, (grpS zs zs.length).map Prod.snd = L := ⟨_, rfl⟩
  have HGL : Hid (grpsM zs us = (L, 0)) := Lib.hid (by unfold grpsM; rw [if_pos hoz, hL])
  have HLR : Hid (GrpRows n L) := Lib.hid (by rw [← hL, hzl]; exact grp_rows zs n)
  have hLl : (L.length : Int) = af := by
    rw [← hL, List.length_map, ← haf]
    exact grpS_count hoz
  have HLL := Lib.hid hLl
  have HJM := Lib.hid hJM
  have HEND : Hid ((af = bf ∧ sameM zs us xs ys = true) ∨ (af = bf - 1 ∧ undoM zs us = (xs, ys, 0))) := Lib.hid (by
    rcases hund with hu | ⟨hu1, hu2, hu3⟩
    · injection hu with h1 h2
      subst h1 h2
      exact .inl ⟨by omega, by simp [sameM]⟩
    · simp only [] at hu1 hu2 hu3
      have hx : xs.length = n := HN.out
      refine .inr ⟨by omega, ?_⟩
      unfold undoM
      rw [if_pos hoz, if_neg (by omega), hu2, hu3])
  clear ra0 ra1 ra2 rb0 rb1 rb2 hzs hus hJM hroot hund hbf haf hyl hg hz1 hL hLl hax hbx
  have HOZ := Lib.hid hoz
  clear hoz
  have HZL := Lib.hid hzl
  clear hzl
  have HUL := Lib.hid hul
  clear hul
  go_wp2_with fail
  refine (K_impl_JoinGroups hJ HJM.out).mono ?_
  rintro e w2 ⟨E, f, F, h, rfl, hX, hb⟩
  replace bj := bj.below hb
  replace hJ := hJ.below hb
  replace bl := bnext bl hb
  clear hb q0 q1 qn
  have hbz := Joins.below_alloc1 w2 (.cells #[.slice E zs.length f, .slice F us.length h] 27)
  have bx := Box.new w2 27 #[.slice E zs.length f, .slice F us.length h]
  obtain ⟨px, hpx⟩ : ∃ px, w2.heap.size = px := ⟨_, rfl⟩
  rw [hpx] at bx
  replace hJ := hJ.below hbz
  replace hX := hX.below hbz
  replace bl := bnext bl hbz
  replace bj := bj.below hbz
  clear hbz
  have q0 := bj.cell 0
  have q1 := bj.cell 1
  have qn := bj.lt
  have x0 := bx.cell 0
  have x1 := bx.cell 1
  have xn := bx.lt
  simp only [List.getElem?_toArray, List.getElem?_cons_zero, List.getElem?_cons_succ] at q0 q1 x0 x1
  go_wp2_with fail
  try rw [hpx]
  generalize hV : w2.alloc (.cells #[.slice E zs.length f, .slice F us.length h] 27) = V2 at *
  clear hV
  refine (K_impl_CountGroups hJ HCB.out).mono ?_
  rintro e w3 ⟨rfl, hb⟩
  replace bj := bj.below hb
  replace bx := bx.below hb
  replace hJ := hJ.below hb
  replace hX := hX.below hb
  replace bl := bnext bl hb
  clear hb q0 q1 qn x0 x1 xn
  have q0 := bj.cell 0
  have q1 := bj.cell 1
  have qn := bj.lt
  have x0 := bx.cell 0
  have x1 := bx.cell 1
  have xn := bx.lt
  simp only [List.getElem?_toArray, List.getElem?_cons_zero, List.getElem?_cons_succ] at q0 q1 x0 x1
  go_wp2_with fail
  refine (K_spec_ValidJoined hX HVZ.out).mono ?_
  rintro e w4 ⟨rfl, hb⟩
  replace bj := bj.below hb
  replace bx := bx.below hb
  replace hJ := hJ.below hb
  replace hX := hX.below hb
  replace bl := bnext bl hb
  clear hb q0 q1 qn x0 x1 xn
  have q0 := bj.cell 0
  have q1 := bj.cell 1
  have qn := bj.lt
  have x0 := bx.cell 0
  have x1 := bx.cell 1
  have xn := bx.lt
  simp only [List.getElem?_toArray, List.getElem?_cons_zero, List.getElem?_cons_succ] at q0 q1 x0 x1
  go_wp2_with fail
  refine (K_impl_CountGroups hX HCA.out).mono ?_
  rintro e w5 ⟨rfl, hb⟩
  replace bj := bj.below hb
  replace bx := bx.below hb
  replace hJ := hJ.below hb
  replace hX := hX.below hb
  replace bl := bnext bl hb
  clear hb q0 q1 qn x0 x1 xn
  have q0 := bj.cell 0
  have q1 := bj.cell 1
  have qn := bj.lt
  have x0 := bx.cell 0
  have x1 := bx.cell 1
  have xn := bx.lt
  simp only [List.getElem?_toArray, List.getElem?_cons_zero, List.getElem?_cons_succ] at q0 q1 x0 x1
  go_wp2_with fail
  refine (K_impl_GroupOf hX HGA.out).mono ?_
  rintro e w6 ⟨rfl, hb⟩
  replace bj := bj.below hb
  replace bx := bx.below hb
  replace hJ := hJ.below hb
  replace hX := hX.below hb
  replace bl := bnext bl hb
  clear hb q0 q1 qn x0 x1 xn
  have q0 := bj.cell 0
  have q1 := bj.cell 1
  have qn := bj.lt
  have x0 := bx.cell 0
  have x1 := bx.cell 1
  have xn := bx.lt
  simp only [List.getElem?_toArray, List.getElem?_cons_zero, List.getElem?_cons_succ] at q0 q1 x0 x1
  go_wp2_with fail
  refine (K_impl_GroupOf hX HGB.out).mono ?_
  rintro e w7 ⟨rfl, hb⟩
  replace bj := bj.below hb
  replace bx := bx.below hb
  replace hJ := hJ.below hb
  replace hX := hX.below hb
  replace bl := bnext bl hb
  clear hb q0 q1 qn x0 x1 xn
  have q0 := bj.cell 0
  have q1 := bj.cell 1
  have qn := bj.lt
  have x0 := bx.cell 0
  have x1 := bx.cell 1
  have xn := bx.lt
  simp only [List.getElem?_toArray, List.getElem?_cons_zero, List.getElem?_cons_succ] at q0 q1 x0 x1
  have hll := HLL.out
  have hlc : ((L.length : Int) != af) = false := by simp [hll]
  clear hll
  rcases HEND.out with ⟨e1, e2⟩ | ⟨e1, e2⟩
  case' inl =>
    have HE : Hid (sameM zs us xs ys = true) := Lib.hid e2
    have hq1 : (af != bf) = false := by simp [e1]
    have hq3 : (af == bf) = true := by simp [e1]
    clear e1 e2
  case' inr =>
    have HE : Hid (undoM zs us = (xs, ys, 0)) := Lib.hid e2
    have hq1 : (af != bf) = true := by simp [e1]; omega
    have hq3 : (af == bf) = false := by simp [e1]; omega
    have hq2 : (af != (bf - 1)) = false := by simp [e1]
    clear e1 e2
  all_goals
    clear HEND
    go_wp2_with fail
    refine (K_impl_GroupsOf hX HGL.out).mono ?_
    rintro e w8 ⟨M, mc, rfl, hLs, hb⟩
    replace bj := bj.below hb
    replace bx := bx.below hb
    replace hJ := hJ.below hb
    replace hX := hX.below hb
    replace bl := bnext bl hb
    clear hb q0 q1 qn x0 x1 xn
    have q0 := bj.cell 0
    have q1 := bj.cell 1
    have qn := bj.lt
    have x0 := bx.cell 0
    have x1 := bx.cell 1
    have xn := bx.lt
    simp only [List.getElem?_toArray, List.getElem?_cons_zero, List.getElem?_cons_succ] at q0 q1 x0 x1
    go_wp2_with fail
    obtain ⟨l, hl1, hl2, hl3, hl4, hl5⟩ := hLs.ex
    have hll2 : l.length = L.length := by rw [← hl2, List.length_map]
    have HLS := Lib.hid hl1
    have HL2 := Lib.hid hl2
    have HL3 := Lib.hid hll2
    have HBX := Lib.hid (And.intro bj (And.intro bx (And.intro hJ (And.intro hX bl))))
    have hLb : L.length ≤ 1000 := hLs.len
    have HN14 : Hid (n ≤ 14) := Lib.hid hl
    have hh0 : ∀ h : 0 < L.length, (-1 : Int) < gI L[0] 0 := fun h => by
      have := HLR.out.pos 0 h 0 (by have := (HLR.out.some 0 h).1; omega)
      simp only [Int.natCast_zero] at this
      omega
    have HH0 := Lib.hid hh0
    have HQ1 := Lib.hid hq1
    clear hl1 hl2 hl3 hl4 hl5 hll2 hLs bj bx hJ hX bl q0 q1 qn x0 x1 xn hh0 hq1
    go_wp2
    go_loopw [21, 22, 23] (fun s t u wr => ∃ (i : Nat) (lv : Int), i ≤ L.length ∧ s = .int .i64 (((L.take i).map List.length).sum : Nat) ∧ t = .int .i64 lv ∧ u = .int .i64 i ∧ (∀ h : i < L.length, lv < gI L[i] 0) ∧ Below w8.heap.size w8 wr) (fun _ _ u _ => L.length - (intOf u).toNat)
    case atStart => exact ⟨0, -1, Nat.zero_le _, rfl, rfl, rfl, HH0.out, Below.refl _ _⟩
    case round =>
      obtain ⟨i, lv, hi, rfl, rfl, rfl, hlv, hb⟩ := hrel
      have hsl := take_sum_le L i
      rw [HLR.out.sum] at hsl
      by_cases hlt : i < L.length
      · have hi1 : (i : Int) < L.length := by omega
        have hil : i < l.length := by rw [HL3.out]; exact hlt
        have hlr := HLS.out.below hb
        obtain ⟨A', c', hA, hA2⟩ := hlr.open_
        injection hA with hA3 hA4 hA5
        subst hA3 hA5
        obtain ⟨gm, rfl, hgm⟩ := hA2 (by omega)
        have hlx := hlr.2 l[i] (List.getElem_mem hil)
        have cx := Row.cell hlr.1 hil
        have hps : l[i].ps = L[i] := by
          have e : (l.map Ll.ps)[i]? = L[i]? := by rw [HL2.out]
          rw [List.getElem?_map, List.getElem?_eq_getElem hil, List.getElem?_eq_getElem hlt] at e
          injection e
        obtain ⟨x, hx⟩ : ∃ x, l[i] = x := ⟨_, rfl⟩
        rw [hx] at hps cx hlx
        have hsm := HLR.out.some i hlt
        have hv := hlv hlt
        have hup := HLR.out.up i hlt
        have hnx := HLR.out.head i
        have hts := take_sum hlt
        rw [← hps] at hsm hv hup hts
        have hps2 := Lib.hid hps
        have cx2 : wr.cell? ⟨gm, i, none⟩ = some (.slice (some ⟨x.g, 0, none⟩) x.ps.length x.c) := cx
        have hlx2 : Ints wr w7.heap.size (.slice (some ⟨x.g, 0, none⟩) x.ps.length x.c) x.ps := hlx
        have d0 := Ints.cell hlx2 (k := 0) (by omega)
        simp only [Int.natCast_zero] at d0
        have hnv : ∀ h : i + 1 < L.length, gI x.ps 0 < gI L[i + 1] 0 := fun h => by
          have := hnx h
          rw [hps]
          exact this
        have HNV := Lib.hid hnv
        have HUP := Lib.hid hup
        obtain ⟨h0, hh0⟩ : ∃ h0, gI x.ps 0 = h0 := ⟨_, rfl⟩
        have HH1 := Lib.hid hh0
        rw [hh0] at d0 hv
        have hpl : (((x.ps.length : Int)) == 0) = false := beq_eq_false_iff_ne.2 (by omega)
        have HTS := Lib.hid hts
        have HB := Lib.hid hb
        have HX2 := Lib.hid hlx2
        have hn14 := HN14.out
        clear hlv hlr hA2 hA4 hlx cx hx hnx hps hup hnv hh0 hts hb hlx2
        generalize ((L.take i).map List.length).sum = sm at *
        go_wp2
        obtain ⟨W1, hW1⟩ : ∃ x, x = wr := ⟨wr, rfl⟩
        subst hW1
        go_loopw [24] (fun s wr => ∃ k : Nat, 1 ≤ k ∧ k ≤ x.ps.length ∧ s = .int .i64 k ∧ Below W1.heap.size W1 wr) (fun s _ => x.ps.length - (intOf s).toNat)
        case atStart => exact ⟨1, Nat.le_refl _, hsm.1, rfl, Below.refl _ _⟩
        case round =>
          obtain ⟨k, hk1, hk, rfl, hb2⟩ := hrel
          have c2 := (hb2.cell (p := ⟨gm, i, none⟩) hgm).trans cx2
          obtain ⟨j, rfl⟩ : ∃ j, k = j + 1 := ⟨k - 1, by omega⟩
          have hx3 : Ints wr w7.heap.size (.slice (some ⟨x.g, 0, none⟩) x.ps.length x.c) x.ps := Row.below HX2.out hb2
          by_cases h2 : j + 1 < x.ps.length
          · have hi2 : ((j : Int) + 1) < x.ps.length := by omega
            have e1 := Ints.cell hx3 (k := j + 1) h2
            have e2 := Ints.cell hx3 (k := j) (by omega)
            have hlt2 := HUP.out j h2
            obtain ⟨va, hva⟩ : ∃ va, gI x.ps ((j + 1 : Nat) : Int) = va := ⟨_, rfl⟩
            obtain ⟨vb, hvb⟩ : ∃ vb, gI x.ps (j : Int) = vb := ⟨_, rfl⟩
            rw [hva] at e1 hlt2
            rw [hvb] at e2 hlt2
            have hle : (va <= vb) = False := eq_false (by omega)
            have hjn : ((j : Int) + 1).toNat = j + 1 := by omega
            have hj0 : ((j : Int) + 1 - 1) = j := by omega
            have HB2 := Lib.hid hb2
            clear hva hvb hlt2 hx3 hb2 d0
            go_wp2
            go_quiet (fail)
            obtain ⟨nq1, hnq1⟩ : ∃ m, m = nq := ⟨_, rfl⟩
            rw [← hnq1]
            have HB4 : Hid (Below W1.heap.size W1 (wr.drewN nq1)) := Lib.hid (bnext HB2.out (below_drewN _ _ _))
            clear hnq1
            go_wp2
            go_roundw
            case rel => exact ⟨j + 2, by omega, by omega, by go_num, HB4.out⟩
            case measure => simp [intOf]; omega
          · have e : j + 1 = x.ps.length := by omega
            have hi2 : ((j : Int) + 1) = x.ps.length := by omega
            have HB3 := Lib.hid (bnext HB.out hb2)
            clear hx3 hb2 d0
            go_wp2
            go_roundw
            case rel => exact ⟨i + 1, h0, by omega, by rw [HTS.out]; go_num, rfl, by go_num, fun h => by rw [← HH1.out]; exact HNV.out h, HB3.out⟩
            case measure => simp [intOf]; omega
      · have e : i = L.length := by omega
        subst e
        have hsn : ((L.take L.length).map List.length).sum = n := by rw [List.take_length]; exact HLR.out.sum
        rw [hsn]
        have hnn : ((n : Int) != n) = false := by simp
        obtain ⟨bj, bx, hJ, hX, bl⟩ := HBX.out
        replace bj := bj.below hb
        replace bx := bx.below hb
        replace hJ := hJ.below hb
        replace hX := hX.below hb
        replace bl := bnext bl hb
        clear hb hlv hsn hsl
        have q0 := bj.cell 0
        have q1 := bj.cell 1
        have qn := bj.lt
        have x0 := bx.cell 0
        have x1 := bx.cell 1
        have xn := bx.lt
        simp only [List.getElem?_toArray, List.getElem?_cons_zero, List.getElem?_cons_succ] at q0 q1 x0 x1
        have hd1 : w.heap.size ≤ w.heap.size := Nat.le_refl _
        first
          | (go_wp2_with fail
             refine (K_spec_SameJoined hX hJ HE.out).mono ?_
             rintro e w9 ⟨rfl, hb9⟩
             replace bl := bnext bl hb9
             go_wp2
             go_ret
             exact ⟨rfl, bl⟩)
          | (go_wp2_with fail
             refine (K_impl_UndoJoin hX HE.out).mono ?_
             rintro e w9 ⟨P, pc, R, rc, rfl, hY, hb9⟩
             replace bj := bj.below hb9
             replace hJ := hJ.below hb9
             replace bl := bnext bl hb9
             have hbz := Joins.below_alloc1 w9 (.cells #[.slice P xs.length pc, .slice R ys.length rc] 27)
             have by_ := Box.new w9 27 #[.slice P xs.length pc, .slice R ys.length rc]
             obtain ⟨py, hpy⟩ : ∃ py, w9.heap.size = py := ⟨_, rfl⟩
             rw [hpy] at by_
             replace bj := bj.below hbz
             replace hJ := hJ.below hbz
             replace hY := hY.below hbz
             replace bl := bnext bl hbz
             clear q0 q1 qn x0 x1 xn bx hX hb9 hbz
             have q0 := bj.cell 0
             have q1 := bj.cell 1
             have qn := bj.lt
             have y0 := by_.cell 0
             have y1 := by_.cell 1
             have yn := by_.lt
             simp only [List.getElem?_toArray, List.getElem?_cons_zero, List.getElem?_cons_succ] at q0 q1 y0 y1
             go_wp2_with fail
             try rw [hpy]
             generalize hV : w9.alloc (.cells #[.slice P xs.length pc, .slice R ys.length rc] 27) = V9 at *
             clear hV
             refine (K_spec_SameJoined hY hJ (show sameM xs ys xs ys = true by simp [sameM])).mono ?_
             rintro e w10 ⟨rfl, hb10⟩
             replace bl := bnext bl hb10
             go_wp2
             go_ret
             exact ⟨rfl, bl⟩)
end Go.Proofs.Ytcfdbjjfdddfeaa
