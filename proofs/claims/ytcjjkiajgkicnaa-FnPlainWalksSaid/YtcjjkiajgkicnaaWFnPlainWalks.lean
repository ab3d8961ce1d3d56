/-
  The law FnPlainWalks, walked.
-/
import Derived.Test.YtcjjkiajgkicnaaA2W
import Derived.Test.YtcjjkiajgkicnaaLawA
import Derived.Test.YtcjjkiajgkicnaaNewP
import Derived.Test.YtcjjkiajgkicnaaPlSwg
import Derived.Test.YtcjjkiajgkicnaaPWalk
import Derived.Test.YtcjjkiajgkicnaaCut
namespace Go.Proofs.Ytcjjkiajgkicnaa
open Go.RowKit Knot

theorem plain_lcm {W H : Int} (hW : 1 ≤ W ∧ W ≤ 8) (hH : 1 ≤ H ∧ H ≤ 8) : 1 ≤ lcmI W H ∧ lcmI W H ≤ 64 := by
  refine ⟨lcm_pos hW.1 hH.1, ?_⟩
  have hg := gcdI_pos W H hW.1
  have h1 : W / gcdI W H ≤ W := Int.ediv_le_self _ (by omega)
  have h0 : 0 ≤ W / gcdI W H := Int.ediv_nonneg (by omega) (by omega)
  have h2 : W / gcdI W H * H ≤ 8 * 8 := Int.mul_le_mul (by omega) hH.2 (by omega) (by omega)
  unfold lcmI
  exact h2
theorem plain_pc {W H : Int} (hW : 1 ≤ W ∧ W ≤ 8) (hH : 1 ≤ H ∧ H ≤ 8) {k : Wk} (h : OkWk W H k.X k.Y k.dx k.dy) : pcM W H k = 0 := by
  refine pcM_ok ?_ h
  rw [show num6 W = true from inR_t ⟨by omega, by omega⟩, show num6 H = true from inR_t ⟨by omega, by omega⟩]
  rfl
theorem plain_pw {W H : Int} (hW : 1 ≤ W ∧ W ≤ 8) (hH : 1 ≤ H ∧ H ≤ 8) {k : Wk} (h : OkWk W H k.X k.Y k.dx k.dy) {s : Int} (hs : 0 ≤ s ∧ s ≤ 1000000000000) {a b c d : Int} (he : swgW W H k s = ⟨a, b, c, d⟩) : pwM W H k s = (a, b, c, d, 0) := by
  have e1 := congrArg Wk.X he
  have e2 := congrArg Wk.Y he
  have e3 := congrArg Wk.dx he
  have e4 := congrArg Wk.dy he
  unfold pwM
  rw [plain_pc hW hH h, if_pos rfl, if_pos hs]
  exact Prod.ext e1 (Prod.ext e2 (Prod.ext e3 (Prod.ext e4 rfl)))
theorem plain_pr {W H : Int} (hW : 1 ≤ W ∧ W ≤ 8) (hH : 1 ≤ H ∧ H ≤ 8) {k : Wk} (h : OkWk W H k.X k.Y k.dx k.dy) : prM W H k = (4 * lcmI W H, 0) := by
  unfold prM
  rw [plain_pc hW hH h, if_pos rfl]
/-- At home just after a multiple of the return. -/
theorem plain_home {W H : Int} (hW : 1 ≤ W ∧ W ≤ 8) (hH : 1 ≤ H ∧ H ≤ 8) {k : Wk} (h : OkW (plainP W H) k) {s : Int} (hs : 0 ≤ s) : swgW W H k s = k ↔ s % (4 * lcmI W H) = 0 := by
  rw [swgW_home h, lcm_zero hW.1 hH.1 hs]
  exact Iff.rfl
theorem plain_far {W H : Int} (hW : 1 ≤ W ∧ W ≤ 8) (hH : 1 ≤ H ∧ H ≤ 8) (k : Wk) (m s : Int) : swgW W H k (m * (4 * lcmI W H) + s) = swgW W H k s := by
  have hl := plain_lcm hW hH
  have := (lcm_zero (s := 4 * lcmI W H) hW.1 hH.1 (by omega)).2 (Int.emod_self)
  exact swgW_far this.1 this.2

theorem pw_ne {X Y ex ey x y dx dy : Int} (h : ¬ (X = x ∧ Y = y ∧ ex = dx ∧ ey = dy)) (u : World) :
    (binOp .neq 38 (.agg #[.int .i64 X, .int .i64 Y, .int .i64 ex, .int .i64 ey]) (.agg #[.int .i64 x, .int .i64 y, .int .i64 dx, .int .i64 dy])).run Try.prog u = .ok (.bool true) u := by
  by_cases h1 : X = x
  · by_cases h2 : Y = y
    · by_cases h3 : ex = dx
      · have h4 : ¬ ey = dy := fun h4 => h ⟨h1, h2, h3, h4⟩
        simp [go_sem, h1, h2, h3, h4]
      · simp [go_sem, h1, h2, h3]
    · simp [go_sem, h1, h2]
  · simp [go_sem, h1]
set_option maxRecDepth 20000 in
set_option maxHeartbeats 8000000 in
theorem FnPlainWalks_walk (a0 : Option Addr) (l0 : Nat) (c0 : Nat) (z0 : List Int) (a1 : Option Addr) (l1 : Nat) (c1 : Nat) (z1 : List Int) (w : World) (r0 : IsRow .u8 w a0 l0 c0 z0) (r1 : IsRow .u8 w a1 l1 c1 z1) :
    Calls Try.prog 14 #[.slice a0 l0 c0, .slice a1 l1 c1] w fun e w' => e = .returned (.bool true) ∧ Below w.heap.size w w' := by
  by_cases e_0 : (l0 : Int) ≤ 3000 ∧ (l1 : Int) ≤ 3000
  rotate_left
  · have hd : decide ((l0 : Int) > 3000 ∨ (l1 : Int) > 3000) = true := decide_eq_true (by omega)
    go_enter Try.func14, Try.ntmps14
    go_wp2_with fail
    refine (a2Long2_any a0 l0 c0 a1 l1 c1 true hd _).mono ?_
    rintro e w' ⟨rfl, rfl⟩
    go_wp2_with fail
    go_ret
    exact ⟨rfl, Below.refl _ _⟩
  have hd : decide ((l0 : Int) > 3000 ∨ (l1 : Int) > 3000) = false := decide_eq_false (by omega)
  go_enter Try.func14, Try.ntmps14
  go_wp2_with fail
  refine (a2Long2_any a0 l0 c0 a1 l1 c1 false hd _).mono ?_
  rintro e w' ⟨rfl, rfl⟩
  clear hd e_0
  go_wp2_with fail
  refine (A2Walker_any r0).mono ?_
  rintro e w1 ⟨W, H, x, y, dx, dy, g, n, B, rfl, hok, hk, bl⟩
  have HW : Hid (1 ≤ W ∧ W ≤ 8) := Lib.hid ⟨hok.w1, hok.w8⟩
  have HH : Hid (1 ≤ H ∧ H ≤ 8) := Lib.hid ⟨hok.h1, hok.h8⟩
  have HK : Hid (OkW (plainP W H) ⟨x, y, dx, dy⟩) := Lib.hid ⟨hk.dx, hk.dy, hk.here, hk.there⟩
  have HQ : Hid (OkWk W H x y dx dy) := Lib.hid ⟨hk.dx, hk.dy, hk.here, hk.there⟩
  have HN : Hid (inner W H = ((inner W H).toNat : Nat)) := Lib.hid (by
    have := (plain_ok HW.out HH.out).len
    have e : (plainP W H).B.length = (inner W H).toNat := by simp [plainP]
    rw [e] at this
    exact this.symm)
  clear hok hk r0
  have bk := Box.new (w1.alloc (.cells #[.int .i64 W, .int .i64 H, .slice g n n] 45)) 38 #[.int .i64 x, .int .i64 y, .int .i64 dx, .int .i64 dy]
  have hz := Joins.below_alloc2 w1 (.cells #[.int .i64 W, .int .i64 H, .slice g n n] 45) (.cells #[.int .i64 x, .int .i64 y, .int .i64 dx, .int .i64 dy] 38)
  replace r1 := (r1.below bl).below hz
  replace bl := bnext bl hz
  simp only [World.size_alloc] at bk
  obtain ⟨m, hm⟩ : ∃ m, (inner W H).toNat = m := ⟨_, rfl⟩
  have HPN : Hid (Ok ⟨W, H, List.replicate m 0⟩) := Lib.hid (by rw [← hm]; exact plain_ok HW.out HH.out)
  have HPE : Hid (plainP W H = ⟨W, H, List.replicate m 0⟩) := Lib.hid (by rw [← hm]; rfl)
  rw [hm] at HN
  clear hz hm
  go_wp2_with fail
  refine (sNewPanel_any HW.out HH.out HN.out).mono ?_
  rintro e w2 ⟨h, rfl, hI, hb⟩
  simp only [World.size_alloc] at hI
  replace bk := bk.below hb
  replace bl := bnext bl hb
  replace r1 := r1.below hb
  have s2 := hb.size
  simp only [World.size_alloc] at s2
  have bp := Box.new w2 45 #[.int .i64 W, .int .i64 H, .slice (some ⟨h, 0, none⟩) m m]
  have hz := Joins.below_alloc1 w2 (.cells #[.int .i64 W, .int .i64 H, .slice (some ⟨h, 0, none⟩) m m] 45)
  replace bk := bk.below hz
  replace bl := bnext bl hz
  replace r1 := r1.below hz
  replace hI := hI.below hz
  clear hb hz
  go_wp2_with fail
  generalize hV : (w2.alloc (.cells #[.int .i64 W, .int .i64 H, .slice (some ⟨h, 0, none⟩) m m] 45)) = V at *
  have hVs : V.heap.size = w2.heap.size + 1 := by rw [← hV]; simp
  clear hV
  refine (a2At_any r1 (k := 0) (n := 256) (by omega) (by omega) (by omega) (by omega)).mono ?_
  rintro e w' ⟨s, rfl, ⟨s0, s1⟩, rfl⟩
  obtain ⟨u, hu⟩ : ∃ u : Nat, s = u := ⟨s.toNat, by omega⟩
  subst hu
  clear r1
  obtain ⟨a, b, c, d, hs⟩ : ∃ a b c d, swgW W H ⟨x, y, dx, dy⟩ u = ⟨a, b, c, d⟩ := ⟨_, _, _, _, rfl⟩
  have hl := plain_lcm HW.out HH.out
  have hpr := plain_pr (k := ⟨x, y, dx, dy⟩) HW.out HH.out HQ.out
  have hho := plain_home HW.out HH.out HK.out (s := u) s0
  have hfa := plain_far HW.out HH.out ⟨x, y, dx, dy⟩ 1000000 u
  have hhn := (plain_home HW.out HH.out HK.out (s := 4 * lcmI W H) (by omega)).2 Int.emod_self
  have hit := plain_it HW.out HH.out HK.out u
  rw [HPE.out] at hit
  obtain ⟨N, hN⟩ : ∃ N, 4 * lcmI W H = N := ⟨_, rfl⟩
  rw [hN] at hpr hho hfa hhn
  have N4 : 4 ≤ N ∧ N ≤ 256 := by omega
  have N5 : 0 ≤ 1000000 * N + u ∧ 1000000 * N + u ≤ 1000000000000 := by omega
  rw [hs] at hho hfa hit
  have HM : Hid (pwM W H ⟨x, y, dx, dy⟩ u = (a, b, c, d, 0)) := Lib.hid (plain_pw HW.out HH.out HQ.out (by omega) hs)
  have HMN : Hid (pwM W H ⟨x, y, dx, dy⟩ N = (x, y, dx, dy, 0)) := Lib.hid (plain_pw HW.out HH.out HQ.out (by omega) hhn)
  have HMF : Hid (pwM W H ⟨x, y, dx, dy⟩ (1000000 * N + u) = (a, b, c, d, 0)) := Lib.hid (plain_pw HW.out HH.out HQ.out N5 hfa)
  have HPR := Lib.hid hpr
  have HIT := Lib.hid hit
  have HHO : Hid (((u : Int) = 0 ∨ (u : Int) % N = 0) ∨ ¬ (a = x ∧ b = y ∧ c = dx ∧ d = dy)) := Lib.hid (by
    by_cases hz : (u : Int) % N = 0
    · exact .inl (.inr hz)
    · refine .inr ?_
      rintro ⟨rfl, rfl, rfl, rfl⟩
      exact hz (hho.1 rfl))
  have HKN : Hid (OkW ⟨W, H, List.replicate m 0⟩ ⟨x, y, dx, dy⟩) := Lib.hid (by rw [← HPE.out]; exact HK.out)
  clear hl hpr hho hfa hhn hit hN hs
  have p0 := bp.cell 0
  have p1 := bp.cell 1
  have p2 := bp.cell 2
  have pn := bp.lt
  simp only [List.getElem?_toArray, List.getElem?_cons_zero, List.getElem?_cons_succ] at p0 p1 p2
  have q0 := bk.cell 0
  have q1 := bk.cell 1
  have q2 := bk.cell 2
  have q3 := bk.cell 3
  have qn := bk.lt
  simp only [List.getElem?_toArray, List.getElem?_cons_zero, List.getElem?_cons_succ] at q0 q1 q2 q3
  go_wp2_with fail
  clear p0 p1 p2 pn q0 q1 q2 q3 qn
  refine (K_impl_PlainWalk HM.out).mono ?_
  rintro e w3 ⟨rfl, hb⟩
  replace bp := bp.below hb
  replace bk := bk.below hb
  replace bl := bnext bl hb
  replace hI := hI.below hb
  clear hb
  have p0 := bp.cell 0
  have p1 := bp.cell 1
  have p2 := bp.cell 2
  have pn := bp.lt
  simp only [List.getElem?_toArray, List.getElem?_cons_zero, List.getElem?_cons_succ] at p0 p1 p2
  have q0 := bk.cell 0
  have q1 := bk.cell 1
  have q2 := bk.cell 2
  have q3 := bk.cell 3
  have qn := bk.lt
  simp only [List.getElem?_toArray, List.getElem?_cons_zero, List.getElem?_cons_succ] at q0 q1 q2 q3
  go_wp2_with fail
  clear p0 p1 p2 pn q0 q1 q2 q3 qn
  have ba := Box.new w3 38 #[.int .i64 a, .int .i64 b, .int .i64 c, .int .i64 d]
  have hz := Joins.below_alloc1 w3 (.cells #[.int .i64 a, .int .i64 b, .int .i64 c, .int .i64 d] 38)
  replace bp := bp.below hz
  replace bk := bk.below hz
  replace bl := bnext bl hz
  replace hI := hI.below hz
  clear hz
  refine (sWalkSteps_any hI HPN.out HKN.out (by omega) HIT.out).mono ?_
  rintro e w4 ⟨rfl, hb⟩
  replace bp := bp.below hb
  replace bk := bk.below hb
  replace ba := ba.below hb
  replace bl := bnext bl hb
  replace hI := hI.below hb
  clear hb
  have p0 := bp.cell 0
  have p1 := bp.cell 1
  have p2 := bp.cell 2
  have pn := bp.lt
  simp only [List.getElem?_toArray, List.getElem?_cons_zero, List.getElem?_cons_succ] at p0 p1 p2
  have q0 := bk.cell 0
  have q1 := bk.cell 1
  have q2 := bk.cell 2
  have q3 := bk.cell 3
  have qn := bk.lt
  simp only [List.getElem?_toArray, List.getElem?_cons_zero, List.getElem?_cons_succ] at q0 q1 q2 q3
  have ac0 := ba.cell 0
  have ac1 := ba.cell 1
  have ac2 := ba.cell 2
  have ac3 := ba.cell 3
  have acn := ba.lt
  simp only [List.getElem?_toArray, List.getElem?_cons_zero, List.getElem?_cons_succ] at ac0 ac1 ac2 ac3
  go_wp2_with fail
  clear p0 p1 p2 pn q0 q1 q2 q3 qn ac0 ac1 ac2 ac3 acn
  have bb := Box.new w4 38 #[.int .i64 a, .int .i64 b, .int .i64 c, .int .i64 d]
  have hz := Joins.below_alloc1 w4 (.cells #[.int .i64 a, .int .i64 b, .int .i64 c, .int .i64 d] 38)
  replace bp := bp.below hz
  replace bk := bk.below hz
  replace ba := ba.below hz
  replace bl := bnext bl hz
  replace hI := hI.below hz
  clear hz
  refine (K_impl_PlainReturn HPR.out).mono ?_
  rintro e w5 ⟨rfl, hb⟩
  replace bp := bp.below hb
  replace bk := bk.below hb
  replace ba := ba.below hb
  replace bb := bb.below hb
  replace bl := bnext bl hb
  replace hI := hI.below hb
  clear hb
  have p0 := bp.cell 0
  have p1 := bp.cell 1
  have p2 := bp.cell 2
  have pn := bp.lt
  simp only [List.getElem?_toArray, List.getElem?_cons_zero, List.getElem?_cons_succ] at p0 p1 p2
  have q0 := bk.cell 0
  have q1 := bk.cell 1
  have q2 := bk.cell 2
  have q3 := bk.cell 3
  have qn := bk.lt
  simp only [List.getElem?_toArray, List.getElem?_cons_zero, List.getElem?_cons_succ] at q0 q1 q2 q3
  have ac0 := ba.cell 0
  have ac1 := ba.cell 1
  have ac2 := ba.cell 2
  have ac3 := ba.cell 3
  have acn := ba.lt
  simp only [List.getElem?_toArray, List.getElem?_cons_zero, List.getElem?_cons_succ] at ac0 ac1 ac2 ac3
  have bc0 := bb.cell 0
  have bc1 := bb.cell 1
  have bc2 := bb.cell 2
  have bc3 := bb.cell 3
  have bcn := bb.lt
  simp only [List.getElem?_toArray, List.getElem?_cons_zero, List.getElem?_cons_succ] at bc0 bc1 bc2 bc3
  go_wp2_with fail
  clear p0 p1 p2 pn q0 q1 q2 q3 qn ac0 ac1 ac2 ac3 acn bc0 bc1 bc2 bc3 bcn
  refine (K_impl_PlainWalk HMN.out).mono ?_
  rintro e w6 ⟨rfl, hb⟩
  replace bp := bp.below hb
  replace bk := bk.below hb
  replace ba := ba.below hb
  replace bb := bb.below hb
  replace bl := bnext bl hb
  replace hI := hI.below hb
  clear hb
  have p0 := bp.cell 0
  have p1 := bp.cell 1
  have p2 := bp.cell 2
  have pn := bp.lt
  simp only [List.getElem?_toArray, List.getElem?_cons_zero, List.getElem?_cons_succ] at p0 p1 p2
  have q0 := bk.cell 0
  have q1 := bk.cell 1
  have q2 := bk.cell 2
  have q3 := bk.cell 3
  have qn := bk.lt
  simp only [List.getElem?_toArray, List.getElem?_cons_zero, List.getElem?_cons_succ] at q0 q1 q2 q3
  have ac0 := ba.cell 0
  have ac1 := ba.cell 1
  have ac2 := ba.cell 2
  have ac3 := ba.cell 3
  have acn := ba.lt
  simp only [List.getElem?_toArray, List.getElem?_cons_zero, List.getElem?_cons_succ] at ac0 ac1 ac2 ac3
  have bc0 := bb.cell 0
  have bc1 := bb.cell 1
  have bc2 := bb.cell 2
  have bc3 := bb.cell 3
  have bcn := bb.lt
  simp only [List.getElem?_toArray, List.getElem?_cons_zero, List.getElem?_cons_succ] at bc0 bc1 bc2 bc3
  have hz := Joins.below_alloc1 w6 (.cells #[.int .i64 x, .int .i64 y, .int .i64 dx, .int .i64 dy] 38)
  have bc := Box.new w6 38 #[.int .i64 x, .int .i64 y, .int .i64 dx, .int .i64 dy]
  clear p0 p1 p2 pn q0 q1 q2 q3 qn ac0 ac1 ac2 ac3 acn bc0 bc1 bc2 bc3 bcn
  replace bp := bp.below hz
  replace bk := bk.below hz
  replace ba := ba.below hz
  replace bb := bb.below hz
  replace bl := bnext bl hz
  replace hI := hI.below hz
  clear hz
  have p0 := bp.cell 0
  have p1 := bp.cell 1
  have p2 := bp.cell 2
  have pn := bp.lt
  simp only [List.getElem?_toArray, List.getElem?_cons_zero, List.getElem?_cons_succ] at p0 p1 p2
  have q0 := bk.cell 0
  have q1 := bk.cell 1
  have q2 := bk.cell 2
  have q3 := bk.cell 3
  have qn := bk.lt
  simp only [List.getElem?_toArray, List.getElem?_cons_zero, List.getElem?_cons_succ] at q0 q1 q2 q3
  have ac0 := ba.cell 0
  have ac1 := ba.cell 1
  have ac2 := ba.cell 2
  have ac3 := ba.cell 3
  have acn := ba.lt
  simp only [List.getElem?_toArray, List.getElem?_cons_zero, List.getElem?_cons_succ] at ac0 ac1 ac2 ac3
  have bc0 := bb.cell 0
  have bc1 := bb.cell 1
  have bc2 := bb.cell 2
  have bc3 := bb.cell 3
  have bcn := bb.lt
  simp only [List.getElem?_toArray, List.getElem?_cons_zero, List.getElem?_cons_succ] at bc0 bc1 bc2 bc3
  have cc0 := bc.cell 0
  have cc1 := bc.cell 1
  have cc2 := bc.cell 2
  have cc3 := bc.cell 3
  have ccn := bc.lt
  simp only [List.getElem?_toArray, List.getElem?_cons_zero, List.getElem?_cons_succ] at cc0 cc1 cc2 cc3
  go_wp2_with fail
  clear p0 p1 p2 pn q0 q1 q2 q3 qn ac0 ac1 ac2 ac3 acn bc0 bc1 bc2 bc3 bcn cc0 cc1 cc2 cc3 ccn
  refine (K_impl_PlainWalk HMF.out).mono ?_
  rintro e w7 ⟨rfl, hb⟩
  replace bp := bp.below hb
  replace bk := bk.below hb
  replace ba := ba.below hb
  replace bb := bb.below hb
  replace bc := bc.below hb
  replace bl := bnext bl hb
  clear hb hI
  have hz := Joins.below_alloc1 w7 (.cells #[.int .i64 a, .int .i64 b, .int .i64 c, .int .i64 d] 38)
  replace bp := bp.below hz
  replace bk := bk.below hz
  replace ba := ba.below hz
  replace bb := bb.below hz
  replace bc := bc.below hz
  replace bl := bnext bl hz
  clear hz
  have bf := Box.new w7 38 #[.int .i64 a, .int .i64 b, .int .i64 c, .int .i64 d]
  have p0 := bp.cell 0
  have p1 := bp.cell 1
  have p2 := bp.cell 2
  have pn := bp.lt
  simp only [List.getElem?_toArray, List.getElem?_cons_zero, List.getElem?_cons_succ] at p0 p1 p2
  have q0 := bk.cell 0
  have q1 := bk.cell 1
  have q2 := bk.cell 2
  have q3 := bk.cell 3
  have qn := bk.lt
  simp only [List.getElem?_toArray, List.getElem?_cons_zero, List.getElem?_cons_succ] at q0 q1 q2 q3
  have ac0 := ba.cell 0
  have ac1 := ba.cell 1
  have ac2 := ba.cell 2
  have ac3 := ba.cell 3
  have acn := ba.lt
  simp only [List.getElem?_toArray, List.getElem?_cons_zero, List.getElem?_cons_succ] at ac0 ac1 ac2 ac3
  have bc0 := bb.cell 0
  have bc1 := bb.cell 1
  have bc2 := bb.cell 2
  have bc3 := bb.cell 3
  have bcn := bb.lt
  simp only [List.getElem?_toArray, List.getElem?_cons_zero, List.getElem?_cons_succ] at bc0 bc1 bc2 bc3
  have cc0 := bc.cell 0
  have cc1 := bc.cell 1
  have cc2 := bc.cell 2
  have cc3 := bc.cell 3
  have ccn := bc.lt
  simp only [List.getElem?_toArray, List.getElem?_cons_zero, List.getElem?_cons_succ] at cc0 cc1 cc2 cc3
  have fc0 := bf.cell 0
  have fc1 := bf.cell 1
  have fc2 := bf.cell 2
  have fc3 := bf.cell 3
  have fcn := bf.lt
  simp only [List.getElem?_toArray, List.getElem?_cons_zero, List.getElem?_cons_succ] at fc0 fc1 fc2 fc3
  by_cases hu0 : (u : Int) = 0
  · go_wp2_with fail
    go_ret
    exact ⟨rfl, bl⟩
  · by_cases hu1 : (u : Int) % N = 0
    · have hu2 : (u : Int).tmod N = 0 := by rw [Int.tmod_eq_emod_of_nonneg s0]; exact hu1
      go_wp2_with fail
      go_ret
      exact ⟨rfl, bl⟩
    · have hu2 : (u : Int).tmod N ≠ 0 := by rw [Int.tmod_eq_emod_of_nonneg s0]; exact hu1
      have hne : ¬ (a = x ∧ b = y ∧ c = dx ∧ d = dy) := by
        rcases HHO.out with (h | h) | h
        · exact absurd h hu0
        · exact absurd h hu1
        · exact h
      have hne2 := pw_ne hne
      go_wp2_with fail
      go_ret
      exact ⟨rfl, bl⟩
end Go.Proofs.Ytcjjkiajgkicnaa
