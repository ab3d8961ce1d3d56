/-
  The law FnPlain, walked.
-/
import Derived.Test.YtcjjkiajgkicnaaLen
import Derived.Test.YtcjjkiajgkicnaaLawA
import Derived.Test.YtcjjkiajgkicnaaNewP
import Derived.Test.YtcjjkiajgkicnaaSingle
import Derived.Test.YtcjjkiajgkicnaaRect2
import Derived.Test.YtcjjkiajgkicnaaCut
namespace Go.Proofs.Ytcjjkiajgkicnaa
open Go.RowKit Knot

/-- Widths with one curve: sixty-four panels. -/
theorem sing_small : ∀ W ∈ ([1, 2, 3, 4, 5, 6, 7, 8] : List Int), ∀ H ∈ ([1, 2, 3, 4, 5, 6, 7, 8] : List Int), (W ∈ singTo H 8 ↔ gcdI W H = 1) := by
  decide +kernel
theorem plain_nums {W H : Int} (hW : 1 ≤ W ∧ W ≤ 8) (hH : 1 ≤ H ∧ H ≤ 8) : num6 W = true ∧ num6 H = true := ⟨inR_t ⟨by omega, by omega⟩, inR_t ⟨by omega, by omega⟩⟩
set_option maxRecDepth 20000 in
set_option maxHeartbeats 8000000 in
theorem FnPlain_walk (a0 : Option Addr) (l0 : Nat) (c0 : Nat) (z0 : List Int) (w : World) (r0 : IsRow .u8 w a0 l0 c0 z0) :
    Calls Try.prog 13 #[.slice a0 l0 c0] w fun e w' => e = .returned (.bool true) ∧ Below w.heap.size w w' := by
  by_cases e_0 : (l0 : Int) ≤ 3000
  rotate_left
  · have hd : decide ((l0 : Int) > 3000 ∨ ((0 : Nat) : Int) > 3000) = true := decide_eq_true (by omega)
    go_enter Try.func13, Try.ntmps13
    go_wp2_with fail
    refine (a2Long2_any a0 l0 c0 none 0 0 true hd _).mono ?_
    rintro e w' ⟨rfl, rfl⟩
    go_wp2_with fail
    go_ret
    exact ⟨rfl, Below.refl _ _⟩
  have hd : decide ((l0 : Int) > 3000 ∨ ((0 : Nat) : Int) > 3000) = false := decide_eq_false (by omega)
  go_enter Try.func13, Try.ntmps13
  go_wp2_with fail
  refine (a2Long2_any a0 l0 c0 none 0 0 false hd _).mono ?_
  rintro e w' ⟨rfl, rfl⟩
  clear hd e_0
  go_wp2_with fail
  refine (a2At_any r0 (k := 0) (n := 8) (by omega) (by omega) (by omega) (by omega)).mono ?_
  rintro e w' ⟨x, rfl, ⟨x0, x1⟩, rfl⟩
  go_wp2_with fail
  refine (a2At_any r0 (k := 1) (n := 8) (by omega) (by omega) (by omega) (by omega)).mono ?_
  rintro e w' ⟨y, rfl, ⟨y0, y1⟩, rfl⟩
  clear r0
  obtain ⟨W, hW⟩ : ∃ W, 1 + x = W := ⟨_, rfl⟩
  obtain ⟨H, hH⟩ : ∃ H, 1 + y = H := ⟨_, rfl⟩
  have hW8 : 1 ≤ W ∧ W ≤ 8 := by omega
  have hH8 : 1 ≤ H ∧ H ≤ 8 := by omega
  have HW := Lib.hid hW8
  have HH := Lib.hid hH8
  have hn := plain_nums hW8 hH8
  -- the panel
  obtain ⟨m, hm⟩ : ∃ m, (inner W H).toNat = m := ⟨_, rfl⟩
  have HN : Hid (inner W H = (m : Nat)) := Lib.hid (by
    have := (plain_ok HW.out HH.out).len
    have e : (plainP W H).B.length = (inner W H).toNat := by simp [plainP]
    rw [e, hm] at this
    exact this.symm)
  have HPN : Hid (Ok ⟨W, H, List.replicate m 0⟩) := Lib.hid (by rw [← hm]; exact plain_ok HW.out HH.out)
  have HPE : Hid (plainP W H = ⟨W, H, List.replicate m 0⟩) := Lib.hid (by rw [← hm]; rfl)
  obtain ⟨css, hcss⟩ : ∃ css, (traceP ⟨W, H, List.replicate m 0⟩ (segN ⟨W, H, List.replicate m 0⟩)).1 = css := ⟨_, rfl⟩
  have HCS := Lib.hid hcss
  obtain ⟨g, hg⟩ : ∃ g, gcdI W H = g := ⟨_, rfl⟩
  have hsm := pln_small W (in8 hW8) H (in8 hH8)
  have hcnt : (css.length : Int) = g := by
    have := plain_count hW8 hH8
    unfold cntP at this
    rw [HPE.out, hcss] at this
    rw [this, ← hg]
    rfl
  obtain ⟨l, hl⟩ : ∃ l, lcmI W H = l := ⟨_, rfl⟩
  obtain ⟨t, ht⟩ : ∃ t, 2 * (W + H) / gcdI W H = t := ⟨_, rfl⟩
  obtain ⟨L4, hL4⟩ : ∃ L4, 4 * l = L4 := ⟨_, rfl⟩
  have hlen : ∀ i (h : i < css.length), ((css[i].length : Nat) : Int) = L4 ∧ hitP ⟨W, H, List.replicate m 0⟩ (flatP css[i]) css[i].length = t := fun i h => by
    have := plain_touch hW8 hH8 (i := i) (by rw [HPE.out, hcss]; exact h)
    simp only [HPE.out, hcss] at this
    rw [← hL4, ← hl, ← ht]
    exact this
  have HLEN := Lib.hid hlen
  have HG : Hid (gdM W H = (g, 0)) := Lib.hid (by unfold gdM; rw [hn.1, hn.2, ← hg]; rfl)
  have HL : Hid (lmM W H = (l, 0)) := Lib.hid (by unfold lmM; rw [hn.1, hn.2, ← hl]; rfl)
  have HPL : Hid (plM W H = (L4, 0)) := Lib.hid (by unfold plM; rw [hn.1, hn.2, ← hL4, ← hl]; rfl)
  have HPT : Hid (ptM W H = (t, 0)) := Lib.hid (by unfold ptM; rw [hn.1, hn.2, ← ht]; rfl)
  have HSM : Hid (singM H = (singTo H 8, 0)) := Lib.hid (by unfold singM; rw [if_pos hH8])
  have HSI : Hid (W ∈ singTo H 8 ↔ g = 1) := Lib.hid (by rw [← hg]; exact sing_small W (in8 hW8) H (in8 hH8))
  have hg8 : 1 ≤ g ∧ g ≤ 8 := by rw [← hg]; exact ⟨hsm.2.2.2.2.2.2.2.2.2.1, hsm.2.2.2.2.2.2.2.2.2.2⟩
  have hgl : g * l = W * H := by rw [← hg, ← hl]; exact hsm.2.2.2.2.2.2.1
  have hWg : W % g = 0 := by rw [← hg]; exact hsm.2.2.2.2.2.2.2.1
  have hHg : H % g = 0 := by rw [← hg]; exact hsm.2.2.2.2.2.2.2.2.1
  have hl64 : 1 ≤ l ∧ l ≤ 64 := by
    rw [← hl]
    refine ⟨lcm_pos hW8.1 hH8.1, ?_⟩
    have h1 : W / gcdI W H ≤ W := Int.ediv_le_self _ (by omega)
    have h0 : 0 ≤ W / gcdI W H := Int.ediv_nonneg (by omega) (by rw [hg]; omega)
    have h2 : W / gcdI W H * H ≤ 8 * 8 := Int.mul_le_mul (by omega) hH8.2 (by omega) (by omega)
    unfold lcmI
    exact h2
  have hWH : 0 ≤ W * H ∧ W * H ≤ 64 := by
    have h2 : W * H ≤ 8 * 8 := Int.mul_le_mul (by omega) hH8.2 (by omega) (by omega)
    exact ⟨Int.mul_nonneg (by omega) (by omega), h2⟩
  have HGL := Lib.hid hgl
  have HWG : Hid (W.tmod g = 0 ∧ H.tmod g = 0) := Lib.hid ⟨by rw [Int.tmod_eq_emod_of_nonneg (by omega)]; exact hWg, by rw [Int.tmod_eq_emod_of_nonneg (by omega)]; exact hHg⟩
  have HWH := Lib.hid hWH
  have HL64 := Lib.hid hl64
  have HG8 := Lib.hid hg8
  have HCN := Lib.hid hcnt
  have hw1 : IntKind.i64.wrap (1 + x) = W := by rw [hW, IntKind.wrap_i64]; omega
  clear hL4 hsm hgl hWg hHg hl64 hWH hg8 hcnt hlen hl ht hg hcss hm hn hw1
  go_wp2_with fail
  try rw [hW, hH]
  clear hW hH x0 x1 y0 y1
  refine (sNewPanel_any HW.out HH.out HN.out).mono ?_
  rintro e w2 ⟨h, rfl, hI, bl⟩
  have bp := Box.new w2 45 #[.int .i64 W, .int .i64 H, .slice (some ⟨h, 0, none⟩) m m]
  have hz := Joins.below_alloc1 w2 (.cells #[.int .i64 W, .int .i64 H, .slice (some ⟨h, 0, none⟩) m m] 45)
  replace bl := bnext bl hz
  replace hI := hI.below hz
  obtain ⟨pp, hpp⟩ : ∃ pp, w2.heap.size = pp := ⟨_, rfl⟩
  rw [hpp] at bp
  clear hz
  go_wp2_with fail
  try rw [hpp]
  generalize hV : (w2.alloc (.cells #[.int .i64 W, .int .i64 H, .slice (some ⟨h, 0, none⟩) m m] 45)) = V at *
  clear hV
  have q0 := bp.cell 0
  have q1 := bp.cell 1
  have q2 := bp.cell 2
  have qn := bp.lt
  simp only [List.getElem?_toArray, List.getElem?_cons_zero, List.getElem?_cons_succ] at q0 q1 q2
  have hc : ∀ u, Calls Try.prog _ _ u _ := fun u => PlainCurves_any W H u
  rw [HG.out] at hc
  refine (hc _).mono ?_
  rintro e w3 ⟨rfl, hd⟩
  have hb := bdrawn hd
  clear hc
  replace bp := bp.below hb
  replace hI := hI.below hb
  replace bl := bnext bl hb
  clear hb hd q0 q1 q2 qn
  have q0 := bp.cell 0
  have q1 := bp.cell 1
  have q2 := bp.cell 2
  have qn := bp.lt
  simp only [List.getElem?_toArray, List.getElem?_cons_zero, List.getElem?_cons_succ] at q0 q1 q2
  go_wp2_with fail
  have hc : ∀ u, Calls Try.prog _ _ u _ := fun u => PlainLength_any W H u
  rw [HPL.out] at hc
  refine (hc _).mono ?_
  rintro e w4 ⟨rfl, hd⟩
  have hb := bdrawn hd
  clear hc
  replace bp := bp.below hb
  replace hI := hI.below hb
  replace bl := bnext bl hb
  clear hb hd q0 q1 q2 qn
  have q0 := bp.cell 0
  have q1 := bp.cell 1
  have q2 := bp.cell 2
  have qn := bp.lt
  simp only [List.getElem?_toArray, List.getElem?_cons_zero, List.getElem?_cons_succ] at q0 q1 q2
  go_wp2_with fail
  have hc : ∀ u, Calls Try.prog _ _ u _ := fun u => PlainTouches_any W H u
  rw [HPT.out] at hc
  refine (hc _).mono ?_
  rintro e w5 ⟨rfl, hd⟩
  have hb := bdrawn hd
  clear hc
  replace bp := bp.below hb
  replace hI := hI.below hb
  replace bl := bnext bl hb
  clear hb hd q0 q1 q2 qn
  have q0 := bp.cell 0
  have q1 := bp.cell 1
  have q2 := bp.cell 2
  have qn := bp.lt
  simp only [List.getElem?_toArray, List.getElem?_cons_zero, List.getElem?_cons_succ] at q0 q1 q2
  go_wp2_with fail
  refine (CurveLengths_any hI HPN.out HCS.out).mono ?_
  rintro e w6 ⟨E, ec, rfl, hE, hb⟩
  have hd := hb
  replace bp := bp.below hb
  replace hI := hI.below hb
  replace bl := bnext bl hb
  clear hb hd q0 q1 q2 qn
  have q0 := bp.cell 0
  have q1 := bp.cell 1
  have q2 := bp.cell 2
  have qn := bp.lt
  simp only [List.getElem?_toArray, List.getElem?_cons_zero, List.getElem?_cons_succ] at q0 q1 q2
  have HE := Lib.hid hE
  clear hE
  go_wp2_with fail
  have hc : ∀ u, Calls Try.prog _ _ u _ := fun u => GreatestDivisor_any W H u
  rw [HG.out] at hc
  refine (hc _).mono ?_
  rintro e w7 ⟨rfl, hd⟩
  have hb := bdrawn hd
  clear hc
  replace HE := Lib.hid (Row.below HE.out hb)
  replace bp := bp.below hb
  replace hI := hI.below hb
  replace bl := bnext bl hb
  clear hb hd q0 q1 q2 qn
  have q0 := bp.cell 0
  have q1 := bp.cell 1
  have q2 := bp.cell 2
  have qn := bp.lt
  simp only [List.getElem?_toArray, List.getElem?_cons_zero, List.getElem?_cons_succ] at q0 q1 q2
  go_wp2_with fail
  have hc : ∀ u, Calls Try.prog _ _ u _ := fun u => LeastMultiple_any W H u
  rw [HL.out] at hc
  refine (hc _).mono ?_
  rintro e w8 ⟨rfl, hd⟩
  have hb := bdrawn hd
  clear hc
  replace HE := Lib.hid (Row.below HE.out hb)
  replace bp := bp.below hb
  replace hI := hI.below hb
  replace bl := bnext bl hb
  clear hb hd q0 q1 q2 qn
  have q0 := bp.cell 0
  have q1 := bp.cell 1
  have q2 := bp.cell 2
  have qn := bp.lt
  simp only [List.getElem?_toArray, List.getElem?_cons_zero, List.getElem?_cons_succ] at q0 q1 q2
  go_wp2_with fail
  refine (K_impl_SingleSizes HSM.out).mono ?_
  rintro e w9 ⟨S, sc, rfl, hS, hb⟩
  have hd := hb
  replace HE := Lib.hid (Row.below HE.out hb)
  replace bp := bp.below hb
  replace hI := hI.below hb
  replace bl := bnext bl hb
  clear hb hd q0 q1 q2 qn
  have q0 := bp.cell 0
  have q1 := bp.cell 1
  have q2 := bp.cell 2
  have qn := bp.lt
  simp only [List.getElem?_toArray, List.getElem?_cons_zero, List.getElem?_cons_succ] at q0 q1 q2
  have hgl := HGL.out
  have hwg := HWG.out.1
  have hhg := HWG.out.2
  have hl64 := HL64.out
  have hg8 := HG8.out
  have hwh := HWH.out
  have hcn := HCN.out
  obtain ⟨P, hP⟩ : ∃ P, W * H = P := ⟨_, rfl⟩
  have hgp : IntKind.i64.wrap (g * l) = P := by rw [hgl, hP, IntKind.wrap_i64]; omega
  have hwp : IntKind.i64.wrap (W * H) = P := by rw [hP, IntKind.wrap_i64]; omega
  rw [hP] at hgl hwh
  have hg0 : (g == 0) = false := beq_eq_false_iff_ne.2 (by omega)
  have hgn : g ≠ 0 := by omega
  have hcn2 : ((css.length : Int) != g) = false := by rw [hcn]; simp
  go_wp2_with fail
  clear q0 q1 q2 qn hgp hwp hgl hwg hhg hl64 hwh hg0 hgn hcn2 hP
  obtain ⟨ls, hls⟩ : ∃ ls, singTo H 8 = ls := ⟨_, rfl⟩
  have hSI := HSI.out
  rw [hls] at hS hSI
  have hlb : ls.length ≤ 8 := by rw [← hls]; exact singTo_len H 8
  have HS := Lib.hid hS.1
  have HSI2 := Lib.hid hSI
  have HBP := Lib.hid (And.intro bp (And.intro hI bl))
  have HCN2 := Lib.hid hcn
  have hgN : ∀ i : Nat, (i : Int) < g ↔ i < css.length := fun i => by omega
  have HGN := Lib.hid hgN
  clear hSI hS bp hI bl hcn hgN
  try rw [hls]
  have HLS := Lib.hid hls
  clear hls
  go_loopw [21] (fun s wr => ∃ i : Nat, i ≤ css.length ∧ s = .int .i64 i ∧ Below w9.heap.size w9 wr) (fun s _ => css.length - (intOf s).toNat)
  case atStart => exact ⟨0, Nat.zero_le _, rfl, Below.refl _ _⟩
  case round =>
    obtain ⟨i, hi, rfl, hb⟩ := hrel
    by_cases hlt : i < css.length
    · have hig : (i : Int) < g := (HGN.out i).2 hlt
      obtain ⟨bp, hI, bl⟩ := HBP.out
      replace bp := bp.below hb
      replace hI := hI.below hb
      have q0 := bp.cell 0
      have q1 := bp.cell 1
      have q2 := bp.cell 2
      have qn := bp.lt
      simp only [List.getElem?_toArray, List.getElem?_cons_zero, List.getElem?_cons_succ] at q0 q1 q2
      clear bp bl
      go_wp2_with fail
      refine (TouchesOf_any hI HPN.out HCS.out hlt (HLEN.out i hlt).2).mono ?_
      rintro e w10 ⟨rfl, hb10⟩
      have hb11 := bnext hb hb10
      have hEr : Ints w10 w5.heap.size (.slice E css.length ec) (css.map fun x => (x.length : Int)) := Row.below HE.out hb11
      obtain ⟨A', c', hA, _, hA2⟩ := Row.open_ hEr
      rw [List.length_map] at hA hA2
      injection hA with hA3 hA4 hA5
      subst hA3 hA5
      obtain ⟨ge, rfl, _, hge⟩ := hA2 (by omega)
      have cE := Ints.cell hEr (k := i) (by rw [List.length_map]; exact hlt)
      have hv : gI (css.map fun x => (x.length : Int)) (i : Int) = L4 := by
        rw [gI_nat _ _ (by rw [List.length_map]; exact hlt), List.getElem_map]
        exact (HLEN.out i hlt).1
      rw [hv] at cE
      have HB11 := Lib.hid hb11
      clear hI hb hb10 hb11 q0 q1 q2 qn hEr hA2 hv hA4
      go_wp2
      go_roundw
      case rel => exact ⟨i + 1, by omega, by go_num, HB11.out⟩
      case measure => simp [intOf]; omega
    · have e : i = css.length := by omega
      have hig : ¬ (i : Int) < g := fun h => hlt ((HGN.out i).1 h)
      have hb0 := hb
      obtain ⟨W1, hW1⟩ : ∃ x, x = wr := ⟨wr, rfl⟩
      subst hW1
      have HB1 := Lib.hid hb
      clear hb hb0
      go_wp2
      go_loopw [24, 25] (fun s t wr => ∃ k : Nat, k ≤ ls.length ∧ s = .bool (decide (W ∈ ls.take k)) ∧ t = .int .i64 k ∧ Below W1.heap.size W1 wr) (fun _ t _ => ls.length - (intOf t).toNat)
      case atStart => exact ⟨0, Nat.zero_le _, by simp, rfl, Below.refl _ _⟩
      case round =>
        obtain ⟨k, hk, rfl, rfl, hb2⟩ := hrel
        by_cases hlt2 : k < ls.length
        · have hk2 : (k : Int) < ls.length := by omega
          have hSr : Ints wr w8.heap.size (.slice S ls.length sc) ls := Row.below (Row.below HS.out HB1.out) hb2
          obtain ⟨A', c', hA, _, hA2⟩ := Row.open_ hSr
          injection hA with hA3 hA4 hA5
          subst hA3 hA5
          obtain ⟨gs, rfl, _, hgs⟩ := hA2 (by omega)
          have cS := Ints.cell hSr (k := k) hlt2
          have hnx : (W ∈ ls.take (k + 1)) ↔ (W ∈ ls.take k ∨ gI ls k = W) := by
            rw [List.take_succ_eq_append_getElem hlt2, List.mem_append, List.mem_singleton, gI_nat _ _ hlt2]
            constructor
            · rintro (h | h)
              · exact .inl h
              · exact .inr h.symm
            · rintro (h | h)
              · exact .inl h
              · exact .inr h.symm
          generalize gI ls (k : Int) = v at *
          have HB2 := Lib.hid hb2
          by_cases hm : W ∈ ls.take k
          · have hd1 : decide (W ∈ ls.take k) = true := decide_eq_true hm
            have hd2 : decide (W ∈ ls.take (k + 1)) = true := decide_eq_true (hnx.2 (.inl hm))
            have HD2 := Lib.hid hd2
            rw [hd1]
            clear hd1 hd2 hnx hm hSr hA2 hA4 hb2
            go_wp2
            go_roundw
            case rel => exact ⟨k + 1, by omega, by rw [HD2.out], by go_num, HB2.out⟩
            case measure => simp [intOf]; omega
          · have hd1 : decide (W ∈ ls.take k) = false := decide_eq_false hm
            rw [hd1]
            by_cases hvw : v = W
            · have HD2 : Hid (decide (W ∈ ls.take (k + 1)) = true) := Lib.hid (decide_eq_true (hnx.2 (.inr hvw)))
              have hbw : (v == W) = true := by simp [hvw]
              clear hd1 hnx hm hSr hA2 hA4 hb2 hvw
              go_wp2
              go_roundw
              case rel => exact ⟨k + 1, by omega, by rw [HD2.out], by go_num, HB2.out⟩
              case measure => simp [intOf]; omega
            · have HD2 : Hid (decide (W ∈ ls.take (k + 1)) = false) := Lib.hid (decide_eq_false (fun h => (hnx.1 h).elim hm hvw))
              have hbw : (v == W) = false := beq_eq_false_iff_ne.2 hvw
              clear hd1 hnx hm hSr hA2 hA4 hb2 hvw
              go_wp2
              go_roundw
              case rel => exact ⟨k + 1, by omega, by rw [HD2.out], by go_num, HB2.out⟩
              case measure => simp [intOf]; omega
        · have e2 : ls.length = k := by omega
          subst e2
          have HBL := Lib.hid (bnext (bnext HBP.out.2.2 HB1.out) hb2)
          rw [List.take_length]
          clear hb2
          by_cases hm : W ∈ ls
          · have hd1 : decide (W ∈ ls) = true := decide_eq_true hm
            have hg1 : (g == 1) = true := by rw [HSI2.out.1 hm]; rfl
            rw [hd1]
            clear hd1 hm
            go_wp2
            go_ret
            exact ⟨rfl, HBL.out⟩
          · have hd1 : decide (W ∈ ls) = false := decide_eq_false hm
            have hg1 : (g == 1) = false := beq_eq_false_iff_ne.2 (fun h => hm (HSI2.out.2 h))
            rw [hd1]
            clear hd1 hm
            go_wp2
            go_ret
            exact ⟨rfl, HBL.out⟩
end Go.Proofs.Ytcjjkiajgkicnaa
