/-
  The law FnOrbits, walked.
-/
import Derived.Test.YtihfdgnocdphcaaF6
import Derived.Test.YtihfdgnocdphcaaDrwD
import Derived.Test.YtihfdgnocdphcaaOrbS
import Derived.Test.YtihfdgnocdphcaaPlAllD
namespace Go.Proofs.Ytihfdgnocdphcaa
open Go.RowKit Knot

theorem PRow.drewN' {w : World} {B n : Nat} {v : Value} {zs : List Int} (h : PRow w B v n zs) (m : Nat) : PRow (w.drewN m) B v n zs := h
set_option maxRecDepth 20000 in
set_option maxHeartbeats 8000000 in
theorem FnOrbits_walk (a0 : Option Addr) (l0 : Nat) (c0 : Nat) (z0 : List Int) (w : World) (r0 : IsRow .u8 w a0 l0 c0 z0) :
    Calls Try.prog 14 #[.slice a0 l0 c0] w fun e w' => e = .returned (.bool true) ∧ Below w.heap.size w w' := by
  obtain ⟨big, hbig⟩ : ∃ big, decide ((4096 : Int) < l0) = big := ⟨_, rfl⟩
  have HBIG := Lib.hid hbig
  clear hbig
  go_enter Try.func14, Try.ntmps14
  go_wp2_with fail
  refine (f6big_any a0 l0 c0 w).mono ?_
  rintro e w' ⟨rfl, rfl⟩
  rw [HBIG.out]
  cases big
  rotate_left
  · go_wp2_with fail
    go_ret
    exact ⟨rfl, Below.refl _ _⟩
  go_wp2_with fail
  refine (DrawSymmetriesOf_any r0).mono ?_
  rintro e w1 ⟨X, Y, A, c, B, rfl, hI, hb⟩
  have r1 := r0.below hb
  have bl := bnext hb (Joins.below_alloc1 _ (.cells #[.int .i64 X, .int .i64 Y, .slice A B.length c] 30))
  have bp := Box.new w1 30 #[.int .i64 X, .int .i64 Y, .slice A B.length c]
  replace hI := hI.alloc (.cells #[.int .i64 X, .int .i64 Y, .slice A B.length c] 30)
  replace r1 := r1.below (Joins.below_alloc1 w1 (.cells #[.int .i64 X, .int .i64 Y, .slice A B.length c] 30))
  obtain ⟨pp, hpp⟩ : ∃ pp, w1.heap.size = pp := ⟨_, rfl⟩
  rw [hpp] at bp
  obtain ⟨⟨zs, s1⟩, hsm⟩ : ∃ q, symsM ⟨X, Y, B⟩ = q := ⟨_, rfl⟩
  have HSM := Lib.hid hsm
  have hzl8 : zs.length ≤ 8 := by
    unfold symsM at hsm
    split at hsm
    · injection hsm with h1 _
      rw [← h1]
      exact symsTo_length _ _
    · injection hsm with h1 _
      rw [← h1]
      simp
  have HOKS : Hid (s1 = 0 → Ok ⟨X, Y, B⟩ ∧ zs = symsTo ⟨X, Y, B⟩ 8) := Lib.hid (fun h => by
    unfold symsM at hsm
    split at hsm
    · injection hsm with h1 _
      exact ⟨by assumption, h1.symm⟩
    · injection hsm with _ h2
      omega)
  clear hb r0 hsm
  have q0 := bp.cell 0
  have q1 := bp.cell 1
  have q2 := bp.cell 2
  have qn := bp.lt
  simp only [List.getElem?_toArray, List.getElem?_cons_zero, List.getElem?_cons_succ] at q0 q1 q2
  go_wp2_with fail
  try rw [hpp]
  generalize hV : w1.alloc (.cells #[.int .i64 X, .int .i64 Y, .slice A B.length c] 30) = V1 at *
  clear hV
  refine (K_impl_SymmetriesOf hI HSM.out).mono ?_
  rintro e w2 ⟨A2, c2, rfl, i_a, hb⟩
  replace i_a := i_a.1
  replace hI := hI.below hb
  replace r1 := r1.below hb
  replace bp := bp.below hb
  replace bl := bnext bl hb
  clear hb q0 q1 q2 qn
  have q0 := bp.cell 0
  have q1 := bp.cell 1
  have q2 := bp.cell 2
  have qn := bp.lt
  simp only [List.getElem?_toArray, List.getElem?_cons_zero, List.getElem?_cons_succ] at q0 q1 q2
  go_wp2_with fail
  refine (K_spec_SymmetriesOf hI HSM.out).mono ?_
  rintro e w3 ⟨A3, c3, rfl, i_b, hb⟩
  replace i_b := i_b.1
  replace hI := hI.below hb
  replace r1 := r1.below hb
  replace i_a := Row.below i_a hb
  replace bp := bp.below hb
  replace bl := bnext bl hb
  clear hb q0 q1 q2 qn
  have q0 := bp.cell 0
  have q1 := bp.cell 1
  have q2 := bp.cell 2
  have qn := bp.lt
  simp only [List.getElem?_toArray, List.getElem?_cons_zero, List.getElem?_cons_succ] at q0 q1 q2
  go_wp2_with fail
  refine (DrawPointOrbit_any r1).mono ?_
  rintro e w4 ⟨X2, Y2, x, y, A4, c4, B2, rfl, hJ, hb⟩
  replace hI := hI.below hb
  replace i_a := Row.below i_a hb
  replace i_b := Row.below i_b hb
  replace bp := bp.below hb
  replace bl := bnext bl hb
  clear hb q0 q1 q2 qn
  have q0 := bp.cell 0
  have q1 := bp.cell 1
  have q2 := bp.cell 2
  have qn := bp.lt
  simp only [List.getElem?_toArray, List.getElem?_cons_zero, List.getElem?_cons_succ] at q0 q1 q2
  clear q0 q1 q2 qn hI r1 bp
  have O := Joins.below_alloc2 w4 (.cells #[.int .i64 X2, .int .i64 Y2, .slice A4 B2.length c4] 30) (.cells #[.int .i64 x, .int .i64 y] 36)
  have bq := (Box.new w4 30 #[.int .i64 X2, .int .i64 Y2, .slice A4 B2.length c4]).alloc (.cells #[.int .i64 x, .int .i64 y] 36)
  have bt := Box.new (w4.alloc (.cells #[.int .i64 X2, .int .i64 Y2, .slice A4 B2.length c4] 30)) 36 #[.int .i64 x, .int .i64 y]
  rw [World.size_alloc] at bt
  replace hJ := hJ.below O
  replace i_a := Row.below i_a O
  replace i_b := Row.below i_b O
  replace bl := bnext bl O
  obtain ⟨qq, hqq⟩ : ∃ qq, w4.heap.size = qq := ⟨_, rfl⟩
  rw [hqq] at bq bt
  obtain ⟨⟨ps, s2⟩, hom⟩ : ∃ q, orbM ⟨X2, Y2, B2⟩ x y = q := ⟨_, rfl⟩
  have HOM := Lib.hid hom
  obtain ⟨⟨us, s3⟩, hsu⟩ : ∃ q, symsM ⟨X2, Y2, B2⟩ = q := ⟨_, rfl⟩
  have HSU := Lib.hid hsu
  have HOKO : Hid (s2 = 0 → s3 = 0 ∧ us.length % ps.length = 0 ∧ 0 < ps.length ∧ us.length ≤ 8 ∧ ps.length ≤ 8) := Lib.hid (fun h => by
    unfold orbM at hom
    split at hom
    · rename_i hok
      split at hom
      · injection hom with h1 _
        unfold symsM at hsu
        rw [if_pos hok] at hsu
        injection hsu with h2 h3
        obtain ⟨d1, d2⟩ := orbit_div hok x y
        have h4 := orbL_len (orbP ⟨X2, Y2, B2⟩ x y)
        rw [orbP_length] at h4
        have h5 := symsTo_length ⟨X2, Y2, B2⟩ 8
        rw [← h1, ← h2]
        exact ⟨h3.symm, d1, d2, h5, by omega⟩
      · injection hom with _ h2
        omega
    · injection hom with _ h2
      omega)
  clear O hom hsu
  have q0 := bq.cell 0
  have q1 := bq.cell 1
  have q2 := bq.cell 2
  have qn := bq.lt
  simp only [List.getElem?_toArray, List.getElem?_cons_zero, List.getElem?_cons_succ] at q0 q1 q2
  have p0 := bt.cell 0
  have p1 := bt.cell 1
  have pn := bt.lt
  simp only [List.getElem?_toArray, List.getElem?_cons_zero, List.getElem?_cons_succ] at p0 p1
  go_wp2_with fail
  try rw [hqq]
  generalize hV : (w4.alloc (.cells #[.int .i64 X2, .int .i64 Y2, .slice A4 B2.length c4] 30)).alloc (.cells #[.int .i64 x, .int .i64 y] 36) = V4 at *
  clear hV
  refine (K_impl_PointOrbit hJ HOM.out).mono ?_
  rintro e w5 ⟨A5, c5, rfl, p_a, hb⟩
  replace hJ := hJ.below hb
  replace i_a := Row.below i_a hb
  replace i_b := Row.below i_b hb
  replace bq := bq.below hb
  replace bt := bt.below hb
  replace bl := bnext bl hb
  clear hb q0 q1 q2 qn p0 p1 pn
  have q0 := bq.cell 0
  have q1 := bq.cell 1
  have q2 := bq.cell 2
  have qn := bq.lt
  simp only [List.getElem?_toArray, List.getElem?_cons_zero, List.getElem?_cons_succ] at q0 q1 q2
  have p0 := bt.cell 0
  have p1 := bt.cell 1
  have pn := bt.lt
  simp only [List.getElem?_toArray, List.getElem?_cons_zero, List.getElem?_cons_succ] at p0 p1
  go_wp2_with fail
  refine (K_spec_PointOrbit hJ HOM.out).mono ?_
  rintro e w6 ⟨A6, c6, rfl, p_b, hb⟩
  replace hJ := hJ.below hb
  replace i_a := Row.below i_a hb
  replace i_b := Row.below i_b hb
  replace p_a := p_a.below hb
  replace bq := bq.below hb
  replace bt := bt.below hb
  replace bl := bnext bl hb
  clear hb q0 q1 q2 qn p0 p1 pn
  have q0 := bq.cell 0
  have q1 := bq.cell 1
  have q2 := bq.cell 2
  have qn := bq.lt
  simp only [List.getElem?_toArray, List.getElem?_cons_zero, List.getElem?_cons_succ] at q0 q1 q2
  have p0 := bt.cell 0
  have p1 := bt.cell 1
  have pn := bt.lt
  simp only [List.getElem?_toArray, List.getElem?_cons_zero, List.getElem?_cons_succ] at p0 p1
  have hn1 : (s1 != s1) = false := by simp
  have hn2 : (s2 != s2) = false := by simp
  go_wp2_with fail
  refine (f6ints_yes i_a i_b).mono ?_
  rintro e w7 ⟨rfl, hb⟩
  replace hJ := hJ.below hb
  replace i_a := Row.below i_a hb
  replace p_a := p_a.below hb
  replace p_b := p_b.below hb
  replace bq := bq.below hb
  replace bt := bt.below hb
  replace bl := bnext bl hb
  clear hb q0 q1 q2 qn p0 p1 pn
  have q0 := bq.cell 0
  have q1 := bq.cell 1
  have q2 := bq.cell 2
  have qn := bq.lt
  simp only [List.getElem?_toArray, List.getElem?_cons_zero, List.getElem?_cons_succ] at q0 q1 q2
  have p0 := bt.cell 0
  have p1 := bt.cell 1
  have pn := bt.lt
  simp only [List.getElem?_toArray, List.getElem?_cons_zero, List.getElem?_cons_succ] at p0 p1
  go_wp2_with fail
  refine (f6points_yes p_a.row p_b.row).mono ?_
  rintro e w8 ⟨rfl, hb⟩
  replace hJ := hJ.below hb
  replace i_a := Row.below i_a hb
  replace p_a := p_a.below hb
  replace bq := bq.below hb
  replace bt := bt.below hb
  replace bl := bnext bl hb
  clear hb q0 q1 q2 qn p0 p1 pn
  have q0 := bq.cell 0
  have q1 := bq.cell 1
  have q2 := bq.cell 2
  have qn := bq.lt
  simp only [List.getElem?_toArray, List.getElem?_cons_zero, List.getElem?_cons_succ] at q0 q1 q2
  have p0 := bt.cell 0
  have p1 := bt.cell 1
  have pn := bt.lt
  simp only [List.getElem?_toArray, List.getElem?_cons_zero, List.getElem?_cons_succ] at p0 p1
  clear p_b i_b
  have HPA := Lib.hid p_a
  obtain ⟨n, hn⟩ : ∃ n, zs.length = n := ⟨_, rfl⟩
  have HN := Lib.hid hn
  have i_z : Ints w8 V1.heap.size (.slice A2 n c2) zs := by have := i_a; rw [hn] at this; exact this
  rw [hn] at hzl8 ⊢
  have HJ := Lib.hid hJ
  have HBQ := Lib.hid bq
  clear i_a hn bt p_a
  -- the end: from a world in which the orbit has been looked at
  have key : ∀ w9 : World, Below w8.heap.size w8 w9 → True := fun _ _ => trivial
  clear key
  by_cases hs2 : s2 = 0
  · have hk := HOKO.out hs2
    subst hs2
    obtain ⟨h3, hd, hp, hu8, hp8⟩ := hk
    subst h3
    obtain ⟨np, hnp⟩ : ∃ np, ps.length = np := ⟨_, rfl⟩
    obtain ⟨nu, hnu⟩ : ∃ nu, us.length = nu := ⟨_, rfl⟩
    rw [hnp] at hd hp hp8
    rw [hnu] at hd hu8
    rw [hnp]
    have hdI : (nu : Int).tmod np = 0 := by
      rw [Int.tmod_eq_emod_of_nonneg (by omega)]
      have : ((nu % np : Nat) : Int) = 0 := by rw [hd]; rfl
      simpa using this
    have hpz : ((np : Int) == 0) = false := beq_eq_false_iff_ne.2 (by omega)
    have hpz2 : ¬ (np : Int) = 0 := by omega
    have HNU := Lib.hid hnu
    clear hd hnp hnu
    go_wp2_with fail
    refine (K_impl_SymmetriesOf hJ HSU.out).mono ?_
    rintro e w9 ⟨A9, c9, rfl, _, hb⟩
    rw [HNU.out]
    have i_y : Ints w9 V1.heap.size (.slice A2 n c2) zs := Row.below i_z hb
    have bl9 := bnext bl hb
    clear hb q0 q1 q2 qn p0 p1 pn hJ bq i_z bl
    obtain ⟨w8, hw8⟩ : ∃ z, z = w9 := ⟨_, rfl⟩
    subst hw8
    have i_z := i_y
    have bl := bl9
    clear i_y bl9
    clear HOKO HOM
    have HBL := Lib.hid bl
    have HIZ := Lib.hid i_z
    clear bl i_z
    by_cases hs1 : s1 = 0
    rotate_left
    · have b1 : (s1 != 0) = true := by simp [hs1]
      clear hs1
      go_wp2_with fail
      go_ret
      exact ⟨rfl, HBL.out⟩
    obtain ⟨hok, hzs⟩ := HOKS.out hs1
    obtain ⟨hz0, hz1⟩ := symsTo_head hok 7
    rw [← hzs] at hz0 hz1
    rw [HN.out] at hz0
    have hmem : ∀ i k : Nat, i < n → k < n → ∃ cc, csM (gI zs (i : Nat)) (gI zs (k : Nat)) = (cc, 0) ∧ zs.contains cc = true := fun i k hi hk => by
      have hi' : i < zs.length := by rw [HN.out]; exact hi
      have hk' : k < zs.length := by rw [HN.out]; exact hk
      rw [gI_nat _ _ hi', gI_nat _ _ hk']
      have m1 : zs[i] ∈ symsTo ⟨X, Y, B⟩ 8 := hzs ▸ List.getElem_mem hi'
      have m2 : zs[k] ∈ symsTo ⟨X, Y, B⟩ 8 := hzs ▸ List.getElem_mem hk'
      obtain ⟨a0, a7⟩ := syms_rng m1
      obtain ⟨b0, b7⟩ := syms_rng m2
      exact ⟨_, csM_ok a0 a7 b0 b7, by rw [List.contains_iff_mem]; have := syms_comp hok m1 m2; rw [← hzs] at this; exact this⟩
    have HMEM := Lib.hid hmem
    have HZ1 := Lib.hid hz1
    subst hs1
    obtain ⟨gz, hgz, hgl0⟩ : ∃ gz, A2 = some ⟨gz, 0, none⟩ ∧ gz < w8.heap.size := by
      obtain ⟨A', c', hA, _, hA2⟩ := HIZ.out.open_
      injection hA with hA3 hA4 hA5
      subst hA3
      obtain ⟨g, e, _, hg⟩ := hA2 (by rw [HN.out]; exact hz0)
      exact ⟨g, e, hg⟩
    subst hgz
    clear hok hzs hmem hz1
    go_wp2
    obtain ⟨W8, hW8⟩ : ∃ z, z = w8 := ⟨_, rfl⟩
    subst hW8
    go_loopw [16] (fun s wr => ∃ i : Nat, i ≤ n ∧ s = .int .i64 i ∧ Below W8.heap.size W8 wr) (fun s _ => n - (intOf s).toNat)
    case atStart => exact ⟨0, Nat.zero_le _, rfl, Below.refl _ _⟩
    case round =>
      obtain ⟨i, hi, rfl, hb⟩ := hrel
      by_cases hlt : i < n
      · have i1 : (i : Int) < n := by omega
        have HB1 := Lib.hid hb
        obtain ⟨W9, hW9⟩ : ∃ z, z = wr := ⟨_, rfl⟩
        subst hW9
        clear hb
        go_wp2
        go_loopw [17] (fun s wr => ∃ k : Nat, k ≤ n ∧ s = .int .i64 k ∧ Below W9.heap.size W9 wr) (fun s _ => n - (intOf s).toNat)
        case atStart => exact ⟨0, Nat.zero_le _, rfl, Below.refl _ _⟩
        case round =>
          obtain ⟨k, hk, rfl, hb⟩ := hrel
          by_cases hlt2 : k < n
          · have k1 : (k : Int) < n := by omega
            have hI2 : Ints wr V1.heap.size (.slice (some ⟨gz, 0, none⟩) n c2) zs := Row.below HIZ.out (bnext HB1.out hb)
            have d0 := Ints.cell hI2 (k := i) (by rw [HN.out]; exact hlt)
            have d1 := Ints.cell hI2 (k := k) (by rw [HN.out]; exact hlt2)
            obtain ⟨cc, hcc, hct⟩ := HMEM.out i k hlt hlt2
            generalize gI zs (i : Nat) = za at d0 hcc
            generalize gI zs (k : Nat) = zb at d1 hcc
            have hcs : ∀ u : World, Calls Try.prog 16 #[.int .i64 za, .int .i64 zb] u fun e w' => e = .returned (.tuple #[.int .i64 cc, .int .i64 0]) ∧ w' = u := fun u => (ComposeSyms_any za zb u).mono (fun e w' ⟨h1, h2⟩ => ⟨by rw [h1, hcc], h2.symm⟩)
            have HCS := Lib.hid hcs
            have HCT := Lib.hid hct
            have HB2 := Lib.hid hb
            clear hI2 hcc hct hcs hb
            go_wp2_with fail
            go_quiet ((go_at_call 16; exact Calls.quiet_of_same (HCS.out _)))
            obtain ⟨nq1, hnq1⟩ : ∃ m, m = nq := ⟨_, rfl⟩
            rw [← hnq1]
            have HB3 : Hid (Below W9.heap.size W9 (wr.drewN nq1)) := Lib.hid (bnext HB2.out (below_drewN _ _ _))
            clear hnq1 d0 d1
            generalize (wr.drewN nq1) = W10 at HB3 ⊢
            go_wp2
            go_loop [20, 21] (fun s20 s21 => ∃ m : Nat, m ≤ n ∧ s21 = .int .i64 m ∧ s20 = .bool ((zs.take m).contains cc)) (fun _ s21 => n - (intOf s21).toNat)
            case atStart => exact ⟨0, Nat.zero_le _, rfl, by simp⟩
            case round =>
              obtain ⟨m, hm, rfl, rfl⟩ := hrel
              by_cases hlt3 : m < n
              · have m1 : (m : Int) < n := by omega
                have hI3 : Ints W10 V1.heap.size (.slice (some ⟨gz, 0, none⟩) n c2) zs := Row.below HIZ.out (bnext HB1.out HB3.out)
                have hml : m < zs.length := by rw [HN.out]; exact hlt3
                have e0 := Ints.cell hI3 (k := m) hml
                have hgi := gI_nat zs m hml
                have htc := take_contains (c := cc) hml hgi.symm
                have hgl := (Row.lt hI3 (g := gz) rfl).2
                generalize gI zs (m : Nat) = zm at e0 htc
                have HTC := Lib.hid htc
                clear hI3 hgi htc
                obtain ⟨fb, hfb⟩ : ∃ fb, (zs.take m).contains cc = fb := ⟨_, rfl⟩
                have HFB := Lib.hid hfb
                rw [hfb]
                obtain ⟨eb, heb⟩ : ∃ eb, (zm == cc) = eb := ⟨_, rfl⟩
                have HEB := Lib.hid heb
                clear hfb
                cases fb
                · go_wp2
                  go_round
                  case rel => exact ⟨m + 1, by omega, by go_num, by rw [HTC.out, HFB.out, HEB.out]; simp⟩
                  case measure => simp [intOf]; omega
                · go_wp2
                  go_round
                  case rel => exact ⟨m + 1, by omega, by go_num, by rw [HTC.out, HFB.out]; simp⟩
                  case measure => simp [intOf]; omega
              · have e : m = n := by omega
                subst e
                have hfull : (zs.take m).contains cc = true := by rw [List.take_of_length_le (by rw [HN.out]; exact Nat.le_refl _)]; exact HCT.out
                rw [hfull]
                clear hfull
                go_wp2
                go_roundw
                case rel => exact ⟨k + 1, by omega, by go_num, HB3.out⟩
                case measure => simp [intOf]; omega
          · have e : k = n := by omega
            subst e
            have HB5 := Lib.hid (bnext HB1.out hb)
            clear hb
            go_wp2
            go_roundw
            case rel => exact ⟨i + 1, by omega, by go_num, HB5.out⟩
            case measure => simp [intOf]; omega
      · have e : i = n := by omega
        subst e
        have hI2 : Ints wr V1.heap.size (.slice (some ⟨gz, 0, none⟩) i c2) zs := Row.below HIZ.out hb
        have d0 := Ints.cell hI2 (k := 0) (by rw [HN.out]; exact hz0)
        rw [show gI zs ((0 : Nat) : Int) = 0 from HZ1.out] at d0
        have n0 : (0 : Int) < i := by omega
        have gd : decide ((i : Int) > 0) = true := decide_eq_true n0
        have HBE := Lib.hid (bnext HBL.out hb)
        have hgl := (Row.lt hI2 (g := gz) rfl).2
        clear hI2 hb
        go_wp2
        go_ret
        exact ⟨rfl, HBE.out⟩
  · have b2 : (s2 == 0) = false := beq_eq_false_iff_ne.2 hs2
    clear HOKO HOM hs2 q0 q1 q2 qn p0 p1 pn hJ bq
    have HZZ : Hid (True) := Lib.hid trivial
    have HBL := Lib.hid bl
    have HIZ := Lib.hid i_z
    clear bl i_z
    by_cases hs1 : s1 = 0
    rotate_left
    · have b1 : (s1 != 0) = true := by simp [hs1]
      clear hs1
      go_wp2_with fail
      go_ret
      exact ⟨rfl, HBL.out⟩
    obtain ⟨hok, hzs⟩ := HOKS.out hs1
    obtain ⟨hz0, hz1⟩ := symsTo_head hok 7
    rw [← hzs] at hz0 hz1
    rw [HN.out] at hz0
    have hmem : ∀ i k : Nat, i < n → k < n → ∃ cc, csM (gI zs (i : Nat)) (gI zs (k : Nat)) = (cc, 0) ∧ zs.contains cc = true := fun i k hi hk => by
      have hi' : i < zs.length := by rw [HN.out]; exact hi
      have hk' : k < zs.length := by rw [HN.out]; exact hk
      rw [gI_nat _ _ hi', gI_nat _ _ hk']
      have m1 : zs[i] ∈ symsTo ⟨X, Y, B⟩ 8 := hzs ▸ List.getElem_mem hi'
      have m2 : zs[k] ∈ symsTo ⟨X, Y, B⟩ 8 := hzs ▸ List.getElem_mem hk'
      obtain ⟨a0, a7⟩ := syms_rng m1
      obtain ⟨b0, b7⟩ := syms_rng m2
      exact ⟨_, csM_ok a0 a7 b0 b7, by rw [List.contains_iff_mem]; have := syms_comp hok m1 m2; rw [← hzs] at this; exact this⟩
    have HMEM := Lib.hid hmem
    have HZ1 := Lib.hid hz1
    subst hs1
    obtain ⟨gz, hgz, hgl0⟩ : ∃ gz, A2 = some ⟨gz, 0, none⟩ ∧ gz < w8.heap.size := by
      obtain ⟨A', c', hA, _, hA2⟩ := HIZ.out.open_
      injection hA with hA3 hA4 hA5
      subst hA3
      obtain ⟨g, e, _, hg⟩ := hA2 (by rw [HN.out]; exact hz0)
      exact ⟨g, e, hg⟩
    subst hgz
    clear hok hzs hmem hz1
    go_wp2
    obtain ⟨W8, hW8⟩ : ∃ z, z = w8 := ⟨_, rfl⟩
    subst hW8
    go_loopw [16] (fun s wr => ∃ i : Nat, i ≤ n ∧ s = .int .i64 i ∧ Below W8.heap.size W8 wr) (fun s _ => n - (intOf s).toNat)
    case atStart => exact ⟨0, Nat.zero_le _, rfl, Below.refl _ _⟩
    case round =>
      obtain ⟨i, hi, rfl, hb⟩ := hrel
      by_cases hlt : i < n
      · have i1 : (i : Int) < n := by omega
        have HB1 := Lib.hid hb
        obtain ⟨W9, hW9⟩ : ∃ z, z = wr := ⟨_, rfl⟩
        subst hW9
        clear hb
        go_wp2
        go_loopw [17] (fun s wr => ∃ k : Nat, k ≤ n ∧ s = .int .i64 k ∧ Below W9.heap.size W9 wr) (fun s _ => n - (intOf s).toNat)
        case atStart => exact ⟨0, Nat.zero_le _, rfl, Below.refl _ _⟩
        case round =>
          obtain ⟨k, hk, rfl, hb⟩ := hrel
          by_cases hlt2 : k < n
          · have k1 : (k : Int) < n := by omega
            have hI2 : Ints wr V1.heap.size (.slice (some ⟨gz, 0, none⟩) n c2) zs := Row.below HIZ.out (bnext HB1.out hb)
            have d0 := Ints.cell hI2 (k := i) (by rw [HN.out]; exact hlt)
            have d1 := Ints.cell hI2 (k := k) (by rw [HN.out]; exact hlt2)
            obtain ⟨cc, hcc, hct⟩ := HMEM.out i k hlt hlt2
            generalize gI zs (i : Nat) = za at d0 hcc
            generalize gI zs (k : Nat) = zb at d1 hcc
            have hcs : ∀ u : World, Calls Try.prog 16 #[.int .i64 za, .int .i64 zb] u fun e w' => e = .returned (.tuple #[.int .i64 cc, .int .i64 0]) ∧ w' = u := fun u => (ComposeSyms_any za zb u).mono (fun e w' ⟨h1, h2⟩ => ⟨by rw [h1, hcc], h2.symm⟩)
            have HCS := Lib.hid hcs
            have HCT := Lib.hid hct
            have HB2 := Lib.hid hb
            clear hI2 hcc hct hcs hb
            go_wp2_with fail
            go_quiet ((go_at_call 16; exact Calls.quiet_of_same (HCS.out _)))
            obtain ⟨nq1, hnq1⟩ : ∃ m, m = nq := ⟨_, rfl⟩
            rw [← hnq1]
            have HB3 : Hid (Below W9.heap.size W9 (wr.drewN nq1)) := Lib.hid (bnext HB2.out (below_drewN _ _ _))
            clear hnq1 d0 d1
            generalize (wr.drewN nq1) = W10 at HB3 ⊢
            go_wp2
            go_loop [20, 21] (fun s20 s21 => ∃ m : Nat, m ≤ n ∧ s21 = .int .i64 m ∧ s20 = .bool ((zs.take m).contains cc)) (fun _ s21 => n - (intOf s21).toNat)
            case atStart => exact ⟨0, Nat.zero_le _, rfl, by simp⟩
            case round =>
              obtain ⟨m, hm, rfl, rfl⟩ := hrel
              by_cases hlt3 : m < n
              · have m1 : (m : Int) < n := by omega
                have hI3 : Ints W10 V1.heap.size (.slice (some ⟨gz, 0, none⟩) n c2) zs := Row.below HIZ.out (bnext HB1.out HB3.out)
                have hml : m < zs.length := by rw [HN.out]; exact hlt3
                have e0 := Ints.cell hI3 (k := m) hml
                have hgi := gI_nat zs m hml
                have htc := take_contains (c := cc) hml hgi.symm
                have hgl := (Row.lt hI3 (g := gz) rfl).2
                generalize gI zs (m : Nat) = zm at e0 htc
                have HTC := Lib.hid htc
                clear hI3 hgi htc
                obtain ⟨fb, hfb⟩ : ∃ fb, (zs.take m).contains cc = fb := ⟨_, rfl⟩
                have HFB := Lib.hid hfb
                rw [hfb]
                obtain ⟨eb, heb⟩ : ∃ eb, (zm == cc) = eb := ⟨_, rfl⟩
                have HEB := Lib.hid heb
                clear hfb
                cases fb
                · go_wp2
                  go_round
                  case rel => exact ⟨m + 1, by omega, by go_num, by rw [HTC.out, HFB.out, HEB.out]; simp⟩
                  case measure => simp [intOf]; omega
                · go_wp2
                  go_round
                  case rel => exact ⟨m + 1, by omega, by go_num, by rw [HTC.out, HFB.out]; simp⟩
                  case measure => simp [intOf]; omega
              · have e : m = n := by omega
                subst e
                have hfull : (zs.take m).contains cc = true := by rw [List.take_of_length_le (by rw [HN.out]; exact Nat.le_refl _)]; exact HCT.out
                rw [hfull]
                clear hfull
                go_wp2
                go_roundw
                case rel => exact ⟨k + 1, by omega, by go_num, HB3.out⟩
                case measure => simp [intOf]; omega
          · have e : k = n := by omega
            subst e
            have HB5 := Lib.hid (bnext HB1.out hb)
            clear hb
            go_wp2
            go_roundw
            case rel => exact ⟨i + 1, by omega, by go_num, HB5.out⟩
            case measure => simp [intOf]; omega
      · have e : i = n := by omega
        subst e
        have hI2 : Ints wr V1.heap.size (.slice (some ⟨gz, 0, none⟩) i c2) zs := Row.below HIZ.out hb
        have d0 := Ints.cell hI2 (k := 0) (by rw [HN.out]; exact hz0)
        rw [show gI zs ((0 : Nat) : Int) = 0 from HZ1.out] at d0
        have n0 : (0 : Int) < i := by omega
        have gd : decide ((i : Int) > 0) = true := decide_eq_true n0
        have HBE := Lib.hid (bnext HBL.out hb)
        have hgl := (Row.lt hI2 (g := gz) rfl).2
        clear hI2 hb
        go_wp2
        go_ret
        exact ⟨rfl, HBE.out⟩
end Go.Proofs.Ytihfdgnocdphcaa
