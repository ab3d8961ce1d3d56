/-
  The orbit of a point, by the program.
-/
import Derived.Test.YtihfdgnocdphcaaSortQ
import Derived.Test.YtihfdgnocdphcaaKPts
import Derived.Test.YtihfdgnocdphcaaSymB
import Derived.Test.YtihfdgnocdphcaaMapP
import Derived.Test.YtihfdgnocdphcaaPoint
import Derived.Test.YtihfdgnocdphcaaPlAllD
namespace Go.Proofs.Ytihfdgnocdphcaa
open Go.RowKit Knot

/-- Where the symmetries of a panel move a point. -/
def orbP (p : Pan) (x y : Int) : List (Int × Int) := (symsTo p 8).map fun s => mapX p.W p.H x y s
noncomputable def orbM (p : Pan) (x y : Int) : List (Int × Int) × Int := if Ok p then if Has p x y then (orbL (orbP p x y), 0) else ([], 2) else ([], 1)
theorem symsTo_ok (p : Pan) {s : Int} (h : s ∈ symsTo p 8) : symOk s = true := by
  obtain ⟨a, b, _⟩ := (symsTo_mem p s 8).1 h
  unfold symOk
  exact inR_t ⟨a, by omega⟩
theorem symsTo_pos {p : Pan} (hp : Ok p) : 1 ≤ (symsTo p 8).length := List.length_pos_of_mem ((symsTo_mem p 0 8).2 ⟨by omega, by omega, by exact mapP_zero ⟨hp.w1, hp.w8⟩⟩)
theorem orbP_length (p : Pan) (x y : Int) : (orbP p x y).length = (symsTo p 8).length := by unfold orbP; rw [List.length_map]
theorem orbP_take {p : Pan} {x y : Int} {k : Nat} (h : k < (symsTo p 8).length) {a b : Int} (hm : mapX p.W p.H x y (symsTo p 8)[k] = (a, b)) : (orbP p x y).take (k + 1) = (orbP p x y).take k ++ [(a, b)] := by
  have hk : k < (orbP p x y).length := by rw [orbP_length]; exact h
  rw [List.take_succ_eq_append_getElem hk]
  congr 2
  have : (orbP p x y)[k] = mapX p.W p.H x y (symsTo p 8)[k] := by simp only [orbP, List.getElem_map]
  rw [this, hm]
theorem rows_apart2 {w : World} {B1 B2 : Nat} {E T : TypeId} {s1 s2 n1 n2 : Nat} {v u : Value} {xs ys : List Value} (h : w.ownsRow B1 E s1 v n1 xs) (k : w.ownsRow B2 T s2 u n2 ys) (hne : E ≠ T) {g : Nat} (hg : v.ownBlock = some g) : u.ownBlock ≠ some g := by
  intro hu
  rcases h.2 with ⟨rfl, _⟩ | ⟨g1, cap, cur, rfl, _, hh, _⟩
  · simp [Value.ownBlock] at hg
  · rcases k.2 with ⟨rfl, _⟩ | ⟨g2, cap2, cur2, rfl, _, hh2, _⟩
    · simp [Value.ownBlock] at hu
    · simp [Value.ownBlock] at hg hu
      subst hg hu
      rw [hh] at hh2
      injection hh2 with hh2
      injection hh2 with h1 h2 h3
      exact hne h2
theorem insP_len (x : Int × Int) : ∀ l, (insP l x).length ≤ l.length + 1
  | [] => by simp [insP]
  | a :: l => by
    unfold insP
    split
    · simp
    · split
      · simp
      · have := insP_len x l
        simp
        omega
theorem orbL_len : ∀ l, (orbL l).length ≤ l.length
  | [] => by simp [orbL]
  | x :: l => by
    have h1 := insP_len x (orbL l)
    have h2 := orbL_len l
    rw [orbL, List.length_cons]
    omega
set_option maxRecDepth 20000 in
set_option maxHeartbeats 8000000 in
theorem K_impl_PointOrbit {w : World} {lo hi : Nat} {W H x y r1 : Int} {v : Value} {Bs : List Int} {ps : List (Int × Int)} (hI : IntsIn w lo hi v Bs) (hm : orbM ⟨W, H, Bs⟩ x y = (ps, r1)) :
    Calls Try.prog 60 #[.agg #[.int .i64 W, .int .i64 H, v], .agg #[.int .i64 x, .int .i64 y]] w fun e w' => ∃ A c, e = .returned (.tuple #[.slice A ps.length c, .int .i64 r1]) ∧ PtsIn w' w.heap.size w'.heap.size (.slice A ps.length c) ps ∧ Below w.heap.size w w' := by
  obtain ⟨A, c, rfl, _, _⟩ := hI.1.open_
  have bl := Joins.below_alloc2 w (.cells #[.int .i64 W, .int .i64 H, .slice A Bs.length c] 30) (.cells #[.int .i64 x, .int .i64 y] 36)
  have ba := (Box.new w 30 #[.int .i64 W, .int .i64 H, .slice A Bs.length c]).alloc (.cells #[.int .i64 x, .int .i64 y] 36)
  have bb := Box.new (w.alloc (.cells #[.int .i64 W, .int .i64 H, .slice A Bs.length c] 30)) 36 #[.int .i64 x, .int .i64 y]
  rw [World.size_alloc] at bb
  have hv := hI.below bl
  clear hI
  by_cases ho : Ok ⟨W, H, Bs⟩
  rotate_left
  · have HO := Lib.hid ho
    unfold orbM at hm
    rw [if_neg ho] at hm
    injection hm with h1 h2
    subst h1 h2
    clear ho
    have q0 := ba.cell 0
    have q1 := ba.cell 1
    have q2 := ba.cell 2
    have qn := ba.lt
    simp only [List.getElem?_toArray, List.getElem?_cons_zero, List.getElem?_cons_succ] at q0 q1 q2
    have p0 := bb.cell 0
    have p1 := bb.cell 1
    have pn := bb.lt
    simp only [List.getElem?_toArray, List.getElem?_cons_zero, List.getElem?_cons_succ] at p0 p1
    go_enter Try.func60, Try.ntmps60
    go_wp2_with fail
    refine (ValidPanel_any W H _ Bs false (no_iff HO.out) _ hv.ints).mono ?_
    rintro e w2 ⟨rfl, hb⟩
    have bl2 := bnext bl hb
    have hN := PtsIn.nil w2 w.heap.size w2.heap.size (Nat.le_refl _)
    clear q0 q1 q2 qn p0 p1 pn
    go_wp2
    go_ret2
    exact ⟨none, 0, rfl, hN, bl2⟩
  have HO := Lib.hid ho
  have W0 : 0 ≤ W := by have := ho.w1; simp only [] at this; omega
  have W8 : W ≤ 8 := ho.w8
  have H0 : 0 ≤ H := by have := ho.h1; simp only [] at this; omega
  have H8 : H ≤ 8 := ho.h8
  by_cases hh : Has ⟨W, H, Bs⟩ x y
  rotate_left
  · have HH := Lib.hid hh
    unfold orbM at hm
    rw [if_pos ho, if_neg hh] at hm
    injection hm with h1 h2
    subst h1 h2
    clear ho hh
    have q0 := ba.cell 0
    have q1 := ba.cell 1
    have q2 := ba.cell 2
    have qn := ba.lt
    simp only [List.getElem?_toArray, List.getElem?_cons_zero, List.getElem?_cons_succ] at q0 q1 q2
    have p0 := bb.cell 0
    have p1 := bb.cell 1
    have pn := bb.lt
    simp only [List.getElem?_toArray, List.getElem?_cons_zero, List.getElem?_cons_succ] at p0 p1
    go_enter Try.func60, Try.ntmps60
    go_wp2_with fail
    refine (ValidPanel_any W H _ Bs true (yes_iff HO.out) _ hv.ints).mono ?_
    rintro e w2 ⟨rfl, hb⟩
    replace ba := ba.below hb
    replace bb := bb.below hb
    replace bl := bnext bl hb
    clear hb q0 q1 q2 qn p0 p1 pn
    have q0 := ba.cell 0
    have q1 := ba.cell 1
    have q2 := ba.cell 2
    have qn := ba.lt
    simp only [List.getElem?_toArray, List.getElem?_cons_zero, List.getElem?_cons_succ] at q0 q1 q2
    have p0 := bb.cell 0
    have p1 := bb.cell 1
    have pn := bb.lt
    simp only [List.getElem?_toArray, List.getElem?_cons_zero, List.getElem?_cons_succ] at p0 p1
    go_wp2_with fail
    refine (isPoint_any (B := Bs) ⟨W0, by omega⟩ ⟨H0, by omega⟩ (no_iff HH.out)).mono ?_
    rintro e w3 ⟨rfl, hb⟩
    have bl2 := bnext bl hb
    have hN := PtsIn.nil w3 w.heap.size w3.heap.size (Nat.le_refl _)
    clear q0 q1 q2 qn p0 p1 pn
    go_wp2
    go_ret2
    exact ⟨none, 0, rfl, hN, bl2⟩
  have HH := Lib.hid hh
  unfold orbM at hm
  rw [if_pos ho, if_pos hh] at hm
  injection hm with h1 h2
  have HM := Lib.hid h1
  have HR := Lib.hid h2
  obtain ⟨X0, X1, Y0, Y1, _⟩ := hh
  simp only [] at X1 Y1
  obtain ⟨L, hL⟩ : ∃ L, orbP ⟨W, H, Bs⟩ x y = L := ⟨_, rfl⟩
  obtain ⟨ss, hss⟩ : ∃ ss, symsTo ⟨W, H, Bs⟩ 8 = ss := ⟨_, rfl⟩
  have hLl : L.length = ss.length := by rw [← hL, ← hss]; exact orbP_length _ _ _
  have hs1 : 1 ≤ ss.length := by rw [← hss]; exact symsTo_pos ho
  have hs8 : ss.length ≤ 8 := by rw [← hss]; exact symsTo_length _ _
  have hsk : ∀ (k : Nat) (hk : k < ss.length), symOk ss[k] = true := fun k hk => symsTo_ok ⟨W, H, Bs⟩ (by rw [hss]; exact List.getElem_mem hk)
  have htk : ∀ (k : Nat) (hk : k < ss.length) (a b : Int), mapX W H x y ss[k] = (a, b) → L.take (k + 1) = L.take k ++ [(a, b)] := fun k hk a b hab => by
    subst hss hL
    exact orbP_take hk hab
  have HL := Lib.hid hL
  have HSS := Lib.hid hss
  have HSK := Lib.hid hsk
  have HTK := Lib.hid htk
  have HLL := Lib.hid hLl
  clear ho h1 h2 hL hsk htk hLl
  have q0 := ba.cell 0
  have q1 := ba.cell 1
  have q2 := ba.cell 2
  have qn := ba.lt
  simp only [List.getElem?_toArray, List.getElem?_cons_zero, List.getElem?_cons_succ] at q0 q1 q2
  have p0 := bb.cell 0
  have p1 := bb.cell 1
  have pn := bb.lt
  simp only [List.getElem?_toArray, List.getElem?_cons_zero, List.getElem?_cons_succ] at p0 p1
  go_enter Try.func60, Try.ntmps60
  go_wp2_with fail
  refine (ValidPanel_any W H _ Bs true (yes_iff HO.out) _ hv.ints).mono ?_
  rintro e w2 ⟨rfl, hb⟩
  replace ba := ba.below hb
  replace bb := bb.below hb
  replace hv := hv.below hb
  replace bl := bnext bl hb
  clear hb q0 q1 q2 qn p0 p1 pn
  have q0 := ba.cell 0
  have q1 := ba.cell 1
  have q2 := ba.cell 2
  have qn := ba.lt
  simp only [List.getElem?_toArray, List.getElem?_cons_zero, List.getElem?_cons_succ] at q0 q1 q2
  have p0 := bb.cell 0
  have p1 := bb.cell 1
  have pn := bb.lt
  simp only [List.getElem?_toArray, List.getElem?_cons_zero, List.getElem?_cons_succ] at p0 p1
  go_wp2_with fail
  refine (isPoint_any (B := Bs) ⟨W0, by omega⟩ ⟨H0, by omega⟩ (yes_iff HH.out)).mono ?_
  rintro e w3 ⟨rfl, hb⟩
  replace ba := ba.below hb
  replace bb := bb.below hb
  replace hv := hv.below hb
  replace bl := bnext bl hb
  clear hb q0 q1 q2 qn p0 p1 pn
  have hP0 := PRow.none_ w3
  have sz3 := bb.lt
  replace ba := ba.alloc (.cells #[] 36)
  replace bb := bb.alloc (.cells #[] 36)
  replace hv := hv.alloc (.cells #[] 36)
  replace bl := bnext bl (Joins.below_alloc1 w3 (.cells #[] 36))
  have q0 := ba.cell 0
  have q1 := ba.cell 1
  have q2 := ba.cell 2
  have qn := ba.lt
  simp only [List.getElem?_toArray, List.getElem?_cons_zero, List.getElem?_cons_succ] at q0 q1 q2
  have p0 := bb.cell 0
  have p1 := bb.cell 1
  have pn := bb.lt
  simp only [List.getElem?_toArray, List.getElem?_cons_zero, List.getElem?_cons_succ] at p0 p1
  go_wp2_with fail
  generalize hV : w3.alloc (.cells #[] 36) = V at *
  clear hV
  refine (symmetriesOf_any hv HO.out).mono ?_
  rw [HSS.out]
  rintro e w4 ⟨S, sc, rfl, hS, hb⟩
  replace ba := ba.below hb
  replace bb := bb.below hb
  replace hv := hv.below hb
  replace bl := bnext bl hb
  have hP := (hP0.below hb).le (show w.heap.size + 2 ≤ w3.heap.size by omega)
  have hS1 := hS.1
  have bs4 := bl.size
  clear hb q0 q1 q2 qn p0 p1 pn hP0 hss
  go_wp2
  go_loopw [6, 20] (fun s t wr => ∃ (k : Nat) (E : Option Addr) (d : Nat), k ≤ ss.length ∧ s = .slice E k d ∧ t = .int .i64 k ∧ PRow wr (w.heap.size + 2) (.slice E k d) k (ptF (L.take k)) ∧ Ints wr V.heap.size (.slice S ss.length sc) ss ∧ Box wr w.heap.size 30 #[.int .i64 W, .int .i64 H, .slice A Bs.length c] ∧ Box wr (w.heap.size + 1) 36 #[.int .i64 x, .int .i64 y] ∧ Below w.heap.size w wr) (fun _ t _ => ss.length - (intOf t).toNat)
  case atStart => exact ⟨0, _, 0, Nat.zero_le _, rfl, rfl, by simpa [ptF] using hP, hS1, ba, bb, bl⟩
  case round =>
    clear ba bb bl hS hS1 hP
    obtain ⟨k, E, d, hk, rfl, rfl, hP, hS, ba, bb, bl⟩ := hrel
    have bs := bl.size
    by_cases hlt : k < ss.length
    · have i1 : (k : Int) < ss.length := by omega
      obtain ⟨S1, sc1, hSe, _, hS2⟩ := hS.open_
      injection hSe with hSe1 hSe2 hSe3
      subst hSe1 hSe3
      obtain ⟨gs, rfl, _, hgs⟩ := hS2 (by omega)
      have d0 := Ints.cell hS (k := k) hlt
      have hsy := HSK.out k hlt
      have htk := HTK.out k hlt
      rw [gI_nat _ _ hlt] at d0
      generalize ss[k] = s at d0 hsy htk
      obtain ⟨⟨a, b⟩, hab⟩ : ∃ q, mapX W H x y s = q := ⟨_, rfl⟩
      have HTE := Lib.hid (htk a b hab)
      have HAB := Lib.hid hab
      have HSY := Lib.hid hsy
      have HSI := Lib.hid hS
      have HPP := Lib.hid hP
      clear hS2 hSe2 hsy htk hab hS hP
      have q0 := ba.cell 0
      have q1 := ba.cell 1
      have q2 := ba.cell 2
      have qn := ba.lt
      simp only [List.getElem?_toArray, List.getElem?_cons_zero, List.getElem?_cons_succ] at q0 q1 q2
      have p0 := bb.cell 0
      have p1 := bb.cell 1
      have pn := bb.lt
      simp only [List.getElem?_toArray, List.getElem?_cons_zero, List.getElem?_cons_succ] at p0 p1
      go_wp2_with fail
      refine (mapPoint_any ⟨W0, by omega⟩ ⟨H0, by omega⟩ ⟨X0, X1⟩ ⟨Y0, Y1⟩ HSY.out HAB.out).mono ?_
      rintro e w5 ⟨rfl, hb⟩
      replace ba := ba.below hb
      replace bb := bb.below hb
      replace bl := bnext bl hb
      have hP5 := HPP.out.below hb
      have hS5 := Row.below HSI.out hb
      have bs5 := bl.size
      have bb5 := bb.lt
      clear hb q0 q1 q2 qn p0 p1 pn d0
      go_wp2_with (at_builtin; refine append_pt rfl _ _ rfl (w.heap.size + 2) _ k _ (ptF (L.take k)) a b hP5 rfl rfl (by simp) (by omega) (by omega) ?_)
      intro g c6 w6 hP6 hg6 _
      have e6 : ptF (L.take k) ++ [a, b] = ptF (L.take (k + 1)) := by rw [HTE.out, ptF_append]; rfl
      rw [e6] at hP6
      have ba6 : Box w6 w.heap.size 30 #[.int .i64 W, .int .i64 H, .slice A Bs.length c] := ba.grown hg6 (fun e => by have := (PRow.lt hP5 e.symm).1; omega)
      have bb6 : Box w6 (w.heap.size + 1) 36 #[.int .i64 x, .int .i64 y] := bb.grown hg6 (fun e => by have := (PRow.lt hP5 e.symm).1; omega)
      have hS6 : Ints w6 V.heap.size (.slice (some ⟨gs, 0, none⟩) ss.length sc) ss := Row.grown hS5 hg6 (fun g' hg' e => rows_apart2 hS5 hP5 (by decide) hg' e.symm)
      have bl6 : Below w.heap.size w w6 := bl.grown hg6 bs5 (fun j hj => by have := (PRow.lt hP5 hj).1; omega)
      have HP6 := Lib.hid hP6
      have HS6 := Lib.hid hS6
      have HBX := Lib.hid (And.intro ba6 (And.intro bb6 bl6))
      clear hP6 hS6 ba6 bb6 bl6 hP5 hS5 ba bb bl hg6 e6
      go_wp2
      go_roundw
      case rel => exact ⟨k + 1, _, c6, by omega, rfl, by go_num, HP6.out, HS6.out, HBX.out.1, HBX.out.2.1, HBX.out.2.2⟩
      case measure => simp [intOf]; omega
    · have e : k = ss.length := by omega
      subst e
      have hLt : L.take ss.length = L := List.take_of_length_le (by rw [HLL.out]; exact Nat.le_refl _)
      rw [hLt] at hP
      obtain ⟨E', d', hEe, _, hE2⟩ := hP.open_
      injection hEe with hE3 hE4 hE5
      subst hE3 hE5
      obtain ⟨g, rfl, hg0, hg1⟩ := hE2 (by omega)
      have hso := sortPt_any (B := w.heap.size + 2) (g := g) (c := d) (l := L) (w := wr) (by rw [HLL.out]; exact hP) (by rw [HLL.out]; omega)
      rw [HLL.out] at hso
      have HSO := Lib.hid hso
      have HBB := Lib.hid bl
      clear hE2 hE4 hP hS ba bb hso hLt bl
      go_wp2_with fail
      refine HSO.out.mono ?_
      rintro e w7 ⟨rfl, l7, hp7, hw7, hP7, hg7⟩
      have hl7 : l7.length = ss.length := by rw [hp7.length_eq, HLL.out]
      have hb7 : Below w.heap.size w w7 := HBB.out.grown hg7 (by have := HBB.out.size; omega) (fun j hj => by injection hj with hj; omega)
      have hco := compactPt_any hP7 (by omega) (by omega) hw7
      rw [hl7] at hco
      have HCO := Lib.hid hco
      have HB7 := Lib.hid hb7
      have HP7 := Lib.hid (And.intro hp7 hl7)
      clear hco hb7 hp7 hw7 hP7 hg7 hl7 hg1
      go_wp2_with fail
      refine HCO.out.mono ?_
      rintro e w8 ⟨l8, rfl, hs8, hm8, hP8, hc8⟩
      have he8 : l8 = ps := by
        rw [← HM.out, HL.out]
        exact orbL_is hs8 (fun q => (hm8 q).trans HP7.out.1.mem_iff)
      subst he8
      have hr1 := HR.out
      subst hr1
      have hl8 : l8.length ≤ 1000 := by
        rw [← HM.out, HL.out]
        have := orbL_len L
        rw [HLL.out] at this
        omega
      have HPE : Hid (PtsIn w8 w.heap.size w8.heap.size (.slice (some ⟨g, 0, none⟩) l8.length d) l8) := Lib.hid ⟨hP8.le (by omega), fun k hk => (hP8.lt hk).2, Nat.le_refl _, hl8⟩
      have HBE : Hid (Below w.heap.size w w8) := Lib.hid (HB7.out.trans (hc8.toBelow (B := w.heap.size) (by omega) (by have := HB7.out.size; exact this)))
      clear hs8 hm8 hP8 hc8 hl8
      go_wp2
      go_ret2
      exact ⟨_, d, rfl, HPE.out, HBE.out⟩
end Go.Proofs.Ytihfdgnocdphcaa
