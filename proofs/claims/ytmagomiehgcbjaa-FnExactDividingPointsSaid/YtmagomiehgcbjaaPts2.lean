/-
  The points at which a change makes fewer or more curves.
-/
import Derived.Test.YtmagomiehgcbjaaEff2
namespace Go.Proofs.Ytmagomiehgcbjaa
open Go.RowKit Knot

/-- Whether one of the first i kinds at point k makes a difference of sign s. -/
def hitK (p : Pan) (s k : Int) : Nat → Bool
  | 0 => false
  | i + 1 => hitK p s k i || decide (0 < (cntP (withP p k i) - cntP p) * s)
/-- The first k points' hits. -/
def ptsK (p : Pan) (s : Int) : Nat → List Int
  | 0 => []
  | k + 1 => if hitK p s k 3 then ptsK p s k ++ [(k : Int)] else ptsK p s k
theorem ptsK_len (p : Pan) (s : Int) : ∀ k, (ptsK p s k).length ≤ k
  | 0 => by simp [ptsK]
  | k + 1 => by
    have := ptsK_len p s k
    rw [ptsK]
    split <;> simp <;> omega
open Classical in
noncomputable def ptsSM (s : Int) (p : Pan) : List Int × Int := if Ok p then (ptsK p s p.B.length, 0) else ([], 1)
theorem pan_len {W H : Int} {B : List Int} (h : Ok ⟨W, H, B⟩) : B.length ≤ 200 := by
  have h0 := h.len
  have h1 := h.w1
  have h2 := h.w8
  have h3 := h.h1
  have h4 := h.h8
  unfold inner at h0
  simp only at h0 h1 h2 h3 h4
  rcases (show W = 1 ∨ W = 2 ∨ W = 3 ∨ W = 4 ∨ W = 5 ∨ W = 6 ∨ W = 7 ∨ W = 8 by omega) with rfl | rfl | rfl | rfl | rfl | rfl | rfl | rfl <;> omega
set_option maxHeartbeats 8000000 in
theorem l10Points_any {w : World} {b lo hi : Nat} {W H s : Int} {v : Value} {B : List Int} (bp : Box w b 28 #[.int .i64 W, .int .i64 H, v]) (hI : IntsIn w lo hi v B) (hp : Ok ⟨W, H, B⟩) (hs : s = 1 ∨ s = -1) :
    Calls Try.prog 45 #[.pointer (some ⟨b, 0, none⟩), .int .i64 s] w fun e w' => ∃ A c, e = .returned (.slice A (ptsK ⟨W, H, B⟩ s B.length).length c) ∧ IntsIn w' w.heap.size w'.heap.size (.slice A (ptsK ⟨W, H, B⟩ s B.length).length c) (ptsK ⟨W, H, B⟩ s B.length) ∧ Below w.heap.size w w' := by
  obtain ⟨A, c, rfl, _, _⟩ := hI.1.open_
  have hL : Ints (w.alloc (.cells #[] 2)) w.heap.size (.slice (some ⟨w.heap.size, 0, none⟩) 0 0) [] := Row.none_ w
  have hb0 := Joins.below_alloc1 w (.cells #[] 2)
  have hlen := pan_len hp
  have HP := Lib.hid hp
  have HV : Hid (∀ w', Below w.heap.size w w' → Box w' b 28 #[.int .i64 W, .int .i64 H, .slice A B.length c] ∧ IntsIn w' lo hi (.slice A B.length c) B) := Lib.hid (fun x hx => ⟨bp.below hx, hI.below hx⟩)
  have bb := bp.alloc (.cells #[] 2)
  have hJ := hI.below hb0
  have hcb := cntP_bd hp
  clear bp hI hp
  go_enter Try.func45, Try.ntmps45
  go_wp2_with fail
  refine (l04Count_any bb hJ.1 HP.out).mono ?_
  rintro e w1 ⟨rfl, hb1⟩
  have hL1 := Row.below hL hb1
  have hb1' := bnext hb0 hb1
  obtain ⟨nw, hnw⟩ : ∃ nw, cntP ⟨W, H, B⟩ = nw := ⟨_, rfl⟩
  rw [hnw] at hcb ⊢
  have HN := Lib.hid hnw
  clear hL hb0 bb hJ hb1 hnw
  go_wp2
  go_loopw [5, 7] (fun q t wr => ∃ (k : Nat) (D : Option Addr) (d : Nat), k ≤ B.length ∧ q = .slice D (ptsK ⟨W, H, B⟩ s k).length d ∧ t = .int .i64 k ∧ Ints wr w.heap.size (.slice D (ptsK ⟨W, H, B⟩ s k).length d) (ptsK ⟨W, H, B⟩ s k) ∧ Below w.heap.size w wr) (fun _ t _ => B.length - (intOf t).toNat)
  case atStart => exact ⟨0, _, 0, by omega, rfl, rfl, hL1, hb1'⟩
  case round =>
    obtain ⟨k, D, d, hk, rfl, rfl, hS, hb⟩ := hrel
    clear hL1 hb1'
    have hle := ptsK_len ⟨W, H, B⟩ s k
    obtain ⟨⟨ba⟩, hv⟩ : Nonempty (PLift (Box wr b 28 #[.int .i64 W, .int .i64 H, .slice A B.length c])) ∧ IntsIn wr lo hi (.slice A B.length c) B := ⟨⟨⟨(HV.out wr hb).1⟩⟩, (HV.out wr hb).2⟩
    replace ba := ba.down
    have q2 := ba.cell 2
    have qn := ba.lt
    simp only [List.getElem?_toArray, List.getElem?_cons_zero, List.getElem?_cons_succ] at q2
    clear ba hv
    by_cases hlt : k < B.length
    · have i1 : (k : Int) < (B.length : Int) := by omega
      have HK : Hid (ptsK ⟨W, H, B⟩ s (k + 1) = if hitK ⟨W, H, B⟩ s k 3 then ptsK ⟨W, H, B⟩ s k ++ [(k : Int)] else ptsK ⟨W, H, B⟩ s k) := Lib.hid rfl
      generalize hes : ptsK ⟨W, H, B⟩ s k = es at *
      have hlI : es.length < 1000000000 := by omega
      clear hes
      obtain ⟨W1, hW1⟩ : ∃ x, x = wr := ⟨wr, rfl⟩
      subst hW1
      go_wp2
      go_loopw [8, 9] (fun f t wr => ∃ (i : Nat), i ≤ 3 ∧ f = .bool (hitK ⟨W, H, B⟩ s k i) ∧ t = .int .i64 i ∧ Ints wr w.heap.size (.slice D es.length d) es ∧ Below w.heap.size w wr) (fun _ t _ => 3 - (intOf t).toNat)
      case atStart => exact ⟨0, by omega, rfl, rfl, hS, hb⟩
      case round =>
        obtain ⟨i, hi, rfl, rfl, hS1, hb1⟩ := hrel
        clear hS hb q2 qn
        by_cases hli : i < 3
        · have i2 : (i : Int) < 3 := by omega
          have HH : Hid (hitK ⟨W, H, B⟩ s k (i + 1) = (hitK ⟨W, H, B⟩ s k i || decide (0 < (cntP (withP ⟨W, H, B⟩ k i) - cntP ⟨W, H, B⟩) * s))) := Lib.hid rfl
          by_cases hh : hitK ⟨W, H, B⟩ s k i = true
          · have HT : Hid (hitK ⟨W, H, B⟩ s k (i + 1) = true) := Lib.hid (by rw [HH.out, hh, Bool.true_or])
            rw [hh]
            clear hh HH
            go_wp2
            go_roundw
            case rel => exact ⟨i + 1, by omega, by rw [HT.out], by go_num, hS1, hb1⟩
            case measure => simp [intOf]; omega
          · have hh' : hitK ⟨W, H, B⟩ s k i = false := by simpa using hh
            rw [hh', Bool.false_or] at HH
            rw [hh']
            have hk0 : (0 : Int) ≤ k := by omega
            have HK2 : Hid (0 ≤ (i : Int) ∧ (i : Int) ≤ 2) := Lib.hid (by omega)
            have hcw := cntP_bd (withP_ok HP.out (k := (k : Int)) HK2.out)
            have ba := (HV.out wr hb1).1
            have hv := (HV.out wr hb1).2
            clear hh hh'
            go_wp2_with fail
            refine (l10With_any ba hv HP.out hk0 i1 HK2.out).mono ?_
            rintro e w2 ⟨rfl, hb2⟩
            have hS2 := Row.below hS1 hb2
            have hb2' := bnext hb1 hb2
            rw [HN.out] at HH
            generalize cntP (withP ⟨W, H, B⟩ k i) = cw at *
            clear ba hv hS1 hb1 hb2
            by_cases hf : 0 < (cw - nw) * s
            · have HF := Lib.hid hf
              rcases hs with rfl | rfl
              all_goals
                have hf2 := hf
                clear hf
                go_wp2
                go_roundw
                case rel => exact ⟨i + 1, by omega, by rw [HH.out]; simp [HF.out], by go_num, hS2, hb2'⟩
                case measure => simp [intOf]; omega
            · have HF := Lib.hid hf
              rcases hs with rfl | rfl
              all_goals
                have hf2 := hf
                clear hf
                go_wp2
                go_roundw
                case rel => exact ⟨i + 1, by omega, by rw [HH.out]; simp [HF.out], by go_num, hS2, hb2'⟩
                case measure => simp [intOf]; omega
        · have e : i = 3 := by omega
          subst e
          by_cases hh : hitK ⟨W, H, B⟩ s k 3 = true
          · rw [if_pos hh] at HK
            rw [hh]
            have hlw : w.heap.size ≤ wr.heap.size := hb1.size
            clear hh
            go_wp2_with (at_builtin; refine append_one_at rfl _ _ rfl w.heap.size _ (.slice D es.length d) es k hS1 rfl rfl rfl hlI hlw ?_)
            intro g4 d4 w4 hS4 hg4 _
            have hb4 := hb1.grown hg4 hlw (fun j hj => (Row.lt hS1 hj).1)
            have HE2 : Hid (Ints w4 w.heap.size (.slice (some ⟨g4, 0, none⟩) (ptsK ⟨W, H, B⟩ s (k + 1)).length d4) (ptsK ⟨W, H, B⟩ s (k + 1))) := Lib.hid (by rw [HK.out]; simpa using hS4)
            have HL2 : Hid ((ptsK ⟨W, H, B⟩ s (k + 1)).length = es.length + 1) := Lib.hid (by rw [HK.out]; simp)
            clear hS1 hb1 hg4 hS4
            go_wp2
            go_roundw
            case rel => exact ⟨k + 1, _, d4, by omega, by rw [HL2.out], by go_num, HE2.out, hb4⟩
            case measure => simp [intOf]; omega
          · rw [if_neg hh] at HK
            have hh' : hitK ⟨W, H, B⟩ s k 3 = false := by simpa using hh
            rw [hh']
            clear hh hh'
            go_wp2
            go_roundw
            case rel => exact ⟨k + 1, D, d, by omega, by rw [HK.out], by go_num, by rw [HK.out]; exact hS1, hb1⟩
            case measure => simp [intOf]; omega
    · have e : k = B.length := by omega
      subst e
      have J := Lib.hid (IntsIn.ofInts hS (by omega))
      go_wp2
      go_ret
      exact ⟨D, d, rfl, J.out, hb⟩
set_option maxHeartbeats 8000000 in
theorem pointsWhere_JoiningPoints {w : World} {lo hi : Nat} {W H s r : Int} {v : Value} {B zs : List Int} (hI : IntsIn w lo hi v B) (hm : ptsSM s ⟨W, H, B⟩ = (zs, r)) (hs : s = 1 ∨ s = -1)
    (hF : ∀ (z : Int) (w : World), Calls Try.prog 48 #[.int .i64 z] w fun e w' => e = .returned (.bool (decide (0 < z * s))) ∧ w = w') :
    Calls Try.prog 46 #[.agg #[.int .i64 W, .int .i64 H, v], .func (.func 48) #[] #[]] w fun e w' => ∃ A c, e = .returned (.tuple #[.slice A zs.length c, .int .i64 r]) ∧ IntsIn w' w.heap.size w'.heap.size (.slice A zs.length c) zs ∧ Below w.heap.size w w' := by
  obtain ⟨A, c, rfl, _, _⟩ := hI.1.open_
  have bl := Joins.below_alloc1 w (.cells #[.int .i64 W, .int .i64 H, .slice A B.length c] 28)
  have ba := Box.new w 28 #[.int .i64 W, .int .i64 H, .slice A B.length c]
  have hv := hI.below bl
  clear hI
  by_cases hp : Ok ⟨W, H, B⟩
  rotate_left
  · obtain ⟨rfl, rfl⟩ : [] = zs ∧ 1 = r := by simpa [ptsSM, hp] using hm
    have HP := Lib.hid hp
    clear hm hp ba
    go_enter Try.func46, Try.ntmps46
    go_wp2_with fail
    refine (ValidPanel_any W H _ B false (no_iff HP.out) _ hv.ints).mono ?_
    rintro e w2 ⟨rfl, hb⟩
    replace bl := bnext bl hb
    clear hb
    go_wp2
    go_ret2
    exact ⟨none, 0, rfl, IntsIn.nil _ _ _ (Nat.le_refl _), bl⟩
  · obtain ⟨rfl, rfl⟩ : ptsK ⟨W, H, B⟩ s B.length = zs ∧ 0 = r := by simpa [ptsSM, hp] using hm
    have hcb := cntP_bd hp
    have hlen := pan_len hp
    have HP := Lib.hid hp
    have HFF := Lib.hid hF
    clear hm hp hF
    have q0 := ba.cell 0
    have q1 := ba.cell 1
    have q2 := ba.cell 2
    have qn := ba.lt
    simp only [List.getElem?_toArray, List.getElem?_cons_zero, List.getElem?_cons_succ] at q0 q1 q2
    go_enter Try.func46, Try.ntmps46
    go_wp2_with fail
    refine (ValidPanel_any W H _ B true (yes_iff HP.out) _ hv.ints).mono ?_
    rintro e w2 ⟨rfl, hb⟩
    replace bl := bnext bl hb
    replace ba := ba.below hb
    replace hv := hv.below hb
    have hL : Ints (w2.alloc (.cells #[] 2)) w2.heap.size (.slice (some ⟨w2.heap.size, 0, none⟩) 0 0) [] := Row.none_ w2
    have hb0 := Joins.below_alloc1 w2 (.cells #[] 2)
    have HV : Hid (∀ w', Below w2.heap.size w2 w' → Box w' w.heap.size 28 #[.int .i64 W, .int .i64 H, .slice A B.length c] ∧ IntsIn w' lo hi (.slice A B.length c) B) := Lib.hid (fun x hx => ⟨ba.below hx, hv.below hx⟩)
    have hsz2 := bl.size
    clear hb q0 q1 q2 qn ba
    have bb := (HV.out _ hb0).1
    have hJ := hv.below hb0
    have q0 := bb.cell 0
    have q1 := bb.cell 1
    have q2 := bb.cell 2
    have qn := bb.lt
    simp only [List.getElem?_toArray, List.getElem?_cons_zero, List.getElem?_cons_succ] at q0 q1 q2
    clear bb hv
    go_wp2_with fail
    refine (countCurves_any hJ.1 HP.out).mono ?_
    rintro e w1 ⟨rfl, hb1⟩
    have hL1 := Row.below hL hb1
    have hb1' := bnext hb0 hb1
    obtain ⟨nw, hnw⟩ : ∃ nw, cntP ⟨W, H, B⟩ = nw := ⟨_, rfl⟩
    rw [hnw] at hcb ⊢
    have HN := Lib.hid hnw
    clear hL hb0 hJ hb1 hnw q0 q1 q2 qn
    have bb := (HV.out _ hb1').1
    have q0 := bb.cell 0
    have q1 := bb.cell 1
    have q2 := bb.cell 2
    have qn := bb.lt
    simp only [List.getElem?_toArray, List.getElem?_cons_zero, List.getElem?_cons_succ] at q0 q1 q2
    clear bb
    go_wp2
    go_loopw [6, 20] (fun q t wr => ∃ (k : Nat) (D : Option Addr) (d : Nat), k ≤ B.length ∧ q = .slice D (ptsK ⟨W, H, B⟩ s k).length d ∧ t = .int .i64 k ∧ Ints wr w2.heap.size (.slice D (ptsK ⟨W, H, B⟩ s k).length d) (ptsK ⟨W, H, B⟩ s k) ∧ Below w2.heap.size w2 wr) (fun _ t _ => B.length - (intOf t).toNat)
    case atStart => exact ⟨0, _, 0, by omega, rfl, rfl, hL1, hb1'⟩
    case round =>
      obtain ⟨k, D, d, hk, rfl, rfl, hS, hb⟩ := hrel
      clear hL1 hb1' q0 q1 q2 qn
      have hle := ptsK_len ⟨W, H, B⟩ s k
      by_cases hlt : k < B.length
      · have i1 : (k : Int) < (B.length : Int) := by omega
        have hk0 : (0 : Int) ≤ k := by omega
        have bb := (HV.out _ hb).1
        have hv := (HV.out _ hb).2
        have q0 := bb.cell 0
        have q1 := bb.cell 1
        have q2 := bb.cell 2
        have qn := bb.lt
        simp only [List.getElem?_toArray, List.getElem?_cons_zero, List.getElem?_cons_succ] at q0 q1 q2
        clear bb
        have HK : Hid (ptsK ⟨W, H, B⟩ s (k + 1) = if hitK ⟨W, H, B⟩ s k 3 then ptsK ⟨W, H, B⟩ s k ++ [(k : Int)] else ptsK ⟨W, H, B⟩ s k) := Lib.hid rfl
        generalize hes : ptsK ⟨W, H, B⟩ s k = es at *
        have hlI : es.length < 1000000000 := by omega
        clear hes
        go_wp2_with fail
        refine (effectsAt_any hv HP.out hk0 i1).mono ?_
        rintro e w4 ⟨E, f, rfl, hE, hb4⟩
        have hS4 := Row.below hS hb4
        have hb4' := bnext hb hb4
        obtain ⟨_, _, hEe, _, hEo⟩ := Row.open_ hE.1
        injection hEe with hE1 hE3 hE4
        obtain ⟨g, hg, _, _⟩ := hEo (by simp [effs])
        rw [hg] at hE1
        subst hE1
        clear hE3 hE4 hEo hg hS hb hb4 hv q0 q1 q2 qn
        go_wp2
        go_loopw [6, 27] (fun q t wr => ∃ (i : Nat), i ≤ 3 ∧ q = .slice D es.length d ∧ t = .int .i64 i ∧ hitK ⟨W, H, B⟩ s k i = false ∧ IntsIn wr 0 wr.heap.size (.slice (some ⟨g, 0, none⟩) 3 f) (effs ⟨W, H, B⟩ k) ∧ Ints wr w2.heap.size (.slice D es.length d) es ∧ Below w2.heap.size w2 wr) (fun _ t _ => 3 - (intOf t).toNat)
        case atStart => exact ⟨0, by omega, rfl, rfl, rfl, hE.wider (Nat.zero_le _) (Nat.le_refl _) (Nat.le_refl _), hS4, hb4'⟩
        case round =>
          obtain ⟨i, hi, rfl, rfl, hh, hE1, hS1, hb1⟩ := hrel
          clear hE hS4 hb4'
          by_cases hli : i < 3
          · have i2 : (i : Int) < 3 := by omega
            have HH : Hid (hitK ⟨W, H, B⟩ s k (i + 1) = (hitK ⟨W, H, B⟩ s k i || decide (0 < (cntP (withP ⟨W, H, B⟩ k i) - cntP ⟨W, H, B⟩) * s))) := Lib.hid rfl
            rw [hh, Bool.false_or, HN.out] at HH
            have HK2 : Hid (0 ≤ (i : Int) ∧ (i : Int) ≤ 2) := Lib.hid (by omega)
            have hcw := cntP_bd (withP_ok HP.out (k := (k : Int)) HK2.out)
            obtain ⟨c1⟩ : Nonempty (PLift (wr.cell? ⟨g, i, none⟩ = some (.int .i64 (cntP (withP ⟨W, H, B⟩ k i))))) := ⟨⟨by
              have := Ints.cell hE1.1 (k := i) (by simp [effs]; omega)
              rcases (show i = 0 ∨ i = 1 ∨ i = 2 by omega) with rfl | rfl | rfl <;> exact this⟩⟩
            replace c1 := c1.down
            have HE1 := Lib.hid hE1
            generalize cntP (withP ⟨W, H, B⟩ k i) = cw at *
            clear hh hE1
            go_wp2_with fail
            refine (HFF.out (cw - nw) _).mono ?_
            rintro e w5 ⟨rfl, rfl⟩
            by_cases hf : 0 < (cw - nw) * s
            · rw [decide_eq_true hf] at HH
              rw [decide_eq_true hf]
              have H3 : Hid (ptsK ⟨W, H, B⟩ s (k + 1) = es ++ [(k : Int)]) := Lib.hid (by
                rw [HK.out, if_pos]
                have hh1 : ∀ j, hitK ⟨W, H, B⟩ s k (i + 1 + j) = true := by
                  intro j
                  induction j with
                  | zero => exact HH.out
                  | succ j ih => rw [show i + 1 + (j + 1) = (i + 1 + j) + 1 from rfl, hitK, ih, Bool.true_or]
                have := hh1 (2 - i)
                rwa [show i + 1 + (2 - i) = 3 by omega] at this)
              have hlw : w2.heap.size ≤ wr.heap.size := hb1.size
              clear hf c1
              go_wp2_with (at_builtin; refine append_one_at rfl _ _ rfl w2.heap.size _ (.slice D es.length d) es k hS1 rfl rfl rfl hlI hlw ?_)
              intro g4 d4 w4 hS4 hg4 _
              have hb5 := hb1.grown hg4 hlw (fun j hj => (Row.lt hS1 hj).1)
              have HE2 : Hid (Ints w4 w2.heap.size (.slice (some ⟨g4, 0, none⟩) (ptsK ⟨W, H, B⟩ s (k + 1)).length d4) (ptsK ⟨W, H, B⟩ s (k + 1))) := Lib.hid (by rw [H3.out]; simpa using hS4)
              have HL2 : Hid ((ptsK ⟨W, H, B⟩ s (k + 1)).length = es.length + 1) := Lib.hid (by rw [H3.out]; simp)
              clear hS1 hb1 hg4 hS4
              go_wp2
              go_roundw
              case rel => exact ⟨k + 1, _, d4, by omega, by rw [HL2.out], by go_num, HE2.out, hb5⟩
              case measure => simp [intOf]; omega
            · rw [decide_eq_false hf] at HH
              rw [decide_eq_false hf]
              clear hf c1
              go_wp2
              go_roundw
              case rel => exact ⟨i + 1, by omega, rfl, by go_num, HH.out, HE1.out, hS1, hb1⟩
              case measure => simp [intOf]; omega
          · have e : i = 3 := by omega
            subst e
            rw [hh] at HK
            have HK3 := Lib.hid (show ptsK ⟨W, H, B⟩ s (k + 1) = es from HK.out)
            clear HK hh hE1
            go_wp2
            go_roundw
            case rel => exact ⟨k + 1, D, d, by omega, by rw [HK3.out], by go_num, by rw [HK3.out]; exact hS1, hb1⟩
            case measure => simp [intOf]; omega
      · have e : k = B.length := by omega
        subst e
        have J := Lib.hid ((IntsIn.ofInts hS (by omega)).wider (by omega : w.heap.size ≤ _) (Nat.le_refl _) (Nat.le_refl _))
        go_wp2
        go_ret2
        exact ⟨D, d, rfl, J.out, bnext bl hb⟩
set_option maxHeartbeats 8000000 in
theorem pointsWhere_DividingPoints {w : World} {lo hi : Nat} {W H s r : Int} {v : Value} {B zs : List Int} (hI : IntsIn w lo hi v B) (hm : ptsSM s ⟨W, H, B⟩ = (zs, r)) (hs : s = 1 ∨ s = -1)
    (hF : ∀ (z : Int) (w : World), Calls Try.prog 47 #[.int .i64 z] w fun e w' => e = .returned (.bool (decide (0 < z * s))) ∧ w = w') :
    Calls Try.prog 46 #[.agg #[.int .i64 W, .int .i64 H, v], .func (.func 47) #[] #[]] w fun e w' => ∃ A c, e = .returned (.tuple #[.slice A zs.length c, .int .i64 r]) ∧ IntsIn w' w.heap.size w'.heap.size (.slice A zs.length c) zs ∧ Below w.heap.size w w' := by
  obtain ⟨A, c, rfl, _, _⟩ := hI.1.open_
  have bl := Joins.below_alloc1 w (.cells #[.int .i64 W, .int .i64 H, .slice A B.length c] 28)
  have ba := Box.new w 28 #[.int .i64 W, .int .i64 H, .slice A B.length c]
  have hv := hI.below bl
  clear hI
  by_cases hp : Ok ⟨W, H, B⟩
  rotate_left
  · obtain ⟨rfl, rfl⟩ : [] = zs ∧ 1 = r := by simpa [ptsSM, hp] using hm
    have HP := Lib.hid hp
    clear hm hp ba
    go_enter Try.func46, Try.ntmps46
    go_wp2_with fail
    refine (ValidPanel_any W H _ B false (no_iff HP.out) _ hv.ints).mono ?_
    rintro e w2 ⟨rfl, hb⟩
    replace bl := bnext bl hb
    clear hb
    go_wp2
    go_ret2
    exact ⟨none, 0, rfl, IntsIn.nil _ _ _ (Nat.le_refl _), bl⟩
  · obtain ⟨rfl, rfl⟩ : ptsK ⟨W, H, B⟩ s B.length = zs ∧ 0 = r := by simpa [ptsSM, hp] using hm
    have hcb := cntP_bd hp
    have hlen := pan_len hp
    have HP := Lib.hid hp
    have HFF := Lib.hid hF
    clear hm hp hF
    have q0 := ba.cell 0
    have q1 := ba.cell 1
    have q2 := ba.cell 2
    have qn := ba.lt
    simp only [List.getElem?_toArray, List.getElem?_cons_zero, List.getElem?_cons_succ] at q0 q1 q2
    go_enter Try.func46, Try.ntmps46
    go_wp2_with fail
    refine (ValidPanel_any W H _ B true (yes_iff HP.out) _ hv.ints).mono ?_
    rintro e w2 ⟨rfl, hb⟩
    replace bl := bnext bl hb
    replace ba := ba.below hb
    replace hv := hv.below hb
    have hL : Ints (w2.alloc (.cells #[] 2)) w2.heap.size (.slice (some ⟨w2.heap.size, 0, none⟩) 0 0) [] := Row.none_ w2
    have hb0 := Joins.below_alloc1 w2 (.cells #[] 2)
    have HV : Hid (∀ w', Below w2.heap.size w2 w' → Box w' w.heap.size 28 #[.int .i64 W, .int .i64 H, .slice A B.length c] ∧ IntsIn w' lo hi (.slice A B.length c) B) := Lib.hid (fun x hx => ⟨ba.below hx, hv.below hx⟩)
    have hsz2 := bl.size
    clear hb q0 q1 q2 qn ba
    have bb := (HV.out _ hb0).1
    have hJ := hv.below hb0
    have q0 := bb.cell 0
    have q1 := bb.cell 1
    have q2 := bb.cell 2
    have qn := bb.lt
    simp only [List.getElem?_toArray, List.getElem?_cons_zero, List.getElem?_cons_succ] at q0 q1 q2
    clear bb hv
    go_wp2_with fail
    refine (countCurves_any hJ.1 HP.out).mono ?_
    rintro e w1 ⟨rfl, hb1⟩
    have hL1 := Row.below hL hb1
    have hb1' := bnext hb0 hb1
    obtain ⟨nw, hnw⟩ : ∃ nw, cntP ⟨W, H, B⟩ = nw := ⟨_, rfl⟩
    rw [hnw] at hcb ⊢
    have HN := Lib.hid hnw
    clear hL hb0 hJ hb1 hnw q0 q1 q2 qn
    have bb := (HV.out _ hb1').1
    have q0 := bb.cell 0
    have q1 := bb.cell 1
    have q2 := bb.cell 2
    have qn := bb.lt
    simp only [List.getElem?_toArray, List.getElem?_cons_zero, List.getElem?_cons_succ] at q0 q1 q2
    clear bb
    go_wp2
    go_loopw [6, 20] (fun q t wr => ∃ (k : Nat) (D : Option Addr) (d : Nat), k ≤ B.length ∧ q = .slice D (ptsK ⟨W, H, B⟩ s k).length d ∧ t = .int .i64 k ∧ Ints wr w2.heap.size (.slice D (ptsK ⟨W, H, B⟩ s k).length d) (ptsK ⟨W, H, B⟩ s k) ∧ Below w2.heap.size w2 wr) (fun _ t _ => B.length - (intOf t).toNat)
    case atStart => exact ⟨0, _, 0, by omega, rfl, rfl, hL1, hb1'⟩
    case round =>
      obtain ⟨k, D, d, hk, rfl, rfl, hS, hb⟩ := hrel
      clear hL1 hb1' q0 q1 q2 qn
      have hle := ptsK_len ⟨W, H, B⟩ s k
      by_cases hlt : k < B.length
      · have i1 : (k : Int) < (B.length : Int) := by omega
        have hk0 : (0 : Int) ≤ k := by omega
        have bb := (HV.out _ hb).1
        have hv := (HV.out _ hb).2
        have q0 := bb.cell 0
        have q1 := bb.cell 1
        have q2 := bb.cell 2
        have qn := bb.lt
        simp only [List.getElem?_toArray, List.getElem?_cons_zero, List.getElem?_cons_succ] at q0 q1 q2
        clear bb
        have HK : Hid (ptsK ⟨W, H, B⟩ s (k + 1) = if hitK ⟨W, H, B⟩ s k 3 then ptsK ⟨W, H, B⟩ s k ++ [(k : Int)] else ptsK ⟨W, H, B⟩ s k) := Lib.hid rfl
        generalize hes : ptsK ⟨W, H, B⟩ s k = es at *
        have hlI : es.length < 1000000000 := by omega
        clear hes
        go_wp2_with fail
        refine (effectsAt_any hv HP.out hk0 i1).mono ?_
        rintro e w4 ⟨E, f, rfl, hE, hb4⟩
        have hS4 := Row.below hS hb4
        have hb4' := bnext hb hb4
        obtain ⟨_, _, hEe, _, hEo⟩ := Row.open_ hE.1
        injection hEe with hE1 hE3 hE4
        obtain ⟨g, hg, _, _⟩ := hEo (by simp [effs])
        rw [hg] at hE1
        subst hE1
        clear hE3 hE4 hEo hg hS hb hb4 hv q0 q1 q2 qn
        go_wp2
        go_loopw [6, 27] (fun q t wr => ∃ (i : Nat), i ≤ 3 ∧ q = .slice D es.length d ∧ t = .int .i64 i ∧ hitK ⟨W, H, B⟩ s k i = false ∧ IntsIn wr 0 wr.heap.size (.slice (some ⟨g, 0, none⟩) 3 f) (effs ⟨W, H, B⟩ k) ∧ Ints wr w2.heap.size (.slice D es.length d) es ∧ Below w2.heap.size w2 wr) (fun _ t _ => 3 - (intOf t).toNat)
        case atStart => exact ⟨0, by omega, rfl, rfl, rfl, hE.wider (Nat.zero_le _) (Nat.le_refl _) (Nat.le_refl _), hS4, hb4'⟩
        case round =>
          obtain ⟨i, hi, rfl, rfl, hh, hE1, hS1, hb1⟩ := hrel
          clear hE hS4 hb4'
          by_cases hli : i < 3
          · have i2 : (i : Int) < 3 := by omega
            have HH : Hid (hitK ⟨W, H, B⟩ s k (i + 1) = (hitK ⟨W, H, B⟩ s k i || decide (0 < (cntP (withP ⟨W, H, B⟩ k i) - cntP ⟨W, H, B⟩) * s))) := Lib.hid rfl
            rw [hh, Bool.false_or, HN.out] at HH
            have HK2 : Hid (0 ≤ (i : Int) ∧ (i : Int) ≤ 2) := Lib.hid (by omega)
            have hcw := cntP_bd (withP_ok HP.out (k := (k : Int)) HK2.out)
            obtain ⟨c1⟩ : Nonempty (PLift (wr.cell? ⟨g, i, none⟩ = some (.int .i64 (cntP (withP ⟨W, H, B⟩ k i))))) := ⟨⟨by
              have := Ints.cell hE1.1 (k := i) (by simp [effs]; omega)
              rcases (show i = 0 ∨ i = 1 ∨ i = 2 by omega) with rfl | rfl | rfl <;> exact this⟩⟩
            replace c1 := c1.down
            have HE1 := Lib.hid hE1
            generalize cntP (withP ⟨W, H, B⟩ k i) = cw at *
            clear hh hE1
            go_wp2_with fail
            refine (HFF.out (cw - nw) _).mono ?_
            rintro e w5 ⟨rfl, rfl⟩
            by_cases hf : 0 < (cw - nw) * s
            · rw [decide_eq_true hf] at HH
              rw [decide_eq_true hf]
              have H3 : Hid (ptsK ⟨W, H, B⟩ s (k + 1) = es ++ [(k : Int)]) := Lib.hid (by
                rw [HK.out, if_pos]
                have hh1 : ∀ j, hitK ⟨W, H, B⟩ s k (i + 1 + j) = true := by
                  intro j
                  induction j with
                  | zero => exact HH.out
                  | succ j ih => rw [show i + 1 + (j + 1) = (i + 1 + j) + 1 from rfl, hitK, ih, Bool.true_or]
                have := hh1 (2 - i)
                rwa [show i + 1 + (2 - i) = 3 by omega] at this)
              have hlw : w2.heap.size ≤ wr.heap.size := hb1.size
              clear hf c1
              go_wp2_with (at_builtin; refine append_one_at rfl _ _ rfl w2.heap.size _ (.slice D es.length d) es k hS1 rfl rfl rfl hlI hlw ?_)
              intro g4 d4 w4 hS4 hg4 _
              have hb5 := hb1.grown hg4 hlw (fun j hj => (Row.lt hS1 hj).1)
              have HE2 : Hid (Ints w4 w2.heap.size (.slice (some ⟨g4, 0, none⟩) (ptsK ⟨W, H, B⟩ s (k + 1)).length d4) (ptsK ⟨W, H, B⟩ s (k + 1))) := Lib.hid (by rw [H3.out]; simpa using hS4)
              have HL2 : Hid ((ptsK ⟨W, H, B⟩ s (k + 1)).length = es.length + 1) := Lib.hid (by rw [H3.out]; simp)
              clear hS1 hb1 hg4 hS4
              go_wp2
              go_roundw
              case rel => exact ⟨k + 1, _, d4, by omega, by rw [HL2.out], by go_num, HE2.out, hb5⟩
              case measure => simp [intOf]; omega
            · rw [decide_eq_false hf] at HH
              rw [decide_eq_false hf]
              clear hf c1
              go_wp2
              go_roundw
              case rel => exact ⟨i + 1, by omega, rfl, by go_num, HH.out, HE1.out, hS1, hb1⟩
              case measure => simp [intOf]; omega
          · have e : i = 3 := by omega
            subst e
            rw [hh] at HK
            have HK3 := Lib.hid (show ptsK ⟨W, H, B⟩ s (k + 1) = es from HK.out)
            clear HK hh hE1
            go_wp2
            go_roundw
            case rel => exact ⟨k + 1, D, d, by omega, by rw [HK3.out], by go_num, by rw [HK3.out]; exact hS1, hb1⟩
            case measure => simp [intOf]; omega
      · have e : k = B.length := by omega
        subst e
        have J := Lib.hid ((IntsIn.ofInts hS (by omega)).wider (by omega : w.heap.size ≤ _) (Nat.le_refl _) (Nat.le_refl _))
        go_wp2
        go_ret2
        exact ⟨D, d, rfl, J.out, bnext bl hb⟩
set_option maxHeartbeats 2000000 in
theorem fn_JoiningPoints (z : Int) (w : World) : Calls Try.prog 48 #[.int .i64 z] w fun e w' => e = .returned (.bool (decide (0 < z * (-1)))) ∧ w = w' := by
  by_cases h : z < 0
  · rw [decide_eq_true (by omega)]
    go_enter Try.func48, Try.ntmps48
    go_wp2
    go_ret
    exact ⟨rfl, rfl⟩
  · rw [decide_eq_false (by omega)]
    go_enter Try.func48, Try.ntmps48
    go_wp2
    go_ret
    exact ⟨rfl, rfl⟩
set_option maxHeartbeats 2000000 in
theorem K_impl_JoiningPoints {w : World} {lo hi : Nat} {W H r : Int} {v : Value} {B zs : List Int} (hI : IntsIn w lo hi v B) (hm : ptsSM (-1) ⟨W, H, B⟩ = (zs, r)) :
    Calls Try.prog 25 #[.agg #[.int .i64 W, .int .i64 H, v]] w fun e w' => ∃ A c, e = .returned (.tuple #[.slice A zs.length c, .int .i64 r]) ∧ IntsIn w' w.heap.size w'.heap.size (.slice A zs.length c) zs ∧ Below w.heap.size w w' := by
  obtain ⟨A, c, rfl, _, _⟩ := hI.1.open_
  have bl := Joins.below_alloc1 w (.cells #[.int .i64 W, .int .i64 H, .slice A B.length c] 28)
  have hv := hI.below bl
  have HM := Lib.hid hm
  clear hI hm
  go_enter Try.func25, Try.ntmps25
  go_wp2_with fail
  refine (pointsWhere_JoiningPoints hv HM.out (by omega) fn_JoiningPoints).mono ?_
  rintro e w2 ⟨E, f, rfl, hE, hb⟩
  have J := Lib.hid (hE.wider (by rw [World.size_alloc]; omega : w.heap.size ≤ _) (Nat.le_refl _) (Nat.le_refl _))
  replace bl := bnext bl hb
  clear hE hb hv
  go_wp2
  go_ret2
  exact ⟨E, f, rfl, J.out, bl⟩
set_option maxHeartbeats 2000000 in
theorem K_spec_JoiningPoints {w : World} {lo hi : Nat} {W H r : Int} {v : Value} {B zs : List Int} (hI : IntsIn w lo hi v B) (hm : ptsSM (-1) ⟨W, H, B⟩ = (zs, r)) :
    Calls Try.prog 24 #[.agg #[.int .i64 W, .int .i64 H, v]] w fun e w' => ∃ A c, e = .returned (.tuple #[.slice A zs.length c, .int .i64 r]) ∧ IntsIn w' w.heap.size w'.heap.size (.slice A zs.length c) zs ∧ Below w.heap.size w w' := by
  have bl := Joins.below_alloc1 w (.cells #[.int .i64 W, .int .i64 H, v] 28)
  have ba := Box.new w 28 #[.int .i64 W, .int .i64 H, v]
  have hv := hI.below bl
  clear hI
  by_cases hp : Ok ⟨W, H, B⟩
  rotate_left
  · obtain ⟨rfl, rfl⟩ : [] = zs ∧ 1 = r := by simpa [ptsSM, hp] using hm
    have HP := Lib.hid hp
    clear hm hp
    go_enter Try.func24, Try.ntmps24
    go_wp2_with fail
    refine (l02Ok_any _ W H _ B false (no_iff HP.out) _ ⟨ba, hv.ints⟩).mono ?_
    rintro e w2 ⟨rfl, hb⟩
    replace bl := bnext bl (bdrawn hb)
    clear hb
    go_wp2
    go_ret2
    exact ⟨none, 0, rfl, IntsIn.nil _ _ _ (Nat.le_refl _), bl⟩
  · obtain ⟨rfl, rfl⟩ : ptsK ⟨W, H, B⟩ (-1) B.length = zs ∧ 0 = r := by simpa [ptsSM, hp] using hm
    have HP := Lib.hid hp
    clear hm hp
    go_enter Try.func24, Try.ntmps24
    go_wp2_with fail
    refine (l02Ok_any _ W H _ B true (yes_iff HP.out) _ ⟨ba, hv.ints⟩).mono ?_
    rintro e w2 ⟨rfl, hb⟩
    replace hb := bdrawn hb
    replace bl := bnext bl hb
    replace ba := ba.below hb
    replace hv := hv.below hb
    have hsz := bl.size
    clear hb
    go_wp2_with fail
    refine (l10Points_any ba hv HP.out (by omega)).mono ?_
    rintro e w3 ⟨E, f, rfl, hE, hb⟩
    have J := Lib.hid (hE.wider (by omega : w.heap.size ≤ _) (Nat.le_refl _) (Nat.le_refl _))
    replace bl := bnext bl hb
    clear hE hb hv ba
    go_wp2
    go_ret2
    exact ⟨E, f, rfl, J.out, bl⟩
set_option maxHeartbeats 2000000 in
theorem fn_DividingPoints (z : Int) (w : World) : Calls Try.prog 47 #[.int .i64 z] w fun e w' => e = .returned (.bool (decide (0 < z * (1)))) ∧ w = w' := by
  by_cases h : z > 0
  · rw [decide_eq_true (by omega)]
    go_enter Try.func47, Try.ntmps47
    go_wp2
    go_ret
    exact ⟨rfl, rfl⟩
  · rw [decide_eq_false (by omega)]
    go_enter Try.func47, Try.ntmps47
    go_wp2
    go_ret
    exact ⟨rfl, rfl⟩
set_option maxHeartbeats 2000000 in
theorem K_impl_DividingPoints {w : World} {lo hi : Nat} {W H r : Int} {v : Value} {B zs : List Int} (hI : IntsIn w lo hi v B) (hm : ptsSM (1) ⟨W, H, B⟩ = (zs, r)) :
    Calls Try.prog 19 #[.agg #[.int .i64 W, .int .i64 H, v]] w fun e w' => ∃ A c, e = .returned (.tuple #[.slice A zs.length c, .int .i64 r]) ∧ IntsIn w' w.heap.size w'.heap.size (.slice A zs.length c) zs ∧ Below w.heap.size w w' := by
  obtain ⟨A, c, rfl, _, _⟩ := hI.1.open_
  have bl := Joins.below_alloc1 w (.cells #[.int .i64 W, .int .i64 H, .slice A B.length c] 28)
  have hv := hI.below bl
  have HM := Lib.hid hm
  clear hI hm
  go_enter Try.func19, Try.ntmps19
  go_wp2_with fail
  refine (pointsWhere_DividingPoints hv HM.out (by omega) fn_DividingPoints).mono ?_
  rintro e w2 ⟨E, f, rfl, hE, hb⟩
  have J := Lib.hid (hE.wider (by rw [World.size_alloc]; omega : w.heap.size ≤ _) (Nat.le_refl _) (Nat.le_refl _))
  replace bl := bnext bl hb
  clear hE hb hv
  go_wp2
  go_ret2
  exact ⟨E, f, rfl, J.out, bl⟩
set_option maxHeartbeats 2000000 in
theorem K_spec_DividingPoints {w : World} {lo hi : Nat} {W H r : Int} {v : Value} {B zs : List Int} (hI : IntsIn w lo hi v B) (hm : ptsSM (1) ⟨W, H, B⟩ = (zs, r)) :
    Calls Try.prog 18 #[.agg #[.int .i64 W, .int .i64 H, v]] w fun e w' => ∃ A c, e = .returned (.tuple #[.slice A zs.length c, .int .i64 r]) ∧ IntsIn w' w.heap.size w'.heap.size (.slice A zs.length c) zs ∧ Below w.heap.size w w' := by
  have bl := Joins.below_alloc1 w (.cells #[.int .i64 W, .int .i64 H, v] 28)
  have ba := Box.new w 28 #[.int .i64 W, .int .i64 H, v]
  have hv := hI.below bl
  clear hI
  by_cases hp : Ok ⟨W, H, B⟩
  rotate_left
  · obtain ⟨rfl, rfl⟩ : [] = zs ∧ 1 = r := by simpa [ptsSM, hp] using hm
    have HP := Lib.hid hp
    clear hm hp
    go_enter Try.func18, Try.ntmps18
    go_wp2_with fail
    refine (l02Ok_any _ W H _ B false (no_iff HP.out) _ ⟨ba, hv.ints⟩).mono ?_
    rintro e w2 ⟨rfl, hb⟩
    replace bl := bnext bl (bdrawn hb)
    clear hb
    go_wp2
    go_ret2
    exact ⟨none, 0, rfl, IntsIn.nil _ _ _ (Nat.le_refl _), bl⟩
  · obtain ⟨rfl, rfl⟩ : ptsK ⟨W, H, B⟩ (1) B.length = zs ∧ 0 = r := by simpa [ptsSM, hp] using hm
    have HP := Lib.hid hp
    clear hm hp
    go_enter Try.func18, Try.ntmps18
    go_wp2_with fail
    refine (l02Ok_any _ W H _ B true (yes_iff HP.out) _ ⟨ba, hv.ints⟩).mono ?_
    rintro e w2 ⟨rfl, hb⟩
    replace hb := bdrawn hb
    replace bl := bnext bl hb
    replace ba := ba.below hb
    replace hv := hv.below hb
    have hsz := bl.size
    clear hb
    go_wp2_with fail
    refine (l10Points_any ba hv HP.out (by omega)).mono ?_
    rintro e w3 ⟨E, f, rfl, hE, hb⟩
    have J := Lib.hid (hE.wider (by omega : w.heap.size ≤ _) (Nat.le_refl _) (Nat.le_refl _))
    replace bl := bnext bl hb
    clear hE hb hv ba
    go_wp2
    go_ret2
    exact ⟨E, f, rfl, J.out, bl⟩
end Go.Proofs.Ytmagomiehgcbjaa
