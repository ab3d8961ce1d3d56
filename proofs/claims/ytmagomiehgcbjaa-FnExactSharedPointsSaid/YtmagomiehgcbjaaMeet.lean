/-
  Whether a list holds a number; the code of a panel and some curves.
-/
import Derived.Test.YtmagomiehgcbjaaEff2
namespace Go.Proofs.Ytmagomiehgcbjaa
open Go.RowKit Knot

set_option maxHeartbeats 2000000 in
theorem l00Has_any {w : World} {Bd : Nat} {v : Value} {xs : List Int} {y : Int} {c : Bool} (hx : Ints w Bd v xs) (hc : decide (y ∈ xs) = c) :
    Calls Try.prog 73 #[v, .int .i64 y] w fun e w' => e = .returned (.bool c) ∧ w = w' := by
  obtain ⟨A, cA, rfl, lA, hA⟩ := hx.open_
  unfold maxLen at lA
  have HC := Lib.hid hc
  clear hc
  go_enter Try.func73, Try.ntmps73
  go_wp2
  go_loop [5] (fun i => ∃ k : Nat, k ≤ xs.length ∧ i = .int .i64 k ∧ Hid (y ∉ xs.take k)) (fun i => xs.length - (intOf i).toNat)
  case atStart => exact ⟨0, Nat.zero_le _, rfl, Lib.hid (by simp)⟩
  case round =>
    obtain ⟨k, hk, rfl, hn⟩ := hrel
    by_cases hlt : k < xs.length
    · obtain ⟨g, rfl, _, _⟩ := hA (by omega)
      have i1 : (k : Int) < (xs.length : Int) := by omega
      have c1 := Ints.cell hx (k := k) hlt
      have hz : xs[k] = gI xs k := (gI_nat xs k hlt).symm
      have HN : Hid (y ∉ xs.take (k + 1) ∨ gI xs k = y) := Lib.hid (by
        rw [← hz]
        by_cases e : xs[k] = y
        · exact .inr e
        · refine .inl fun hm => ?_
          rw [List.take_succ_eq_append_getElem hlt] at hm
          rcases List.mem_append.1 hm with hm | hm
          · exact hn.out hm
          · simp at hm; exact e hm.symm)
      have HM : Hid (gI xs k ∈ xs) := Lib.hid (by rw [← hz]; exact List.getElem_mem hlt)
      clear hA hz
      generalize gI xs k = z at *
      by_cases e : z = y
      · subst e
        obtain rfl : true = c := by rw [← HC.out]; exact (decide_eq_true HM.out).symm
        go_wp2
        go_ret
        exact ⟨rfl, rfl⟩
      · have HN2 : Hid (y ∉ xs.take (k + 1)) := Lib.hid (HN.out.resolve_right e)
        clear HN
        go_wp2
        go_round
        case rel => exact ⟨k + 1, by omega, by go_num, HN2⟩
        case measure => simp [intOf]; omega
    · have e : k = xs.length := by omega
      subst e
      obtain rfl : false = c := by
        have := hn.out
        rw [List.take_length] at this
        rw [← HC.out]
        exact (decide_eq_false this).symm
      clear hA hn
      go_wp2
      go_ret
      exact ⟨rfl, rfl⟩
/-- The code of a panel and some curves. -/
def codeC (p : Pan) (xs : List Int) : Int := if Ok p then if xs.all (fun x => inR x 0 (cntP p - 1)) then 0 else 2 else 1
set_option maxHeartbeats 4000000 in
theorem curveCode_any {w : World} {lo hi lo' hi' : Nat} {W H r : Int} {v u : Value} {B xs : List Int} (hI : IntsIn w lo hi v B) (hx : IntsIn w lo' hi' u xs) (hr : codeC ⟨W, H, B⟩ xs = r) :
    Calls Try.prog 53 #[.agg #[.int .i64 W, .int .i64 H, v], u] w fun e w' => e = .returned (.int .i64 r) ∧ Below w.heap.size w w' := by
  obtain ⟨A, c, rfl, _, _⟩ := hI.1.open_
  obtain ⟨D, d, rfl, lD, hD⟩ := hx.1.open_
  unfold maxLen at lD
  have bl := Joins.below_alloc1 w (.cells #[.int .i64 W, .int .i64 H, .slice A B.length c] 28)
  have ba := Box.new w 28 #[.int .i64 W, .int .i64 H, .slice A B.length c]
  have hv := hI.below bl
  have hy := hx.below bl
  clear hI hx
  by_cases hp : Ok ⟨W, H, B⟩
  rotate_left
  · obtain rfl : 1 = r := by simpa [codeC, hp] using hr
    have HP := Lib.hid hp
    clear hr hp
    have q0 := ba.cell 0
    have q1 := ba.cell 1
    have q2 := ba.cell 2
    have qn := ba.lt
    simp only [List.getElem?_toArray, List.getElem?_cons_zero, List.getElem?_cons_succ] at q0 q1 q2
    clear ba hD
    go_enter Try.func53, Try.ntmps53
    go_wp2_with fail
    refine (ValidPanel_any W H _ B false (no_iff HP.out) _ hv.ints).mono ?_
    rintro e w2 ⟨rfl, hb⟩
    replace bl := bnext bl hb
    clear hb q0 q1 q2 qn
    go_wp2
    go_ret
    exact ⟨rfl, bl⟩
  · have HR : Hid ((if xs.all (fun x => inR x 0 (cntP ⟨W, H, B⟩ - 1)) then (0 : Int) else 2) = r) := Lib.hid (by simpa [codeC, hp] using hr)
    have hcb := cntP_bd hp
    have HP := Lib.hid hp
    clear hr hp
    have q0 := ba.cell 0
    have q1 := ba.cell 1
    have q2 := ba.cell 2
    have qn := ba.lt
    simp only [List.getElem?_toArray, List.getElem?_cons_zero, List.getElem?_cons_succ] at q0 q1 q2
    go_enter Try.func53, Try.ntmps53
    go_wp2_with fail
    refine (ValidPanel_any W H _ B true (yes_iff HP.out) _ hv.ints).mono ?_
    rintro e w2 ⟨rfl, hb⟩
    replace bl := bnext bl hb
    have HV : Hid (∀ w', Below w2.heap.size w2 w' → (Box w' w.heap.size 28 #[.int .i64 W, .int .i64 H, .slice A B.length c] ∧ IntsIn w' lo hi (.slice A B.length c) B) ∧ IntsIn w' lo' hi' (.slice D xs.length d) xs) := Lib.hid (fun x hx => ⟨⟨(ba.below hb).below hx, (hv.below hb).below hx⟩, (hy.below hb).below hx⟩)
    have br := Below.refl w2.heap.size w2
    have h0 : Hid ((xs.take 0).all (fun x => inR x 0 (cntP ⟨W, H, B⟩ - 1)) = true) := Lib.hid rfl
    clear hb q0 q1 q2 qn ba hv hy
    go_wp2
    go_loopw [12] (fun t wr => ∃ k : Nat, k ≤ xs.length ∧ t = .int .i64 k ∧ Hid ((xs.take k).all (fun x => inR x 0 (cntP ⟨W, H, B⟩ - 1)) = true) ∧ Below w2.heap.size w2 wr) (fun t _ => xs.length - (intOf t).toNat)
    case atStart => exact ⟨0, Nat.zero_le _, rfl, h0, br⟩
    case round =>
      obtain ⟨k, hk, rfl, hn, hb⟩ := hrel
      clear br h0
      by_cases hlt : k < xs.length
      · obtain ⟨g, rfl, _, _⟩ := hD (by omega)
        have i1 : (k : Int) < (xs.length : Int) := by omega
        obtain ⟨⟨ba, hv⟩, hy⟩ := HV.out wr hb
        have c1 := Ints.cell hy.1 (k := k) hlt
        have q0 := ba.cell 0
        have q1 := ba.cell 1
        have q2 := ba.cell 2
        have qn := ba.lt
        simp only [List.getElem?_toArray, List.getElem?_cons_zero, List.getElem?_cons_succ] at q0 q1 q2
        have hz : xs[k] = gI xs k := (gI_nat xs k hlt).symm
        have HN : Hid ((xs.take (k + 1)).all (fun x => inR x 0 (cntP ⟨W, H, B⟩ - 1)) = inR (gI xs k) 0 (cntP ⟨W, H, B⟩ - 1)) := Lib.hid (by
          rw [← hz, List.take_succ_eq_append_getElem hlt, List.all_append, hn.out]; simp)
        have HM : Hid (gI xs k ∈ xs) := Lib.hid (by rw [← hz]; exact List.getElem_mem hlt)
        clear hD ba hy hn hz
        generalize gI xs k = z at *
        go_wp2_with fail
        refine (countCurves_any hv.1 HP.out).mono ?_
        rintro e w3 ⟨rfl, hb3⟩
        replace hb := bnext hb hb3
        clear hv hb3 c1 q0 q1 q2 qn
        obtain ⟨n, hnn⟩ : ∃ n, cntP ⟨W, H, B⟩ = n := ⟨_, rfl⟩
        have HCN := Lib.hid hnn
        rw [hnn] at hcb HN
        rw [hnn]
        clear hnn
        obtain ⟨f, hf⟩ : ∃ f, inR z 0 (n - 1) = f := ⟨_, rfl⟩
        have HF := Lib.hid hf
        clear hf
        go_wp2_with fail
        refine (inRange_any _ _ _ f HF.out _).mono ?_
        rintro e w4 ⟨rfl, rfl⟩
        cases f with
        | true =>
          have HN2 := Lib.hid (HN.out.trans HF.out)
          clear HN
          go_wp2
          go_roundw
          case rel => exact ⟨k + 1, by omega, by go_num, Lib.hid (by rw [HCN.out]; exact HN2.out), hb⟩
          case measure => simp [intOf]; omega
        | false =>
          obtain rfl : 2 = r := by
            rw [← HR.out, if_neg]
            intro ha
            have := List.all_eq_true.1 ha z HM.out
            rw [HCN.out, HF.out] at this
            cases this
          clear HN
          go_wp2
          go_ret
          exact ⟨rfl, bnext bl hb⟩
      · have e : k = xs.length := by omega
        subst e
        obtain rfl : 0 = r := by
          have := hn.out
          rw [List.take_length] at this
          rw [← HR.out, if_pos this]
        clear hD hn
        go_wp2
        go_ret
        exact ⟨rfl, bnext bl hb⟩
end Go.Proofs.Ytmagomiehgcbjaa
