/-
  PairsOf, by the program.
-/
import Derived.Test.YtcfdbjjfdddfeaaPrsI
namespace Go.Proofs.Ytcfdbjjfdddfeaa
open Go.RowKit Knot

set_option maxHeartbeats 4000000 in
theorem K_impl_PairsOf {w : World} {lo hi : Nat} {W H r1 : Int} {v : Value} {Bs : List Int} {xss : List (List Int)} (hI : IntsIn w lo hi v Bs) (hm : pairsM ⟨W, H, Bs⟩ = (xss, r1)) :
    Calls Try.prog 45 #[.agg #[.int .i64 W, .int .i64 H, v]] w fun e w' => ∃ A c, e = .returned (.tuple #[.slice A xss.length c, .int .i64 r1]) ∧ ListsIn w' w.heap.size w'.heap.size (.slice A xss.length c) xss ∧ Below w.heap.size w w' := by
  obtain ⟨A, c, rfl, _, _⟩ := hI.1.open_
  have bl := Joins.below_alloc1 w (.cells #[.int .i64 W, .int .i64 H, .slice A Bs.length c] 56)
  have ba := Box.new w 56 #[.int .i64 W, .int .i64 H, .slice A Bs.length c]
  have hv := hI.below bl
  have q0 := ba.cell 0
  have q1 := ba.cell 1
  have q2 := ba.cell 2
  have qn := ba.lt
  simp only [List.getElem?_toArray, List.getElem?_cons_zero, List.getElem?_cons_succ] at q0 q1 q2
  by_cases ho : Ok ⟨W, H, Bs⟩
  · have HP := Lib.hid ho
    unfold pairsM at hm
    rw [if_pos ho] at hm
    injection hm with h1 h2
    have HX := Lib.hid h1
    have HR := Lib.hid h2
    clear hI ho h1 h2
    go_enter Try.func45, Try.ntmps45
    go_wp2_with fail
    refine (ValidPanel_any W H _ Bs true (yes_iff HP.out) _ hv.ints).mono ?_
    rintro e w2 ⟨rfl, hb⟩
    replace ba := ba.below hb
    replace hv := hv.below hb
    replace bl := bnext bl hb
    have sz2 := bl.size
    clear hb q0 q1 q2 qn
    have q0 := ba.cell 0
    have q1 := ba.cell 1
    have q2 := ba.cell 2
    have qn := ba.lt
    simp only [List.getElem?_toArray, List.getElem?_cons_zero, List.getElem?_cons_succ] at q0 q1 q2
    go_wp2_with fail
    refine (pairs_any hv.1 HP.out).mono ?_
    rintro e w3 ⟨g, d, l, rfl, hr, hvl, hn, hb3⟩
    have hll : l.length = xss.length := by
      have e := congrArg List.length hvl
      rw [List.length_map] at e
      rw [e, ← HX.out, List.length_map]
    have hL := prs_lists hr hn (by have e := congrArg List.length hvl; rw [List.length_map] at e; rw [e]; exact allQ_len HP.out)
    rw [hvl, HX.out, hll] at hL
    have HL := Lib.hid (hL.wider (lo' := w.heap.size) sz2 (Nat.le_refl _) (Nat.le_refl _))
    have hr0 : r1 = 0 := HR.out.symm
    subst hr0
    rw [hll]
    have bl3 := bnext bl hb3
    clear hL hr hvl hn hll hb3 bl ba hv q0 q1 q2 qn
    go_wp2
    go_ret2
    exact ⟨_, d, rfl, HL.out, bl3⟩
  · have HP := Lib.hid ho
    unfold pairsM at hm
    rw [if_neg ho] at hm
    injection hm with h1 h2
    subst h1 h2
    clear hI ho
    go_enter Try.func45, Try.ntmps45
    go_wp2_with fail
    refine (ValidPanel_any W H _ Bs false (no_iff HP.out) _ hv.ints).mono ?_
    rintro e w2 ⟨rfl, hb⟩
    have bl2 := bnext bl hb
    have hN := ListsIn.nil w2 w.heap.size w2.heap.size (Nat.le_refl _)
    clear q0 q1 q2 qn
    go_wp2
    go_ret2
    exact ⟨none, 0, rfl, hN, bl2⟩
end Go.Proofs.Ytcfdbjjfdddfeaa
