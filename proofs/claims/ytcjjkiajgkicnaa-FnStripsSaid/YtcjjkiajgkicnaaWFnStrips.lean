/-
  The law FnStrips, walked.
-/
import Derived.Test.YtcjjkiajgkicnaaLawA
import Derived.Test.YtcjjkiajgkicnaaNewP
import Derived.Test.YtcjjkiajgkicnaaStrip
import Derived.Test.YtcjjkiajgkicnaaPlStr
import Derived.Test.YtcjjkiajgkicnaaCut
import Derived.Deep.RegionHeld3
namespace Go.Proofs.Ytcjjkiajgkicnaa
open Go.RowKit Knot

theorem cnt_ups (B : List Int) : ∀ k, cntTo B 1 k = ups B k
  | 0 => rfl
  | k + 1 => by
    have := cnt_ups B k
    unfold cntTo ups
    rw [this]
set_option maxHeartbeats 8000000 in
theorem FnStrips_walk (a0 : Option Addr) (l0 : Nat) (c0 : Nat) (z0 : List Int) (w : World) (r0 : IsRow .u8 w a0 l0 c0 z0) :
    Calls Try.prog 12 #[.slice a0 l0 c0] w fun e w' => e = .returned (.bool true) ∧ Below w.heap.size w w' := by
  by_cases e_0 : (l0 : Int) ≤ 3000
  rotate_left
  · have hd : decide ((l0 : Int) > 3000 ∨ ((0 : Nat) : Int) > 3000) = true := decide_eq_true (by omega)
    go_enter Try.func12, Try.ntmps12
    go_wp2_with fail
    refine (a2Long2_any a0 l0 c0 none 0 0 true hd _).mono ?_
    rintro e w' ⟨rfl, rfl⟩
    go_wp2_with fail
    go_ret
    exact ⟨rfl, Below.refl _ _⟩
  have hd : decide ((l0 : Int) > 3000 ∨ ((0 : Nat) : Int) > 3000) = false := decide_eq_false (by omega)
  go_enter Try.func12, Try.ntmps12
  go_wp2_with fail
  refine (a2Long2_any a0 l0 c0 none 0 0 false hd _).mono ?_
  rintro e w' ⟨rfl, rfl⟩
  clear hd e_0
  go_wp2_with fail
  refine (a2At_any r0 (k := 0) (n := 8) (by omega) (by omega) (by omega) (by omega)).mono ?_
  rintro e w' ⟨x, rfl, ⟨x0, x1⟩, rfl⟩
  obtain ⟨n, hn⟩ : ∃ n : Nat, x = n := ⟨x.toNat, by omega⟩
  subst hn
  have n7 : n ≤ 7 := by omega
  have hin : inner (1 + (n : Int)) 1 = n := by unfold inner; omega
  have HIN := Lib.hid hin
  clear x0 x1 hin
  go_wp2_with fail
  refine (sNewPanel_any (x := 1 + (n : Int)) (y := 1) (n := n) (by omega) (by omega) HIN.out).mono ?_
  rintro e w1 ⟨g, rfl, hI, hb⟩
  have bl := bnext hb (Joins.below_alloc1 _ (.cells #[.int .i64 (1 + (n : Int)), .int .i64 1, .slice (some ⟨g, 0, none⟩) n n] 45))
  have bp := Box.new w1 45 #[.int .i64 (1 + (n : Int)), .int .i64 1, .slice (some ⟨g, 0, none⟩) n n]
  replace hI := hI.alloc (.cells #[.int .i64 (1 + (n : Int)), .int .i64 1, .slice (some ⟨g, 0, none⟩) n n] 45)
  have sz1 := hb.size
  have hgb := hI.2.1 g rfl
  have hga := (Row.lt hI.1 (g := g) rfl).1
  clear hb
  have hk0 : Hid (∀ i : Nat, 0 ≤ gI (List.replicate n (0 : Int)) i ∧ gI (List.replicate n (0 : Int)) i ≤ 2) := Lib.hid (fun i => by
    unfold gI
    simp [List.getD, List.getElem?_replicate]
    split <;> simp)
  have hlr : (List.replicate n (0 : Int)).length = n := by simp
  go_wp2
  generalize hV : (w1.alloc (.cells #[.int .i64 (1 + (n : Int)), .int .i64 1, .slice (some ⟨g, 0, none⟩) n n] 45)) = V at *
  have hVs : V.heap.size = w1.heap.size + 1 := by rw [← hV]; simp
  clear hV
  go_loopw [5] (fun i wr => ∃ (k : Nat) (B : List Int), k ≤ n ∧ i = .int .i64 k ∧ B.length = n ∧ IntsIn wr w.heap.size w1.heap.size (.slice (some ⟨g, 0, none⟩) n n) B ∧ Hid (∀ i : Nat, 0 ≤ gI B i ∧ gI B i ≤ 2) ∧
      Box wr w1.heap.size 45 #[.int .i64 (1 + (n : Int)), .int .i64 1, .slice (some ⟨g, 0, none⟩) n n] ∧ Below w.heap.size w wr) (fun i _ => n - (intOf i).toNat)
  case atStart => exact ⟨0, _, by omega, rfl, hlr, hI, hk0, bp, bl⟩
  case round =>
    obtain ⟨k, B, hk, rfl, hBl, hI, hB, bp, bl⟩ := hrel
    clear hk0 hlr
    by_cases hlt : k < n
    · have r1 := r0.below bl
      have p2 := bp.cell 2
      have pn := bp.lt
      simp only [List.getElem?_toArray, List.getElem?_cons_zero, List.getElem?_cons_succ] at p2
      have sc := Ints.cell hI.1 (k := k) (by omega)
      have sf := Row.free hI.1 k
      have sn := (Row.lt hI.1 (g := g) rfl).2
      obtain ⟨W0, hW0⟩ : ∃ x, x = wr := ⟨wr, rfl⟩
      subst hW0
      have KR : Hid (∀ w', Below W0.heap.size W0 w' → IsRow .u8 w' a0 l0 c0 z0) := Lib.hid (fun x hx => r1.below hx)
      have HW1 : Hid (IntKind.i64.wrap ((k : Int) + 1) = (k : Int) + 1) := Lib.hid (by rw [IntKind.wrap_i64]; omega)
      clear r0 r1
      go_wp2
      have gne : (⟨w1.heap.size, 2, none⟩ : Addr).block ≠ (⟨g, k, none⟩ : Addr).block := by show w1.heap.size ≠ g; omega
      go_region_held3 (fun w' => w'.cell? ⟨w1.heap.size, 2, none⟩ = some (.slice (some ⟨g, 0, none⟩) n n))
        (first | exact p2 | exact cell_f gne p2 | assumption)
        ((go_at_call 43; (try rw [HW1.out]); (with_reducible refine (a2At_any (KR.out _ cut_drew) (k := (k : Int) + 1) (n := 3) (by omega) (by omega) (by omega) (by omega)).mono ?_); rintro e w2 ⟨x, rfl, hx, rfl⟩; have z1 : W0.drew.cell? ⟨g, k, none⟩ = some (.int .i64 (gI B k)) := sc; have z2 : W0.drew.frozen? ⟨g, k, none⟩ = false := sf; have z3 : g < W0.drew.heap.size := sn))
      have hI2 := hI.put k x
      have HB2 : Hid (∀ i : Nat, 0 ≤ gI (B.set k x) i ∧ gI (B.set k x) i ≤ 2) := Lib.hid (fun i => by
        by_cases e : k = i
        · subst e
          have : gI (B.set k x) k = x := by simp [gI, List.getD, show k < B.length by omega]
          rw [this]
          omega
        · have : gI (B.set k x) i = gI B i := by simp [gI, List.getD, List.getElem?_set_ne e]
          rw [this]
          exact hB.out i)
      have bp2 := bp.far (p := ⟨g, k, none⟩) (by show w1.heap.size ≠ g; omega) (.int .i64 x)
      have bl2 := bl.setCell (p := ⟨g, k, none⟩) hga (.int .i64 x)
      have hl2 : (B.set k x).length = n := by rw [List.length_set]; exact hBl
      replace hI2 : IntsIn (W0.setCell ⟨g, k, none⟩ (.int .i64 x)).drew w.heap.size w1.heap.size (.slice (some ⟨g, 0, none⟩) n n) (B.set k x) := hI2.below (below_drewN _ _ 1)
      replace bp2 : Box (W0.setCell ⟨g, k, none⟩ (.int .i64 x)).drew w1.heap.size 45 #[.int .i64 (1 + (n : Int)), .int .i64 1, .slice (some ⟨g, 0, none⟩) n n] := bp2
      replace bl2 : Below w.heap.size w (W0.setCell ⟨g, k, none⟩ (.int .i64 x)).drew := bl2.trans (below_drewN _ _ 1)
      clear hI bp bl hB z1 z2 z3 sc sf sn p2 pn KR gne hx HW1
      generalize (W0.setCell ⟨g, k, none⟩ (.int .i64 x)).drew = V2 at *
      generalize B.set k x = B2 at *
      go_wp2
      go_roundw
      case rel => exact ⟨k + 1, B2, by omega, by go_num, hl2, hI2, HB2, bp2, bl2⟩
      case measure => simp [intOf]; omega
    · have e : k = n := by omega
      subst e
      have hok : Ok ⟨1 + (k : Int), 1, B⟩ := by
        refine ⟨by simp; omega, by simp; omega, by simp, by simp, by simp only []; rw [hBl]; exact HIN.out.symm, fun z hz => ?_⟩
        obtain ⟨i, hi, rfl⟩ := List.getElem_of_mem hz
        have := hB.out i
        rwa [gI_nat B i hi] at this
      have HOK := Lib.hid hok
      have HC : Hid (stripM ⟨1 + (k : Int), 1, B⟩ = (cntP ⟨1 + (k : Int), 1, B⟩, 0)) := Lib.hid (by
        unfold stripM
        rw [if_pos hok, if_pos rfl, strip_count hok]
        show (cntTo B 1 B.length + 1, (0 : Int)) = _
        rw [cnt_ups])
      clear hok hB
      have p0 := bp.cell 0
      have p1 := bp.cell 1
      have p2 := bp.cell 2
      have pn := bp.lt
      simp only [List.getElem?_toArray, List.getElem?_cons_zero, List.getElem?_cons_succ] at p0 p1 p2
      go_wp2_with fail
      refine (K_impl_StripCurves hI HC.out).mono ?_
      rintro e w3 ⟨rfl, hb3⟩
      replace bp := bp.below hb3
      replace hI := hI.below hb3
      replace bl := bnext bl hb3
      clear p0 p1 p2 pn hb3
      have p0 := bp.cell 0
      have p1 := bp.cell 1
      have p2 := bp.cell 2
      have pn := bp.lt
      simp only [List.getElem?_toArray, List.getElem?_cons_zero, List.getElem?_cons_succ] at p0 p1 p2
      go_wp2_with fail
      refine (sCountCurves_any hI HOK.out).mono ?_
      rintro e w4 ⟨rfl, hb4⟩
      replace bl := bnext bl hb4
      clear p0 p1 p2 pn hb4 hI
      go_wp2
      go_ret
      exact ⟨rfl, bl⟩
end Go.Proofs.Ytcjjkiajgkicnaa
