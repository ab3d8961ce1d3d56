/-
  The lengths of all curves and how often a curve touches the border, by the reference.
-/
import Derived.Test.YtcjjkiajgkicnaaAllS
import Derived.Test.YtcjjkiajgkicnaaCnt
import Derived.Test.YtcjjkiajgkicnaaEdge
import Derived.Test.YtcjjkiajgkicnaaAppAt
import Derived.Test.YtcjjkiajgkicnaaVal
import Derived.Test.YtcjjkiajgkicnaaPlPln
namespace Go.Proofs.Ytcjjkiajgkicnaa
open Go.RowKit Knot

theorem NestP.cell {w : World} {B g n c : Nat} {css : List (List Wk)} (h : NestP w B (.slice (some ⟨g, 0, none⟩) n c) css) {i : Nat} (hi : i < css.length) :
    ∃ v, w.cell? ⟨g, i, none⟩ = some v ∧ PRow w B v css[i].length (flatP css[i]) := by
  obtain ⟨vs, h1, h2, h3⟩ := h
  have hv : i < vs.length := by omega
  refine ⟨vs[i], Row.cell h1 hv, ?_⟩
  have := h3 i hi
  simpa [List.getD, hv, hi] using this
theorem NestP.open_ {w : World} {B n c : Nat} {D : Option Addr} {css : List (List Wk)} (h : NestP w B (.slice D n c) css) (hn : 0 < css.length) : ∃ g, D = some ⟨g, 0, none⟩ ∧ g < w.heap.size := by
  obtain ⟨vs, h1, h2, h3⟩ := h
  obtain ⟨A, c', h4, _, h5⟩ := h1.open_
  injection h4 with h4
  subst h4
  obtain ⟨g, e, _, hg⟩ := h5 (by omega)
  exact ⟨g, e, hg⟩
set_option maxHeartbeats 4000000 in
theorem CurveLengths_any {w : World} {lo hi : Nat} {W H : Int} {v : Value} {B : List Int} {css : List (List Wk)} (hI : IntsIn w lo hi v B) (hp : Ok ⟨W, H, B⟩) (hcs : (traceP ⟨W, H, B⟩ (segN ⟨W, H, B⟩)).1 = css) :
    Calls Try.prog 45 #[.agg #[.int .i64 W, .int .i64 H, v]] w fun e w' => ∃ A c, e = .returned (.tuple #[.slice A css.length c, .int .i64 0]) ∧ Ints w' w.heap.size (.slice A css.length c) (css.map fun x => (x.length : Int)) ∧ Below w.heap.size w w' := by
  obtain ⟨A, c, rfl, _, _⟩ := hI.1.open_
  have bl := Joins.below_alloc1 w (.cells #[.int .i64 W, .int .i64 H, .slice A B.length c] 45)
  have ba := Box.new w 45 #[.int .i64 W, .int .i64 H, .slice A B.length c]
  have hv := hI.below bl
  have HP := Lib.hid hp
  have HCS := Lib.hid hcs
  have hcb := (cntP_bd hp).2
  unfold cntP at hcb
  rw [hcs] at hcb
  clear hI hp hcs
  go_enter Try.func45, Try.ntmps45
  go_wp2_with fail
  refine (l02Ok_any _ W H _ B true (yes_iff HP.out) _ ⟨ba, hv.ints⟩).mono ?_
  rintro e w2 ⟨rfl, hd⟩
  have hb := bdrawn hd
  replace ba := ba.below hb
  replace hv := hv.below hb
  replace bl := bnext bl hb
  clear hb hd
  have bl2 := bnext bl (Joins.below_alloc1 w2 (.cells #[] 2))
  have h0 : Ints (w2.alloc (.cells #[] 2)) w2.heap.size (.slice (some ⟨w2.heap.size, 0, none⟩) 0 0) [] := Row.none_ w2
  replace ba := ba.alloc (.cells #[] 2)
  replace hv := hv.alloc (.cells #[] 2)
  have sz2 := bl.size
  have sz3 := ba.lt
  go_wp2_with fail
  generalize hV : w2.alloc (.cells #[] 2) = V at *
  clear hV
  refine (l04All_any ba hv.1 HP.out).mono ?_
  rintro e w3 ⟨D, d, g, rfl, hN, _, hb3⟩
  rw [HCS.out] at hN ⊢
  have hL := Row.le (Row.below h0 hb3) sz2
  have bl3 := bnext bl2 hb3
  have hs3 := hb3.size
  clear h0 ba hv bl bl2 hb3
  go_wp2
  obtain ⟨ls, hls⟩ : ∃ ls, (css.map fun x => (x.length : Int)) = ls := ⟨_, rfl⟩
  have hll : ls.length = css.length := by rw [← hls, List.length_map]
  have HLS := Lib.hid hls
  have HLL := Lib.hid hll
  have hN0 := hN.le (show w.heap.size ≤ V.heap.size by omega)
  have hlw0 : w.heap.size ≤ w3.heap.size := bl3.size
  clear hls hll hN
  go_loopw [4, 7] (fun s t wr => ∃ (k : Nat) (E : Option Addr) (c : Nat), k ≤ css.length ∧ s = .slice E k c ∧ t = .int .i64 k ∧ Ints wr w.heap.size (.slice E k c) (ls.take k) ∧ NestP wr w.heap.size (.slice D css.length d) css ∧ Below w.heap.size w wr) (fun _ t _ => css.length - (intOf t).toNat)
  case atStart => exact ⟨0, _, _, Nat.zero_le _, rfl, rfl, hL, hN0, bl3⟩
  case round =>
    obtain ⟨k, E, c, hk, rfl, rfl, hO, hN, hb⟩ := hrel
    clear hN0 hL bl3
    have hlw := hb.size
    by_cases hlt : k < css.length
    · have i1 : (k : Int) < css.length := by omega
      obtain ⟨gd, rfl, hgd⟩ := hN.open_ (by omega)
      obtain ⟨u, cu, hu⟩ := hN.cell hlt
      obtain ⟨U, cU, rfl, hUm, _⟩ := hu.open_
      have hkl : (ls.take k).length = k := by rw [List.length_take, HLL.out]; omega
      have hlI : (ls.take k).length < 1000000000 := by omega
      have hyt : ls.take k ++ [((css[k].length : Nat) : Int)] = ls.take (k + 1) := by
        have : k < ls.length := by rw [HLL.out]; exact hlt
        rw [List.take_succ_eq_append_getElem this]
        congr 2
        have e := HLS.out
        subst e
        simp
      have HYT := Lib.hid hyt
      have HKL := Lib.hid hkl
      have HHU := Lib.hid hu
      generalize css[k].length = y at *
      clear hyt hu
      go_wp2_with (at_builtin; refine append_one_at rfl _ _ rfl w.heap.size _ (.slice E k c) (ls.take k) (y : Int) hO rfl rfl rfl hlI hlw ?_)
      intro g5 c5 w5 hO5 hg5 _
      rw [HYT.out] at hO5
      have HO5 := Lib.hid hO5
      have HN5 : Hid (NestP w5 w.heap.size (.slice (some ⟨gd, 0, none⟩) css.length d) css) := Lib.hid (hN.keep fun g cur t hg ht => hg5.block g (Array.getElem?_eq_some_iff.1 hg).1 (fun e => by
        obtain ⟨A9, c9, e9, _, h9⟩ := Row.open_ hO
        injection e9 with e91 e92 e93
        subst e91
        cases E with
        | none => simp [Value.ownBlock] at e
        | some a9 =>
          have : 0 < (ls.take k).length ∨ (ls.take k).length = 0 := by omega
          rcases hO.form with ⟨hz, _⟩ | ⟨g9, c9', hz, _⟩
          · cases hz
          · injection hz with hz1
            injection hz1 with hz1
            subst hz1
            obtain ⟨cur9, h99⟩ := row_type (show Row (Value.int .i64) 2 wr w.heap.size (.slice (some ⟨g9, 0, none⟩) k c) (ls.take k) from hO)
            rw [ownBlock_slice] at e
            injection e with e
            subst e
            rw [hg] at h99
            injection h99 with h99
            injection h99 with h1 h2 h3
            subst h2
            rcases ht with ht | ht <;> exact absurd ht (by decide)))
      have HB5 : Hid (Below w.heap.size w w5) := Lib.hid (hb.grown hg5 hlw (fun j hj => (Row.lt hO hj).1))
      try rw [HKL.out]
      clear hO hN hb hg5 hO5 hlI hkl
      go_wp2
      go_roundw
      case rel => exact ⟨k + 1, _, c5, by omega, rfl, by go_num, HO5.out, HN5.out, HB5.out⟩
      case measure => simp [intOf]; omega
    · have e : css.length = k := by omega
      subst e
      have hO2 : Ints wr w.heap.size (.slice E css.length c) ls := by
        have := hO
        rw [List.take_of_length_le (by rw [HLL.out]; exact Nat.le_refl _)] at this
        exact this
      clear hO hN
      go_wp2
      go_ret2
      exact ⟨E, c, rfl, by rw [HLS.out]; exact hO2, hb⟩
set_option maxHeartbeats 4000000 in
theorem TouchesOf_any {w : World} {lo hi : Nat} {W H : Int} {v : Value} {B : List Int} {css : List (List Wk)} (hI : IntsIn w lo hi v B) (hp : Ok ⟨W, H, B⟩) (hcs : (traceP ⟨W, H, B⟩ (segN ⟨W, H, B⟩)).1 = css) {i : Nat} (hi : i < css.length) {r : Int}
    (hr : hitP ⟨W, H, B⟩ (flatP css[i]) css[i].length = r) :
    Calls Try.prog 46 #[.agg #[.int .i64 W, .int .i64 H, v], .int .i64 i] w fun e w' => e = .returned (.tuple #[.int .i64 r, .int .i64 0]) ∧ Below w.heap.size w w' := by
  obtain ⟨A, c, rfl, _, _⟩ := hI.1.open_
  have bl := Joins.below_alloc1 w (.cells #[.int .i64 W, .int .i64 H, .slice A B.length c] 45)
  have ba := Box.new w 45 #[.int .i64 W, .int .i64 H, .slice A B.length c]
  have hv := hI.below bl
  have HP := Lib.hid hp
  have HCS := Lib.hid hcs
  have hcb := (cntP_bd hp).2
  unfold cntP at hcb
  rw [hcs] at hcb
  have hWb : 1 ≤ W ∧ W ≤ 8 := ⟨hp.w1, hp.w8⟩
  have hHb : 1 ≤ H ∧ H ≤ 8 := ⟨hp.h1, hp.h8⟩
  have HWB := Lib.hid (And.intro hWb hHb)
  clear hI hp hcs hWb hHb
  go_enter Try.func46, Try.ntmps46
  go_wp2_with fail
  refine (l02Ok_any _ W H _ B true (yes_iff HP.out) _ ⟨ba, hv.ints⟩).mono ?_
  rintro e w2 ⟨rfl, hd⟩
  have hb := bdrawn hd
  replace ba := ba.below hb
  replace hv := hv.below hb
  replace bl := bnext bl hb
  clear hb hd
  go_wp2_with fail
  refine (l04All_any ba hv.1 HP.out).mono ?_
  rintro e w3 ⟨D, d, g, rfl, hN, _, hb3⟩
  rw [HCS.out] at hN ⊢
  replace ba := ba.below hb3
  replace bl := bnext bl hb3
  clear hv hb3
  have hiI : (i : Int) < css.length := by omega
  obtain ⟨gd, rfl, hgd⟩ := hN.open_ (by omega)
  obtain ⟨u, cu, hu⟩ := hN.cell hi
  obtain ⟨U, cU, rfl, hUm, hU⟩ := hu.open_
  obtain ⟨xs, hxs⟩ : ∃ xs, flatP css[i] = xs := ⟨_, rfl⟩
  obtain ⟨m, hm⟩ : ∃ m, css[i].length = m := ⟨_, rfl⟩
  rw [hm, hxs] at hr hu
  rw [hm] at hU cu hUm
  have HR := Lib.hid hr
  have HHU := Lib.hid hu
  have hmx : m ≤ 9223372036854775807 := by unfold maxLen at hUm; omega
  clear hN hxs hm hr hu hUm
  go_wp2_with fail
  refine (l00In_any _ _ _ true (inR_t ⟨by omega, by omega⟩) _).mono ?_
  rintro e w' ⟨rfl, rfl⟩
  have HBA := Lib.hid ba
  clear ba
  go_wp2
  go_loopw [8, 9] (fun s t wr => ∃ j : Nat, j ≤ m ∧ s = .int .i64 (hitP ⟨W, H, B⟩ xs j) ∧ t = .int .i64 j ∧ Below w3.heap.size w3 wr) (fun _ t _ => m - (intOf t).toNat)
  case atStart => exact ⟨0, Nat.zero_le _, rfl, rfl, Below.refl _ _⟩
  case round =>
    obtain ⟨j, hj, rfl, rfl, hb⟩ := hrel
    have cu2 := (hb.cell (p := ⟨gd, i, none⟩) hgd).trans cu
    by_cases hlt : j < m
    · have j1 : (j : Int) < m := by omega
      obtain ⟨gu, rfl, _, hgu⟩ := hU (by omega)
      have d0 := (hb.cell (p := ⟨gu, j * 2, none⟩) hgu).trans (PRow.cell HHU.out (j := j * 2) (by omega))
      have d1 := (hb.cell (p := ⟨gu, j * 2 + 1, none⟩) hgu).trans (PRow.cell HHU.out (j := j * 2 + 1) (by omega))
      have hbd := hitP_bd ⟨W, H, B⟩ xs j
      have hst : hitP ⟨W, H, B⟩ xs (j + 1) = hitP ⟨W, H, B⟩ xs j + if Knot.Edge ⟨W, H, B⟩ (gI xs ((j * 2 : Nat) : Int)) (gI xs ((j * 2 + 1 : Nat) : Int)) then 1 else 0 := by
        rw [Nat.mul_comm j 2]
        rfl
      generalize gI xs ((j * 2 : Nat) : Int) = X at *
      generalize gI xs ((j * 2 + 1 : Nat) : Int) = Y at *
      have HST := Lib.hid hst
      have hba := HBA.out.below hb
      have HB := Lib.hid hb
      obtain ⟨q, hq⟩ : ∃ q, hitP ⟨W, H, B⟩ xs j = q := ⟨_, rfl⟩
      rw [hq] at hbd ⊢
      have HQ := Lib.hid hq
      obtain ⟨hbd0, hbd1⟩ := hbd
      clear hst hb hq
      by_cases he : Knot.Edge ⟨W, H, B⟩ X Y
      · have HE : Hid (Knot.Edge ⟨W, H, B⟩ X Y) := Lib.hid he
        have HSE : Hid (hitP ⟨W, H, B⟩ xs (j + 1) = q + 1) := Lib.hid (by rw [HST.out, if_pos he, HQ.out])
        clear he
        go_wp2_with fail
        refine (l02Edge_any (B := B) hba HWB.out.1 HWB.out.2 (yes_iff HE.out)).mono ?_
        rintro e w4 ⟨rfl, hb4⟩
        have HB4 := Lib.hid (bnext HB.out hb4)
        clear hb4 hba
        go_wp2
        go_roundw
        case rel => exact ⟨j + 1, by omega, by rw [HSE.out], by go_num, HB4.out⟩
        case measure => simp [intOf]; omega
      · have HE : Hid (¬ Knot.Edge ⟨W, H, B⟩ X Y) := Lib.hid he
        have HSE : Hid (hitP ⟨W, H, B⟩ xs (j + 1) = q) := Lib.hid (by rw [HST.out, if_neg he, HQ.out, Int.add_zero])
        clear he
        go_wp2_with fail
        refine (l02Edge_any (B := B) hba HWB.out.1 HWB.out.2 (no_iff HE.out)).mono ?_
        rintro e w4 ⟨rfl, hb4⟩
        have HB4 := Lib.hid (bnext HB.out hb4)
        clear hb4 hba
        go_wp2
        go_roundw
        case rel => exact ⟨j + 1, by omega, by rw [HSE.out], by go_num, HB4.out⟩
        case measure => simp [intOf]; omega
    · have e : m = j := by omega
      subst e
      have HBB := Lib.hid (bnext bl hb)
      rw [HR.out]
      clear hb bl
      go_wp2
      go_ret2
      exact ⟨rfl, HBB.out⟩
end Go.Proofs.Ytcjjkiajgkicnaa
