/-
  Pairings as the reference draws them.
-/
import Derived.Test.YtnldahadldolpaaPick
import Derived.Test.YtnldahadldolpaaPlDraw
import Derived.Test.YtnldahadldolpaaLoops
import Derived.Test.YtnldahadldolpaaAppAt
import Derived.BigRegion
namespace Go.Proofs.Ytnldahadldolpaa
open Go.RowKit Knot

/-- What stands where the source's box has been changed and new blocks have been made. -/
theorem Row.chgb {α : Type} {enc : α → Value} {E : TypeId} {w w' : World} {B b : Nat} {v : Value} {xs : List α} (h : Row enc E w B v xs) (hc : Chg b (b + 1) w w') (hb : b < B) : Row enc E w' B v xs :=
  Row.keep h fun g hg hl => hc.block g hl (.inr (by have := (Row.lt h hg).1; omega))
theorem Chg.grow {w a c : World} {b : Nat} {r : Option Nat} (h : Chg b (b + 1) w a) (hg : a.grownBy c r) (hr : ∀ j, r = some j → w.heap.size ≤ j) : Chg b (b + 1) w c :=
  ⟨hg.os.trans h.os, hg.tape.trans h.tape, hg.output.trans h.output, Nat.le_trans h.size hg.size, fun k hk hd => (hg.block k (Nat.lt_of_lt_of_le hk h.size) (fun e => by have := hr k e.symm; omega)).trans (h.block k hk hd)⟩
theorem Chg.new {w a : World} {b : Nat} (h : Chg b (b + 1) w a) (o : Obj) : Chg b (b + 1) w (a.alloc o) := h.trans (Chg.ofBelow (Joins.below_alloc1 a o))
theorem Chg.put {w a : World} {b : Nat} (h : Chg b (b + 1) w a) {p : Addr} (hp : w.heap.size ≤ p.block) (u : Value) : Chg b (b + 1) w (a.setCell p u) :=
  ⟨h.os, h.tape, h.output, by simpa [World.setCell] using h.size, fun k hk hd => (Below.heap_setCell a p u k (by omega)).trans (h.block k hk hd)⟩
theorem Src.grown {w w' : World} {b m : Nat} {r : Option Nat} (h : Src w b m) (hg : w.grownBy w' r) (hr : ∀ j, r = some j → b < j) : Src w' b m :=
  h.keep fun k hk hl => hg.block k hl (fun e => by have := hr k e.symm; omega)
theorem Src.put {w : World} {b m : Nat} (h : Src w b m) {p : Addr} (hp : b < p.block) (u : Value) : Src (w.setCell p u) b m :=
  h.keep fun k hk _ => Below.heap_setCell w p u k (by omega)
theorem Src.drewN {w : World} {b m : Nat} (h : Src w b m) (n : Nat) : Src (w.drewN n) b m := h.keep fun _ _ _ => rfl
set_option maxHeartbeats 8000000 in
theorem l09Draw_any {w : World} {b m p : Nat} (hs : Src w b m) (hm : m ≤ 100000000) (p1 : 1 ≤ p) (p8 : p ≤ 8) :
    Calls Try.prog 62 #[.pointer (some ⟨b, 0, none⟩), .int .i64 p] w fun e w' => ∃ (D : Option Addr) (d : Nat) (xs : List Int), e = .returned (.slice D xs.length d) ∧ xs.length = 2 * p ∧ Pairing (2 * p) xs ∧ Ints w' w.heap.size (.slice D xs.length d) xs ∧ Src w' b (m + 2 * p) ∧ Chg b (b + 1) w w' := by
  have hbl := hs.lt
  have hL : Ints (w.alloc (.cells #[] 2)) w.heap.size (.slice (some ⟨w.heap.size, 0, none⟩) 0 0) [] := Row.none_ w
  have hS0 := hs.below (Joins.below_alloc1 w (.cells #[] 2))
  have hc0 : Chg b (b + 1) w (w.alloc (.cells #[] 2)) := Chg.ofBelow (Joins.below_alloc1 w _)
  clear hs
  go_enter Try.func62, Try.ntmps62
  go_wp2
  go_loopw [5, 6] (fun s t wr => ∃ (k : Nat) (D : Option Addr) (d : Nat) (ls : List Int), k ≤ 2 * p ∧ s = .slice D k d ∧ t = .int .i64 k ∧ Shuf k ls ∧ Ints wr w.heap.size (.slice D k d) ls ∧ Src wr b (m + k) ∧ Chg b (b + 1) w wr) (fun _ t _ => 2 * p - (intOf t).toNat)
  case atStart => exact ⟨0, _, 0, [], by omega, rfl, rfl, ⟨rfl, fun i h0 h1 => by omega, fun i j h0 h1 => by omega⟩, hL, hS0, hc0⟩
  case round =>
    obtain ⟨k, D, d, ls, hk, rfl, rfl, hsh, hI, hS, hc⟩ := hrel
    clear hL hS0 hc0
    have hsz := hc.size
    have hlen := hsh.len
    by_cases hlt : k < 2 * p
    · have i1 : (k : Int) < 2 * (p : Int) := by omega
      go_wp2_with fail
      refine (src_pick hS (by omega) (by omega)).mono ?_
      rintro e w2 ⟨a, rfl, a0, a1, _, hS2, hc2⟩
      have a2 : a ≤ (k : Int) := by have := a1 (by omega); omega
      have HSH := Lib.hid (hsh.next a0 a2)
      have hI2 := Row.chgb hI hc2 hbl
      have hc2' := hc.trans hc2
      have hsz2 := hc2.size
      have hlI : ls.length < 1000000000 := by omega
      have hlw : w.heap.size ≤ w2.heap.size := by omega
      clear hI hS hc hc2 a1 hsh
      go_wp2_with (at_builtin; refine append_one_at rfl _ _ rfl w.heap.size _ (.slice D k d) ls k hI2 rfl rfl rfl hlI hlw ?_)
      intro g d3 w3 hI3 hg3 _
      have hc3 := hc2'.grow hg3 (fun j hj => (Row.lt hI2 hj).1)
      have hS3 := hS2.grown hg3 (fun j hj => by have := (Row.lt hI2 hj).1; omega)
      have hgl := (Row.lt hI3 (g := g) rfl).1
      have hl3 : (ls ++ [(k : Int)]).length = k + 1 := by simp [hlen]
      have hI3' : Ints w3 w.heap.size (.slice (some ⟨g, 0, none⟩) (k + 1) d3) (ls ++ [(k : Int)]) := by
        have := hI3
        simpa [hlen] using this
      have c1 := Ints.cellI hI3' (i := a) a0 (by rw [hl3]; omega)
      have c2 := Ints.cell hI3' (k := k) (by rw [hl3]; omega)
      have f1 := Row.free hI3' k
      have f2 := Row.free hI3' a.toNat
      have hI4 := Row.set_ hI3' k (gI (ls ++ [(k : Int)]) a)
      have hI5 := Row.set_ hI4 a.toNat (k : Int)
      have HI5 : Hid (Ints ((w3.setCell ⟨g, k, none⟩ (.int .i64 (gI (ls ++ [(k : Int)]) a))).setCell ⟨g, a.toNat, none⟩ (.int .i64 k)) w.heap.size (.slice (some ⟨g, 0, none⟩) (k + 1) d3) (((ls ++ [(k : Int)]).set k (gI (ls ++ [(k : Int)]) a)).set a.toNat k)) := Lib.hid hI5
      have c3 := Ints.cellI (w := w3.setCell ⟨g, k, none⟩ (.int .i64 (gI (ls ++ [(k : Int)]) a))) hI4 (i := a) a0 (by rw [List.length_set, hl3]; omega)
      have HS5 := Lib.hid ((hS3.put (p := ⟨g, k, none⟩) (by show b < g; omega) (.int .i64 (gI (ls ++ [(k : Int)]) a))).put (p := ⟨g, a.toNat, none⟩) (by show b < g; omega) (.int .i64 k))
      have HC5 := Lib.hid ((hc3.put (p := ⟨g, k, none⟩) hgl (.int .i64 (gI (ls ++ [(k : Int)]) a))).put (p := ⟨g, a.toNat, none⟩) hgl (.int .i64 k))
      generalize gI (ls ++ [(k : Int)]) a = y at *
      clear hI2 hS2 hc2' hI3 hg3 hc3 hS3 hI3' hI4 hI5 hl3
      try rw [hlen]
      go_wp2
      go_roundw
      case rel => exact ⟨k + 1, _, d3, _, by omega, rfl, by go_num, HSH.out, HI5.out, HS5.out.more (by omega), HC5.out⟩
      case measure => simp [intOf]; omega
    · have e : 2 * p = k := by omega
      subst e
      obtain ⟨i0, hi, hz0, hz1, hz2⟩ := info_parts info_int
      obtain ⟨A, cA, hAe, _, hA⟩ := Row.open_ hI
      rw [hlen] at hAe hA
      injection hAe with hAe _ hAc
      subst hAe hAc
      obtain ⟨gl, rfl, gl0, gl1⟩ := hA (by omega)
      clear hA
      go_wp2_with (at_make; refine wpList_make_full _ rfl _ _ 22 rfl (gl + 1) 2 i0 (.int .i64 0) 1 Try.underlying22 hi hz0 hz1 _ _ _ _ (2 * p) rfl rfl (by omega) (by omega) (by rw [hz2]; omega) (by unfold maxLen; omega) (by omega) ?_)
      intro w2 hown hgrow
      obtain ⟨og, hog⟩ : ∃ og, wr.heap.size = og := ⟨_, rfl⟩
      have hO : Ints w2 (gl + 1) (.slice (some ⟨og, 0, none⟩) (2 * p) (2 * p)) (List.replicate (2 * p) 0) := by
        unfold Ints Row
        rw [List.length_replicate, List.map_replicate, ← hog]
        simpa [Value.cells, toList_madeCells_one] using hown
      have hI2 : Ints w2 w.heap.size (.slice (some ⟨gl, 0, none⟩) (2 * p) d) ls := Row.grown hI hgrow (by simp)
      have hS2 := hS.grown hgrow (by simp)
      have hc2 := hc.grow hgrow (by simp)
      rw [hog]
      have hog2 : gl < og := by omega
      have hC0 : Coup (2 * p) 0 ls (List.replicate (2 * p) 0) := ⟨by simp, fun i h0 h1 => by omega, fun i h0 h1 => by omega⟩
      clear hown hgrow hI hS hc hi hz0 hz1 hz2
      go_wp2
      go_loopw [9] (fun t wr => ∃ (k : Nat) (out : List Int), k ≤ p ∧ t = .int .i64 k ∧ Coup (2 * p) k ls out ∧ Ints wr (gl + 1) (.slice (some ⟨og, 0, none⟩) (2 * p) (2 * p)) out ∧ Ints wr w.heap.size (.slice (some ⟨gl, 0, none⟩) (2 * p) d) ls ∧ Src wr b (m + 2 * p) ∧ Chg b (b + 1) w wr) (fun t _ => p - (intOf t).toNat)
      case atStart => exact ⟨0, _, by omega, rfl, hC0, hO, hI2, hS2, hc2⟩
      case round =>
        obtain ⟨k, out, hk, rfl, hC, hO, hI, hS, hc⟩ := hrel
        clear hC0 hI2 hS2 hc2
        by_cases hlt : k < p
        · have i1 : (k : Int) < (p : Int) := by omega
          have r0 := hsh.rng (2 * (k : Int)) (by omega) (by omega)
          have r1 := hsh.rng (2 * (k : Int) + 1) (by omega) (by omega)
          have HC := Lib.hid (hC.next hsh hlt)
          have hol := hC.len
          have c1 := Ints.cellI hI (i := 2 * (k : Int)) (by omega) (by omega)
          have c2 := Ints.cellI hI (i := 2 * (k : Int) + 1) (by omega) (by omega)
          rw [show (2 * (k : Int)).toNat = 2 * k by omega] at c1
          rw [show (2 * (k : Int) + 1).toNat = 2 * k + 1 by omega] at c2
          generalize gI ls (2 * (k : Int)) = u at *
          generalize gI ls (2 * (k : Int) + 1) = z at *
          have c3 := Ints.cellI hO (i := u) r0.1 (by omega)
          have f3 := Row.free hO u.toNat
          have hO2 := Row.set_ hO u.toNat z
          have c4 := Ints.cellI (w := wr.setCell ⟨og, u.toNat, none⟩ (.int .i64 z)) hO2 (i := z) r1.1 (by rw [List.length_set]; omega)
          have f4 := Row.free hO2 z.toNat
          have HO3 : Hid (Ints ((wr.setCell ⟨og, u.toNat, none⟩ (.int .i64 z)).setCell ⟨og, z.toNat, none⟩ (.int .i64 u)) (gl + 1) (.slice (some ⟨og, 0, none⟩) (2 * p) (2 * p)) ((out.set u.toNat z).set z.toNat u)) := Lib.hid (Row.set_ hO2 z.toNat u)
          have HI3 : Hid (Ints ((wr.setCell ⟨og, u.toNat, none⟩ (.int .i64 z)).setCell ⟨og, z.toNat, none⟩ (.int .i64 u)) w.heap.size (.slice (some ⟨gl, 0, none⟩) (2 * p) d) ls) := Lib.hid (Row.setCell (Row.setCell hI (fun g hg => by simp [Value.ownBlock] at hg; simp; omega) _) (fun g hg => by simp [Value.ownBlock] at hg; simp; omega) _)
          have HS3 := Lib.hid ((hS.put (p := ⟨og, u.toNat, none⟩) (by show b < og; omega) (.int .i64 z)).put (p := ⟨og, z.toNat, none⟩) (by show b < og; omega) (.int .i64 u))
          have HCC := Lib.hid ((hc.put (p := ⟨og, u.toNat, none⟩) (by show w.heap.size ≤ og; omega) (.int .i64 z)).put (p := ⟨og, z.toNat, none⟩) (by show w.heap.size ≤ og; omega) (.int .i64 u))
          have k1 : (og = gl) = False := by simp; omega
          have k2 : (gl = og) = False := by simp; omega
          have b1 : 2 * (k : Int) < ((2 * p : Nat) : Int) := by omega
          have b2 : 2 * (k : Int) + 1 < ((2 * p : Nat) : Int) := by omega
          obtain ⟨r00, r01⟩ := r0
          obtain ⟨r10, r11⟩ := r1
          clear hC hO hI hS hc hO2
          go_wp2
          go_region
          go_wp2
          go_region
          go_wp2
          go_roundw
          case rel => exact ⟨k + 1, _, by omega, by go_num, HC.out, HO3.out, HI3.out, HS3.out, ⟨HCC.out.os, HCC.out.tape, HCC.out.output, HCC.out.size, HCC.out.block⟩⟩
          case measure => simp [intOf]; omega
        · have e : p = k := by omega
          subst e
          have HPR := Lib.hid (hC.pairing hsh)
          have hol := hC.len
          have HO3 : Hid (Ints wr w.heap.size (.slice (some ⟨og, 0, none⟩) out.length (2 * p)) out) := Lib.hid (by rw [hol]; exact Row.le hO (by omega))
          clear hC hO hI
          go_wp2
          go_ret
          exact ⟨some ⟨og, 0, none⟩, 2 * p, out, by rw [hol]; rfl, hol, HPR.out, HO3.out, hS, hc⟩
end Go.Proofs.Ytnldahadldolpaa
