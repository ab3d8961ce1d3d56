/-
  Words and laws of memory of this seat, in one text.
-/
import Derived.Test.YtihfdgnocdphcaaKPts
import Derived.Test.YtihfdgnocdphcaaVal
import Derived.Test.YtihfdgnocdphcaaSym
import Derived.Test.YtihfdgnocdphcaaPlAllD
import Derived.Test.YtihfdgnocdphcaaCnt
import Derived.Test.YtihfdgnocdphcaaSamP
import Derived.Test.YtihfdgnocdphcaaSymD
import Derived.Test.YtihfdgnocdphcaaSymG
namespace Go.Proofs.Ytihfdgnocdphcaa
open Go.RowKit Knot

set_option maxHeartbeats 1000000 in
theorem f6big_any (a : Option Addr) (l c : Nat) (w : World) :
    Calls Try.prog 41 #[.slice a l c] w fun e w' => e = .returned (.bool (decide ((4096 : Int) < l))) ∧ w = w' := by
  go_enter Try.func41, Try.ntmps41
  go_wp2
  go_ret
  exact ⟨rfl, rfl⟩
set_option maxHeartbeats 4000000 in
theorem f6ints_yes {w : World} {B C c d : Nat} {A D : Option Addr} {xs : List Int} (h : Ints w B (.slice A xs.length c) xs) (k : Ints w C (.slice D xs.length d) xs) :
    Calls Try.prog 66 #[.slice A xs.length c, .slice D xs.length d] w fun e w' => e = .returned (.bool true) ∧ Below w.heap.size w w' := by
  obtain ⟨A', c', hA, lA, hA2⟩ := h.open_
  injection hA with hA3 hA4 hA5
  subst hA3 hA5
  obtain ⟨D', d', hD, _, hD2⟩ := k.open_
  injection hD with hD3 hD4 hD5
  subst hD3 hD5
  have HH := Lib.hid h
  have KK := Lib.hid k
  have HA := Lib.hid hA2
  have HD := Lib.hid hD2
  have hnn : ((xs.length : Int) != xs.length) = false := by simp
  unfold maxLen at lA
  clear h k hA2 hD2 hA4 hD4
  go_enter Try.func66, Try.ntmps66
  go_wp2
  go_loopw [5] (fun i wr => ∃ k : Nat, k ≤ xs.length ∧ i = .int .i64 k ∧ Below w.heap.size w wr) (fun i _ => xs.length - (intOf i).toNat)
  case atStart => exact ⟨0, Nat.zero_le _, rfl, Below.refl _ _⟩
  case round =>
    obtain ⟨k, hk, rfl, hb⟩ := hrel
    by_cases hlt : k < xs.length
    · have i1 : (k : Int) < xs.length := by omega
      obtain ⟨g, rfl, _, _⟩ := HA.out (by omega)
      obtain ⟨g', rfl, _, _⟩ := HD.out (by omega)
      have c0 := Ints.cell (show Ints wr B (.slice (some ⟨g, 0, none⟩) xs.length c) xs from Row.below HH.out hb) (k := k) hlt
      have d0 := Ints.cell (show Ints wr C (.slice (some ⟨g', 0, none⟩) xs.length d) xs from Row.below KK.out hb) (k := k) hlt
      generalize gI xs (k : Nat) = x at c0 d0
      have HB := Lib.hid hb
      clear hb
      go_wp2_with fail
      go_quiet (fail)
      obtain ⟨nq1, hnq1⟩ : ∃ m, m = nq := ⟨_, rfl⟩
      rw [← hnq1]
      have HB2 : Hid (Below w.heap.size w (wr.drewN nq1)) := Lib.hid (bnext HB.out (below_drewN _ _ _))
      clear hnq1 c0 d0
      go_wp2
      go_roundw
      case rel => exact ⟨k + 1, by omega, by go_num, HB2.out⟩
      case measure => simp [intOf]; omega
    · have e : k = xs.length := by omega
      subst e
      go_wp2
      go_ret
      exact ⟨rfl, hb⟩
set_option maxHeartbeats 4000000 in
theorem f6points_yes {w : World} {B C c d : Nat} {A D : Option Addr} {l : List (Int × Int)} (h : PRow w B (.slice A l.length c) l.length (ptF l)) (k : PRow w C (.slice D l.length d) l.length (ptF l)) :
    Calls Try.prog 67 #[.slice A l.length c, .slice D l.length d] w fun e w' => e = .returned (.bool true) ∧ Below w.heap.size w w' := by
  obtain ⟨A', c', hA, lA, hA2⟩ := h.open_
  injection hA with hA3 hA4 hA5
  subst hA3 hA5
  obtain ⟨D', d', hD, _, hD2⟩ := k.open_
  injection hD with hD3 hD4 hD5
  subst hD3 hD5
  have HH := Lib.hid h
  have KK := Lib.hid k
  have HA := Lib.hid hA2
  have HD := Lib.hid hD2
  have hnn : ((l.length : Int) != l.length) = false := by simp
  unfold maxLen at lA
  clear h k hA2 hD2 hA4 hD4
  go_enter Try.func67, Try.ntmps67
  go_wp2
  go_loopw [5] (fun i wr => ∃ k : Nat, k ≤ l.length ∧ i = .int .i64 k ∧ Below w.heap.size w wr) (fun i _ => l.length - (intOf i).toNat)
  case atStart => exact ⟨0, Nat.zero_le _, rfl, Below.refl _ _⟩
  case round =>
    obtain ⟨k, hk, rfl, hb⟩ := hrel
    by_cases hlt : k < l.length
    · have i1 : (k : Int) < l.length := by omega
      obtain ⟨g, rfl, _, _⟩ := HA.out (by omega)
      obtain ⟨g', rfl, _, _⟩ := HD.out (by omega)
      obtain ⟨c0, c1⟩ := (HH.out.below hb).at_ (i := k) hlt
      obtain ⟨d0, d1⟩ := (KK.out.below hb).at_ (i := k) hlt
      generalize l[k] = x at c0 c1 d0 d1
      obtain ⟨X, Y⟩ := x
      simp only [] at c0 c1 d0 d1
      have hq := ptNeF X Y
      have HB := Lib.hid hb
      clear hb
      go_wp2_with fail
      go_quiet (fail)
      obtain ⟨nq1, hnq1⟩ : ∃ m, m = nq := ⟨_, rfl⟩
      rw [← hnq1]
      have HB2 : Hid (Below w.heap.size w (wr.drewN nq1)) := Lib.hid (bnext HB.out (below_drewN _ _ _))
      clear hnq1 c0 d0 c1 d1 hq
      go_wp2
      go_roundw
      case rel => exact ⟨k + 1, by omega, by go_num, HB2.out⟩
      case measure => simp [intOf]; omega
    · have e : k = l.length := by omega
      subst e
      go_wp2
      go_ret
      exact ⟨rfl, hb⟩
theorem csM_ok {a b : Int} (a0 : 0 ≤ a) (a7 : a ≤ 7) (b0 : 0 ≤ b) (b7 : b ≤ 7) : csM a b = (compK a b, 0) := by
  rcases sym_cases a0 a7 with rfl | rfl | rfl | rfl | rfl | rfl | rfl | rfl <;> rcases sym_cases b0 b7 with rfl | rfl | rfl | rfl | rfl | rfl | rfl | rfl <;> decide +kernel
end Go.Proofs.Ytihfdgnocdphcaa

namespace Go.Proofs.Ytihfdgnocdphcaa
open Go.RowKit Knot

set_option maxHeartbeats 2000000 in
theorem sCountCurves_any {w : World} {lo hi : Nat} {W H : Int} {v : Value} {B : List Int} (hI : IntsIn w lo hi v B) (hp : Ok ⟨W, H, B⟩) :
    Calls Try.prog 56 #[.agg #[.int .i64 W, .int .i64 H, v]] w fun e w' => e = .returned (.tuple #[.int .i64 (cntP ⟨W, H, B⟩), .int .i64 0]) ∧ Below w.heap.size w w' := by
  obtain ⟨A, c, rfl, _, _⟩ := hI.1.open_
  have bl := Joins.below_alloc1 w (.cells #[.int .i64 W, .int .i64 H, .slice A B.length c] 30)
  have ba := Box.new w 30 #[.int .i64 W, .int .i64 H, .slice A B.length c]
  have hv := hI.below bl
  have HP := Lib.hid hp
  clear hI hp
  go_enter Try.func56, Try.ntmps56
  go_wp2_with fail
  refine (l02Ok_any _ W H _ B true (yes_iff HP.out) _ ⟨ba, hv.ints⟩).mono ?_
  rintro e w2 ⟨rfl, hd⟩
  have hb := bdrawn hd
  replace ba := ba.below hb
  replace hv := hv.below hb
  replace bl := bnext bl hb
  clear hb hd
  go_wp2_with fail
  refine (l04Count_any ba hv.1 HP.out).mono ?_
  rintro e w3 ⟨rfl, hb3⟩
  go_wp2
  go_ret2
  exact ⟨rfl, bnext bl hb3⟩
set_option maxHeartbeats 2000000 in
theorem sValidPanel_any {w : World} {lo hi : Nat} {W H : Int} {v : Value} {B : List Int} {r : Bool} (hI : IntsIn w lo hi v B) (hr : r = true ↔ Ok ⟨W, H, B⟩) :
    Calls Try.prog 58 #[.agg #[.int .i64 W, .int .i64 H, v]] w fun e w' => e = .returned (.bool r) ∧ Below w.heap.size w w' := by
  obtain ⟨A, c, rfl, _, _⟩ := hI.1.open_
  have bl := Joins.below_alloc1 w (.cells #[.int .i64 W, .int .i64 H, .slice A B.length c] 30)
  have ba := Box.new w 30 #[.int .i64 W, .int .i64 H, .slice A B.length c]
  have hv := hI.below bl
  have HR := Lib.hid hr
  clear hI hr
  go_enter Try.func58, Try.ntmps58
  go_wp2_with fail
  refine (l02Ok_any _ W H _ B r HR.out _ ⟨ba, hv.ints⟩).mono ?_
  rintro e w2 ⟨rfl, hd⟩
  have bl2 := bnext bl (bdrawn hd)
  clear hd bl ba hv
  go_wp2
  go_ret
  exact ⟨rfl, bl2⟩
end Go.Proofs.Ytihfdgnocdphcaa

namespace Go.Proofs.Ytihfdgnocdphcaa
open Go.RowKit Knot

/-- The bytes of a symmetry's name. -/
def nameK (k : Int) : ByteArray := if k = 0 then ⟨#[110, 111, 110, 101]⟩ else if k = 1 then ⟨#[97, 99, 114, 111, 115, 115]⟩ else if k = 2 then ⟨#[100, 111, 119, 110]⟩ else if k = 3 then ⟨#[104, 97, 108, 102]⟩ else if k = 4 then ⟨#[115, 119, 97, 112]⟩ else if k = 5 then ⟨#[114, 105, 103, 104, 116]⟩ else if k = 6 then ⟨#[108, 101, 102, 116]⟩ else if k = 7 then ⟨#[111, 116, 104, 101, 114]⟩ else ⟨#[]⟩
theorem name_cases {k : Int} (h : -1 ≤ k ∧ k ≤ 9) : k = -1 ∨ k = 0 ∨ k = 1 ∨ k = 2 ∨ k = 3 ∨ k = 4 ∨ k = 5 ∨ k = 6 ∨ k = 7 ∨ k = 8 ∨ k = 9 := by omega
set_option maxHeartbeats 4000000 in
theorem SymName_any {k : Int} (h : -1 ≤ k ∧ k ≤ 9) (w : World) :
    Calls Try.prog 54 #[.int .i64 k] w fun e w' => e = .returned (.string (nameK k)) ∧ w = w' := by
  rcases name_cases h with rfl | rfl | rfl | rfl | rfl | rfl | rfl | rfl | rfl | rfl | rfl <;>
    (clear h; go_enter Try.func54, Try.ntmps54; go_wp2; go_ret; exact ⟨by kernel_rfl, rfl⟩)
set_option maxHeartbeats 4000000 in
theorem sSymName_any {k : Int} (h : -1 ≤ k ∧ k ≤ 9) (w : World) :
    Calls Try.prog 55 #[.int .i64 k] w fun e w' => e = .returned (.string (nameK k)) ∧ Below w.heap.size w w' := by
  rcases name_cases h with rfl | rfl | rfl | rfl | rfl | rfl | rfl | rfl | rfl | rfl | rfl
  · have hb := Joins.below_alloc1 w (.cells #[.string ⟨#[110, 111, 110, 101]⟩, .string ⟨#[97, 99, 114, 111, 115, 115]⟩, .string ⟨#[100, 111, 119, 110]⟩, .string ⟨#[104, 97, 108, 102]⟩, .string ⟨#[115, 119, 97, 112]⟩, .string ⟨#[114, 105, 103, 104, 116]⟩, .string ⟨#[108, 101, 102, 116]⟩, .string ⟨#[111, 116, 104, 101, 114]⟩] 9)
    clear h
    go_enter Try.func55, Try.ntmps55
    go_wp2_with fail
    refine (l06Sym_any (-1) false (by decide) _).mono ?_
    rintro e w' ⟨rfl, rfl⟩
    go_wp2
    go_ret
    exact ⟨rfl, hb⟩
  · have hb := Joins.below_alloc1 w (.cells #[.string ⟨#[110, 111, 110, 101]⟩, .string ⟨#[97, 99, 114, 111, 115, 115]⟩, .string ⟨#[100, 111, 119, 110]⟩, .string ⟨#[104, 97, 108, 102]⟩, .string ⟨#[115, 119, 97, 112]⟩, .string ⟨#[114, 105, 103, 104, 116]⟩, .string ⟨#[108, 101, 102, 116]⟩, .string ⟨#[111, 116, 104, 101, 114]⟩] 9)
    clear h
    go_enter Try.func55, Try.ntmps55
    go_wp2_with fail
    refine (l06Sym_any (0) true (by decide) _).mono ?_
    rintro e w' ⟨rfl, rfl⟩
    go_wp2
    go_ret
    exact ⟨rfl, hb⟩
  · have hb := Joins.below_alloc1 w (.cells #[.string ⟨#[110, 111, 110, 101]⟩, .string ⟨#[97, 99, 114, 111, 115, 115]⟩, .string ⟨#[100, 111, 119, 110]⟩, .string ⟨#[104, 97, 108, 102]⟩, .string ⟨#[115, 119, 97, 112]⟩, .string ⟨#[114, 105, 103, 104, 116]⟩, .string ⟨#[108, 101, 102, 116]⟩, .string ⟨#[111, 116, 104, 101, 114]⟩] 9)
    clear h
    go_enter Try.func55, Try.ntmps55
    go_wp2_with fail
    refine (l06Sym_any (1) true (by decide) _).mono ?_
    rintro e w' ⟨rfl, rfl⟩
    go_wp2
    go_ret
    exact ⟨rfl, hb⟩
  · have hb := Joins.below_alloc1 w (.cells #[.string ⟨#[110, 111, 110, 101]⟩, .string ⟨#[97, 99, 114, 111, 115, 115]⟩, .string ⟨#[100, 111, 119, 110]⟩, .string ⟨#[104, 97, 108, 102]⟩, .string ⟨#[115, 119, 97, 112]⟩, .string ⟨#[114, 105, 103, 104, 116]⟩, .string ⟨#[108, 101, 102, 116]⟩, .string ⟨#[111, 116, 104, 101, 114]⟩] 9)
    clear h
    go_enter Try.func55, Try.ntmps55
    go_wp2_with fail
    refine (l06Sym_any (2) true (by decide) _).mono ?_
    rintro e w' ⟨rfl, rfl⟩
    go_wp2
    go_ret
    exact ⟨rfl, hb⟩
  · have hb := Joins.below_alloc1 w (.cells #[.string ⟨#[110, 111, 110, 101]⟩, .string ⟨#[97, 99, 114, 111, 115, 115]⟩, .string ⟨#[100, 111, 119, 110]⟩, .string ⟨#[104, 97, 108, 102]⟩, .string ⟨#[115, 119, 97, 112]⟩, .string ⟨#[114, 105, 103, 104, 116]⟩, .string ⟨#[108, 101, 102, 116]⟩, .string ⟨#[111, 116, 104, 101, 114]⟩] 9)
    clear h
    go_enter Try.func55, Try.ntmps55
    go_wp2_with fail
    refine (l06Sym_any (3) true (by decide) _).mono ?_
    rintro e w' ⟨rfl, rfl⟩
    go_wp2
    go_ret
    exact ⟨rfl, hb⟩
  · have hb := Joins.below_alloc1 w (.cells #[.string ⟨#[110, 111, 110, 101]⟩, .string ⟨#[97, 99, 114, 111, 115, 115]⟩, .string ⟨#[100, 111, 119, 110]⟩, .string ⟨#[104, 97, 108, 102]⟩, .string ⟨#[115, 119, 97, 112]⟩, .string ⟨#[114, 105, 103, 104, 116]⟩, .string ⟨#[108, 101, 102, 116]⟩, .string ⟨#[111, 116, 104, 101, 114]⟩] 9)
    clear h
    go_enter Try.func55, Try.ntmps55
    go_wp2_with fail
    refine (l06Sym_any (4) true (by decide) _).mono ?_
    rintro e w' ⟨rfl, rfl⟩
    go_wp2
    go_ret
    exact ⟨rfl, hb⟩
  · have hb := Joins.below_alloc1 w (.cells #[.string ⟨#[110, 111, 110, 101]⟩, .string ⟨#[97, 99, 114, 111, 115, 115]⟩, .string ⟨#[100, 111, 119, 110]⟩, .string ⟨#[104, 97, 108, 102]⟩, .string ⟨#[115, 119, 97, 112]⟩, .string ⟨#[114, 105, 103, 104, 116]⟩, .string ⟨#[108, 101, 102, 116]⟩, .string ⟨#[111, 116, 104, 101, 114]⟩] 9)
    clear h
    go_enter Try.func55, Try.ntmps55
    go_wp2_with fail
    refine (l06Sym_any (5) true (by decide) _).mono ?_
    rintro e w' ⟨rfl, rfl⟩
    go_wp2
    go_ret
    exact ⟨rfl, hb⟩
  · have hb := Joins.below_alloc1 w (.cells #[.string ⟨#[110, 111, 110, 101]⟩, .string ⟨#[97, 99, 114, 111, 115, 115]⟩, .string ⟨#[100, 111, 119, 110]⟩, .string ⟨#[104, 97, 108, 102]⟩, .string ⟨#[115, 119, 97, 112]⟩, .string ⟨#[114, 105, 103, 104, 116]⟩, .string ⟨#[108, 101, 102, 116]⟩, .string ⟨#[111, 116, 104, 101, 114]⟩] 9)
    clear h
    go_enter Try.func55, Try.ntmps55
    go_wp2_with fail
    refine (l06Sym_any (6) true (by decide) _).mono ?_
    rintro e w' ⟨rfl, rfl⟩
    go_wp2
    go_ret
    exact ⟨rfl, hb⟩
  · have hb := Joins.below_alloc1 w (.cells #[.string ⟨#[110, 111, 110, 101]⟩, .string ⟨#[97, 99, 114, 111, 115, 115]⟩, .string ⟨#[100, 111, 119, 110]⟩, .string ⟨#[104, 97, 108, 102]⟩, .string ⟨#[115, 119, 97, 112]⟩, .string ⟨#[114, 105, 103, 104, 116]⟩, .string ⟨#[108, 101, 102, 116]⟩, .string ⟨#[111, 116, 104, 101, 114]⟩] 9)
    clear h
    go_enter Try.func55, Try.ntmps55
    go_wp2_with fail
    refine (l06Sym_any (7) true (by decide) _).mono ?_
    rintro e w' ⟨rfl, rfl⟩
    go_wp2
    go_ret
    exact ⟨rfl, hb⟩
  · have hb := Joins.below_alloc1 w (.cells #[.string ⟨#[110, 111, 110, 101]⟩, .string ⟨#[97, 99, 114, 111, 115, 115]⟩, .string ⟨#[100, 111, 119, 110]⟩, .string ⟨#[104, 97, 108, 102]⟩, .string ⟨#[115, 119, 97, 112]⟩, .string ⟨#[114, 105, 103, 104, 116]⟩, .string ⟨#[108, 101, 102, 116]⟩, .string ⟨#[111, 116, 104, 101, 114]⟩] 9)
    clear h
    go_enter Try.func55, Try.ntmps55
    go_wp2_with fail
    refine (l06Sym_any (8) false (by decide) _).mono ?_
    rintro e w' ⟨rfl, rfl⟩
    go_wp2
    go_ret
    exact ⟨rfl, hb⟩
  · have hb := Joins.below_alloc1 w (.cells #[.string ⟨#[110, 111, 110, 101]⟩, .string ⟨#[97, 99, 114, 111, 115, 115]⟩, .string ⟨#[100, 111, 119, 110]⟩, .string ⟨#[104, 97, 108, 102]⟩, .string ⟨#[115, 119, 97, 112]⟩, .string ⟨#[114, 105, 103, 104, 116]⟩, .string ⟨#[108, 101, 102, 116]⟩, .string ⟨#[111, 116, 104, 101, 114]⟩] 9)
    clear h
    go_enter Try.func55, Try.ntmps55
    go_wp2_with fail
    refine (l06Sym_any (9) false (by decide) _).mono ?_
    rintro e w' ⟨rfl, rfl⟩
    go_wp2
    go_ret
    exact ⟨rfl, hb⟩
def invM (s : Int) : Int × Int := if symOk s = true then (invK s, 0) else (0, 2)
theorem exch_inv {s : Int} (s0 : 0 ≤ s) (s7 : s ≤ 7) : exch s s = invK s := by
  rcases sym_cases s0 s7 with rfl | rfl | rfl | rfl | rfl | rfl | rfl | rfl <;> decide
set_option maxHeartbeats 2000000 in
theorem InverseSym_any (s : Int) (w : World) :
    Calls Try.prog 49 #[.int .i64 s] w fun e w' => e = .returned (.tuple #[.int .i64 (invM s).1, .int .i64 (invM s).2]) ∧ w = w' := by
  unfold invM
  cases hs : symOk s
  · have HS := Lib.hid hs
    clear hs
    go_enter Try.func49, Try.ntmps49
    go_wp2_with fail
    refine (validSym_any s false HS.out _).mono ?_
    rintro e w' ⟨rfl, rfl⟩
    go_wp2
    go_ret2
    exact ⟨rfl, rfl⟩
  · have HS := Lib.hid hs
    obtain ⟨s0, s7⟩ := symOk_bd hs
    have he := exch_inv s0 s7
    show Calls Try.prog 49 #[.int .i64 s] w fun e w' => e = .returned (.tuple #[.int .i64 (invK s), .int .i64 0]) ∧ w = w'
    obtain ⟨r, hr⟩ : ∃ r, invK s = r := ⟨_, rfl⟩
    rw [hr] at he ⊢
    have HE := Lib.hid he
    have HB : Hid (0 ≤ s ∧ s ≤ 7) := Lib.hid ⟨s0, s7⟩
    have HR := Lib.hid hr
    clear hs he hr
    go_enter Try.func49, Try.ntmps49
    go_wp2_with fail
    refine (validSym_any s true HS.out _).mono ?_
    rintro e w' ⟨rfl, rfl⟩
    go_wp2_with fail
    refine (exchanged_any s s HB.out.1 HB.out.2 _).mono ?_
    rw [HE.out]
    rintro e w' ⟨rfl, rfl⟩
    go_wp2
    go_ret2
    exact ⟨rfl, rfl⟩
set_option maxHeartbeats 4000000 in
theorem l06Inverse_any {s : Int} (s0 : 0 ≤ s) (s7 : s ≤ 7) (w : World) :
    Calls Try.prog 107 #[.int .i64 s] w fun e w' => e = .returned (.int .i64 (invK s)) ∧ w = w' := by
  rcases sym_cases s0 s7 with rfl | rfl | rfl | rfl | rfl | rfl | rfl | rfl <;>
    (clear s0 s7; go_enter Try.func107, Try.ntmps107; go_wp2; go_ret; exact ⟨by kernel_rfl, rfl⟩)
set_option maxHeartbeats 2000000 in
theorem sInverseSym_any (s : Int) (w : World) :
    Calls Try.prog 50 #[.int .i64 s] w fun e w' => e = .returned (.tuple #[.int .i64 (invM s).1, .int .i64 (invM s).2]) ∧ w = w' := by
  unfold invM
  cases hs : symOk s
  · have HS := Lib.hid hs
    clear hs
    go_enter Try.func50, Try.ntmps50
    go_wp2_with fail
    refine (l06Sym_any s false HS.out _).mono ?_
    rintro e w' ⟨rfl, rfl⟩
    go_wp2
    go_ret2
    exact ⟨rfl, rfl⟩
  · have HS := Lib.hid hs
    obtain ⟨s0, s7⟩ := symOk_bd hs
    have HB : Hid (0 ≤ s ∧ s ≤ 7) := Lib.hid ⟨s0, s7⟩
    show Calls Try.prog 50 #[.int .i64 s] w fun e w' => e = .returned (.tuple #[.int .i64 (invK s), .int .i64 0]) ∧ w = w'
    obtain ⟨r, hr⟩ : ∃ r, invK s = r := ⟨_, rfl⟩
    rw [hr]
    have HR := Lib.hid hr
    clear hs hr
    go_enter Try.func50, Try.ntmps50
    go_wp2_with fail
    refine (l06Sym_any s true HS.out _).mono ?_
    rintro e w' ⟨rfl, rfl⟩
    go_wp2_with fail
    refine (l06Inverse_any HB.out.1 HB.out.2 _).mono ?_
    rw [HR.out]
    rintro e w' ⟨rfl, rfl⟩
    go_wp2
    go_ret2
    exact ⟨rfl, rfl⟩
set_option maxHeartbeats 2000000 in
theorem CountCurves_any {w : World} {lo hi : Nat} {W H : Int} {v : Value} {B : List Int} (hI : IntsIn w lo hi v B) (hp : Ok ⟨W, H, B⟩) :
    Calls Try.prog 57 #[.agg #[.int .i64 W, .int .i64 H, v]] w fun e w' => e = .returned (.tuple #[.int .i64 (cntP ⟨W, H, B⟩), .int .i64 0]) ∧ Below w.heap.size w w' := by
  obtain ⟨A, c, rfl, _, _⟩ := hI.1.open_
  have bl := Joins.below_alloc1 w (.cells #[.int .i64 W, .int .i64 H, .slice A B.length c] 30)
  have ba := Box.new w 30 #[.int .i64 W, .int .i64 H, .slice A B.length c]
  have hv := hI.below bl
  have HP := Lib.hid hp
  obtain ⟨N, hN⟩ : ∃ N, cntP ⟨W, H, B⟩ = N := ⟨_, rfl⟩
  have HN := Lib.hid hN
  rw [hN]
  clear hI hp hN
  have q0 := ba.cell 0
  have q1 := ba.cell 1
  have q2 := ba.cell 2
  have qn := ba.lt
  simp only [List.getElem?_toArray, List.getElem?_cons_zero, List.getElem?_cons_succ] at q0 q1 q2
  go_enter Try.func57, Try.ntmps57
  go_wp2_with fail
  refine (ValidPanel_any W H _ B true (yes_iff HP.out) _ hv.ints).mono ?_
  rintro e w2 ⟨rfl, hb⟩
  replace ba := ba.below hb
  replace hv := hv.below hb
  replace bl := bnext bl hb
  clear hb q0 q1 q2 qn
  have q0 := ba.cell 0
  have q1 := ba.cell 1
  have q2 := ba.cell 2
  have qn := ba.lt
  simp only [List.getElem?_toArray, List.getElem?_cons_zero, List.getElem?_cons_succ] at q0 q1 q2
  go_wp2_with fail
  refine (countCurves_any hv.1 HP.out).mono ?_
  rw [HN.out]
  rintro e w3 ⟨rfl, hb⟩
  have bl3 := bnext bl hb
  clear hb bl ba hv q0 q1 q2 qn
  go_wp2
  go_ret2
  exact ⟨rfl, bl3⟩
end Go.Proofs.Ytihfdgnocdphcaa

namespace Go.Proofs.Ytihfdgnocdphcaa
open Go.RowKit Knot

set_option maxHeartbeats 2000000 in
theorem sSamePanel_any {w : World} {B C : Nat} {x y x' y' : Int} {v u : Value} {xs ys : List Int} {r : Bool} (hx : Ints w B v xs) (hy : Ints w C u ys) (hr : r = true ↔ (x = x' ∧ y = y' ∧ xs = ys)) :
    Calls Try.prog 46 #[.agg #[.int .i64 x, .int .i64 y, v], .agg #[.int .i64 x', .int .i64 y', u]] w fun e w' => e = .returned (.bool r) ∧ Below w.heap.size w w' := by
  obtain ⟨A, cA, rfl, _, _⟩ := hx.open_
  obtain ⟨D, cD, rfl, _, _⟩ := hy.open_
  have bl := Joins.below_alloc2 w (.cells #[.int .i64 x, .int .i64 y, .slice A xs.length cA] 30) (.cells #[.int .i64 x', .int .i64 y', .slice D ys.length cD] 30)
  have ba := (Box.new w 30 #[.int .i64 x, .int .i64 y, .slice A xs.length cA]).alloc (.cells #[.int .i64 x', .int .i64 y', .slice D ys.length cD] 30)
  have bb := Box.new (w.alloc (.cells #[.int .i64 x, .int .i64 y, .slice A xs.length cA] 30)) 30 #[.int .i64 x', .int .i64 y', .slice D ys.length cD]
  rw [World.size_alloc] at bb
  have hx1 := Row.below hx bl
  have hy1 := Row.below hy bl
  have HR := Lib.hid hr
  clear hx hy hr
  go_enter Try.func46, Try.ntmps46
  go_wp2_with fail
  refine (l02Same_any ba bb hx1 hy1 HR.out).mono ?_
  rintro e w2 ⟨rfl, hd⟩
  have bl2 := bnext bl (bdrawn hd)
  clear hd bl ba bb hx1 hy1
  go_wp2
  go_ret
  exact ⟨rfl, bl2⟩
end Go.Proofs.Ytihfdgnocdphcaa

namespace Go.Proofs.Ytihfdgnocdphcaa
open Go.RowKit Knot

theorem symOk_in {s : Int} (s0 : 0 ≤ s) (s7 : s ≤ 7) : symOk s = true := by
  unfold symOk
  exact inR_t ⟨s0, s7⟩
theorem mpnM_ok {p : Pan} (h : Ok p) {s : Int} (s0 : 0 ≤ s) (s7 : s ≤ 7) : mpnM p s = ((mapP p s).W, (mapP p s).H, (mapP p s).B, 0) := by
  unfold mpnM
  rw [if_pos h, if_pos (symOk_in s0 s7)]
  rfl
theorem mpnM_zero {p : Pan} {s X Y : Int} {B : List Int} (h : mpnM p s = (X, Y, B, 0)) : Ok p ∧ 0 ≤ s ∧ s ≤ 7 ∧ mapP p s = ⟨X, Y, B⟩ := by
  unfold mpnM at h
  split at h
  · rename_i hok
    split at h
    · rename_i hs
      obtain ⟨s0, s7⟩ := symOk_bd hs
      injection h with h1 h
      injection h with h2 h
      injection h with h3 h
      refine ⟨hok, s0, s7, ?_⟩
      rw [← h1, ← h2, ← h3]
      rfl
    · injection h with _ h
      injection h with _ h
      injection h with _ h
      omega
  · injection h with _ h
    injection h with _ h
    injection h with _ h
    omega
theorem mpnM_cnt {p : Pan} {s X Y : Int} {B : List Int} (h : mpnM p s = (X, Y, B, 0)) : Ok p ∧ Ok ⟨X, Y, B⟩ ∧ cntP ⟨X, Y, B⟩ = cntP p := by
  obtain ⟨hok, s0, s7, e⟩ := mpnM_zero h
  rw [← e]
  exact ⟨hok, mapP_ok hok s0 s7, map_cnt hok s0 s7⟩
theorem csM_zero {a b c : Int} (h : csM a b = (c, 0)) : (0 ≤ a ∧ a ≤ 7) ∧ (0 ≤ b ∧ b ≤ 7) ∧ c = compK a b := by
  cases ha : symOk a
  · simp [csM, ha] at h
  · cases hb : symOk b
    · simp [csM, ha, hb] at h
    · obtain ⟨a0, a7⟩ := symOk_bd ha
      obtain ⟨b0, b7⟩ := symOk_bd hb
      rw [csM_ok a0 a7 b0 b7] at h
      injection h with h1 _
      exact ⟨⟨a0, a7⟩, ⟨b0, b7⟩, h1.symm⟩
/-- Two symmetries one after the other, and both at once. -/
theorem mpn_comp {p : Pan} (h : Ok p) {a b c : Int} (hc : csM a b = (c, 0)) : ∃ (q r : Pan), Ok q ∧ mpnM p a = (q.W, q.H, q.B, 0) ∧ mpnM q b = (r.W, r.H, r.B, 0) ∧ mpnM p c = (r.W, r.H, r.B, 0) := by
  obtain ⟨⟨a0, a7⟩, ⟨b0, b7⟩, rfl⟩ := csM_zero hc
  obtain ⟨c0, c7⟩ := compK_bd a0 a7 b0 b7
  have hq := mapP_ok h a0 a7
  refine ⟨mapP p a, mapP (mapP p a) b, hq, mpnM_ok h a0 a7, mpnM_ok hq b0 b7, ?_⟩
  rw [map_comp h a0 a7 b0 b7]
  exact mpnM_ok h c0 c7
/-- A symmetry and its inverse. -/
theorem inv_comp {i n : Int} (h : invM i = (n, 0)) : csM i n = (0, 0) := by
  unfold invM at h
  split at h
  · rename_i hs
    obtain ⟨s0, s7⟩ := symOk_bd hs
    obtain ⟨⟨n0, n7⟩, n1, _⟩ := invK_bd s0 s7
    injection h with h1 _
    subst h1
    rw [csM_ok s0 s7 n0 n7, n1]
  · injection h with _ h
    omega
theorem leastTo_ok {p : Pan} (h : Ok p) : Ok (leastTo p 7) := by
  obtain ⟨s, hs, e⟩ := least_mem h 7
  rw [e]
  exact mapP_ok h (by omega) (by omega)
theorem canM_ok {p : Pan} (h : Ok p) : canM p = ((leastTo p 7).W, (leastTo p 7).H, (leastTo p 7).B, 0) := by
  unfold canM
  rw [if_pos h]
theorem canM_zero {p : Pan} {X Y : Int} {B : List Int} (h : canM p = (X, Y, B, 0)) : Ok p ∧ leastTo p 7 = ⟨X, Y, B⟩ := by
  unfold canM at h
  split at h
  · rename_i hok
    injection h with h1 h
    injection h with h2 h
    injection h with h3 h
    refine ⟨hok, ?_⟩
    rw [← h1, ← h2, ← h3]
  · injection h with _ h
    injection h with _ h
    injection h with _ h
    omega
/-- Panels to which a symmetry moves a panel: like it, with the same canonical panel, which is not greater. -/
theorem can_law {p : Pan} {X Y : Int} {B : List Int} (h : canM p = (X, Y, B, 0)) {k : Int} (k0 : 0 ≤ k) (k7 : k ≤ 7) :
    ∃ q : Pan, Ok q ∧ mpnM p k = (q.W, q.H, q.B, 0) ∧ canM q = (X, Y, B, 0) ∧ cmpP ⟨X, Y, B⟩ q ≤ 0 ∧ alikeM p q = true := by
  obtain ⟨hok, e⟩ := canM_zero h
  have hq := mapP_ok hok k0 k7
  have hm := least_map hok k0 k7
  refine ⟨mapP p k, hq, mpnM_ok hok k0 k7, ?_, ?_, ?_⟩
  · rw [canM_ok hq, hm, e]
  · rw [← e]
    have := least_le hok 7 k.toNat (by omega)
    rwa [show ((k.toNat : Nat) : Int) = k by omega] at this
  · unfold alikeM
    rw [hm]
    simp [hok, hq]
/-- A panel made symmetric is moved to itself. -/
theorem sym_law {p : Pan} {s X Y : Int} {B : List Int} (h : symM p s = (X, Y, B, 0)) : mpnM ⟨X, Y, B⟩ s = (X, Y, B, 0) := by
  unfold symM at h
  split at h
  · rename_i hok
    split at h
    · rename_i hs
      obtain ⟨s0, s7⟩ := symOk_bd hs
      split at h
      · injection h with _ h
        injection h with _ h
        injection h with _ h
        omega
      · rename_i hq
        injection h with h1 h
        injection h with h2 h
        injection h with h3 h
        subst h1 h2 h3
        have hB : ∀ k : Nat, k < p.B.length → 0 ≤ gI p.B k ∧ gI p.B k ≤ 2 := fun k hk => by
          rw [gI_nat _ _ hk]
          exact hok.kind _ (List.getElem_mem hk)
        obtain ⟨f1, f2⟩ := symTo_fix ⟨hok.w1, hok.w8⟩ ⟨hok.h1, hok.h8⟩ s0 s7 (fun h4 => Classical.byContradiction fun hne => hq ⟨h4, hne⟩) hok.len hB
        rw [mpnM_ok f1 s0 s7, f2]
    · injection h with _ h
      injection h with _ h
      injection h with _ h
      omega
  · injection h with _ h
    injection h with _ h
    injection h with _ h
    omega
end Go.Proofs.Ytihfdgnocdphcaa
