/-
  A point, as the reference draws it.
-/
import Derived.Test.YtihfdgnocdphcaaDrwB
import Derived.Test.YtihfdgnocdphcaaNum
namespace Go.Proofs.Ytihfdgnocdphcaa
open Go.RowKit Knot

theorem pt_end {w W9 : World} {b M : Nat} {x y : Int} (hbz : b < w.heap.size) (hS : Src W9 b M) (hc : Chg b (b + 1) w W9) :
    Src ((W9.setCell ⟨w.heap.size, 0, none⟩ (.int .i64 x)).setCell ⟨w.heap.size, 1, none⟩ (.int .i64 y)) b M ∧ Chg b (b + 1) w ((W9.setCell ⟨w.heap.size, 0, none⟩ (.int .i64 x)).setCell ⟨w.heap.size, 1, none⟩ (.int .i64 y)) :=
  ⟨(hS.put (p := ⟨w.heap.size, 0, none⟩) hbz _).put (p := ⟨w.heap.size, 1, none⟩) hbz _, (hc.put (p := ⟨w.heap.size, 0, none⟩) (Nat.le_refl _) _).put (p := ⟨w.heap.size, 1, none⟩) (Nat.le_refl _) _⟩
set_option maxRecDepth 20000 in
set_option maxHeartbeats 8000000 in
theorem l02DrawPoint_any {w : World} {b m bq lo hi : Nat} {X Y : Int} {v : Value} {B : List Int} (hs : Src w b m) (hq : Box w bq 30 #[.int .i64 X, .int .i64 Y, v]) (hI : IntsIn w lo hi v B) (hbl : b < lo) (hbq : bq ≠ b) (hm : m ≤ 1000000) :
    Calls Try.prog 108 #[.pointer (some ⟨b, 0, none⟩), .pointer (some ⟨bq, 0, none⟩)] w fun e w' => ∃ x y : Int, e = .returned (.agg #[.int .i64 x, .int .i64 y]) ∧ Src w' b (m + 10) ∧ Chg b (b + 1) w w' := by
  obtain ⟨A, c, rfl, _, hA⟩ := hI.1.open_
  have hbw := hs.lt
  have hql := hq.lt
  have O := Joins.below_alloc1 w (.cells #[.int .i64 0, .int .i64 0] 36)
  have ZO := Box.new w 36 #[.int .i64 0, .int .i64 0]
  have hs0 := hs.below O
  have hq0 := hq.below O
  have hI0 := hI.below O
  have hc0 : Chg b (b + 1) w (w.alloc (.cells #[.int .i64 0, .int .i64 0] 36)) := Chg.ofBelow O
  clear hs hq hI O hA
  by_cases hok : Ok ⟨X, Y, B⟩
  rotate_left
  · have HO := Lib.hid hok
    clear hok
    go_enter Try.func108, Try.ntmps108
    go_wp2_with fail
    generalize (w.alloc (.cells #[.int .i64 0, .int .i64 0] 36)) = V at *
    refine (l02Ok_any _ X Y _ B false (no_iff HO.out) _ ⟨hq0, hI0.ints⟩).mono ?_
    rintro e w2 ⟨rfl, hd⟩
    have hb := bdrawn hd
    have hS2 := hs0.below hb
    have ZO2 := ZO.below hb
    have hc2 := hc0.trans (Chg.ofBelow hb)
    clear hb hd hs0 ZO hc0 hq0 hI0
    go_wp2_with fail
    refine (src_pick hS2 (by omega) (by omega)).mono ?_
    rintro e w3 ⟨x, rfl, x0, x1, _, hS3, hc3⟩
    have x2 := x1 (by omega)
    have hZ3 := ZO2.chgb hc3 (by omega)
    have hc33 := hc2.trans hc3
    clear hS2 ZO2 hc2 hc3 x1
    go_wp2_with fail
    refine (src_pick hS3 (by omega) (by omega)).mono ?_
    rintro e w4 ⟨y, rfl, y0, y1, _, hS4, hc4⟩
    have y2 := y1 (by omega)
    have hZ4 := (hZ3.chgb hc4 (by omega)).alloc (.cells #[.int .i64 (x - 1), .int .i64 (y - 1)] 36)
    have hc44 := (hc33.trans hc4).allocc (.cells #[.int .i64 (x - 1), .int .i64 (y - 1)] 36)
    have hS44 := hS4.below (Joins.below_alloc1 w4 (.cells #[.int .i64 (x - 1), .int .i64 (y - 1)] 36))
    have bt := Box.new w4 36 #[.int .i64 (x - 1), .int .i64 (y - 1)]
    have hlt4 := (hc33.trans hc4).size
    have hbs4 := hS4.lt
    have hzl4 := (hZ3.chgb hc4 (by omega)).lt
    obtain ⟨pt, hpt⟩ : ∃ pt, w4.heap.size = pt := ⟨_, rfl⟩
    rw [hpt] at bt hlt4 hbs4 hzl4
    clear hS3 hZ3 hc33 hc4 hS4 y1
    go_wp2_with fail
    try rw [hpt]
    generalize hV4 : w4.alloc (.cells #[.int .i64 (x - 1), .int .i64 (y - 1)] 36) = V4 at *
    clear hV4
    refine (src_one hS44 (by omega) (by omega)).mono ?_
    rintro e w5 ⟨r, rfl, hS5, hc5⟩
    have hZ5 := hZ4.chgb hc5 (by omega)
    have bt5 := bt.chgb hc5 (by omega)
    have hc55 := hc44.trans hc5
    clear hZ4 bt hc44 hS44 hc5
    cases r
    · skip
      have z0 := hZ5.cell 0
      have z1 := hZ5.cell 1
      have zf0 := hZ5.free 0
      have zf1 := hZ5.free 1
      have zn := hZ5.lt
      simp only [List.getElem?_toArray, List.getElem?_cons_zero, List.getElem?_cons_succ] at z0 z1
      have u0 := bt5.cell 0
      have u1 := bt5.cell 1
      have un := bt5.lt
      simp only [List.getElem?_toArray, List.getElem?_cons_zero, List.getElem?_cons_succ] at u0 u1
      have HE := Lib.hid (pt_end (x := x - 1) (y := y - 1) hbw hS5 hc55)
      have hp1 : pt ≠ w.heap.size := by omega
      clear hZ5 bt5 hS5 hc55
      go_wp2_with fail
      refine bodyPost_ret (v := .agg #[.int .i64 (x - 1), .int .i64 (y - 1)]) ?_ rfl ?_
      · simp [results, Try.results108, go_sem, zn, z0, z1, u0, u1]
      · exact ⟨_, _, rfl, HE.out.1.more (by omega), HE.out.2⟩
    · have hl := lit2 w5 (-9223372036854775808) 9223372036854775807
      have hS6 := hS5.below (Joins.below_alloc1 w5 (.cells #[.int .i64 (-9223372036854775808), .int .i64 9223372036854775807] 2))
      have hZ6 := hZ5.alloc (.cells #[.int .i64 (-9223372036854775808), .int .i64 9223372036854775807] 2)
      have bt6 := bt5.alloc (.cells #[.int .i64 (-9223372036854775808), .int .i64 9223372036854775807] 2)
      have hc6 := hc55.allocc (.cells #[.int .i64 (-9223372036854775808), .int .i64 9223372036854775807] 2)
      have hb5 := hS5.lt
      clear hS5 hZ5 bt5 hc55
      go_wp2_with fail
      refine (src_among (xs := [-9223372036854775808, 9223372036854775807]) hS6 hl hb5 rfl (by decide) (by decide) (by omega)).mono ?_
      rintro e w7 ⟨u, rfl, hS7, hc7⟩
      have hZ7 := hZ6.chgb hc7 (by omega)
      have bt7 := bt6.chgb hc7 (by omega)
      have hc77 := hc6.trans hc7
      have hzp : w.heap.size ≠ pt := by omega
      have z0 := hZ7.cell 0
      have z1 := hZ7.cell 1
      have zf0 := hZ7.free 0
      have zf1 := hZ7.free 1
      have zn := hZ7.lt
      simp only [List.getElem?_toArray, List.getElem?_cons_zero, List.getElem?_cons_succ] at z0 z1
      have u0 := bt7.cell 0
      have u1 := bt7.cell 1
      have uf0 := bt7.free 0
      have uf1 := bt7.free 1
      have un := bt7.lt
      simp only [List.getElem?_toArray, List.getElem?_cons_zero, List.getElem?_cons_succ] at u0 u1
      have k0 := cell_f (q := ⟨pt, 0, none⟩) (x := .int .i64 u) hzp z0
      have k1 := cell_f (q := ⟨pt, 0, none⟩) (x := .int .i64 u) hzp z1
      have HE := Lib.hid (pt_end (x := u) (y := y - 1) hbw (hS7.put (p := ⟨pt, 0, none⟩) (by show b < pt; omega) (.int .i64 u)) (hc77.put (p := ⟨pt, 0, none⟩) (by show w.heap.size ≤ pt; omega) (.int .i64 u)))
      have hp1 : pt ≠ w.heap.size := by omega
      clear hZ6 bt6 hZ7 bt7 hS6 hS7 hc6 hc7 hc77 hl
      go_wp2_with fail
      refine bodyPost_ret (v := .agg #[.int .i64 u, .int .i64 (y - 1)]) ?_ rfl ?_
      · simp [results, Try.results108, go_sem, zn, k0, k1, u0, u1]
      · exact ⟨_, _, rfl, HE.out.1.more (by omega), HE.out.2⟩
  have HO := Lib.hid hok
  have hW : 1 ≤ X ∧ X ≤ 8 := ⟨hok.w1, hok.w8⟩
  have hH : 1 ≤ Y ∧ Y ≤ 8 := ⟨hok.h1, hok.h8⟩
  have hln : (B.length : Int) = inner X Y := hok.len
  have hbd := inner_bd hok.w1 hok.w8 hok.h1 hok.h8
  have hl150 : B.length ≤ 150 := by
    have h1 := hok.len
    unfold inner at h1
    simp only [] at h1 hbd
    omega
  obtain ⟨n, hn⟩ : ∃ n, B.length = n := ⟨_, rfl⟩
  rw [hn] at hln hl150
  have HWH := Lib.hid (And.intro hW (And.intro hH hln))
  clear hok hW hH hbd hln
  by_cases hn0 : n = 0
  · subst hn0
    rw [hn] at hq0 hI0
    have HN := Lib.hid hn
    clear hn
    have q2 := hq0.cell 2
    simp only [List.getElem?_toArray, List.getElem?_cons_zero, List.getElem?_cons_succ] at q2
    go_enter Try.func108, Try.ntmps108
    go_wp2_with fail
    generalize (w.alloc (.cells #[.int .i64 0, .int .i64 0] 36)) = V at *
    refine (l02Ok_any _ X Y _ B true (yes_iff HO.out) _ ⟨hq0, hI0.ints⟩).mono ?_
    rintro e w2 ⟨rfl, hd⟩
    have hb := bdrawn hd
    have hS2 := hs0.below hb
    have ZO2 := ZO.below hb
    have hc2 := hc0.trans (Chg.ofBelow hb)
    have hq2 := hq0.below hb
    clear q2
    have q2 := hq2.cell 2
    have qn := hq2.lt
    simp only [List.getElem?_toArray, List.getElem?_cons_zero, List.getElem?_cons_succ] at q2
    clear hb hd hs0 ZO hc0 hq0 hI0 hq2
    go_wp2_with fail
    refine (src_pick hS2 (by omega) (by omega)).mono ?_
    rintro e w3 ⟨x, rfl, x0, x1, _, hS3, hc3⟩
    have x2 := x1 (by omega)
    have hZ3 := ZO2.chgb hc3 (by omega)
    have hc33 := hc2.trans hc3
    clear hS2 ZO2 hc2 hc3 x1
    go_wp2_with fail
    refine (src_pick hS3 (by omega) (by omega)).mono ?_
    rintro e w4 ⟨y, rfl, y0, y1, _, hS4, hc4⟩
    have y2 := y1 (by omega)
    have hZ4 := (hZ3.chgb hc4 (by omega)).alloc (.cells #[.int .i64 (x - 1), .int .i64 (y - 1)] 36)
    have hc44 := (hc33.trans hc4).allocc (.cells #[.int .i64 (x - 1), .int .i64 (y - 1)] 36)
    have hS44 := hS4.below (Joins.below_alloc1 w4 (.cells #[.int .i64 (x - 1), .int .i64 (y - 1)] 36))
    have bt := Box.new w4 36 #[.int .i64 (x - 1), .int .i64 (y - 1)]
    have hlt4 := (hc33.trans hc4).size
    have hbs4 := hS4.lt
    have hzl4 := (hZ3.chgb hc4 (by omega)).lt
    obtain ⟨pt, hpt⟩ : ∃ pt, w4.heap.size = pt := ⟨_, rfl⟩
    rw [hpt] at bt hlt4 hbs4 hzl4
    clear hS3 hZ3 hc33 hc4 hS4 y1
    go_wp2_with fail
    try rw [hpt]
    generalize hV4 : w4.alloc (.cells #[.int .i64 (x - 1), .int .i64 (y - 1)] 36) = V4 at *
    clear hV4
    refine (src_one hS44 (by omega) (by omega)).mono ?_
    rintro e w5 ⟨r, rfl, hS5, hc5⟩
    have hZ5 := hZ4.chgb hc5 (by omega)
    have bt5 := bt.chgb hc5 (by omega)
    have hc55 := hc44.trans hc5
    clear hZ4 bt hc44 hS44 hc5
    cases r
    · skip
      have z0 := hZ5.cell 0
      have z1 := hZ5.cell 1
      have zf0 := hZ5.free 0
      have zf1 := hZ5.free 1
      have zn := hZ5.lt
      simp only [List.getElem?_toArray, List.getElem?_cons_zero, List.getElem?_cons_succ] at z0 z1
      have u0 := bt5.cell 0
      have u1 := bt5.cell 1
      have un := bt5.lt
      simp only [List.getElem?_toArray, List.getElem?_cons_zero, List.getElem?_cons_succ] at u0 u1
      have HE := Lib.hid (pt_end (x := x - 1) (y := y - 1) hbw hS5 hc55)
      have hp1 : pt ≠ w.heap.size := by omega
      clear hZ5 bt5 hS5 hc55
      go_wp2_with fail
      refine bodyPost_ret (v := .agg #[.int .i64 (x - 1), .int .i64 (y - 1)]) ?_ rfl ?_
      · simp [results, Try.results108, go_sem, zn, z0, z1, u0, u1]
      · exact ⟨_, _, rfl, HE.out.1.more (by omega), HE.out.2⟩
    · have hl := lit2 w5 (-9223372036854775808) 9223372036854775807
      have hS6 := hS5.below (Joins.below_alloc1 w5 (.cells #[.int .i64 (-9223372036854775808), .int .i64 9223372036854775807] 2))
      have hZ6 := hZ5.alloc (.cells #[.int .i64 (-9223372036854775808), .int .i64 9223372036854775807] 2)
      have bt6 := bt5.alloc (.cells #[.int .i64 (-9223372036854775808), .int .i64 9223372036854775807] 2)
      have hc6 := hc55.allocc (.cells #[.int .i64 (-9223372036854775808), .int .i64 9223372036854775807] 2)
      have hb5 := hS5.lt
      clear hS5 hZ5 bt5 hc55
      go_wp2_with fail
      refine (src_among (xs := [-9223372036854775808, 9223372036854775807]) hS6 hl hb5 rfl (by decide) (by decide) (by omega)).mono ?_
      rintro e w7 ⟨u, rfl, hS7, hc7⟩
      have hZ7 := hZ6.chgb hc7 (by omega)
      have bt7 := bt6.chgb hc7 (by omega)
      have hc77 := hc6.trans hc7
      have hzp : w.heap.size ≠ pt := by omega
      have z0 := hZ7.cell 0
      have z1 := hZ7.cell 1
      have zf0 := hZ7.free 0
      have zf1 := hZ7.free 1
      have zn := hZ7.lt
      simp only [List.getElem?_toArray, List.getElem?_cons_zero, List.getElem?_cons_succ] at z0 z1
      have u0 := bt7.cell 0
      have u1 := bt7.cell 1
      have uf0 := bt7.free 0
      have uf1 := bt7.free 1
      have un := bt7.lt
      simp only [List.getElem?_toArray, List.getElem?_cons_zero, List.getElem?_cons_succ] at u0 u1
      have k0 := cell_f (q := ⟨pt, 0, none⟩) (x := .int .i64 u) hzp z0
      have k1 := cell_f (q := ⟨pt, 0, none⟩) (x := .int .i64 u) hzp z1
      have HE := Lib.hid (pt_end (x := u) (y := y - 1) hbw (hS7.put (p := ⟨pt, 0, none⟩) (by show b < pt; omega) (.int .i64 u)) (hc77.put (p := ⟨pt, 0, none⟩) (by show w.heap.size ≤ pt; omega) (.int .i64 u)))
      have hp1 : pt ≠ w.heap.size := by omega
      clear hZ6 bt6 hZ7 bt7 hS6 hS7 hc6 hc7 hc77 hl
      go_wp2_with fail
      refine bodyPost_ret (v := .agg #[.int .i64 u, .int .i64 (y - 1)]) ?_ rfl ?_
      · simp [results, Try.results108, go_sem, zn, k0, k1, u0, u1]
      · exact ⟨_, _, rfl, HE.out.1.more (by omega), HE.out.2⟩
  have hnI : (0 : Int) < n := by omega
  have hnp : 0 < n := by omega
  rw [hn] at hq0 hI0
  have HN := Lib.hid hn
  go_enter Try.func108, Try.ntmps108
  clear hn hn0
  go_wp2_with fail
  generalize (w.alloc (.cells #[.int .i64 0, .int .i64 0] 36)) = V at *
  refine (l02Ok_any _ X Y _ B true (yes_iff HO.out) _ ⟨hq0, hI0.ints⟩).mono ?_
  rintro e w2 ⟨rfl, hd⟩
  have hb := bdrawn hd
  have hS2 := hs0.below hb
  have ZO2 := ZO.below hb
  have hc2 := hc0.trans (Chg.ofBelow hb)
  have hq2 := hq0.below hb
  have q2 := hq2.cell 2
  have qn := hq2.lt
  simp only [List.getElem?_toArray, List.getElem?_cons_zero, List.getElem?_cons_succ] at q2
  clear hb hd hs0 ZO hc0 hq0 hI0
  go_wp2_with fail
  refine (src_one hS2 (by omega) (by omega)).mono ?_
  rintro e w3 ⟨r, rfl, hS3, hc3⟩
  have ZO3 := ZO2.chgb hc3 (by omega)
  have hq3 := hq2.chgb hc3 hbq
  have hc33 := hc2.trans hc3
  clear q2 qn hS2 ZO2 hc2 hq2 hc3
  cases r
  · skip
    have hS2 := hS3.more (Nat.le_refl _)
    have ZO2 := ZO3
    have hc2 := hc33
    clear hS3 ZO3 hc33 hq3
    obtain ⟨w2, hw2⟩ : ∃ z, z = w3 := ⟨_, rfl⟩
    subst hw2
    go_wp2_with fail
    refine (src_pick hS2 (by omega) (by omega)).mono ?_
    rintro e w3 ⟨x, rfl, x0, x1, _, hS3, hc3⟩
    have x2 := x1 (by omega)
    have hZ3 := ZO2.chgb hc3 (by omega)
    have hc33 := hc2.trans hc3
    clear hS2 ZO2 hc2 hc3 x1
    go_wp2_with fail
    refine (src_pick hS3 (by omega) (by omega)).mono ?_
    rintro e w4 ⟨y, rfl, y0, y1, _, hS4, hc4⟩
    have y2 := y1 (by omega)
    have hZ4 := (hZ3.chgb hc4 (by omega)).alloc (.cells #[.int .i64 (x - 1), .int .i64 (y - 1)] 36)
    have hc44 := (hc33.trans hc4).allocc (.cells #[.int .i64 (x - 1), .int .i64 (y - 1)] 36)
    have hS44 := hS4.below (Joins.below_alloc1 w4 (.cells #[.int .i64 (x - 1), .int .i64 (y - 1)] 36))
    have bt := Box.new w4 36 #[.int .i64 (x - 1), .int .i64 (y - 1)]
    have hlt4 := (hc33.trans hc4).size
    have hbs4 := hS4.lt
    have hzl4 := (hZ3.chgb hc4 (by omega)).lt
    obtain ⟨pt, hpt⟩ : ∃ pt, w4.heap.size = pt := ⟨_, rfl⟩
    rw [hpt] at bt hlt4 hbs4 hzl4
    clear hS3 hZ3 hc33 hc4 hS4 y1
    go_wp2_with fail
    try rw [hpt]
    generalize hV4 : w4.alloc (.cells #[.int .i64 (x - 1), .int .i64 (y - 1)] 36) = V4 at *
    clear hV4
    refine (src_one hS44 (by omega) (by omega)).mono ?_
    rintro e w5 ⟨r, rfl, hS5, hc5⟩
    have hZ5 := hZ4.chgb hc5 (by omega)
    have bt5 := bt.chgb hc5 (by omega)
    have hc55 := hc44.trans hc5
    clear hZ4 bt hc44 hS44 hc5
    cases r
    · skip
      have z0 := hZ5.cell 0
      have z1 := hZ5.cell 1
      have zf0 := hZ5.free 0
      have zf1 := hZ5.free 1
      have zn := hZ5.lt
      simp only [List.getElem?_toArray, List.getElem?_cons_zero, List.getElem?_cons_succ] at z0 z1
      have u0 := bt5.cell 0
      have u1 := bt5.cell 1
      have un := bt5.lt
      simp only [List.getElem?_toArray, List.getElem?_cons_zero, List.getElem?_cons_succ] at u0 u1
      have HE := Lib.hid (pt_end (x := x - 1) (y := y - 1) hbw hS5 hc55)
      have hp1 : pt ≠ w.heap.size := by omega
      clear hZ5 bt5 hS5 hc55
      go_wp2_with fail
      refine bodyPost_ret (v := .agg #[.int .i64 (x - 1), .int .i64 (y - 1)]) ?_ rfl ?_
      · simp [results, Try.results108, go_sem, zn, z0, z1, u0, u1]
      · exact ⟨_, _, rfl, HE.out.1.more (by omega), HE.out.2⟩
    · have hl := lit2 w5 (-9223372036854775808) 9223372036854775807
      have hS6 := hS5.below (Joins.below_alloc1 w5 (.cells #[.int .i64 (-9223372036854775808), .int .i64 9223372036854775807] 2))
      have hZ6 := hZ5.alloc (.cells #[.int .i64 (-9223372036854775808), .int .i64 9223372036854775807] 2)
      have bt6 := bt5.alloc (.cells #[.int .i64 (-9223372036854775808), .int .i64 9223372036854775807] 2)
      have hc6 := hc55.allocc (.cells #[.int .i64 (-9223372036854775808), .int .i64 9223372036854775807] 2)
      have hb5 := hS5.lt
      clear hS5 hZ5 bt5 hc55
      go_wp2_with fail
      refine (src_among (xs := [-9223372036854775808, 9223372036854775807]) hS6 hl hb5 rfl (by decide) (by decide) (by omega)).mono ?_
      rintro e w7 ⟨u, rfl, hS7, hc7⟩
      have hZ7 := hZ6.chgb hc7 (by omega)
      have bt7 := bt6.chgb hc7 (by omega)
      have hc77 := hc6.trans hc7
      have hzp : w.heap.size ≠ pt := by omega
      have z0 := hZ7.cell 0
      have z1 := hZ7.cell 1
      have zf0 := hZ7.free 0
      have zf1 := hZ7.free 1
      have zn := hZ7.lt
      simp only [List.getElem?_toArray, List.getElem?_cons_zero, List.getElem?_cons_succ] at z0 z1
      have u0 := bt7.cell 0
      have u1 := bt7.cell 1
      have uf0 := bt7.free 0
      have uf1 := bt7.free 1
      have un := bt7.lt
      simp only [List.getElem?_toArray, List.getElem?_cons_zero, List.getElem?_cons_succ] at u0 u1
      have k0 := cell_f (q := ⟨pt, 0, none⟩) (x := .int .i64 u) hzp z0
      have k1 := cell_f (q := ⟨pt, 0, none⟩) (x := .int .i64 u) hzp z1
      have HE := Lib.hid (pt_end (x := u) (y := y - 1) hbw (hS7.put (p := ⟨pt, 0, none⟩) (by show b < pt; omega) (.int .i64 u)) (hc77.put (p := ⟨pt, 0, none⟩) (by show w.heap.size ≤ pt; omega) (.int .i64 u)))
      have hp1 : pt ≠ w.heap.size := by omega
      clear hZ6 bt6 hZ7 bt7 hS6 hS7 hc6 hc7 hc77 hl
      go_wp2_with fail
      refine bodyPost_ret (v := .agg #[.int .i64 u, .int .i64 (y - 1)]) ?_ rfl ?_
      · simp [results, Try.results108, go_sem, zn, k0, k1, u0, u1]
      · exact ⟨_, _, rfl, HE.out.1.more (by omega), HE.out.2⟩
  · have q2 := hq3.cell 2
    have qn := hq3.lt
    simp only [List.getElem?_toArray, List.getElem?_cons_zero, List.getElem?_cons_succ] at q2
    go_wp2_with fail
    refine (src_pick hS3 (by omega) (by omega)).mono ?_
    rintro e w4 ⟨k, rfl, k0, k1, _, hS4, hc4⟩
    have k2 := k1 (by omega)
    have ZO4 := ZO3.chgb hc4 (by omega)
    have hq4 := hq3.chgb hc4 hbq
    have hc44 := hc33.trans hc4
    clear q2 qn hS3 ZO3 hq3 hc33 hc4 k1
    go_wp2_with fail
    refine (l02Point_any hq4 HWH.out.1 HWH.out.2.1 k0 (by have := HWH.out.2.2; omega)).mono ?_
    rintro e w5 ⟨rfl, hb⟩
    have ZO5 := ZO4.below hb
    have hS5 := hS4.below hb
    have hc5 := hc44.trans (Chg.ofBelow hb)
    have z0 := ZO5.cell 0
    have z1 := ZO5.cell 1
    have zf0 := ZO5.free 0
    have zf1 := ZO5.free 1
    have zn := ZO5.lt
    simp only [List.getElem?_toArray, List.getElem?_cons_zero, List.getElem?_cons_succ] at z0 z1
    have HE := Lib.hid (pt_end (x := ptX X k) (y := ptY X k) hbw hS5 hc5)
    generalize ptX X k = px at *
    generalize ptY X k = py at *
    clear ZO4 ZO5 hS4 hS5 hc44 hc5 hb hq4
    go_wp2_with fail
    refine bodyPost_ret (v := .agg #[.int .i64 px, .int .i64 py]) ?_ rfl ?_
    · simp [results, Try.results108, go_sem, zn, z0, z1]
    · exact ⟨px, py, rfl, HE.out.1.more (by omega), HE.out.2⟩
end Go.Proofs.Ytihfdgnocdphcaa
