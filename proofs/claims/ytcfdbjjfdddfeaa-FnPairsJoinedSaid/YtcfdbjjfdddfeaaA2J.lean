/-
  A valid Joined as the reference draws it.
-/
import Derived.Test.YtcfdbjjfdddfeaaSrcB
import Derived.Test.YtcfdbjjfdddfeaaPick
import Derived.Test.YtcfdbjjfdddfeaaNewJ
import Derived.Test.YtcfdbjjfdddfeaaJoinB
import Derived.Test.YtcfdbjjfdddfeaaFndC
namespace Go.Proofs.Ytcfdbjjfdddfeaa
open Go.RowKit Knot

theorem ok_joinAt {xs ys : List Int} (h : OkJ xs ys) {a c : Int} (a0 : 0 ≤ a) (a1 : a < xs.length) (c0 : 0 ≤ c) (c1 : c < xs.length) : OkJ (joinR xs ys (root xs a) (root xs c)).1 (joinR xs ys (root xs a) (root xs c)).2 := by
  obtain ⟨r0, r1, r2⟩ := root_spec h.forest a0 a1
  obtain ⟨s0, s1, s2⟩ := root_spec h.forest c0 c1
  exact h.join r0 r1 s0 s1 r2 s2
theorem joinR_length (xs ys : List Int) (x y : Int) : (joinR xs ys x y).1.length = xs.length := by
  unfold joinR
  split <;> simp
theorem ok_upFrom {n : Nat} (h1 : 1 ≤ n) (h2 : n ≤ 256) : OkJ (upFrom 0 n) [] := by
  have hg : ∀ k : Int, 0 ≤ k → k < n → gI (Go.Proofs.Ytcfdbjjfdddfeaa.upFrom 0 n) k = k := fun k k0 k1 => by
    obtain ⟨m, rfl⟩ := Int.eq_ofNat_of_zero_le k0
    rw [gI_nat _ _ (by rw [upFrom_length]; omega)]
    simp [Go.Proofs.Ytcfdbjjfdddfeaa.upFrom]
  refine ⟨by rw [upFrom_length]; exact h1, by rw [upFrom_length]; exact h2, ?_, ?_, by simp, by simp, by simp, ?_, by simp⟩
  · intro k k0 k1
    rw [upFrom_length] at k1
    rw [hg k k0 k1]
    exact k0
  · intro k k0 k1
    rw [upFrom_length] at k1 ⊢
    rw [hg k k0 k1]
    exact k1
  · intro k k0 k1
    rw [upFrom_length] at k1
    rw [hg k k0 k1]
    simp
set_option maxHeartbeats 8000000 in
theorem l08Draw_any {w : World} {b m : Nat} (hs : Src w b m) (hm : m ≤ 100000000) :
    Calls Try.prog 70 #[.pointer (some ⟨b, 0, none⟩)] w fun e w' => ∃ A c D d xs ys, e = .returned (.agg #[.slice A xs.length c, .slice D ys.length d]) ∧ OkJ xs ys ∧ xs.length ≤ 14 ∧
      JoinedIn w' w.heap.size w'.heap.size (.slice A xs.length c) (.slice D ys.length d) xs ys ∧ Src w' b (m + 100) ∧ Chg b (b + 1) w w' := by
  have hbl := hs.lt
  have bl := Joins.below_alloc1 w (.cells #[.slice none 0 0, .slice none 0 0] 27)
  have hS0 := hs.below bl
  have r0 := Box.new w 27 #[.slice none 0 0, .slice none 0 0]
  have hc0 : Chg b (b + 1) w (w.alloc (.cells #[.slice none 0 0, .slice none 0 0] 27)) := Chg.ofBelow bl
  have hsz0 : (w.alloc (.cells #[.slice none 0 0, .slice none 0 0] 27)).heap.size = w.heap.size + 1 := World.size_alloc _ _
  clear hs bl
  go_enter Try.func70, Try.ntmps70
  go_wp2_with fail
  generalize hV : w.alloc (.cells #[.slice none 0 0, .slice none 0 0] 27) = V at *
  clear hV
  refine (src_pick hS0 (by omega) (by omega)).mono ?_
  rintro e w2 ⟨x, rfl, x0, x1, _, hS, hc⟩
  have x2 := x1 (by omega)
  replace r0 := r0.chgb hc (by omega)
  replace hc := hc0.trans hc
  clear hS0 hc0 x1
  have hsz := r0.lt
  obtain ⟨n, rfl⟩ := Int.eq_ofNat_of_zero_le x0
  go_wp2_with fail
  have HN : ((1 : Int) + (n : Int)) = ((n + 1 : Nat) : Int) := by omega
  try rw [HN]
  refine (l08New_any (n + 1) (by omega) _).mono ?_
  rintro e w3 ⟨A, c, D, d, rfl, hJ, hb⟩
  replace r0 := r0.below hb
  replace hS := hS.below hb
  replace hc := hc.trans (Chg.ofBelow hb)
  clear HN
  obtain ⟨pj, hpj⟩ : ∃ pj, w3.heap.size = pj := ⟨_, rfl⟩
  have hsz3 := hc.size
  have bj := Box.new w3 27 #[.slice A (n + 1) c, .slice D 0 d]
  have hbz := Joins.below_alloc1 w3 (.cells #[.slice A (n + 1) c, .slice D 0 d] 27)
  have hJO : JOwn (w3.alloc (.cells #[.slice A (n + 1) c, .slice D 0 d] 27)) (w.heap.size + 1) w3.heap.size (.slice A (n + 1) c) (.slice D 0 d) (upFrom 0 (n + 1)) [] := by
    have e1 := hJ.1.1
    have e2 := hJ.2.1.1
    have sz2 := hb.size
    refine ⟨bj, by omega, Row.below (Row.le e1 (by omega)) hbz, Row.below (Row.le e2 (by omega)) hbz, fun k hk => ⟨?_, hJ.2.2 k hk⟩, fun k hk => ?_⟩
    · have := (Row.lt e1 hk).2
      omega
    · have := (Row.lt e2 hk).2
      omega
  replace r0 := r0.below hbz
  replace hS := hS.below hbz
  replace hc := hc.trans (Chg.ofBelow hbz)
  have hszj : (w3.alloc (.cells #[.slice A (n + 1) c, .slice D 0 d] 27)).heap.size = pj + 1 := by rw [World.size_alloc, hpj]
  rw [hpj] at hJO
  clear hJ hb hbz bj
  have q0 := hJO.1.cell 0
  have qn := hJO.1.lt
  simp only [List.getElem?_toArray, List.getElem?_cons_zero, List.getElem?_cons_succ] at q0
  go_wp2_with fail
  try rw [hpj]
  generalize hV : w3.alloc (.cells #[.slice A (n + 1) c, .slice D 0 d] 27) = V3 at *
  clear hV q0 qn
  refine (src_pick hS (by omega) (by omega)).mono ?_
  rintro e w4 ⟨y, rfl, y0, y1, _, hS4, hc4⟩
  have y2 := y1 (by omega)
  obtain ⟨t, rfl⟩ := Int.eq_ofNat_of_zero_le y0
  have hpb : pj ≠ b := by omega
  have hJ4 : JOwn w4 (w.heap.size + 1) pj (.slice A (n + 1) c) (.slice D 0 d) (upFrom 0 (n + 1)) [] :=
    ⟨hJO.1.chgb hc4 hpb, hJO.2.1, Row.chgb hJO.2.2.1 hc4 (by omega), Row.chgb hJO.2.2.2.1 hc4 (by omega), hJO.2.2.2.2⟩
  replace r0 := r0.chgb hc4 (by omega)
  replace hc4 := hc.trans hc4
  have hO0 := ok_upFrom (n := n + 1) (by omega) (by omega)
  have HU := Lib.hid (upFrom_length 0 (n + 1))
  have HO0 := Lib.hid hO0
  clear hS hc hJO y1 hO0 hsz3 hszj
  go_wp2
  go_loopw [5] (fun s wr => ∃ (k : Nat) (xs ys : List Int) (u : Value), k ≤ t ∧ s = .int .i64 k ∧ OkJ xs ys ∧ xs.length = n + 1 ∧ JOwn wr (w.heap.size + 1) pj (.slice A (n + 1) c) u xs ys ∧ Src wr b (m + 2 + 2 * (t - k)) ∧ Chg b (b + 1) w wr ∧ Box wr w.heap.size 27 #[.slice none 0 0, .slice none 0 0]) (fun s _ => (intOf s).toNat)
  case atStart => exact ⟨t, upFrom 0 (n + 1), [], _, Nat.le_refl _, rfl, HO0.out, HU.out, hJ4, hS4.more (by omega), hc4, r0⟩
  case round =>
    obtain ⟨k, xs, ys, u, hk, rfl, ho, hl, hJ, hS, hc, hr⟩ := hrel
    have hsz4 := hc.size
    by_cases hlt : 0 < k
    · have i1 : (0 : Int) < (k : Int) := by omega
      clear hJ4 hS4 hc4 r0
      have HO := Lib.hid ho
      have HL := Lib.hid hl
      clear ho hl
      go_wp2_with fail
      refine (src_pick hS (by omega) (by omega)).mono ?_
      rintro e w5 ⟨a, rfl, a0, a1, _, hS5, hc5⟩
      have a2 := a1 (by omega)
      replace hJ : JOwn w5 (w.heap.size + 1) pj (.slice A (n + 1) c) u xs ys :=
        ⟨hJ.1.chgb hc5 hpb, hJ.2.1, Row.chgb hJ.2.2.1 hc5 (by omega), Row.chgb hJ.2.2.2.1 hc5 (by omega), hJ.2.2.2.2⟩
      replace hr := hr.chgb hc5 (by omega)
      replace hc := hc.trans hc5
      clear hS hc5 a1
      go_wp2_with fail
      refine (src_pick hS5 (by omega) (by omega)).mono ?_
      rintro e w6 ⟨z, rfl, z0, z1, _, hS6, hc6⟩
      have z2 := z1 (by omega)
      replace hJ : JOwn w6 (w.heap.size + 1) pj (.slice A (n + 1) c) u xs ys :=
        ⟨hJ.1.chgb hc6 hpb, hJ.2.1, Row.chgb hJ.2.2.1 hc6 (by omega), Row.chgb hJ.2.2.2.1 hc6 (by omega), hJ.2.2.2.2⟩
      replace hr := hr.chgb hc6 (by omega)
      replace hc := hc.trans hc6
      clear hS5 hc6 z1
      go_wp2_with fail
      refine (l08Join_any hJ HO.out a0 (by rw [HL.out]; omega) z0 (by rw [HL.out]; omega)).mono ?_
      rintro e w7 ⟨u', rfl, hJ7, hb7⟩
      have hsz6 := hc.size
      have HJ := Lib.hid hJ7
      have HS := Lib.hid (hS6.keep (w' := w7) fun j hj _ => hb7.block j (by omega))
      have HR := Lib.hid ((hb7.block w.heap.size (by omega)).trans hr)
      have HC : Hid (Chg b (b + 1) w w7) := Lib.hid ⟨hb7.os.trans hc.os, hb7.tape.trans hc.tape, hb7.output.trans hc.output, Nat.le_trans hc.size hb7.size, fun j hj hd => (hb7.block j (by omega)).trans (hc.block j hj hd)⟩
      clear hJ hJ7 hb7 hS6 hc hr hsz6
      go_wp2
      go_roundw
      case rel => exact ⟨k - 1, _, _, u', by omega, by go_num, ok_joinAt HO.out a0 (by rw [HL.out]; omega) z0 (by rw [HL.out]; omega), by rw [joinR_length]; exact HL.out, HJ.out, HS.out.more (by omega), HC.out, HR.out⟩
      case measure => simp [intOf]; omega
    · have e : k = 0 := by omega
      subst e
      have hw : w.heap.size ≤ w.heap.size := Nat.le_refl _
      have q0 := hJ.1.cell 0
      have q1 := hJ.1.cell 1
      have p0 := hr.cell 0
      have p1 := hr.cell 1
      have pf0 := hr.free 0
      have pf1 := hr.free 1
      have qn := hJ.1.lt
      have rn := hr.lt
      obtain ⟨D', d', rfl, _, _⟩ := hJ.2.2.2.1.open_
      simp only [List.getElem?_toArray, List.getElem?_cons_zero, List.getElem?_cons_succ] at q0 q1 p0 p1
      have h1 : Ints wr (w.heap.size + 1) (.slice A (n + 1) c) xs := hJ.2.2.1
      have h2 := hJ.2.2.2.1
      have hx1 : ∀ j, (Value.slice A (n + 1) c).ownBlock = some j → j ≠ w.heap.size := fun j hj => by have := (Row.lt h1 hj).1; omega
      have hx2 : ∀ j, (Value.slice D' ys.length d').ownBlock = some j → j ≠ w.heap.size := fun j hj => by have := (Row.lt h2 hj).1; omega
      have HJ : Hid (JoinedIn ((wr.setCell ⟨w.heap.size, 0, none⟩ (.slice A (n + 1) c)).setCell ⟨w.heap.size, 1, none⟩ (.slice D' ys.length d')) w.heap.size ((wr.setCell ⟨w.heap.size, 0, none⟩ (.slice A (n + 1) c)).setCell ⟨w.heap.size, 1, none⟩ (.slice D' ys.length d')).heap.size (.slice A (n + 1) c) (.slice D' ys.length d') xs ys) := Lib.hid ⟨IntsIn.ofInts (Row.le (Row.setCell (Row.setCell h1 (p := ⟨w.heap.size, 0, none⟩) hx1 _) (p := ⟨w.heap.size, 1, none⟩) hx1 _) (by omega)) (by omega), IntsIn.ofInts (Row.le (Row.setCell (Row.setCell h2 (p := ⟨w.heap.size, 0, none⟩) hx2 _) (p := ⟨w.heap.size, 1, none⟩) hx2 _) (by omega)) (by have := nodup_length_le ho.nd ho.llo ho.lhi; omega), fun j hj => (hJ.2.2.2.2.1 j hj).2⟩
      have HS := Lib.hid ((hS.put (p := ⟨w.heap.size, 0, none⟩) hbl (.slice A (n + 1) c)).put (p := ⟨w.heap.size, 1, none⟩) hbl (.slice D' ys.length d'))
      have HC := Lib.hid ((hc.put (p := ⟨w.heap.size, 0, none⟩) hw (.slice A (n + 1) c)).put (p := ⟨w.heap.size, 1, none⟩) hw (.slice D' ys.length d'))
      have HO := Lib.hid ho
      have HL := Lib.hid hl
      clear hJ hS hc hr h1 h2 hx1 hx2 hJ4 hS4 hc4 r0 ho hl
      go_wp2_with fail
      refine bodyPost_ret (v := .agg #[.slice A (n + 1) c, .slice D' ys.length d']) ?_ rfl ?_
      · simp [results, Try.results70, go_sem, rn, p0, p1, q0, q1]
      · exact ⟨A, c, D', d', xs, ys, by rw [HL.out], HO.out, by rw [HL.out]; omega, by rw [HL.out]; exact HJ.out, HS.out.more (by omega), HC.out⟩
end Go.Proofs.Ytcfdbjjfdddfeaa
