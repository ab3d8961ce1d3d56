/-
  Slices of points, compared, marked and held by the laws' helpers.
-/
import Derived.Test.YtihfdgnocdphcaaKind
import Derived.Test.YtihfdgnocdphcaaKWalk
import Derived.Test.YtihfdgnocdphcaaPts
import Derived.Test.YtihfdgnocdphcaaCompP
import Derived.Deep.RegionLaw
namespace Go.Proofs.Ytihfdgnocdphcaa
open Go.RowKit Knot

theorem drewBelow {V : World} : Below V.heap.size V V.drew := below_drewN _ _ 1
section
variable {w w' : World} {lo hi lo' hi' : Nat} {v u : Value} {l m : List (Int × Int)} {k0 : Int} {r : Bool}
/-- Points in memory: the row lies in blocks lo to hi. -/
structure PtsIn (w : World) (lo hi : Nat) (v : Value) (l : List (Int × Int)) : Prop where
  row : PRow w lo v l.length (ptF l)
  outer : ∀ g, v.ownBlock = some g → g < hi
  hi_le : hi ≤ w.heap.size
  len : l.length ≤ 1000
theorem PtsIn.keep (h : PtsIn w lo hi v l) (hs : w.heap.size ≤ w'.heap.size) (hb : ∀ g, lo ≤ g → g < hi → g < w.heap.size → w'.heap[g]? = w.heap[g]?) : PtsIn w' lo hi v l :=
  ⟨h.row.keep fun g hg hl => hb g (h.row.lt hg).1 (h.outer g hg) hl, h.outer, Nat.le_trans h.hi_le hs, h.len⟩
theorem PtsIn.below (h : PtsIn w lo hi v l) (hb : Below w.heap.size w w') : PtsIn w' lo hi v l := h.keep hb.size fun g _ _ hl => hb.block g hl
theorem PtsIn.alloc (h : PtsIn w lo hi v l) (o : Obj) : PtsIn (w.alloc o) lo hi v l := h.below (Joins.below_alloc1 _ _)
theorem PtsIn.chg (h : PtsIn w lo hi v l) (hb : Chg lo' hi' w w') (hd : hi ≤ lo' ∨ hi' ≤ lo) : PtsIn w' lo hi v l := h.keep hb.size fun g g0 g1 hl => hb.block g hl (by omega)
theorem PtsIn.wider (h : PtsIn w lo hi v l) (h1 : lo' ≤ lo) (h2 : hi ≤ hi') (h3 : hi' ≤ w.heap.size) : PtsIn w lo' hi' v l :=
  ⟨h.row.le h1, fun g hg => by have := h.outer g hg; omega, h3, h.len⟩
theorem PtsIn.nil (w : World) (lo hi : Nat) (h : hi ≤ w.heap.size) : PtsIn w lo hi (.slice none 0 0) [] :=
  ⟨World.ownsRow_nil w lo _ _, fun g hg => by simp [Value.ownBlock] at hg, h, by simp⟩
theorem PtsIn.open_ (h : PtsIn w lo hi v l) : ∃ A c, v = .slice A l.length c ∧ (0 < l.length → ∃ g, A = some ⟨g, 0, none⟩ ∧ lo ≤ g ∧ g < hi ∧ g < w.heap.size) := by
  obtain ⟨A, c, h1, _, h2⟩ := h.row.open_
  exact ⟨A, c, h1, fun h0 => by
    obtain ⟨g, e, hg0, hg⟩ := h2 h0
    subst e
    exact ⟨g, rfl, hg0, h.outer g (by rw [h1]; rfl), hg⟩⟩
/-- Points marked, from k0 on. -/
def markP (k0 : Int) (n : Nat) : List (Int × Int) := (List.range n).map fun i : Nat => (k0 + 2 * (i : Int), k0 + 2 * (i : Int) + 1)
theorem markP_length (k0 : Int) (n : Nat) : (markP k0 n).length = n := by simp [markP]
theorem markP_get {k0 : Int} {n i : Nat} (h : i < n) : (markP k0 n)[i]? = some (k0 + 2 * (i : Int), k0 + 2 * (i : Int) + 1) := by simp [markP, h]
theorem take_drop_pt {α : Type} {M cs : List α} {k : Nat} {y : α} (hl : M.length = cs.length) (hk : k < cs.length) (hy : M[k]? = some y) : (M.take k ++ cs.drop k).set k y = M.take (k + 1) ++ cs.drop (k + 1) := by
  have hkM : k < M.length := by omega
  have e0 : (M.take k).length = k := by rw [List.length_take]; omega
  rw [List.take_succ_eq_append_getElem hkM, List.drop_eq_getElem_cons hk, List.set_append_right _ _ (by omega), e0, Nat.sub_self, List.set_cons_zero, List.append_assoc]
  rw [List.getElem?_eq_getElem hkM] at hy
  injection hy with hy
  rw [hy]
  rfl
set_option maxRecDepth 20000 in
set_option maxHeartbeats 4000000 in
theorem K_eqPoints (h : PtsIn w lo hi v l) (k : PtsIn w lo' hi' u m) (hr : decide (l = m) = r) :
    Calls Try.prog 61 #[v, u] w fun e w' => e = .returned (.bool r) ∧ Below w.heap.size w w' := by
  obtain ⟨A, c, rfl, hA⟩ := h.open_
  obtain ⟨D, d, rfl, hD⟩ := k.open_
  have hlen := h.len
  have bl := Below.refl w.heap.size w
  by_cases hl : l.length = m.length
  · have t1 : ((l.length : Int) != (m.length : Int)) = false := by simp [hl]
    have HH := Lib.hid h.row
    have KK := Lib.hid k.row
    have HR := Lib.hid hr
    have HL := Lib.hid hl
    have HA := Lib.hid hA
    have HD := Lib.hid hD
    clear h k hr hA hD hl
    go_enter Try.func61, Try.ntmps61
    go_wp2
    go_loopw [5] (fun i wr => ∃ k : Nat, k ≤ l.length ∧ i = .int .i64 k ∧ Below w.heap.size w wr ∧ Hid (∀ j : Nat, j < k → l[j]? = m[j]?)) (fun i _ => l.length - (intOf i).toNat)
    case atStart => exact ⟨0, Nat.zero_le _, rfl, bl, Lib.hid fun j hj => absurd hj (by omega)⟩
    case round =>
      obtain ⟨k, hk, rfl, hb, hall⟩ := hrel
      by_cases hlt : k < l.length
      · have hlt2 : (k : Int) < l.length := by omega
        have hkm : k < m.length := by have := HL.out; omega
        have hlt3 : (k : Int) < m.length := by omega
        obtain ⟨g, hg, _, _, hgl0⟩ := HA.out (by omega)
        obtain ⟨g', hg', _, _, hgl0'⟩ := HD.out (by omega)
        subst hg hg'
        have hw := hb.size
        have hgl : g < wr.heap.size := by omega
        have hgl' : g' < wr.heap.size := by omega
        obtain ⟨c0, c1⟩ := (HH.out.below hb).at_ (i := k) hlt
        obtain ⟨d0, d1⟩ := (KK.out.below hb).at_ (i := k) hkm
        have ex : l[k]? = some l[k] := List.getElem?_eq_getElem hlt
        have ey : m[k]? = some m[k] := List.getElem?_eq_getElem hkm
        generalize l[k] = X at c0 c1 ex
        generalize m[k] = Y at d0 d1 ey
        obtain ⟨X1, X2⟩ := X
        obtain ⟨Y1, Y2⟩ := Y
        simp only [] at c0 c1 d0 d1
        have HXY := Lib.hid (And.intro ex ey)
        clear ex ey hgl0 hgl0' hw
        have HBB := Lib.hid hb
        clear hb
        by_cases he : X1 = Y1 ∧ X2 = Y2
        · have HDD : Hid (decide (X1 = Y1 ∧ X2 = Y2) = true) := Lib.hid (decide_eq_true he)
          have HN : Hid (∀ j : Nat, j < k + 1 → l[j]? = m[j]?) := Lib.hid fun j hj => by
            rcases Nat.lt_or_ge j k with hjk | hjk
            · exact hall.out j hjk
            · have e : j = k := by omega
              subst e
              rw [HXY.out.1, HXY.out.2, he.1, he.2]
          clear he
          go_wp2
          go_region_law (go_simp; go_at_call 25; (with_reducible refine (K_eqPoint HDD.out).mono ?_); rintro e w5 ⟨rfl, hb5⟩; have hB5 := bnext (w := wr) drewBelow hb5)
          all_goals
            have hB6 := bnext HBB.out hB5
            clear hb5 hB5
            go_wp2
            go_roundw
            case rel => exact ⟨k + 1, by omega, by go_num, hB6, HN⟩
            case measure => simp [intOf]; omega
        · have HDD : Hid (decide (X1 = Y1 ∧ X2 = Y2) = false) := Lib.hid (decide_eq_false he)
          have hrf : r = false := by
            rw [← HR.out]
            refine decide_eq_false fun e => he ?_
            have h1 := HXY.out.1
            rw [e, HXY.out.2] at h1
            injection h1 with h1
            injection h1 with h1 h2
            exact ⟨h1.symm, h2.symm⟩
          subst hrf
          clear he
          go_wp2
          go_region_law (go_simp; go_at_call 25; (with_reducible refine (K_eqPoint HDD.out).mono ?_); rintro e w5 ⟨rfl, hb5⟩; have hB5 := bnext (w := wr) drewBelow hb5)
          all_goals
            have hB6 := bnext HBB.out hB5
            clear hb5 hB5
            go_wp2
            go_ret
            exact ⟨rfl, hB6⟩
      · have e : k = l.length := by omega
        subst e
        have hfin : r = true := by
          rw [← HR.out]
          refine decide_eq_true (List.ext_getElem? fun j => ?_)
          have h2 := HL.out
          rcases Nat.lt_or_ge j l.length with hj | hj
          · exact hall.out j hj
          · rw [List.getElem?_eq_none (by omega), List.getElem?_eq_none (by omega)]
        subst hfin
        clear hall
        go_wp2
        go_ret
        exact ⟨rfl, hb⟩
  · have t1 : ((l.length : Int) != (m.length : Int)) = true := by simp; omega
    have hrf : r = false := by rw [← hr]; exact decide_eq_false fun e => hl (by rw [e])
    subst hrf
    clear h k hr hA hD hl
    go_enter Try.func61, Try.ntmps61
    go_wp2
    go_ret
    exact ⟨rfl, bl⟩
set_option maxRecDepth 20000 in
set_option maxHeartbeats 4000000 in
theorem K_markPoints (h : PtsIn w lo hi v l) (hk0 : 0 ≤ k0) (hk1 : k0 ≤ 100000000000) :
    Calls Try.prog 62 #[v, .int .i64 k0] w fun e w' => e = .returned (.int .i64 (k0 + 2 * (l.length : Int))) ∧ PtsIn w' lo hi v (markP k0 l.length) ∧ Chg lo hi w w' := by
  obtain ⟨A, c, rfl, hA⟩ := h.open_
  have hlen := h.len
  have hP := h.row
  have HE := Lib.hid (And.intro h.outer h.hi_le)
  have HA := Lib.hid hA
  obtain ⟨n, hn⟩ : ∃ n, l.length = n := ⟨_, rfl⟩
  have HN := Lib.hid hn
  rw [hn] at hlen hP ⊢
  have h0 : PRow w lo (.slice A n c) n (ptF ((markP k0 n).take 0 ++ l.drop 0)) := by simpa using hP
  rw [hn] at HA HE
  clear h hA hP hn
  go_enter Try.func62, Try.ntmps62
  go_wp2
  go_loopw [1, 5] (fun s i wr => ∃ k : Nat, k ≤ n ∧ i = .int .i64 k ∧ s = .int .i64 (k0 + 2 * (k : Int)) ∧ PRow wr lo (.slice A n c) n (ptF ((markP k0 n).take k ++ l.drop k)) ∧ Chg lo hi w wr) (fun _ i _ => n - (intOf i).toNat)
  case atStart => exact ⟨0, Nat.zero_le _, rfl, by simp, h0, Chg.ofBelow (Below.refl _ _)⟩
  case round =>
    obtain ⟨k, hk, rfl, rfl, hP, hc⟩ := hrel
    clear h0
    by_cases hlt : k < n
    · have hlt2 : (k : Int) < n := by omega
      obtain ⟨g, hg, hg0, hg1, hgl0⟩ := HA.out (by omega)
      subst hg
      have hlk : ((markP k0 n).take k ++ l.drop k).length = n := by
        have := HN.out
        rw [List.length_append, List.length_take, List.length_drop, markP_length]
        omega
      have b0 := hP.cell (j := k * 2) (by omega)
      have b1 := hP.cell (j := k * 2 + 1) (by omega)
      have f0 := hP.free (k * 2)
      have f1 := hP.free (k * 2 + 1)
      have hgl : g < wr.heap.size := by have := hc.size; omega
      have hset := take_drop_pt (M := markP k0 n) (cs := l) (k := k) (by rw [markP_length, HN.out]) (by rw [HN.out]; exact hlt) (markP_get hlt)
      have HP2 : Hid (PRow ((wr.setCell ⟨g, k * 2, none⟩ (.int .i64 (k0 + 2 * (k : Int)))).setCell ⟨g, k * 2 + 1, none⟩ (.int .i64 (k0 + 2 * (k : Int) + 1))) lo (.slice (some ⟨g, 0, none⟩) n c) n (ptF ((markP k0 n).take (k + 1) ++ l.drop (k + 1)))) := Lib.hid (by
        rw [← hset, ptF_set]
        exact (hP.set_ _ _).set_ _ _)
      have HC2 : Hid (Chg lo hi w ((wr.setCell ⟨g, k * 2, none⟩ (.int .i64 (k0 + 2 * (k : Int)))).setCell ⟨g, k * 2 + 1, none⟩ (.int .i64 (k0 + 2 * (k : Int) + 1)))) := Lib.hid ((hc.cell1 hg0 hg1 _).cell1 hg0 hg1 _)
      clear hP hc hset hlk
      generalize gI (ptF ((markP k0 n).take k ++ l.drop k)) ((k * 2 : Nat) : Int) = o0 at b0
      generalize gI (ptF ((markP k0 n).take k ++ l.drop k)) ((k * 2 + 1 : Nat) : Int) = o1 at b1
      go_wp2
      go_roundw
      case rel => exact ⟨k + 1, by omega, by go_num, by go_num, HP2.out, HC2.out⟩
      case measure => simp [intOf]; omega
    · have e : k = n := by omega
      subst e
      have HPE : Hid (PtsIn wr lo hi (.slice A k c) (markP k0 k)) := Lib.hid (by
        have h1 := hP
        rw [List.drop_of_length_le (by rw [HN.out]; exact Nat.le_refl _), List.append_nil, List.take_of_length_le (by rw [markP_length]; exact Nat.le_refl _)] at h1
        exact ⟨by rw [markP_length]; exact h1, HE.out.1, Nat.le_trans HE.out.2 hc.size, by rw [markP_length]; exact hlen⟩)
      clear hP
      go_wp2
      go_ret
      exact ⟨rfl, HPE.out, hc⟩
set_option maxRecDepth 20000 in
set_option maxHeartbeats 4000000 in
theorem K_heldPoints {n : Nat} (h : PtsIn w lo hi v (markP k0 n)) (hk0 : 0 ≤ k0) (hk1 : k0 ≤ 100000000000) :
    Calls Try.prog 63 #[v, .int .i64 k0] w fun e w' => e = .returned (.int .i64 (k0 + 2 * (n : Int))) ∧ Below w.heap.size w w' := by
  obtain ⟨A, c, rfl, hA⟩ := h.open_
  have hlen := h.len
  have hP := Lib.hid h.row
  rw [markP_length] at hlen hP hA ⊢
  have HA := Lib.hid hA
  clear h hA
  go_enter Try.func63, Try.ntmps63
  go_wp2
  go_loop [1, 5] (fun s i => ∃ k : Nat, k ≤ n ∧ i = .int .i64 k ∧ s = .int .i64 (k0 + 2 * (k : Int))) (fun _ i => n - (intOf i).toNat)
  case atStart => exact ⟨0, Nat.zero_le _, rfl, by simp⟩
  case round =>
    obtain ⟨k, hk, rfl, rfl⟩ := hrel
    by_cases hlt : k < n
    · have hlt2 : (k : Int) < n := by omega
      obtain ⟨g, hg, _, _, hgl⟩ := HA.out (by omega)
      subst hg
      have hP2 : PRow w lo (.slice (some ⟨g, 0, none⟩) n c) (markP k0 n).length (ptF (markP k0 n)) := by rw [markP_length]; exact hP.out
      obtain ⟨b0, b1⟩ := hP2.at_ (i := k) (by rw [markP_length]; exact hlt)
      have e := markP_get (k0 := k0) hlt
      rw [List.getElem?_eq_getElem (by rw [markP_length]; exact hlt)] at e
      injection e with e
      rw [e] at b0 b1
      simp only [] at b0 b1
      clear e hP2
      go_wp2
      go_round
      case rel => exact ⟨k + 1, by omega, by go_num, by go_num⟩
      case measure => simp [intOf]; omega
    · have e : k = n := by omega
      subst e
      go_wp2
      go_ret
      exact ⟨rfl, Below.refl _ _⟩
end
end Go.Proofs.Ytihfdgnocdphcaa
