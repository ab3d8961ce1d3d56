/-
  Joined values: copied, compared, as the laws, the program and the reference do.
-/
import Derived.Test.YtcfdbjjfdddfeaaFndC
import Derived.Lib.SmallJoins
namespace Go.Proofs.Ytcfdbjjfdddfeaa
open Go.RowKit Knot

set_option maxHeartbeats 1000000 in
theorem toJoined_any (a : Option Addr) (len cap : Nat) (zs : List Int) (b : Option Addr) (len2 cap2 : Nat) (ys : List Int) (w : World) (hr : IsRow .i64 w a len cap zs) (hs : IsRow .i64 w b len2 cap2 ys) (h1 : len ≤ 1048576) (h2 : len2 ≤ 1048576) :
    Calls Try.prog 17 #[.agg #[.slice a len cap, .slice b len2 cap2]] w fun e w' => ∃ g h, e = .returned (.agg #[.slice (some ⟨g, 0, none⟩) len len, .slice (some ⟨h, 0, none⟩) len2 len2]) ∧
      Ints w' w.heap.size (.slice (some ⟨g, 0, none⟩) len len) (zs.take len) ∧ Ints w' w.heap.size (.slice (some ⟨h, 0, none⟩) len2 len2) (ys.take len2) ∧ g ≠ h ∧ Below w.heap.size w w' := by
  go_enter Try.func17, Try.ntmps17
  go_wp2_with fail
  refine (toInt64S_any a len cap zs _ (hr.below (Joins.below_alloc3 _ _ _ _)) h1).mono ?_
  rintro e w1 ⟨g, rfl, hv, hb⟩
  obtain ⟨hc, hf⟩ := bcell hb
  have B1 : Below w.heap.size w w1 := bnext (Joins.below_alloc3 _ _ _ _) hb
  have n2 : w.heap.size + 1 + 1 < w1.heap.size := by have := hb.size; simp at this; omega
  have n1 : w.heap.size + 1 < w1.heap.size := by omega
  have n0 : w.heap.size < w1.heap.size := by omega
  go_wp2_with fail
  refine (toInt64S_any b len2 cap2 ys _ (hs.below (B1.setCell (p := ⟨w.heap.size + 1 + 1, 0, none⟩) (by show _ ≤ _ + 1 + 1; omega) _)) h2).mono ?_
  rintro e w2 ⟨h, rfl, hv2, hb2⟩
  obtain ⟨hc2, hf2⟩ := bcell hb2
  have z2 : w1.heap.size ≤ w2.heap.size := by have := hb2.size; simpa using this
  go_wp2_with fail
  refine bodyPost_ret (v := .agg #[.slice (some ⟨g, 0, none⟩) len len, .slice (some ⟨h, 0, none⟩) len2 len2]) ?_ rfl ?_
  · simp [results, Try.results17, go_sem, hc, hf, hc2, hf2, n0, n1, n2]
  · refine ⟨g, h, rfl, ?_, ?_, ?_, ?_⟩
    · refine Row.setCell (Row.setCell (Row.setCell ((Row.setCell hv ?_ _).below hb2) ?_ _) ?_ _) ?_ _ |>.le (by simp; omega) <;> (intro x hx; have := hv.lt hx; simp at this ⊢; omega)
    · refine Row.setCell (Row.setCell (Row.setCell hv2 ?_ _) ?_ _) ?_ _ |>.le (by simp; omega) <;> (intro x hx; have := hv2.lt hx; simp at this ⊢; omega)
    · have a1 := hv.lt (ownBlock_slice g len len)
      have a2 := hv2.lt (ownBlock_slice h len2 len2)
      simp at a1 a2
      omega
    · refine (((bnext (B1.setCell ?_ _) hb2).setCell ?_ _).setCell ?_ _).setCell ?_ _ <;> (show _ ≤ _; simp; try omega)
set_option maxHeartbeats 1000000 in
theorem eqJoined_any (v1 v2 u1 u2 : Value) (a b c d : List Int) (w : World) (h1 : Ints w 0 v1 a) (h2 : Ints w 0 v2 b) (k1 : Ints w 0 u1 c) (k2 : Ints w 0 u2 d) (r : Bool) (hr : decide (a = c ∧ b = d) = r) :
    Calls Try.prog 19 #[.agg #[v1, v2], .agg #[u1, u2]] w fun e w' => e = .returned (.bool r) ∧ Below w.heap.size w w' := by
  obtain ⟨A1, c1, rfl, _, _⟩ := h1.open_
  obtain ⟨A2, c2, rfl, _, _⟩ := h2.open_
  obtain ⟨A3, c3, rfl, _, _⟩ := k1.open_
  obtain ⟨A4, c4, rfl, _, _⟩ := k2.open_
  have bl := Joins.below_alloc2 w (.cells #[.slice A1 a.length c1, .slice A2 b.length c2] 27) (.cells #[.slice A3 c.length c3, .slice A4 d.length c4] 27)
  by_cases e1 : a = c
  · have q1 : decide (a = c) = true := decide_eq_true e1
    by_cases e2 : b = d
    · have q2 : decide (b = d) = true := decide_eq_true e2
      have hrt : r = true := by rw [← hr]; exact decide_eq_true ⟨e1, e2⟩
      subst hrt
      have Q1 := Lib.hid q1
      have Q2 := Lib.hid q2
      clear e1 e2 q1 q2 hr
      go_enter Try.func19, Try.ntmps19
      go_wp2_with fail
      refine (eqInt64S_any _ _ a c _ 0 0 (h1.below bl) (k1.below bl) true Q1.out).mono ?_
      rintro e w' ⟨rfl, n, rfl⟩
      go_wp2_with fail
      refine (eqInt64S_any _ _ b d _ 0 0 ((h2.below bl).drewN _) ((k2.below bl).drewN _) true Q2.out).mono ?_
      rintro e w' ⟨rfl, m, rfl⟩
      go_wp2_with fail
      go_ret
      exact ⟨rfl, bnext bl (below_drewN _ _ _)⟩
    · have q2 : decide (b = d) = false := decide_eq_false e2
      have hrf : r = false := by rw [← hr]; exact decide_eq_false fun h => e2 h.2
      subst hrf
      have Q1 := Lib.hid q1
      have Q2 := Lib.hid q2
      clear e1 e2 q1 q2 hr
      go_enter Try.func19, Try.ntmps19
      go_wp2_with fail
      refine (eqInt64S_any _ _ a c _ 0 0 (h1.below bl) (k1.below bl) true Q1.out).mono ?_
      rintro e w' ⟨rfl, n, rfl⟩
      go_wp2_with fail
      refine (eqInt64S_any _ _ b d _ 0 0 ((h2.below bl).drewN _) ((k2.below bl).drewN _) false Q2.out).mono ?_
      rintro e w' ⟨rfl, m, rfl⟩
      go_wp2_with fail
      go_ret
      exact ⟨rfl, bnext bl (below_drewN _ _ _)⟩
  · have q1 : decide (a = c) = false := decide_eq_false e1
    have hrf : r = false := by rw [← hr]; exact decide_eq_false fun h => e1 h.1
    subst hrf
    have Q1 := Lib.hid q1
    clear e1 q1 hr
    go_enter Try.func19, Try.ntmps19
    go_wp2_with fail
    refine (eqInt64S_any _ _ a c _ 0 0 (h1.below bl) (k1.below bl) false Q1.out).mono ?_
    rintro e w' ⟨rfl, n, rfl⟩
    go_wp2_with fail
    go_ret
    exact ⟨rfl, bnext bl (below_drewN _ _ _)⟩
set_option maxHeartbeats 1000000 in
theorem SameJoined_any (v1 v2 u1 u2 : Value) (a b c d : List Int) (w : World) (h1 : Ints w 0 v1 a) (h2 : Ints w 0 v2 b) (k1 : Ints w 0 u1 c) (k2 : Ints w 0 u2 d) (r : Bool) (hr : decide (a = c ∧ b = d) = r) :
    Calls Try.prog 18 #[.agg #[v1, v2], .agg #[u1, u2]] w fun e w' => e = .returned (.bool r) ∧ Below w.heap.size w w' := by
  obtain ⟨A1, c1, rfl, _, _⟩ := h1.open_
  obtain ⟨A2, c2, rfl, _, _⟩ := h2.open_
  obtain ⟨A3, c3, rfl, _, _⟩ := k1.open_
  obtain ⟨A4, c4, rfl, _, _⟩ := k2.open_
  have bl := Joins.below_alloc2 w (.cells #[.slice A1 a.length c1, .slice A2 b.length c2] 27) (.cells #[.slice A3 c.length c3, .slice A4 d.length c4] 27)
  by_cases e1 : a = c
  · have q1 : decide (a = c) = true := decide_eq_true e1
    by_cases e2 : b = d
    · have q2 : decide (b = d) = true := decide_eq_true e2
      have hrt : r = true := by rw [← hr]; exact decide_eq_true ⟨e1, e2⟩
      subst hrt
      have Q1 := Lib.hid q1
      have Q2 := Lib.hid q2
      clear e1 e2 q1 q2 hr
      go_enter Try.func18, Try.ntmps18
      go_wp2_with fail
      refine (Equal_any _ _ a c _ 0 0 (h1.below bl) (k1.below bl) true Q1.out).mono ?_
      rintro e w' ⟨rfl, n, rfl⟩
      go_wp2_with fail
      refine (Equal_any _ _ b d _ 0 0 ((h2.below bl).drewN _) ((k2.below bl).drewN _) true Q2.out).mono ?_
      rintro e w' ⟨rfl, m, rfl⟩
      go_wp2_with fail
      go_ret
      exact ⟨rfl, bnext bl (below_drewN _ _ _)⟩
    · have q2 : decide (b = d) = false := decide_eq_false e2
      have hrf : r = false := by rw [← hr]; exact decide_eq_false fun h => e2 h.2
      subst hrf
      have Q1 := Lib.hid q1
      have Q2 := Lib.hid q2
      clear e1 e2 q1 q2 hr
      go_enter Try.func18, Try.ntmps18
      go_wp2_with fail
      refine (Equal_any _ _ a c _ 0 0 (h1.below bl) (k1.below bl) true Q1.out).mono ?_
      rintro e w' ⟨rfl, n, rfl⟩
      go_wp2_with fail
      refine (Equal_any _ _ b d _ 0 0 ((h2.below bl).drewN _) ((k2.below bl).drewN _) false Q2.out).mono ?_
      rintro e w' ⟨rfl, m, rfl⟩
      go_wp2_with fail
      go_ret
      exact ⟨rfl, bnext bl (below_drewN _ _ _)⟩
  · have q1 : decide (a = c) = false := decide_eq_false e1
    have hrf : r = false := by rw [← hr]; exact decide_eq_false fun h => e1 h.1
    subst hrf
    have Q1 := Lib.hid q1
    clear e1 q1 hr
    go_enter Try.func18, Try.ntmps18
    go_wp2_with fail
    refine (Equal_any _ _ a c _ 0 0 (h1.below bl) (k1.below bl) false Q1.out).mono ?_
    rintro e w' ⟨rfl, n, rfl⟩
    go_wp2_with fail
    go_ret
    exact ⟨rfl, bnext bl (below_drewN _ _ _)⟩
set_option maxHeartbeats 1000000 in
theorem sSameJoined_any (v1 v2 u1 u2 : Value) (a b c d : List Int) (w : World) (h1 : Ints w 0 v1 a) (h2 : Ints w 0 v2 b) (k1 : Ints w 0 u1 c) (k2 : Ints w 0 u2 d) (r : Bool) (hr : decide (a = c ∧ b = d) = r) :
    Calls Try.prog 16 #[.agg #[v1, v2], .agg #[u1, u2]] w fun e w' => e = .returned (.bool r) ∧ Below w.heap.size w w' := by
  obtain ⟨A1, c1, rfl, _, _⟩ := h1.open_
  obtain ⟨A2, c2, rfl, _, _⟩ := h2.open_
  obtain ⟨A3, c3, rfl, _, _⟩ := k1.open_
  obtain ⟨A4, c4, rfl, _, _⟩ := k2.open_
  have bl := Joins.below_alloc2 w (.cells #[.slice A1 a.length c1, .slice A2 b.length c2] 27) (.cells #[.slice A3 c.length c3, .slice A4 d.length c4] 27)
  by_cases e1 : a = c
  · have q1 : decide (a = c) = true := decide_eq_true e1
    by_cases e2 : b = d
    · have q2 : decide (b = d) = true := decide_eq_true e2
      have hrt : r = true := by rw [← hr]; exact decide_eq_true ⟨e1, e2⟩
      subst hrt
      have Q1 := Lib.hid q1
      have Q2 := Lib.hid q2
      clear e1 e2 q1 q2 hr
      go_enter Try.func16, Try.ntmps16
      go_wp2_with fail
      refine (l00Same_any _ _ a c _ 0 0 (h1.below bl) (k1.below bl) true Q1.out).mono ?_
      rintro e w' ⟨rfl, n, rfl⟩
      go_wp2_with fail
      refine (l00Same_any _ _ b d _ 0 0 ((h2.below bl).drewN _) ((k2.below bl).drewN _) true Q2.out).mono ?_
      rintro e w' ⟨rfl, m, rfl⟩
      go_wp2_with fail
      go_ret
      exact ⟨rfl, bnext bl (below_drewN _ _ _)⟩
    · have q2 : decide (b = d) = false := decide_eq_false e2
      have hrf : r = false := by rw [← hr]; exact decide_eq_false fun h => e2 h.2
      subst hrf
      have Q1 := Lib.hid q1
      have Q2 := Lib.hid q2
      clear e1 e2 q1 q2 hr
      go_enter Try.func16, Try.ntmps16
      go_wp2_with fail
      refine (l00Same_any _ _ a c _ 0 0 (h1.below bl) (k1.below bl) true Q1.out).mono ?_
      rintro e w' ⟨rfl, n, rfl⟩
      go_wp2_with fail
      refine (l00Same_any _ _ b d _ 0 0 ((h2.below bl).drewN _) ((k2.below bl).drewN _) false Q2.out).mono ?_
      rintro e w' ⟨rfl, m, rfl⟩
      go_wp2_with fail
      go_ret
      exact ⟨rfl, bnext bl (below_drewN _ _ _)⟩
  · have q1 : decide (a = c) = false := decide_eq_false e1
    have hrf : r = false := by rw [← hr]; exact decide_eq_false fun h => e1 h.1
    subst hrf
    have Q1 := Lib.hid q1
    clear e1 q1 hr
    go_enter Try.func16, Try.ntmps16
    go_wp2_with fail
    refine (l00Same_any _ _ a c _ 0 0 (h1.below bl) (k1.below bl) false Q1.out).mono ?_
    rintro e w' ⟨rfl, n, rfl⟩
    go_wp2_with fail
    go_ret
    exact ⟨rfl, bnext bl (below_drewN _ _ _)⟩
set_option maxHeartbeats 1000000 in
theorem szJoined_any (a : Option Addr) (len cap : Nat) (b : Option Addr) (len2 cap2 : Nat) (left : Int) (w : World) (h0 : 0 ≤ left) (h1 : left ≤ 1048576) (l1 : len ≤ 9223372036854775807) (l2 : len2 ≤ 9223372036854775807) :
    Calls Try.prog 15 #[.agg #[.slice a len cap, .slice b len2 cap2], .int .i64 left] w fun e w' => e = .returned (.int .i64 (if (len : Int) + len2 ≤ left then left - len - len2 else -1)) ∧ Below w.heap.size w w' := by
  have bl := Joins.below_alloc1 w (.cells #[.slice a len cap, .slice b len2 cap2] 24)
  by_cases e1 : (len : Int) ≤ left
  · have q1 : (if (len : Int) ≤ left then left - len else -1) = left - len := if_pos e1
    by_cases e2 : (len : Int) + len2 ≤ left
    · have q2 : (if (len2 : Int) ≤ left - len then left - len - len2 else -1) = left - len - len2 := if_pos (by omega)
      rw [if_pos e2]
      have Q1 := Lib.hid q1
      have Q2 := Lib.hid q2
      clear q1 q2
      go_enter Try.func15, Try.ntmps15
      go_wp2_with fail
      refine (szInt64S_any a len cap left _ h0 h1 l1).mono ?_
      rintro e w' ⟨rfl, rfl⟩
      rw [Q1.out]
      go_wp2_with fail
      refine (szInt64S_any b len2 cap2 (left - len) _ (by omega) (by omega) l2).mono ?_
      rintro e w' ⟨rfl, rfl⟩
      rw [Q2.out]
      go_wp2_with fail
      go_ret
      exact ⟨rfl, bl⟩
    · have q2 : (if (len2 : Int) ≤ left - len then left - len - len2 else -1) = -1 := if_neg (by omega)
      rw [if_neg e2]
      have Q1 := Lib.hid q1
      have Q2 := Lib.hid q2
      clear q1 q2
      go_enter Try.func15, Try.ntmps15
      go_wp2_with fail
      refine (szInt64S_any a len cap left _ h0 h1 l1).mono ?_
      rintro e w' ⟨rfl, rfl⟩
      rw [Q1.out]
      go_wp2_with fail
      refine (szInt64S_any b len2 cap2 (left - len) _ (by omega) (by omega) l2).mono ?_
      rintro e w' ⟨rfl, rfl⟩
      rw [Q2.out]
      go_wp2_with fail
      go_ret
      exact ⟨rfl, bl⟩
  · have q1 : (if (len : Int) ≤ left then left - len else -1) = -1 := if_neg e1
    rw [if_neg (by omega)]
    have Q1 := Lib.hid q1
    clear q1
    go_enter Try.func15, Try.ntmps15
    go_wp2_with fail
    refine (szInt64S_any a len cap left _ h0 h1 l1).mono ?_
    rintro e w' ⟨rfl, rfl⟩
    rw [Q1.out]
    go_wp2_with fail
    go_ret
    exact ⟨rfl, bl⟩
theorem Ints.zero {w : World} {B : Nat} {v : Value} {xs : List Int} (h : Ints w B v xs) : Ints w 0 v xs := Row.le h (Nat.zero_le _)
end Go.Proofs.Ytcfdbjjfdddfeaa
