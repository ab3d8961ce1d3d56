/-
  UndoJoin, by the program and by the reference.
-/
import Derived.Test.YtcfdbjjfdddfeaaJGroups
namespace Go.Proofs.Ytcfdbjjfdddfeaa
open Go.RowKit Knot

theorem Row.take_ {α : Type} {enc : α → Value} {E : TypeId} {w : World} {B g n c m : Nat} {xs : List α} (h : Row enc E w B (.slice (some ⟨g, 0, none⟩) n c) xs) (hm : m ≤ xs.length) : Row enc E w B (.slice (some ⟨g, 0, none⟩) m c) (xs.take m) := by
  obtain ⟨h1, h2⟩ := h
  have hl : (xs.take m).length = m := by simp; omega
  unfold Row
  rw [hl]
  refine ⟨by simp; omega, ?_⟩
  rcases h2 with ⟨e, _⟩ | ⟨g', cap, cur, hv, hg, hh, hn, hc, hs, ht⟩
  · cases e
  · simp only [Value.slice.injEq, Option.some.injEq, Addr.mk.injEq, and_true, true_and] at hv
    obtain ⟨rfl, rfl, rfl⟩ := hv
    refine .inr ⟨g, c, cur, rfl, hg, hh, by omega, hc, hs, ?_⟩
    rw [← List.map_take.symm, ← ht, List.take_take, Nat.mul_one, Nat.mul_one, Nat.min_eq_left hm]
/-- The log loses its last. -/
theorem JOwn.pop {w : World} {B b g n c m : Nat} {v : Value} {xs ys : List Int} (h : JOwn w B b v (.slice (some ⟨g, 0, none⟩) n c) xs ys) (hm : m ≤ ys.length) :
    JOwn (w.setCell ⟨b, 1, none⟩ (.slice (some ⟨g, 0, none⟩) m c)) B b v (.slice (some ⟨g, 0, none⟩) m c) xs (ys.take m) := by
  obtain ⟨h1, h2, h3, h4, h5, h6⟩ := h
  refine ⟨by simpa using h1.set_ 1 (.slice (some ⟨g, 0, none⟩) m c), h2, Row.setCell h3 (fun j hj => (h5 j hj).1) _, Row.setCell (Row.take_ h4 hm) (fun j hj => h6 j hj) _, h5, h6⟩
theorem IntsIn.setOwn {w : World} {lo hi g n c : Nat} {xs : List Int} (h : IntsIn w lo hi (.slice (some ⟨g, 0, none⟩) n c) xs) (k : Nat) (x : Int) : IntsIn (w.setCell ⟨g, k, none⟩ (.int .i64 x)) lo hi (.slice (some ⟨g, 0, none⟩) n c) (xs.set k x) :=
  ⟨Row.set_ h.1 k x, h.2.1, by have := h.2.2.1; simpa [World.setCell] using this, by simpa using h.2.2.2⟩
theorem IntsIn.far {w : World} {lo hi : Nat} {v : Value} {xs : List Int} (h : IntsIn w lo hi v xs) {p : Addr} (hp : ∀ g, v.ownBlock = some g → g ≠ p.block) (u : Value) : IntsIn (w.setCell p u) lo hi v xs :=
  ⟨Row.setCell h.1 hp u, h.2.1, by have := h.2.2.1; simpa [World.setCell] using this, h.2.2.2⟩
theorem IntsIn.take_ {w : World} {lo hi g n c m : Nat} {xs : List Int} (h : IntsIn w lo hi (.slice (some ⟨g, 0, none⟩) n c) xs) (hm : m ≤ xs.length) : IntsIn w lo hi (.slice (some ⟨g, 0, none⟩) m c) (xs.take m) :=
  ⟨Row.take_ h.1 hm, h.2.1, h.2.2.1, by have := h.2.2.2; simp; omega⟩
theorem beq_ff {a b : Int} (h : ¬ a = b) : (a == b) = false := by simp [h]
open Classical in
/-- What UndoJoin answers. -/
noncomputable def undoM (xs ys : List Int) : List Int × List Int × Int :=
  if OkJ xs ys then if ys.length = 0 then ([], [], 6) else (xs.set (gI ys ((ys.length : Int) - 1)).toNat (gI ys ((ys.length : Int) - 1)), ys.take (ys.length - 1), 0) else ([], [], 1)
set_option maxHeartbeats 4000000 in
theorem K_impl_UndoJoin {w : World} {lo hi : Nat} {v1 v2 : Value} {xs ys zs us : List Int} {r : Int} (h : JoinedIn w lo hi v1 v2 xs ys) (hm : undoM xs ys = (zs, us, r)) :
    Calls Try.prog 31 #[.agg #[v1, v2]] w fun e w' => ∃ A c D d, e = .returned (.tuple #[.agg #[.slice A zs.length c, .slice D us.length d], .int .i64 r]) ∧
      JoinedIn w' w.heap.size w'.heap.size (.slice A zs.length c) (.slice D us.length d) zs us ∧ Below w.heap.size w w' := by
  obtain ⟨A1, cA, rfl, lA, _⟩ := h.1.1.open_
  obtain ⟨A2, cD, rfl, lD, _⟩ := h.2.1.1.open_
  have bl := Joins.below_alloc2 w (.cells #[.slice A1 xs.length cA, .slice A2 ys.length cD] 27) (.cells #[.slice none 0 0, .slice none 0 0] 27)
  have ba := (Box.new w 27 #[.slice A1 xs.length cA, .slice A2 ys.length cD]).alloc (.cells #[.slice none 0 0, .slice none 0 0] 27)
  have br := Box.new (w.alloc (.cells #[.slice A1 xs.length cA, .slice A2 ys.length cD] 27)) 27 #[.slice none 0 0, .slice none 0 0]
  rw [World.size_alloc] at br
  replace h := (h.alloc (.cells #[.slice A1 xs.length cA, .slice A2 ys.length cD] 27)).alloc (.cells #[.slice none 0 0, .slice none 0 0] 27)
  by_cases ho : OkJ xs ys
  rotate_left
  · skip
    obtain ⟨rfl, rfl, rfl⟩ : [] = zs ∧ [] = us ∧ 1 = r := by simpa [undoM, ho] using hm
    clear hm
    have HO := Lib.hid ho
    have HC := Lib.hid (codeJ_bad (ks := []) ho)
    clear ho
    have q0 := ba.cell 0
    have q1 := ba.cell 1
    have qn := ba.lt
    go_enter Try.func31, Try.ntmps31
    go_wp2_with fail
    refine (joinedCode_any h.1.ints h.2.1.ints (Ints.nil _ _) HC.out).mono ?_
    rintro e w2 ⟨rfl, hb⟩
    replace ba := ba.below hb
    replace br := br.below hb
    replace bl := bnext bl hb
    clear q0 q1 qn hb
    have q0 := ba.cell 0
    have q1 := ba.cell 1
    have qn := ba.lt
    have x0 := br.cell 0
    have x1 := br.cell 1
    have y0 := br.free 0
    have y1 := br.free 1
    have xn := br.lt
    go_wp2
    refine bodyPost_ret (v := .tuple #[.agg #[.slice none 0 0, .slice none 0 0], .int .i64 1]) (by simp [results, Try.results31, go_sem, x0, x1, y0, y1, xn]) rfl ⟨none, 0, none, 0, rfl, by simpa using JoinedIn.nilAt (by simp), ?_⟩
    exact (bl.setCell (p := ⟨w.heap.size + 1, 0, none⟩) (by simp) _).setCell (p := ⟨w.heap.size + 1, 1, none⟩) (by simp) _
  have HO := Lib.hid ho
  have HC := Lib.hid (codeJ_ok (ks := []) ho (InJ.nil xs))
  by_cases hy : ys.length = 0
  rotate_left
  rotate_left
  · skip
    obtain ⟨rfl, rfl, rfl⟩ : [] = zs ∧ [] = us ∧ 6 = r := by simpa [undoM, ho, hy] using hm
    clear hm
    have hys : ys = [] := List.eq_nil_of_length_eq_zero hy
    subst hys
    clear ho hy
    have q0 := ba.cell 0
    have q1 := ba.cell 1
    have qn := ba.lt
    go_enter Try.func31, Try.ntmps31
    go_wp2_with fail
    refine (joinedCode_any h.1.ints h.2.1.ints (Ints.nil _ _) HC.out).mono ?_
    rintro e w2 ⟨rfl, hb⟩
    replace ba := ba.below hb
    replace br := br.below hb
    replace bl := bnext bl hb
    clear q0 q1 qn hb
    have q0 := ba.cell 0
    have q1 := ba.cell 1
    have qn := ba.lt
    have x0 := br.cell 0
    have x1 := br.cell 1
    have y0 := br.free 0
    have y1 := br.free 1
    have xn := br.lt
    go_wp2
    refine bodyPost_ret (v := .tuple #[.agg #[.slice none 0 0, .slice none 0 0], .int .i64 6]) (by simp [results, Try.results31, go_sem, x0, x1, y0, y1, xn]) rfl ⟨none, 0, none, 0, rfl, by simpa using JoinedIn.nilAt (by simp), ?_⟩
    exact (bl.setCell (p := ⟨w.heap.size + 1, 0, none⟩) (by simp) _).setCell (p := ⟨w.heap.size + 1, 1, none⟩) (by simp) _
  obtain ⟨t, ht⟩ : ∃ t, gI ys ((ys.length : Int) - 1) = t := ⟨_, rfl⟩
  obtain ⟨rfl, rfl, rfl⟩ : xs.set t.toNat t = zs ∧ ys.take (ys.length - 1) = us ∧ 0 = r := by
    unfold undoM at hm
    rw [if_pos ho, if_neg hy, ht] at hm
    simpa using hm
  have htm : t ∈ ys := by
    obtain ⟨x, hx, e⟩ := gI_mem_or ys ((ys.length : Int) - 1) (by omega) (by omega)
    rw [← ht, e]
    exact hx
  have t0 := ho.llo t htm
  have t1 := ho.lhi t htm
  have n2 := ho.n2
  have hl := nodup_length_le ho.nd ho.llo ho.lhi
  have HT := Lib.hid ht
  have hy1 : 1 ≤ ys.length := by omega
  have tne : ((ys.length : Int) == 0) = false := beq_ff (by omega)
  have ta : (0 : Int) ≤ (ys.length : Int) - 1 := by omega
  have tb : (ys.length : Int) - 1 < ys.length := by omega
  clear hm ho hy htm ht
  have q0 := ba.cell 0
  have q1 := ba.cell 1
  have qn := ba.lt
  go_enter Try.func31, Try.ntmps31
  go_wp2_with fail
  refine (joinedCode_any h.1.ints h.2.1.ints (Ints.nil _ _) HC.out).mono ?_
  rintro e w2 ⟨rfl, hb⟩
  have s2 := hb.size
  simp only [World.size_alloc] at s2
  replace ba := ba.below hb
  replace br := br.below hb
  replace bl := bnext bl hb
  replace h := h.below hb
  clear q0 q1 qn hb
  have q0 := ba.cell 0
  have q1 := ba.cell 1
  have qn := ba.lt
  go_wp2_with fail
  refine (cloneJoined_any h).mono ?_
  rintro e w3 ⟨D1, d1, D2, d2, rfl, hj, hb⟩
  have s3 := hb.size
  replace br := br.below hb
  replace bl := bnext bl hb
  clear q0 q1 qn hb h
  obtain ⟨i1, i2, hap⟩ := hj
  obtain ⟨E1, e1, hu1, _, hE1⟩ := i1.1.open_
  obtain ⟨E2, e2, hu2, _, hE2⟩ := i2.1.open_
  obtain ⟨g1, rfl, l1, m1⟩ := hE1 (by omega)
  obtain ⟨g2, rfl, l2, m2⟩ := hE2 (by omega)
  cases hu1
  cases hu2
  have hcp : (ys.length : Int) - 1 ≤ (d2 : Int) := by
    rcases i2.1.form with ⟨e, _⟩ | ⟨g, c, e, _, _, h3, _⟩
    · cases e
    · cases e
      omega
  have hy2 : (1 : Int) ≤ (ys.length : Int) := by omega
  have gne : g1 ≠ g2 := fun e => hap g1 rfl (by rw [e]; rfl)
  have c1 := Ints.cellI i2.1 (i := (ys.length : Int) - 1) (by omega) (by omega)
  rw [HT.out, show ((ys.length : Int) - 1).toNat = ys.length - 1 by omega] at c1
  have c2 := Ints.cellI i1.1 (i := t) t0 t1
  have c3 := Row.free i1.1 t.toNat
  have x0 := br.cell 0
  have x1 := br.cell 1
  have y0 := br.free 0
  have y1 := br.free 1
  have xn := br.lt
  go_wp2
  have hlt : (ys.take (ys.length - 1)).length = ys.length - 1 := by simp
  rw [hlt, List.length_set]
  have h2 := bl.size
  refine bodyPost_ret (v := .tuple #[.agg #[.slice (some ⟨g1, 0, none⟩) xs.length d1, .slice (some ⟨g2, 0, none⟩) (ys.length - 1) d2], .int .i64 0]) (by simp [results, Try.results31, go_sem, x0, x1, y0, y1, xn, m1, m2, l1, l2]) rfl ⟨_, _, _, _, rfl, ⟨?_, ?_, ?_⟩, ?_⟩
  · exact ((((i1.setOwn t.toNat t).store (p := ⟨w.heap.size + 1, 0, none⟩) (by simp; omega) _).store (p := ⟨w.heap.size + 1, 1, none⟩) (by simp; omega) _).alloc _).wider (by omega) (by simp) (Nat.le_refl _)
  · exact (((((i2.far (p := ⟨g1, t.toNat, none⟩) (fun g hg e => gne (by simp [Value.ownBlock] at hg; rw [hg]; exact e.symm)) _).take_ (m := ys.length - 1) (by omega)).store (p := ⟨w.heap.size + 1, 0, none⟩) (by simp; omega) _).store (p := ⟨w.heap.size + 1, 1, none⟩) (by simp; omega) _).alloc _).wider (by omega) (by simp) (Nat.le_refl _)
  · exact hap
  · exact (((bl.setCell (p := ⟨g1, t.toNat, none⟩) (by simp; omega) _).setCell (p := ⟨w.heap.size + 1, 0, none⟩) (by simp) _).setCell (p := ⟨w.heap.size + 1, 1, none⟩) (by simp) _).alloc (by simp; omega) _
set_option maxHeartbeats 4000000 in
theorem K_spec_UndoJoin {w : World} {lo hi : Nat} {v1 v2 : Value} {xs ys zs us : List Int} {r : Int} (h : JoinedIn w lo hi v1 v2 xs ys) (hm : undoM xs ys = (zs, us, r)) :
    Calls Try.prog 30 #[.agg #[v1, v2]] w fun e w' => ∃ A c D d, e = .returned (.tuple #[.agg #[.slice A zs.length c, .slice D us.length d], .int .i64 r]) ∧
      JoinedIn w' w.heap.size w'.heap.size (.slice A zs.length c) (.slice D us.length d) zs us ∧ Below w.heap.size w w' := by
  obtain ⟨A1, cA, rfl, lA, _⟩ := h.1.1.open_
  obtain ⟨A2, cD, rfl, lD, _⟩ := h.2.1.1.open_
  have bl := Joins.below_alloc2 w (.cells #[.slice A1 xs.length cA, .slice A2 ys.length cD] 27) (.cells #[.slice none 0 0, .slice none 0 0] 27)
  have ba := (Box.new w 27 #[.slice A1 xs.length cA, .slice A2 ys.length cD]).alloc (.cells #[.slice none 0 0, .slice none 0 0] 27)
  have br := Box.new (w.alloc (.cells #[.slice A1 xs.length cA, .slice A2 ys.length cD] 27)) 27 #[.slice none 0 0, .slice none 0 0]
  rw [World.size_alloc] at br
  replace h := (h.alloc (.cells #[.slice A1 xs.length cA, .slice A2 ys.length cD] 27)).alloc (.cells #[.slice none 0 0, .slice none 0 0] 27)
  by_cases ho : OkJ xs ys
  rotate_left
  · skip
    obtain ⟨rfl, rfl, rfl⟩ : [] = zs ∧ [] = us ∧ 1 = r := by simpa [undoM, ho] using hm
    clear hm
    have HO := Lib.hid ho
    have HC := Lib.hid (codeJ_bad (ks := []) ho)
    clear ho
    have q0 := ba.cell 0
    have q1 := ba.cell 1
    have qn := ba.lt
    go_enter Try.func30, Try.ntmps30
    go_wp2_with fail
    refine (l08Ok_any ⟨ba, h.1.ints, h.2.1.ints⟩ (no_iff HO.out)).mono ?_
    rintro e w2 ⟨rfl, hb⟩
    replace ba := ba.below hb
    replace br := br.below hb
    replace bl := bnext bl hb
    clear q0 q1 qn hb
    have q0 := ba.cell 0
    have q1 := ba.cell 1
    have qn := ba.lt
    have x0 := br.cell 0
    have x1 := br.cell 1
    have y0 := br.free 0
    have y1 := br.free 1
    have xn := br.lt
    go_wp2
    refine bodyPost_ret (v := .tuple #[.agg #[.slice none 0 0, .slice none 0 0], .int .i64 1]) (by simp [results, Try.results30, go_sem, x0, x1, y0, y1, xn]) rfl ⟨none, 0, none, 0, rfl, by simpa using JoinedIn.nilAt (by simp), ?_⟩
    exact (bl.setCell (p := ⟨w.heap.size + 1, 0, none⟩) (by simp) _).setCell (p := ⟨w.heap.size + 1, 1, none⟩) (by simp) _
  have HO := Lib.hid ho
  have HC := Lib.hid (codeJ_ok (ks := []) ho (InJ.nil xs))
  by_cases hy : ys.length = 0
  rotate_left
  rotate_left
  · skip
    obtain ⟨rfl, rfl, rfl⟩ : [] = zs ∧ [] = us ∧ 6 = r := by simpa [undoM, ho, hy] using hm
    clear hm
    have hys : ys = [] := List.eq_nil_of_length_eq_zero hy
    subst hys
    clear ho hy
    have q0 := ba.cell 0
    have q1 := ba.cell 1
    have qn := ba.lt
    go_enter Try.func30, Try.ntmps30
    go_wp2_with fail
    refine (l08Ok_any ⟨ba, h.1.ints, h.2.1.ints⟩ (yes_iff HO.out)).mono ?_
    rintro e w2 ⟨rfl, hb⟩
    replace ba := ba.below hb
    replace br := br.below hb
    replace bl := bnext bl hb
    clear q0 q1 qn hb
    have q0 := ba.cell 0
    have q1 := ba.cell 1
    have qn := ba.lt
    have x0 := br.cell 0
    have x1 := br.cell 1
    have y0 := br.free 0
    have y1 := br.free 1
    have xn := br.lt
    go_wp2
    refine bodyPost_ret (v := .tuple #[.agg #[.slice none 0 0, .slice none 0 0], .int .i64 6]) (by simp [results, Try.results30, go_sem, x0, x1, y0, y1, xn]) rfl ⟨none, 0, none, 0, rfl, by simpa using JoinedIn.nilAt (by simp), ?_⟩
    exact (bl.setCell (p := ⟨w.heap.size + 1, 0, none⟩) (by simp) _).setCell (p := ⟨w.heap.size + 1, 1, none⟩) (by simp) _
  obtain ⟨t, ht⟩ : ∃ t, gI ys ((ys.length : Int) - 1) = t := ⟨_, rfl⟩
  obtain ⟨rfl, rfl, rfl⟩ : xs.set t.toNat t = zs ∧ ys.take (ys.length - 1) = us ∧ 0 = r := by
    unfold undoM at hm
    rw [if_pos ho, if_neg hy, ht] at hm
    simpa using hm
  have htm : t ∈ ys := by
    obtain ⟨x, hx, e⟩ := gI_mem_or ys ((ys.length : Int) - 1) (by omega) (by omega)
    rw [← ht, e]
    exact hx
  have t0 := ho.llo t htm
  have t1 := ho.lhi t htm
  have n2 := ho.n2
  have hl := nodup_length_le ho.nd ho.llo ho.lhi
  have HT := Lib.hid ht
  have hy1 : 1 ≤ ys.length := by omega
  have tne : ((ys.length : Int) == 0) = false := beq_ff (by omega)
  have ta : (0 : Int) ≤ (ys.length : Int) - 1 := by omega
  have tb : (ys.length : Int) - 1 < ys.length := by omega
  clear hm ho hy htm ht
  have q0 := ba.cell 0
  have q1 := ba.cell 1
  have qn := ba.lt
  go_enter Try.func30, Try.ntmps30
  go_wp2_with fail
  refine (l08Ok_any ⟨ba, h.1.ints, h.2.1.ints⟩ (yes_iff HO.out)).mono ?_
  rintro e w2 ⟨rfl, hb⟩
  have s2 := hb.size
  simp only [World.size_alloc] at s2
  replace ba := ba.below hb
  replace br := br.below hb
  replace bl := bnext bl hb
  replace h := h.below hb
  clear q0 q1 qn hb
  have q0 := ba.cell 0
  have q1 := ba.cell 1
  have qn := ba.lt
  go_wp2_with fail
  refine (l08Own_any ba h).mono ?_
  rintro e w3 ⟨D1, d1, D2, d2, rfl, hj, hb⟩
  have s3 := hb.size
  replace br := br.below hb
  replace bl := bnext bl hb
  clear q0 q1 qn hb h
  obtain ⟨i1, i2, hap⟩ := hj
  obtain ⟨E1, e1, hu1, _, hE1⟩ := i1.1.open_
  obtain ⟨E2, e2, hu2, _, hE2⟩ := i2.1.open_
  obtain ⟨g1, rfl, l1, m1⟩ := hE1 (by omega)
  obtain ⟨g2, rfl, l2, m2⟩ := hE2 (by omega)
  cases hu1
  cases hu2
  have hcp : (ys.length : Int) - 1 ≤ (d2 : Int) := by
    rcases i2.1.form with ⟨e, _⟩ | ⟨g, c, e, _, _, h3, _⟩
    · cases e
    · cases e
      omega
  have hy2 : (1 : Int) ≤ (ys.length : Int) := by omega
  have gne : g1 ≠ g2 := fun e => hap g1 rfl (by rw [e]; rfl)
  have c1 := Ints.cellI i2.1 (i := (ys.length : Int) - 1) (by omega) (by omega)
  rw [HT.out, show ((ys.length : Int) - 1).toNat = ys.length - 1 by omega] at c1
  have c2 := Ints.cellI i1.1 (i := t) t0 t1
  have c3 := Row.free i1.1 t.toNat
  have x0 := br.cell 0
  have x1 := br.cell 1
  have y0 := br.free 0
  have y1 := br.free 1
  have xn := br.lt
  go_wp2
  have hlt : (ys.take (ys.length - 1)).length = ys.length - 1 := by simp
  rw [hlt, List.length_set]
  have h2 := bl.size
  refine bodyPost_ret (v := .tuple #[.agg #[.slice (some ⟨g1, 0, none⟩) xs.length d1, .slice (some ⟨g2, 0, none⟩) (ys.length - 1) d2], .int .i64 0]) (by simp [results, Try.results30, go_sem, x0, x1, y0, y1, xn, m1, m2, l1, l2]) rfl ⟨_, _, _, _, rfl, ⟨?_, ?_, ?_⟩, ?_⟩
  · exact ((((i1.setOwn t.toNat t).store (p := ⟨w.heap.size + 1, 0, none⟩) (by simp; omega) _).store (p := ⟨w.heap.size + 1, 1, none⟩) (by simp; omega) _).alloc _).wider (by omega) (by simp) (Nat.le_refl _)
  · exact (((((i2.far (p := ⟨g1, t.toNat, none⟩) (fun g hg e => gne (by simp [Value.ownBlock] at hg; rw [hg]; exact e.symm)) _).take_ (m := ys.length - 1) (by omega)).store (p := ⟨w.heap.size + 1, 0, none⟩) (by simp; omega) _).store (p := ⟨w.heap.size + 1, 1, none⟩) (by simp; omega) _).alloc _).wider (by omega) (by simp) (Nat.le_refl _)
  · exact hap
  · exact (((bl.setCell (p := ⟨g1, t.toNat, none⟩) (by simp; omega) _).setCell (p := ⟨w.heap.size + 1, 0, none⟩) (by simp) _).setCell (p := ⟨w.heap.size + 1, 1, none⟩) (by simp) _).alloc (by simp; omega) _
end Go.Proofs.Ytcfdbjjfdddfeaa
