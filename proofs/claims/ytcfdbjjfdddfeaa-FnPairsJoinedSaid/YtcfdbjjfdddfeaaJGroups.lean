/-
  JoinGroups, by the program and by the reference.
-/
import Derived.Test.YtcfdbjjfdddfeaaJoinC
namespace Go.Proofs.Ytcfdbjjfdddfeaa
open Go.RowKit Knot

theorem JOwn.of {w : World} {lo hi B : Nat} {v u : Value} {xs ys : List Int} (h : JoinedIn w lo hi v u xs ys) (hB : B ≤ lo) (hw : B ≤ w.heap.size) : JOwn (w.alloc (.cells #[v, u] 27)) B w.heap.size v u xs ys :=
  ⟨Box.new _ _ _, hw, Row.le (Row.alloc h.1.1 _) hB, Row.le (Row.alloc h.2.1.1 _) hB, fun k hk => ⟨by have := (Row.lt h.1.1 hk).2; omega, h.2.2 k hk⟩, fun k hk => by have := (Row.lt h.2.1.1 hk).2; omega⟩
theorem JOwn.joined {w : World} {B b : Nat} {v u : Value} {xs ys : List Int} (h : JOwn w B b v u xs ys) (h1 : xs.length ≤ 2000000) (h2 : ys.length ≤ 2000000) : JoinedIn w B w.heap.size v u xs ys :=
  ⟨IntsIn.ofInts h.2.2.1 h1, IntsIn.ofInts h.2.2.2.1 h2, fun k hk => (h.2.2.2.2.1 k hk).2⟩
theorem JoinedIn.store {w : World} {lo hi : Nat} {v u : Value} {xs ys : List Int} (h : JoinedIn w lo hi v u xs ys) {p : Addr} (hp : p.block < lo) (x : Value) : JoinedIn (w.setCell p x) lo hi v u xs ys := ⟨h.1.store hp x, h.2.1.store hp x, h.2.2⟩
theorem JoinedIn.wider {w : World} {lo hi lo' hi' : Nat} {v u : Value} {xs ys : List Int} (h : JoinedIn w lo hi v u xs ys) (h1 : lo' ≤ lo) (h2 : hi ≤ hi') (h3 : hi' ≤ w.heap.size) : JoinedIn w lo' hi' v u xs ys := ⟨h.1.wider h1 h2 h3, h.2.1.wider h1 h2 h3, h.2.2⟩
/-- Blocks below B read as they did. -/
theorem Box.belowB {w w' : World} {B k : Nat} {t : TypeId} {cs : Array Value} (h : Box w k t cs) (hb : Below B w w') (hk : k < B) : Box w' k t cs := (hb.block k hk).trans h

/-- What JoinGroups answers. -/
noncomputable def joinM (xs ys : List Int) (a b : Int) : List Int × List Int × Int :=
  if codeJ xs ys [a, b] = 0 then ((joinR xs ys (root xs a) (root xs b)).1, (joinR xs ys (root xs a) (root xs b)).2, 0) else ([], [], codeJ xs ys [a, b])
theorem joinR_len {xs ys : List Int} (ho : OkJ xs ys) {a b : Int} (a0 : 0 ≤ a) (a1 : a < xs.length) (b0 : 0 ≤ b) (b1 : b < xs.length) :
    (joinR xs ys (root xs a) (root xs b)).1.length ≤ 2000000 ∧ (joinR xs ys (root xs a) (root xs b)).2.length ≤ 2000000 := by
  have hj := ho.join (root_spec ho.forest a0 a1).1 (root_spec ho.forest a0 a1).2.1 (root_spec ho.forest b0 b1).1 (root_spec ho.forest b0 b1).2.1 (root_spec ho.forest a0 a1).2.2 (root_spec ho.forest b0 b1).2.2
  have h1 := hj.n2
  have h2 := nodup_length_le hj.nd hj.llo hj.lhi
  omega

theorem JoinedIn.nilAt {w : World} {lo hi : Nat} (h : hi ≤ w.heap.size) : JoinedIn w lo hi (.slice none 0 0) (.slice none 0 0) [] [] := ⟨IntsIn.nil _ _ _ h, IntsIn.nil _ _ _ h, fun k hk => by simp [Value.ownBlock] at hk⟩
theorem codeJ_pair {xs ys : List Int} {a b c : Int} (h : codeJ xs ys [a, b] = c) : codeJ xs ys [a] = c ∨ (codeJ xs ys [a] = 0 ∧ codeJ xs ys [b] = c) := by
  by_cases ho : OkJ xs ys
  · by_cases ha : 0 ≤ a ∧ a ≤ (xs.length : Int) - 1
    · by_cases hb : 0 ≤ b ∧ b ≤ (xs.length : Int) - 1
      · left
        rw [← h, codeJ_ok ho ((InJ_one xs a).2 ha), codeJ_ok ho ((InJ_two xs a b).2 ⟨ha, hb⟩)]
      · right
        rw [← h, codeJ_ok ho ((InJ_one xs a).2 ha), codeJ_out ho (fun k => hb ((InJ_one xs b).1 k)), codeJ_out ho (fun k => hb ((InJ_two xs a b).1 k).2)]
        exact ⟨rfl, rfl⟩
    · left
      rw [← h, codeJ_out ho (fun k => ha ((InJ_one xs a).1 k)), codeJ_out ho (fun k => ha ((InJ_two xs a b).1 k).1)]
  · left
    rw [← h, codeJ_bad ho, codeJ_bad ho]
theorem codeJ_second {xs ys : List Int} {a b : Int} (h : codeJ xs ys [a, b] = 0) : codeJ xs ys [b] = 0 := by
  obtain ⟨h1, h2⟩ := codeJ_zero h
  exact codeJ_ok h1 ((InJ_one xs b).2 ((InJ_two xs a b).1 h2).2)
set_option maxHeartbeats 4000000 in
theorem K_impl_JoinGroups {w : World} {lo hi : Nat} {v1 v2 : Value} {xs ys zs us : List Int} {a b r : Int} (h : JoinedIn w lo hi v1 v2 xs ys) (hm : joinM xs ys a b = (zs, us, r)) :
    Calls Try.prog 40 #[.agg #[v1, v2], .int .i64 a, .int .i64 b] w fun e w' => ∃ A c D d, e = .returned (.tuple #[.agg #[.slice A zs.length c, .slice D us.length d], .int .i64 r]) ∧
      JoinedIn w' w.heap.size w'.heap.size (.slice A zs.length c) (.slice D us.length d) zs us ∧ Below w.heap.size w w' := by
  obtain ⟨A1, cA, rfl, lA, _⟩ := h.1.1.open_
  obtain ⟨A2, cD, rfl, lD, _⟩ := h.2.1.1.open_
  have bl := Joins.below_alloc2 w (.cells #[.slice A1 xs.length cA, .slice A2 ys.length cD] 27) (.cells #[.slice none 0 0, .slice none 0 0] 27)
  have ba := (Box.new w 27 #[.slice A1 xs.length cA, .slice A2 ys.length cD]).alloc (.cells #[.slice none 0 0, .slice none 0 0] 27)
  have br := Box.new (w.alloc (.cells #[.slice A1 xs.length cA, .slice A2 ys.length cD] 27)) 27 #[.slice none 0 0, .slice none 0 0]
  rw [World.size_alloc] at br
  replace h := (h.alloc (.cells #[.slice A1 xs.length cA, .slice A2 ys.length cD] 27)).alloc (.cells #[.slice none 0 0, .slice none 0 0] 27)
  obtain ⟨c, hcode⟩ : ∃ c, codeJ xs ys [a, b] = c := ⟨_, rfl⟩
  have HC := Lib.hid hcode
  have hz := Ints.two ((w.alloc (.cells #[.slice A1 xs.length cA, .slice A2 ys.length cD] 27)).alloc (.cells #[.slice none 0 0, .slice none 0 0] 27)) a b
  rw [World.size_alloc, World.size_alloc] at hz
  replace bl := bnext bl (Joins.below_alloc1 _ (.cells #[.int .i64 a, .int .i64 b] 2))
  replace ba := ba.alloc (.cells #[.int .i64 a, .int .i64 b] 2)
  replace br := br.alloc (.cells #[.int .i64 a, .int .i64 b] 2)
  replace h := h.alloc (.cells #[.int .i64 a, .int .i64 b] 2)
  by_cases ho : c = 0
  rotate_left
  · have hne : (c != 0) = true := by simp [ho]
    obtain ⟨rfl, rfl, rfl⟩ : [] = zs ∧ [] = us ∧ c = r := by simpa [joinM, hcode, ho] using hm
    clear hm ho hcode
    have q0 := ((Box.new w 27 #[.slice A1 xs.length cA, .slice A2 ys.length cD]).alloc (.cells #[.slice none 0 0, .slice none 0 0] 27)).cell 0
    have q1 := ((Box.new w 27 #[.slice A1 xs.length cA, .slice A2 ys.length cD]).alloc (.cells #[.slice none 0 0, .slice none 0 0] 27)).cell 1
    have qn := ((Box.new w 27 #[.slice A1 xs.length cA, .slice A2 ys.length cD]).alloc (.cells #[.slice none 0 0, .slice none 0 0] 27)).lt
    go_enter Try.func40, Try.ntmps40
    go_wp2_with fail
    refine (joinedCode_any h.1.ints h.2.1.ints (Row.le hz (Nat.zero_le _)) HC.out).mono ?_
    rintro e w2 ⟨rfl, hb⟩
    replace br := br.below hb
    replace bl := bnext bl hb
    clear q0 q1 qn
    have x0 := br.cell 0
    have x1 := br.cell 1
    have y0 := br.free 0
    have y1 := br.free 1
    have xn := br.lt
    go_wp2
    refine bodyPost_ret (v := .tuple #[.agg #[.slice none 0 0, .slice none 0 0], .int .i64 c]) (by simp [results, Try.results40, go_sem, x0, x1, y0, y1, xn]) rfl ⟨none, 0, none, 0, rfl, (by simpa using JoinedIn.nilAt (by simp)), ?_⟩
    exact (bl.setCell (p := ⟨w.heap.size + 1, 0, none⟩) (by simp) _).setCell (p := ⟨w.heap.size + 1, 1, none⟩) (by simp) _
  subst ho
  obtain ⟨h1, h2⟩ := codeJ_zero hcode
  obtain ⟨⟨a0, a1⟩, b0, b1⟩ := (InJ_two xs a b).1 h2
  have hl := joinR_len h1 a0 (by omega) b0 (by omega)
  obtain ⟨rfl, rfl, rfl⟩ : (joinR xs ys (root xs a) (root xs b)).1 = zs ∧ (joinR xs ys (root xs a) (root xs b)).2 = us ∧ 0 = r := by simpa [joinM, hcode] using hm
  have HO := Lib.hid h1
  have a1' : a < xs.length := by omega
  have b1' : b < xs.length := by omega
  clear hm h1 h2 hcode
  have q0 := ((Box.new w 27 #[.slice A1 xs.length cA, .slice A2 ys.length cD]).alloc (.cells #[.slice none 0 0, .slice none 0 0] 27)).cell 0
  have q1 := ((Box.new w 27 #[.slice A1 xs.length cA, .slice A2 ys.length cD]).alloc (.cells #[.slice none 0 0, .slice none 0 0] 27)).cell 1
  have qn := ((Box.new w 27 #[.slice A1 xs.length cA, .slice A2 ys.length cD]).alloc (.cells #[.slice none 0 0, .slice none 0 0] 27)).lt
  go_enter Try.func40, Try.ntmps40
  go_wp2_with fail
  refine (joinedCode_any h.1.ints h.2.1.ints (Row.le hz (Nat.zero_le _)) HC.out).mono ?_
  rintro e w2 ⟨rfl, hb⟩
  have s2 := hb.size
  simp only [World.size_alloc] at s2
  replace ba := ba.below hb
  replace br := br.below hb
  replace bl := bnext bl hb
  replace h := h.below hb
  clear q0 q1 qn hb hz
  have q0 := ba.cell 0
  have q1 := ba.cell 1
  have qn := ba.lt
  go_wp2_with fail
  refine (cloneJoined_any h).mono ?_
  rintro e w3 ⟨D1, d1, D2, d2, rfl, hj, hb⟩
  have s3 := hb.size
  replace br := br.below hb
  replace bl := bnext bl hb
  have o := JOwn.of (B := w.heap.size + 2) hj (by omega) (by omega)
  replace br := br.alloc (.cells #[.slice D1 xs.length d1, .slice D2 ys.length d2] 27)
  replace bl := bnext bl (Joins.below_alloc1 _ (.cells #[.slice D1 xs.length d1, .slice D2 ys.length d2] 27))
  clear q0 q1 qn hb hj
  go_wp2_with fail
  refine (join_any o HO.out a0 a1' b0 b1').mono ?_
  rintro e w4 ⟨u', rfl, o2, hb⟩
  have s4 := hb.size
  simp only [World.size_alloc] at s4
  replace br := br.belowB hb (by omega)
  replace bl := bl.trans (hb.mono (by omega))
  have hr := o2.joined hl.1 hl.2
  obtain ⟨E1, e1, hu1, _, _⟩ := o2.2.2.1.open_
  obtain ⟨E2, e2, hu2, _, _⟩ := o2.2.2.2.1.open_
  subst hu2
  rw [hu1] at o2 hr
  have bo := o2.1
  clear o o2 hb hu1
  have q0 := bo.cell 0
  have q1 := bo.cell 1
  have qn := bo.lt
  have x0 := br.cell 0
  have x1 := br.cell 1
  have y0 := br.free 0
  have y1 := br.free 1
  have xn := br.lt
  go_wp2
  refine bodyPost_ret (v := .tuple #[.agg #[.slice E1 (joinR xs ys (root xs a) (root xs b)).1.length e1, .slice E2 (joinR xs ys (root xs a) (root xs b)).2.length e2], .int .i64 0]) (by simp [results, Try.results40, go_sem, x0, x1, y0, y1, xn]) rfl ⟨E1, e1, E2, e2, rfl, ?_, ?_⟩
  · exact ((hr.store (p := ⟨w.heap.size + 1, 0, none⟩) (by simp) _).store (p := ⟨w.heap.size + 1, 1, none⟩) (by simp) _).wider (by omega) (by simp) (Nat.le_refl _)
  · exact (bl.setCell (p := ⟨w.heap.size + 1, 0, none⟩) (by simp) _).setCell (p := ⟨w.heap.size + 1, 1, none⟩) (by simp) _
set_option maxHeartbeats 4000000 in
theorem K_spec_JoinGroups {w : World} {lo hi : Nat} {v1 v2 : Value} {xs ys zs us : List Int} {a b r : Int} (h : JoinedIn w lo hi v1 v2 xs ys) (hm : joinM xs ys a b = (zs, us, r)) :
    Calls Try.prog 41 #[.agg #[v1, v2], .int .i64 a, .int .i64 b] w fun e w' => ∃ A c D d, e = .returned (.tuple #[.agg #[.slice A zs.length c, .slice D us.length d], .int .i64 r]) ∧
      JoinedIn w' w.heap.size w'.heap.size (.slice A zs.length c) (.slice D us.length d) zs us ∧ Below w.heap.size w w' := by
  obtain ⟨A1, cA, rfl, lA, _⟩ := h.1.1.open_
  obtain ⟨A2, cD, rfl, lD, _⟩ := h.2.1.1.open_
  have bl := Joins.below_alloc2 w (.cells #[.slice A1 xs.length cA, .slice A2 ys.length cD] 27) (.cells #[.slice none 0 0, .slice none 0 0] 27)
  have ba := (Box.new w 27 #[.slice A1 xs.length cA, .slice A2 ys.length cD]).alloc (.cells #[.slice none 0 0, .slice none 0 0] 27)
  have br := Box.new (w.alloc (.cells #[.slice A1 xs.length cA, .slice A2 ys.length cD] 27)) 27 #[.slice none 0 0, .slice none 0 0]
  rw [World.size_alloc] at br
  replace h := (h.alloc (.cells #[.slice A1 xs.length cA, .slice A2 ys.length cD] 27)).alloc (.cells #[.slice none 0 0, .slice none 0 0] 27)
  obtain ⟨c, hcode⟩ : ∃ c, codeJ xs ys [a, b] = c := ⟨_, rfl⟩
  have HC := Lib.hid hcode
  have hca : codeJ xs ys [a] = c ∨ (codeJ xs ys [a] = 0 ∧ codeJ xs ys [b] = c) := codeJ_pair hcode
  by_cases hA : codeJ xs ys [a] = 0
  rotate_left
  · have hA2 : codeJ xs ys [a] = c := by
      rcases hca with e | e
      · exact e
      · exact absurd e.1 hA
    have hc0 : ¬ c = 0 := fun e => hA (by rw [hA2, e])
    have hne : (c != 0) = true := by simp [hc0]
    have hne2 : (c == 0) = false := by simp [hc0]
    have HA := Lib.hid hA2
    obtain ⟨rfl, rfl, rfl⟩ : [] = zs ∧ [] = us ∧ c = r := by simpa [joinM, hcode, hc0] using hm
    clear hm hcode hca hA hA2 hc0
    have q0 := ((Box.new w 27 #[.slice A1 xs.length cA, .slice A2 ys.length cD]).alloc (.cells #[.slice none 0 0, .slice none 0 0] 27)).cell 0
    have q1 := ((Box.new w 27 #[.slice A1 xs.length cA, .slice A2 ys.length cD]).alloc (.cells #[.slice none 0 0, .slice none 0 0] 27)).cell 1
    have qn := ((Box.new w 27 #[.slice A1 xs.length cA, .slice A2 ys.length cD]).alloc (.cells #[.slice none 0 0, .slice none 0 0] 27)).lt
    go_enter Try.func41, Try.ntmps41
    go_wp2_with fail
    refine (l08Code_any ⟨ba, h.1.ints, h.2.1.ints⟩ HA.out).mono ?_
    rintro e w2 ⟨rfl, hb⟩
    replace br := br.below hb
    replace bl := bnext bl hb
    clear q0 q1 qn
    have x0 := br.cell 0
    have x1 := br.cell 1
    have y0 := br.free 0
    have y1 := br.free 1
    have xn := br.lt
    go_wp2
    refine bodyPost_ret (v := .tuple #[.agg #[.slice none 0 0, .slice none 0 0], .int .i64 c]) (by simp [results, Try.results41, go_sem, x0, x1, y0, y1, xn]) rfl ⟨none, 0, none, 0, rfl, (by simpa using JoinedIn.nilAt (by simp)), ?_⟩
    exact (bl.setCell (p := ⟨w.heap.size + 1, 0, none⟩) (by simp) _).setCell (p := ⟨w.heap.size + 1, 1, none⟩) (by simp) _
  have hB : codeJ xs ys [b] = c := by
    rcases hca with e | e
    · rw [hA] at e
      subst e
      exact codeJ_second hcode
    · exact e.2
  have HA := Lib.hid hA
  have HB := Lib.hid hB
  clear hca hA hB
  by_cases ho : c = 0
  rotate_left
  · have hne : (c != 0) = true := by simp [ho]
    obtain ⟨rfl, rfl, rfl⟩ : [] = zs ∧ [] = us ∧ c = r := by simpa [joinM, hcode, ho] using hm
    clear hm ho hcode
    have q0 := ((Box.new w 27 #[.slice A1 xs.length cA, .slice A2 ys.length cD]).alloc (.cells #[.slice none 0 0, .slice none 0 0] 27)).cell 0
    have q1 := ((Box.new w 27 #[.slice A1 xs.length cA, .slice A2 ys.length cD]).alloc (.cells #[.slice none 0 0, .slice none 0 0] 27)).cell 1
    have qn := ((Box.new w 27 #[.slice A1 xs.length cA, .slice A2 ys.length cD]).alloc (.cells #[.slice none 0 0, .slice none 0 0] 27)).lt
    go_enter Try.func41, Try.ntmps41
    go_wp2_with fail
    refine (l08Code_any ⟨ba, h.1.ints, h.2.1.ints⟩ HA.out).mono ?_
    rintro e w2 ⟨rfl, hb⟩
    replace ba := ba.below hb
    replace br := br.below hb
    replace bl := bnext bl hb
    replace h := h.below hb
    clear q0 q1 qn hb
    have q0 := ba.cell 0
    have q1 := ba.cell 1
    have qn := ba.lt
    go_wp2_with fail
    refine (l08Code_any ⟨ba, h.1.ints, h.2.1.ints⟩ HB.out).mono ?_
    rintro e w3 ⟨rfl, hb⟩
    replace br := br.below hb
    replace bl := bnext bl hb
    clear q0 q1 qn
    have x0 := br.cell 0
    have x1 := br.cell 1
    have y0 := br.free 0
    have y1 := br.free 1
    have xn := br.lt
    go_wp2
    refine bodyPost_ret (v := .tuple #[.agg #[.slice none 0 0, .slice none 0 0], .int .i64 c]) (by simp [results, Try.results41, go_sem, x0, x1, y0, y1, xn]) rfl ⟨none, 0, none, 0, rfl, (by simpa using JoinedIn.nilAt (by simp)), ?_⟩
    exact (bl.setCell (p := ⟨w.heap.size + 1, 0, none⟩) (by simp) _).setCell (p := ⟨w.heap.size + 1, 1, none⟩) (by simp) _
  subst ho
  obtain ⟨h1, h2⟩ := codeJ_zero hcode
  obtain ⟨⟨a0, a1⟩, b0, b1⟩ := (InJ_two xs a b).1 h2
  have hl := joinR_len h1 a0 (by omega) b0 (by omega)
  obtain ⟨rfl, rfl, rfl⟩ : (joinR xs ys (root xs a) (root xs b)).1 = zs ∧ (joinR xs ys (root xs a) (root xs b)).2 = us ∧ 0 = r := by simpa [joinM, hcode] using hm
  have HO := Lib.hid h1
  have a1' : a < xs.length := by omega
  have b1' : b < xs.length := by omega
  clear hm h1 h2 hcode
  have q0 := ((Box.new w 27 #[.slice A1 xs.length cA, .slice A2 ys.length cD]).alloc (.cells #[.slice none 0 0, .slice none 0 0] 27)).cell 0
  have q1 := ((Box.new w 27 #[.slice A1 xs.length cA, .slice A2 ys.length cD]).alloc (.cells #[.slice none 0 0, .slice none 0 0] 27)).cell 1
  have qn := ((Box.new w 27 #[.slice A1 xs.length cA, .slice A2 ys.length cD]).alloc (.cells #[.slice none 0 0, .slice none 0 0] 27)).lt
  go_enter Try.func41, Try.ntmps41
  go_wp2_with fail
  refine (l08Code_any ⟨ba, h.1.ints, h.2.1.ints⟩ HA.out).mono ?_
  rintro e w1 ⟨rfl, hb⟩
  have s1 := hb.size
  simp only [World.size_alloc] at s1
  replace ba := ba.below hb
  replace br := br.below hb
  replace bl := bnext bl hb
  replace h := h.below hb
  clear q0 q1 qn hb
  have q0 := ba.cell 0
  have q1 := ba.cell 1
  have qn := ba.lt
  go_wp2_with fail
  refine (l08Code_any ⟨ba, h.1.ints, h.2.1.ints⟩ HB.out).mono ?_
  rintro e w2 ⟨rfl, hb⟩
  have s2 := hb.size
  replace ba := ba.below hb
  replace br := br.below hb
  replace bl := bnext bl hb
  replace h := h.below hb
  clear q0 q1 qn hb
  have q0 := ba.cell 0
  have q1 := ba.cell 1
  have qn := ba.lt
  go_wp2_with fail
  refine (l08Own_any ba h).mono ?_
  rintro e w3 ⟨D1, d1, D2, d2, rfl, hj, hb⟩
  have s3 := hb.size
  replace br := br.below hb
  replace bl := bnext bl hb
  have o := JOwn.of (B := w.heap.size + 2) hj (by omega) (by omega)
  replace br := br.alloc (.cells #[.slice D1 xs.length d1, .slice D2 ys.length d2] 27)
  replace bl := bnext bl (Joins.below_alloc1 _ (.cells #[.slice D1 xs.length d1, .slice D2 ys.length d2] 27))
  clear q0 q1 qn hb hj
  go_wp2_with fail
  refine (l08Join_any o HO.out a0 a1' b0 b1').mono ?_
  rintro e w4 ⟨u', rfl, o2, hb⟩
  have s4 := hb.size
  simp only [World.size_alloc] at s4
  replace br := br.belowB hb (by omega)
  replace bl := bl.trans (hb.mono (by omega))
  have hr := o2.joined hl.1 hl.2
  obtain ⟨E1, e1, hu1, _, _⟩ := o2.2.2.1.open_
  obtain ⟨E2, e2, hu2, _, _⟩ := o2.2.2.2.1.open_
  subst hu2
  rw [hu1] at o2 hr
  have bo := o2.1
  clear o o2 hb hu1
  have q0 := bo.cell 0
  have q1 := bo.cell 1
  have qn := bo.lt
  have x0 := br.cell 0
  have x1 := br.cell 1
  have y0 := br.free 0
  have y1 := br.free 1
  have xn := br.lt
  go_wp2
  refine bodyPost_ret (v := .tuple #[.agg #[.slice E1 (joinR xs ys (root xs a) (root xs b)).1.length e1, .slice E2 (joinR xs ys (root xs a) (root xs b)).2.length e2], .int .i64 0]) (by simp [results, Try.results41, go_sem, x0, x1, y0, y1, xn]) rfl ⟨E1, e1, E2, e2, rfl, ?_, ?_⟩
  · exact ((hr.store (p := ⟨w.heap.size + 1, 0, none⟩) (by simp) _).store (p := ⟨w.heap.size + 1, 1, none⟩) (by simp) _).wider (by omega) (by simp) (Nat.le_refl _)
  · exact (bl.setCell (p := ⟨w.heap.size + 1, 0, none⟩) (by simp) _).setCell (p := ⟨w.heap.size + 1, 1, none⟩) (by simp) _
end Go.Proofs.Ytcfdbjjfdddfeaa
