/-
  Slices of columns, compared, marked and held by the laws' helpers.
-/
import Derived.Test.YtnldahadldolpaaCols
import Derived.Test.YtnldahadldolpaaKCol
namespace Go.Proofs.Ytnldahadldolpaa
open Go.RowKit Knot

/-- Columns in memory: the rows lie in blocks lo to hi, no two in one. -/
structure ColsIn (w : World) (lo hi : Nat) (v : Value) (cs : List (List Int × Int)) : Prop where
  ex : ∃ (n : Nat) (l : List Cl), CsRow n w lo v cs.length l ∧ l.map Cl.val = cs ∧ (∀ x ∈ l, x.g < hi) ∧ (l.map Cl.g).Nodup ∧ n ≤ 1000
  outer : ∀ g, v.ownBlock = some g → g < hi
  hi_le : hi ≤ w.heap.size
  len : cs.length ≤ 1000
theorem CsRow.keep {n : Nat} {w w' : World} {lo hi m : Nat} {v : Value} {l : List Cl} (h : CsRow n w lo v m l) (h1 : ∀ g, v.ownBlock = some g → g < hi) (h2 : ∀ x ∈ l, x.g < hi) (hb : ∀ g, lo ≤ g → g < hi → g < w.heap.size → w'.heap[g]? = w.heap[g]?) : CsRow n w' lo v m l :=
  ⟨ownsRow_keep h.1 fun g hg hl => hb g (World.ownsRow.lt h.1 g hg).1 (h1 g hg) hl, h.2.1, fun x hx => ⟨Row.keep (h.2.2 x hx).1 fun g hg hl => hb g (Row.lt (h.2.2 x hx).1 hg).1 (by rw [ownBlock_slice] at hg; injection hg with hg; rw [← hg]; exact h2 x hx) hl, (h.2.2 x hx).2⟩⟩
section
variable {w w' : World} {lo hi lo' hi' : Nat} {v u : Value} {cs ds : List (List Int × Int)} {k0 : Int} {r : Bool}
theorem ColsIn.keep (h : ColsIn w lo hi v cs) (hs : w.heap.size ≤ w'.heap.size) (hb : ∀ g, lo ≤ g → g < hi → g < w.heap.size → w'.heap[g]? = w.heap[g]?) : ColsIn w' lo hi v cs := by
  obtain ⟨n, l, h1, h2, h3, h4, h5⟩ := h.ex
  exact ⟨⟨n, l, h1.keep h.outer h3 hb, h2, h3, h4, h5⟩, h.outer, Nat.le_trans h.hi_le hs, h.len⟩
theorem ColsIn.below (h : ColsIn w lo hi v cs) (hb : Below w.heap.size w w') : ColsIn w' lo hi v cs := h.keep hb.size fun g _ _ hl => hb.block g hl
theorem ColsIn.alloc (h : ColsIn w lo hi v cs) (o : Obj) : ColsIn (w.alloc o) lo hi v cs := h.below (Joins.below_alloc1 _ _)
theorem ColsIn.chg (h : ColsIn w lo hi v cs) (hb : Chg lo' hi' w w') (hd : hi ≤ lo' ∨ hi' ≤ lo) : ColsIn w' lo hi v cs := h.keep hb.size fun g g0 g1 hl => hb.block g hl (by omega)
theorem ColsIn.wider (h : ColsIn w lo hi v cs) (h1 : lo' ≤ lo) (h2 : hi ≤ hi') (h3 : hi' ≤ w.heap.size) : ColsIn w lo' hi' v cs := by
  obtain ⟨n, l, k1, k2, k3, k4, k5⟩ := h.ex
  exact ⟨⟨n, l, k1.le h1, k2, fun x hx => by have := k3 x hx; omega, k4, k5⟩, fun g hg => by have := h.outer g hg; omega, h3, h.len⟩
theorem ColsIn.nil (w : World) (lo hi : Nat) (h : hi ≤ w.heap.size) : ColsIn w lo hi (.slice none 0 0) [] :=
  ⟨⟨0, [], ⟨World.ownsRow_nil w lo _ 2, rfl, fun x hx => by simp at hx⟩, rfl, fun x hx => by simp at hx, List.nodup_nil, by omega⟩, fun g hg => by simp [Value.ownBlock] at hg, h, by simp⟩
theorem CsRow.open_ {n m : Nat} {l : List Cl} (h : CsRow n w lo v m l) : ∃ A c, v = .slice A m c ∧ m ≤ maxLen ∧ (0 < m → ∃ g, A = some ⟨g, 0, none⟩ ∧ g < w.heap.size) := by
  rcases h.1.2 with ⟨h1, h2⟩ | ⟨g, cap, cur, h1, _, hh, h3, h4, _⟩
  · subst h2
    exact ⟨none, 0, h1, Nat.zero_le _, fun h => absurd h (by omega)⟩
  · exact ⟨_, cap, h1, by omega, fun _ => ⟨g, rfl, (Array.getElem?_eq_some_iff.1 hh).1⟩⟩
/-- The columns marked, from k0 on. -/
def markC (k0 : Int) : List (List Int × Int) → List (List Int × Int)
  | [] => []
  | c :: t => (upFrom k0 c.1.length, k0 + c.1.length) :: markC (k0 + c.1.length + 1) t
/-- How many marks that takes. -/
def sumC : List (List Int × Int) → Nat
  | [] => 0
  | c :: t => c.1.length + 1 + sumC t
theorem markC_length : ∀ (cs : List (List Int × Int)) (k0 : Int), (markC k0 cs).length = cs.length
  | [], _ => rfl
  | c :: t, k0 => by simp [markC, markC_length t]
theorem sumC_append (a b : List (List Int × Int)) : sumC (a ++ b) = sumC a + sumC b := by
  induction a with
  | nil => simp [sumC]
  | cons x a ih => simp [sumC, ih]; omega
theorem sumC_take {cs : List (List Int × Int)} {k : Nat} (h : k < cs.length) : sumC (cs.take (k + 1)) = sumC (cs.take k) + cs[k].1.length + 1 := by
  rw [List.take_succ_eq_append_getElem h, sumC_append]
  simp [sumC]
  omega
theorem markC_get : ∀ (cs : List (List Int × Int)) (k0 : Int) (i : Nat) (h : i < cs.length), (markC k0 cs)[i]? = some (upFrom (k0 + sumC (cs.take i)) cs[i].1.length, k0 + sumC (cs.take i) + cs[i].1.length)
  | [], _, i, h => by simp at h
  | c :: t, k0, 0, h => by simp [markC, sumC]
  | c :: t, k0, i + 1, h => by
    have := markC_get t (k0 + c.1.length + 1) i (by simpa using h)
    have e : k0 + (c.1.length : Int) + 1 + (sumC (t.take i) : Int) = k0 + (sumC ((c :: t).take (i + 1)) : Int) := by
      simp only [List.take_succ_cons, sumC]
      push_cast
      omega
    simp only [markC, List.getElem?_cons_succ, this, e, List.getElem_cons_succ]
theorem sumC_le {cs : List (List Int × Int)} {m : Nat} (h : ∀ c ∈ cs, c.1.length ≤ m) : sumC cs ≤ cs.length * (m + 1) := by
  induction cs with
  | nil => simp [sumC]
  | cons x t ih =>
    have h1 := h x (by simp)
    have h2 := ih fun y hy => h y (by simp [hy])
    simp only [sumC, List.length_cons, Nat.succ_mul]
    omega
theorem sumC_take_le (cs : List (List Int × Int)) (k : Nat) : sumC (cs.take k) ≤ sumC cs := by
  have := sumC_append (cs.take k) (cs.drop k)
  rw [List.take_append_drop] at this
  omega
theorem ColsIn.sum_le (h : ColsIn w lo hi v cs) : sumC cs ≤ 1001000 := by
  obtain ⟨n, l, h1, h2, h3, h4, h5⟩ := h.ex
  have h6 := sumC_le (cs := cs) (m := 1000) (fun c hc => by
    rw [← h2] at hc
    obtain ⟨x, hx, rfl⟩ := List.mem_map.1 hc
    have := (h1.2.2 x hx).2
    show x.ps.length ≤ 1000
    omega)
  have h7 := h.len
  have : cs.length * 1001 ≤ 1000 * 1001 := Nat.mul_le_mul_right _ h7
  omega
set_option maxRecDepth 20000 in
set_option maxHeartbeats 4000000 in
theorem K_eqColumns (h : ColsIn w lo hi v cs) (k : ColsIn w lo' hi' u ds) (hr : decide (cs = ds) = r) :
    Calls Try.prog 42 #[v, u] w fun e w' => e = .returned (.bool r) ∧ Below w.heap.size w w' := by
  obtain ⟨n, l, h1, h2, h3, h4, h5⟩ := h.ex
  obtain ⟨n', l', k1, k2, k3, k4, k5⟩ := k.ex
  have h6 := h.hi_le
  have k6 := k.hi_le
  have hlen := h.len
  have klen := k.len
  obtain ⟨A, cA, rfl, _, hA⟩ := h1.open_
  obtain ⟨D, cD, rfl, _, hD⟩ := k1.open_
  have hll := h1.2.1
  have kll := k1.2.1
  by_cases hl : cs.length = ds.length
  · have t1 : ((cs.length : Int) != (ds.length : Int)) = false := by simp [hl]
    have HH := Lib.hid h1
    have KK := Lib.hid k1
    have HR := Lib.hid hr
    have HV := Lib.hid h2
    have KV := Lib.hid k2
    have HA := Lib.hid hA
    have HD := Lib.hid hD
    have HLL := Lib.hid (And.intro hll kll)
    have HL := Lib.hid hl
    have bl := Below.refl w.heap.size w
    have hc1 : (cs.length : Int) ≤ 1000 := by omega
    have hlen1 := HLL
    clear h k h1 k1 hr h2 k2 hA hD hll kll h3 h4 k3 k4 hl h6 k6
    go_enter Try.func42, Try.ntmps42
    go_wp2
    go_loopw [5] (fun i wr => ∃ k : Nat, k ≤ cs.length ∧ i = .int .i64 k ∧ Below w.heap.size w wr ∧ Hid (∀ j : Nat, j < k → cs[j]? = ds[j]?)) (fun i _ => cs.length - (intOf i).toNat)
    case atStart => exact ⟨0, Nat.zero_le _, rfl, bl, Lib.hid fun j hj => absurd hj (by omega)⟩
    case round =>
      obtain ⟨k, hk, rfl, hb, hall⟩ := hrel
      by_cases hlt : k < cs.length
      · have hlt2 : (k : Int) < cs.length := by omega
        obtain ⟨g, hg, hgl⟩ := HA.out (by omega)
        obtain ⟨g', hg', hgl'⟩ := HD.out (by have := HL.out; omega)
        subst hg hg'
        have hkl : k < l.length := by have := HLL.out.1; omega
        have hkl' : k < l'.length := by have := HLL.out.2; have := HL.out; omega
        have hkd : k < ds.length := by have := HL.out; omega
        have r1 := HH.out.below hb
        have r2 := KK.out.below hb
        obtain ⟨c0, c1⟩ := r1.cell (k := k) hkl
        obtain ⟨d0, d1⟩ := r2.cell (k := k) hkl'
        have gl := (World.ownsRow.lt r1.1 g rfl).2
        have gl' := (World.ownsRow.lt r2.1 g' rfl).2
        obtain ⟨x, hx⟩ : ∃ x, l[k] = x := ⟨_, rfl⟩
        obtain ⟨y, hy⟩ : ∃ y, l'[k] = y := ⟨_, rfl⟩
        have xo := r1.2.2 x (hx ▸ List.getElem_mem hkl)
        have yo := r2.2.2 y (hy ▸ List.getElem_mem hkl')
        rw [hx] at c0 c1
        rw [hy] at d0 d1
        have ex : cs[k]? = some x.val := by rw [← HV.out, List.getElem?_map, List.getElem?_eq_getElem hkl, hx]; rfl
        have ey : ds[k]? = some y.val := by rw [← KV.out, List.getElem?_map, List.getElem?_eq_getElem hkl', hy]; rfl
        have xi : IntsIn wr 0 wr.heap.size (.slice (some ⟨x.g, 0, none⟩) n x.c) x.ps := IntsIn.ofInts (Row.le xo.1 (Nat.zero_le _)) (by have := xo.2; omega)
        have yi : IntsIn wr 0 wr.heap.size (.slice (some ⟨y.g, 0, none⟩) n' y.c) y.ps := IntsIn.ofInts (Row.le yo.1 (Nat.zero_le _)) (by have := yo.2; omega)
        have XI := Lib.hid xi
        have YI := Lib.hid yi
        have bl := hb
        clear xi yi xo yo r1 r2 hx hy hkl hkl'
        by_cases hxy : x.val = y.val
        · have hd : decide (x.ps = y.ps ∧ x.cl = y.cl) = true := decide_eq_true ⟨congrArg Prod.fst hxy, congrArg Prod.snd hxy⟩
          have HDD := Lib.hid hd
          have HN : Hid (∀ j : Nat, j < k + 1 → cs[j]? = ds[j]?) := Lib.hid fun j hj => by
            rcases Nat.lt_or_ge j k with hjk | hjk
            · exact hall.out j hjk
            · have e : j = k := by omega
              subst e
              rw [ex, ey, hxy]
          clear hd ex ey hxy
          go_wp2
          go_region_law (go_simp; go_at_call 31; (with_reducible refine (K_eqColumn (XI.out.below cut_drew) (YI.out.below cut_drew) HDD.out).mono ?_); rintro e w5 ⟨rfl, hb5⟩; have hB5 := bnext (w := wr) cut_drew hb5)
          all_goals
            have hB6 := bnext hb hB5
            clear hb5 hB5
            go_wp2
            go_roundw
            case rel => exact ⟨k + 1, by omega, by go_num, hB6, HN⟩
            case measure => simp [intOf]; omega
        · have hd : decide (x.ps = y.ps ∧ x.cl = y.cl) = false := decide_eq_false fun e => hxy (Prod.ext e.1 e.2)
          have HDD := Lib.hid hd
          have hrf : r = false := by
            rw [← HR.out]
            refine decide_eq_false fun e => hxy ?_
            rw [e, ey] at ex
            injection ex with ex
            exact ex.symm
          subst hrf
          clear hd ex ey hxy
          go_wp2
          go_region_law (go_simp; go_at_call 31; (with_reducible refine (K_eqColumn (XI.out.below cut_drew) (YI.out.below cut_drew) HDD.out).mono ?_); rintro e w5 ⟨rfl, hb5⟩; have hB5 := bnext (w := wr) cut_drew hb5)
          all_goals
            have hB6 := bnext hb hB5
            clear hb5 hB5
            go_wp2
            go_ret
            exact ⟨rfl, hB6⟩
      · have e : k = cs.length := by omega
        subst e
        have hfin : r = true := by
          rw [← HR.out]
          refine decide_eq_true (List.ext_getElem? fun j => ?_)
          rcases Nat.lt_or_ge j cs.length with hj | hj
          · exact hall.out j hj
          · rw [List.getElem?_eq_none hj, List.getElem?_eq_none (by have := HL.out; omega)]
        subst hfin
        clear hall
        go_wp2
        go_ret
        exact ⟨rfl, hb⟩
  · have t1 : ((cs.length : Int) != (ds.length : Int)) = true := by simp; omega
    have hrf : r = false := by rw [← hr]; exact decide_eq_false fun e => hl (by rw [e])
    subst hrf
    have bl := Below.refl w.heap.size w
    clear h k h1 k1 hr h2 k2 hA hD hll kll h3 h4 k3 k4 hl h6 k6
    go_enter Try.func42, Try.ntmps42
    go_wp2
    go_ret
    exact ⟨rfl, bl⟩
theorem flatC_set (n : Nat) (t : Int) (ys : List Int) (l : List Cl) : ∀ k (h : k < l.length), (l.flatMap (Cl.cells n)).set (k * 2 + 1) (.int .i64 t) = (l.set k ⟨l[k].g, l[k].c, ys, t⟩).flatMap (Cl.cells n) := by
  induction l with
  | nil => intro k h; simp at h
  | cons x l ih =>
    intro k h
    cases k with
    | zero => rfl
    | succ k =>
      have := ih k (by simpa using h)
      have e : (x :: l).flatMap (Cl.cells n) = Value.slice (some ⟨x.g, 0, none⟩) n x.c :: Value.int .i64 x.cl :: l.flatMap (Cl.cells n) := rfl
      rw [e, show (k + 1) * 2 + 1 = (k * 2 + 1) + 1 + 1 by omega, List.set_cons_succ, List.set_cons_succ, this]
      rfl
theorem Ints.tight {g n c B : Nat} {xs : List Int} (h : Ints w B (.slice (some ⟨g, 0, none⟩) n c) xs) : Ints w g (.slice (some ⟨g, 0, none⟩) n c) xs := by
  refine ⟨h.1, ?_⟩
  rcases h.2 with h2 | ⟨g', cap, cur, hv, hg, r⟩
  · exact .inl h2
  · have : g' = g := by injection hv with hv; injection hv with hv; injection hv with hv; exact hv.symm
    subst this
    exact .inr ⟨g', cap, cur, hv, Nat.le_refl _, r⟩
theorem CsRow.marked {n B g c m k : Nat} {l : List Cl} {ys : List Int} {t : Int} (h : CsRow n w B (.slice (some ⟨g, 0, none⟩) m c) m l) (hd : (l.map Cl.g).Nodup) (hk : k < l.length) (hI : Ints w' l[k].g (.slice (some ⟨l[k].g, 0, none⟩) n l[k].c) ys) (hy : ys.length = n) (hc : Chg l[k].g (l[k].g + 1) w w') :
    CsRow n (w'.setCell ⟨g, k * 2 + 1, none⟩ (.int .i64 t)) B (.slice (some ⟨g, 0, none⟩) m c) m (l.set k ⟨l[k].g, l[k].c, ys, t⟩) := by
  have hx := h.2.2 l[k] (List.getElem_mem hk)
  have hxg := (Row.lt hx.1 (g := l[k].g) rfl).1
  have hne : g ≠ l[k].g := fun e => apart_rows hx.1 h.1 (by decide) (g := l[k].g) rfl (by rw [ownBlock_slice, e])
  have ho : w'.ownsRow B 38 2 (.slice (some ⟨g, 0, none⟩) m c) m (l.flatMap (Cl.cells n)) := ownsRow_keep h.1 fun g' hg' hl => hc.block g' hl (by rw [ownBlock_slice] at hg'; injection hg' with hg'; omega)
  refine ⟨?_, by rw [List.length_set]; exact h.2.1, fun x hx' => ?_⟩
  · rw [← flatC_set n t ys l k hk]
    exact (World.ownsRow.stored ho (k * 2 + 1) (.int .i64 t)).1
  · obtain ⟨j, hj, e⟩ := List.getElem_of_mem hx'
    rw [List.length_set] at hj
    rw [List.getElem_set] at e
    by_cases hkj : k = j
    · rw [if_pos hkj] at e
      subst e
      refine ⟨Row.setCell (Row.le hI hxg) (fun g' hg' => ?_) _, hy⟩
      rw [ownBlock_slice] at hg'
      injection hg' with hg'
      exact fun e => hne (by rw [hg']; exact e.symm)
    · rw [if_neg hkj] at e
      have hj2 := h.2.2 l[j] (List.getElem_mem hj)
      have hgj : l[j].g ≠ l[k].g := fun e2 => by
        have hp := List.pairwise_iff_getElem.1 hd
        rcases Nat.lt_or_gt_of_ne hkj with hh | hh
        · exact hp k j (by simpa using hk) (by simpa using hj) hh (by simpa using e2.symm)
        · exact hp j k (by simpa using hj) (by simpa using hk) hh (by simpa using e2)
      have hnj : g ≠ l[j].g := fun e => apart_rows hj2.1 h.1 (by decide) (g := l[j].g) rfl (by rw [ownBlock_slice, e])
      rw [← e]
      refine ⟨Row.setCell (Row.keep hj2.1 fun g' hg' hl => hc.block g' hl ?_) (fun g' hg' => ?_) _, hj2.2⟩
      · rw [ownBlock_slice] at hg'
        injection hg' with hg'
        omega
      · rw [ownBlock_slice] at hg'
        injection hg' with hg'
        exact fun e => hnj (by rw [hg']; exact e.symm)
theorem take_drop_set {α : Type} {M cs : List α} {k : Nat} {y : α} (hl : M.length = cs.length) (hk : k < cs.length) (hy : M[k]? = some y) : (M.take k ++ cs.drop k).set k y = M.take (k + 1) ++ cs.drop (k + 1) := by
  have hkM : k < M.length := by omega
  have e0 : (M.take k).length = k := by rw [List.length_take]; omega
  rw [List.take_succ_eq_append_getElem hkM, List.drop_eq_getElem_cons hk, List.set_append_right _ _ (by omega), e0, Nat.sub_self, List.set_cons_zero, List.append_assoc]
  rw [List.getElem?_eq_getElem hkM] at hy
  injection hy with hy
  rw [hy]
  rfl
theorem Chg.put_ {a : World} (h : Chg lo hi w a) {p : Addr} (h1 : lo ≤ p.block) (h2 : p.block < hi) (u : Value) : Chg lo hi w (a.setCell p u) :=
  ⟨h.os, h.tape, h.output, by rw [World.size_setCell]; exact h.size, fun k hk hd => (Below.heap_setCell _ _ _ _ (by omega)).trans (h.block k hk hd)⟩
set_option maxRecDepth 20000 in
set_option maxHeartbeats 4000000 in
theorem K_markColumns (h : ColsIn w lo hi v cs) (hk0 : 0 ≤ k0) (hk1 : k0 ≤ 100000000000) :
    Calls Try.prog 43 #[v, .int .i64 k0] w fun e w' => e = .returned (.int .i64 (k0 + sumC cs)) ∧ ColsIn w' lo hi v (markC k0 cs) ∧ Chg lo hi w w' := by
  have hsum := h.sum_le
  obtain ⟨n, l, h1, h2, h3, h4, h5⟩ := h.ex
  have h6 := h.hi_le
  have hout := h.outer
  have hlen := h.len
  obtain ⟨A, cA, rfl, _, hA⟩ := h1.open_
  have hll := h1.2.1
  have hc1 : (cs.length : Int) ≤ 1000 := by omega
  obtain ⟨GS, hGS⟩ : ∃ GS, l.map Cl.g = GS := ⟨_, rfl⟩
  have HST : Hid (CsRow n w lo (.slice A cs.length cA) cs.length l ∧ l.map Cl.val = (markC k0 cs).take 0 ++ cs.drop 0 ∧ l.map Cl.g = GS) := Lib.hid ⟨h1, by simpa using h2, hGS⟩
  have HGS := Lib.hid hGS
  have HP : Hid ((∀ x ∈ l, x.g < hi) ∧ GS.Nodup ∧ l.length = cs.length ∧ hi ≤ w.heap.size ∧ (∀ g, Value.ownBlock (.slice A cs.length cA) = some g → g < hi)) := Lib.hid ⟨h3, hGS ▸ h4, hll, h6, hout⟩
  have HA := Lib.hid hA
  have HN : Hid (∀ k (hk : k < cs.length), cs[k].1.length = n) := Lib.hid fun k hk => by
    have hkl : k < l.length := by omega
    have e : cs[k] = l[k].val := by simp only [← h2, List.getElem_map]
    rw [e]
    exact (h1.2.2 l[k] (List.getElem_mem hkl)).2
  have HS : Hid (sumC cs ≤ 1001000) := Lib.hid hsum
  have H0 : Hid ((k0 : Int) = k0 + (sumC (cs.take 0) : Int)) := Lib.hid (by simp [sumC])
  have HC : Hid (Chg lo hi w w) := Lib.hid (Chg.ofBelow (Below.refl _ _))
  have hn5 : (n : Int) ≤ 1000 := by omega
  clear h h1 h2 h3 h4 hA hll h6 hout hsum hGS
  go_enter Try.func43, Try.ntmps43
  go_wp2
  go_loopw [1, 5] (fun s1 s5 wr => ∃ (k : Nat) (t : Int) (L : List Cl), k ≤ cs.length ∧ s1 = .int .i64 t ∧ s5 = .int .i64 k ∧ Hid (t = k0 + (sumC (cs.take k) : Int)) ∧ 0 ≤ t ∧ t ≤ 200000000000 ∧
      Hid (CsRow n wr lo (.slice A cs.length cA) cs.length L ∧ L.map Cl.val = (markC k0 cs).take k ++ cs.drop k ∧ L.map Cl.g = GS) ∧ Hid (Chg lo hi w wr)) (fun _ s5 _ => cs.length - (intOf s5).toNat)
  case atStart => exact ⟨0, k0, l, Nat.zero_le _, rfl, rfl, H0, hk0, by omega, HST, HC⟩
  case round =>
    obtain ⟨k, t, L, hk, rfl, rfl, ht, ht0, ht1, hst, hcg⟩ := hrel
    by_cases hlt : k < cs.length
    · have hlt2 : (k : Int) < cs.length := by omega
      obtain ⟨g, hg, hgl⟩ := HA.out (by omega)
      subst hg
      obtain ⟨r1, r2, r3⟩ := hst.out
      have hLl : L.length = cs.length := r1.2.1
      have hkl : k < L.length := by omega
      obtain ⟨c0, c1⟩ := r1.cell (k := k) hkl
      have gl := (World.ownsRow.lt r1.1 g rfl).2
      have hLn : (L.map Cl.g).Nodup := by rw [r3]; exact HP.out.2.1
      have xo := r1.2.2 L[k] (List.getElem_mem hkl)
      have xg : L[k].g < hi := by
        have e : (L.map Cl.g)[k]? = (l.map Cl.g)[k]? := by rw [r3, HGS.out]
        have hkl2 : k < l.length := by have := HP.out.2.2.1; omega
        rw [List.getElem?_map, List.getElem?_map, List.getElem?_eq_getElem hkl, List.getElem?_eq_getElem hkl2] at e
        injection e with e
        rw [e]
        exact HP.out.1 _ (List.getElem_mem hkl2)
      have xi : IntsIn wr L[k].g (L[k].g + 1) (.slice (some ⟨L[k].g, 0, none⟩) n L[k].c) L[k].ps := ⟨xo.1.tight, fun g' hg' => by rw [ownBlock_slice] at hg'; injection hg' with hg'; omega, by have := (Row.lt xo.1 (g := L[k].g) rfl).2; omega, by have := xo.2; omega⟩
      have XI := Lib.hid xi
      have HGN : Hid (g ≠ L[k].g ∧ g < hi ∧ lo ≤ g ∧ lo ≤ L[k].g ∧ L[k].g < hi) := Lib.hid ⟨fun e => apart_rows xo.1 r1.1 (by decide) (g := L[k].g) rfl (by rw [ownBlock_slice, e]), HP.out.2.2.2.2 g rfl, (World.ownsRow.lt r1.1 g rfl).1, (Row.lt xo.1 (g := L[k].g) rfl).1, xg⟩
      have HR := Lib.hid r1
      have HRV := Lib.hid (And.intro r2 r3)
      have HNK := Lib.hid hLn
      have hpl := xo.2
      clear r1 r2 r3 xi xo xg
      go_wp2_with fail
      refine (K_markInts (XI.out) (by omega) (by omega)).mono ?_
      rintro e w1 ⟨rfl, i1, hc⟩
      rw [hpl]
      rw [hpl] at i1
      obtain ⟨hgn, hg1, hg2, hg3, hg4⟩ := HGN.out
      have ho1 : w1.ownsRow lo 38 2 (.slice (some ⟨g, 0, none⟩) cs.length cA) cs.length (L.flatMap (Cl.cells n)) := ownsRow_keep HR.out.1 fun g' hg' hl => hc.block g' hl (by rw [ownBlock_slice] at hg'; injection hg' with hg'; omega)
      have c1' : w1.cell? ⟨g, k * 2 + 1, none⟩ = some (.int .i64 L[k].cl) := by
        rw [World.ownsRow.cellAt ho1 (k * 2 + 1) (by omega)]
        exact (flatC_get n L k hkl).2
      have gl' : g < w1.heap.size := Nat.lt_of_lt_of_le gl hc.size
      have hfr' : w1.frozen? ⟨g, k * 2 + 1, none⟩ = false := World.ownsRow.frozenAt ho1 (k * 2 + 1)
      have hnew := CsRow.marked (t := t + n) HR.out HNK.out hkl i1.1 (upFrom_length t n) hc
      have R9 : Hid (∃ (k2 : Nat) (t2 : Int) (L2 : List Cl), k2 ≤ cs.length ∧ (.int .i64 (t + (n : Int) + 1) : Value) = .int .i64 t2 ∧ (.int .i64 ((k : Int) + 1) : Value) = .int .i64 k2 ∧ Hid (t2 = k0 + (sumC (cs.take k2) : Int)) ∧ 0 ≤ t2 ∧ t2 ≤ 200000000000 ∧
          Hid (CsRow n (w1.setCell ⟨g, k * 2 + 1, none⟩ (.int .i64 (t + (n : Int)))) lo (.slice (some ⟨g, 0, none⟩) cs.length cA) cs.length L2 ∧ L2.map Cl.val = (markC k0 cs).take k2 ++ cs.drop k2 ∧ L2.map Cl.g = GS) ∧ Hid (Chg lo hi w (w1.setCell ⟨g, k * 2 + 1, none⟩ (.int .i64 (t + (n : Int)))))) := by
        have e1 := sumC_take hlt
        have e2 := HN.out k hlt
        have e3 := sumC_take_le cs (k + 1)
        have e4 := HS.out
        have e5 := ht.out
        refine Lib.hid ⟨k + 1, t + n + 1, L.set k ⟨L[k].g, L[k].c, upFrom t n, t + n⟩, by omega, rfl, by push_cast; rfl, Lib.hid (by omega), by omega, by omega, Lib.hid ⟨hnew, ?_, ?_⟩, Lib.hid ((hcg.out.trans (hc.mono (by omega) (by omega))).put_ hg2 hg1 _)⟩
        · rw [List.map_set, HRV.out.1]
          refine take_drop_set (markC_length cs k0) hlt ?_
          rw [markC_get cs k0 k hlt, e2, ← e5]
          rfl
        · rw [List.map_set, ← HRV.out.2]
          refine List.ext_getElem? fun j => ?_
          rw [List.getElem?_set]
          by_cases hj : k = j
          · subst hj
            simp [hkl]
          · rw [if_neg hj]
      clear c1 c0 hc i1 hnew ho1 HR HRV HNK XI HGN hst hcg ht hgn hg1 hg2 hg3 hg4 gl
      go_wp2
      go_roundw
      case rel => exact R9.out
      case measure => simp [intOf]; omega
    · have e : k = cs.length := by omega
      subst e
      have HF : Hid (t = k0 + (sumC cs : Int) ∧ ColsIn wr lo hi (.slice A cs.length cA) (markC k0 cs) ∧ Chg lo hi w wr) := Lib.hid (by
        obtain ⟨r1, r2, r3⟩ := hst.out
        have e1 := ht.out
        rw [List.take_length] at e1
        have hp := HP.out
        refine ⟨e1, ⟨⟨n, L, by rw [markC_length]; exact r1, by rw [r2, List.drop_length, List.append_nil]; exact List.take_of_length_le (by rw [markC_length]; exact Nat.le_refl _), fun x hx => ?_, by rw [r3]; exact hp.2.1, h5⟩, hp.2.2.2.2, Nat.le_trans hp.2.2.2.1 hcg.out.size, by rw [markC_length]; exact hlen⟩, hcg.out⟩
        have : x.g ∈ l.map Cl.g := by rw [HGS.out, ← r3]; exact List.mem_map.2 ⟨x, hx, rfl⟩
        obtain ⟨y, hy, e⟩ := List.mem_map.1 this
        rw [← e]
        exact hp.1 y hy)
      clear hst ht hcg
      go_wp2
      go_ret
      rw [HF.out.1]
      exact ⟨rfl, HF.out.2⟩
theorem sumC_markC : ∀ (cs : List (List Int × Int)) (k0 : Int), sumC (markC k0 cs) = sumC cs
  | [], _ => rfl
  | c :: t, k0 => by simp [markC, sumC, sumC_markC t, upFrom_length]
set_option maxRecDepth 20000 in
set_option maxHeartbeats 4000000 in
theorem K_heldColumns (h : ColsIn w lo hi v (markC k0 cs)) (hk0 : 0 ≤ k0) (hk1 : k0 ≤ 100000000000) :
    Calls Try.prog 44 #[v, .int .i64 k0] w fun e w' => e = .returned (.int .i64 (k0 + sumC cs)) ∧ Below w.heap.size w w' := by
  have hsum := h.sum_le
  rw [sumC_markC] at hsum
  obtain ⟨n, l, h1, h2, h3, h4, h5⟩ := h.ex
  have hlen := h.len
  rw [markC_length] at h1 hlen
  obtain ⟨A, cA, rfl, _, hA⟩ := h1.open_
  have hll := h1.2.1
  have hc1 : (cs.length : Int) ≤ 1000 := by omega
  have HR := Lib.hid h1
  have HV := Lib.hid h2
  have HA := Lib.hid hA
  have HLL := Lib.hid hll
  have HN : Hid (∀ k (hk : k < cs.length), cs[k].1.length = n) := Lib.hid fun k hk => by
    have hkl : k < l.length := by omega
    have e : (l.map Cl.val)[k]? = (markC k0 cs)[k]? := by rw [h2]
    rw [markC_get cs k0 k hk, List.getElem?_map, List.getElem?_eq_getElem hkl] at e
    injection e with e
    have e1 := congrArg (fun z : List Int × Int => z.1.length) e
    simp only [upFrom_length] at e1
    rw [← e1]
    exact (h1.2.2 l[k] (List.getElem_mem hkl)).2
  have HS : Hid (sumC cs ≤ 1001000) := Lib.hid hsum
  have H0 : Hid ((k0 : Int) = k0 + (sumC (cs.take 0) : Int)) := Lib.hid (by simp [sumC])
  have hn5 : (n : Int) ≤ 1000 := by omega
  have bl := Below.refl w.heap.size w
  clear h h1 h2 h3 h4 hA hll hsum
  go_enter Try.func44, Try.ntmps44
  go_wp2
  go_loopw [1, 5] (fun s1 s5 wr => ∃ (k : Nat) (t : Int), k ≤ cs.length ∧ s1 = .int .i64 t ∧ s5 = .int .i64 k ∧ Hid (t = k0 + (sumC (cs.take k) : Int)) ∧ 0 ≤ t ∧ t ≤ 200000000000 ∧ Below w.heap.size w wr) (fun _ s5 _ => cs.length - (intOf s5).toNat)
  case atStart => exact ⟨0, k0, Nat.zero_le _, rfl, rfl, H0, hk0, by omega, bl⟩
  case round =>
    obtain ⟨k, t, hk, rfl, rfl, ht, ht0, ht1, hb⟩ := hrel
    by_cases hlt : k < cs.length
    · have hlt2 : (k : Int) < cs.length := by omega
      obtain ⟨g, hg, hgl⟩ := HA.out (by omega)
      subst hg
      have r1 := HR.out.below hb
      have hkl : k < l.length := by have := HLL.out; omega
      obtain ⟨c0, c1⟩ := r1.cell (k := k) hkl
      have gl := (World.ownsRow.lt r1.1 g rfl).2
      have xo := r1.2.2 l[k] (List.getElem_mem hkl)
      have hval : l[k].val = (upFrom t n, t + n) := by
        have e : (l.map Cl.val)[k]? = (markC k0 cs)[k]? := by rw [HV.out]
        rw [markC_get cs k0 k hlt, List.getElem?_map, List.getElem?_eq_getElem hkl, HN.out k hlt, ← ht.out] at e
        injection e
      have hps : l[k].ps = upFrom t n := congrArg Prod.fst hval
      have hcl : l[k].cl = t + n := congrArg Prod.snd hval
      have xi : IntsIn wr 0 wr.heap.size (.slice (some ⟨l[k].g, 0, none⟩) n l[k].c) (upFrom t n) := by
        rw [← hps]
        exact IntsIn.ofInts (Row.le xo.1 (Nat.zero_le _)) (by have := xo.2; omega)
      rw [hcl] at c1
      have XI := Lib.hid xi
      have hr1 := Lib.hid r1
      have hne : ((t + (n : Int)) != (t + (n : Int))) = false := by simp
      have hnn : ¬ (t + (n : Int) < 0) := by omega
      clear xi xo hval hps hcl r1
      go_wp2_with fail
      refine (K_heldInts (XI.out) (by omega) (by omega)).mono ?_
      rintro e w1 ⟨rfl, hb1⟩
      have r2 := hr1.out.below hb1
      have hb2 := bnext hb hb1
      obtain ⟨d0, d1⟩ := r2.cell (k := k) hkl
      have gl' := (World.ownsRow.lt r2.1 g rfl).2
      have e5 : l[k].cl = t + n := by
        have e : (l.map Cl.val)[k]? = (markC k0 cs)[k]? := by rw [HV.out]
        rw [markC_get cs k0 k hlt, List.getElem?_map, List.getElem?_eq_getElem hkl, HN.out k hlt, ← ht.out] at e
        injection e with e
        exact congrArg Prod.snd e
      rw [e5] at d1
      have R9 : Hid (∃ (k2 : Nat) (t2 : Int), k2 ≤ cs.length ∧ (.int .i64 (t + (n : Int) + 1) : Value) = .int .i64 t2 ∧ (.int .i64 ((k : Int) + 1) : Value) = .int .i64 k2 ∧ Hid (t2 = k0 + (sumC (cs.take k2) : Int)) ∧ 0 ≤ t2 ∧ t2 ≤ 200000000000 ∧ Below w.heap.size w w1) := by
        have e1 := sumC_take hlt
        have e2 := HN.out k hlt
        have e3 := sumC_take_le cs (k + 1)
        have e4 := HS.out
        have e5 := ht.out
        exact Lib.hid ⟨k + 1, t + n + 1, by omega, rfl, by push_cast; rfl, Lib.hid (by omega), by omega, by omega, hb2⟩
      clear c0 c1 hb1 r2 d0 hr1 XI ht e5 hb hb2 gl
      go_wp2
      go_roundw
      case rel => exact R9.out
      case measure => simp [intOf]; omega
    · have e : k = cs.length := by omega
      subst e
      have HF : Hid (t = k0 + (sumC cs : Int)) := Lib.hid (by
        have e1 := ht.out
        rw [List.take_length] at e1
        exact e1)
      clear ht
      go_wp2
      go_ret
      rw [HF.out]
      exact ⟨rfl, hb⟩
end
end Go.Proofs.Ytnldahadldolpaa
