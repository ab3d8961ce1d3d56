/-
  Slices of slices of int64, compared, marked and held by the laws' helpers.
-/
import Derived.Test.YtcfdbjjfdddfeaaFndC
import Derived.Deep.RegionLaw
namespace Go.Proofs.Ytcfdbjjfdddfeaa
open Go.RowKit Knot

/-- A list in memory. -/
structure Ll where
  g : Nat
  c : Nat
  ps : List Int
def Ll.enc (x : Ll) : Value := .slice (some ⟨x.g, 0, none⟩) x.ps.length x.c
def LlOk (w : World) (B : Nat) (x : Ll) : Prop := Ints w B x.enc x.ps
/-- A row of lists. -/
def LsRow (w : World) (B : Nat) (v : Value) (l : List Ll) : Prop := Row Ll.enc 22 w B v l ∧ ∀ x ∈ l, LlOk w B x
theorem info_rows : (Try.prog.info? 22).map (fun i => (i.zero, i.size, i.bytes)) = some (some (.slice none 0 0), 1, 24) := by kernel_rfl
theorem drew_below {V : World} : Below V.heap.size V V.drew := below_drewN _ _ 1
/-- Rows of two types lie in two blocks. -/
theorem two_rows {w : World} {B1 B2 : Nat} {E T : TypeId} {s1 s2 n1 n2 : Nat} {v u : Value} {xs ys : List Value} (h : w.ownsRow B1 E s1 v n1 xs) (k : w.ownsRow B2 T s2 u n2 ys) (hne : E ≠ T) {g : Nat} (hg : v.ownBlock = some g) : u.ownBlock ≠ some g := by
  intro hu
  rcases h.2 with ⟨rfl, _⟩ | ⟨g1, cap, cur, rfl, _, hh, _⟩
  · simp [Value.ownBlock] at hg
  · rcases k.2 with ⟨rfl, _⟩ | ⟨g2, cap2, cur2, rfl, _, hh2, _⟩
    · simp [Value.ownBlock] at hu
    · simp [Value.ownBlock] at hg hu
      subst hg hu
      rw [hh] at hh2
      injection hh2 with hh2
      injection hh2 with h1 h2 h3
      exact hne h2
section
variable {w w' : World} {lo hi lo' hi' B C : Nat} {v u : Value} {xss yss : List (List Int)} {k0 : Int} {r : Bool} {l : List Ll}
theorem LsRow.below (h : LsRow w B v l) (hb : Below w.heap.size w w') : LsRow w' B v l := ⟨Row.below h.1 hb, fun x hx => Row.below (h.2 x hx) hb⟩
theorem LsRow.le (h : LsRow w B v l) (hc : C ≤ B) : LsRow w C v l := ⟨Row.le h.1 hc, fun x hx => Row.le (h.2 x hx) hc⟩
theorem LlOk.g_lt {x : Ll} (h : LlOk w B x) : B ≤ x.g ∧ x.g < w.heap.size := Row.lt h (g := x.g) rfl
/-- Lists in memory: the rows lie in blocks lo to hi, no two in one. -/
structure ListsIn (w : World) (lo hi : Nat) (v : Value) (xss : List (List Int)) : Prop where
  ex : ∃ l : List Ll, LsRow w lo v l ∧ l.map Ll.ps = xss ∧ (∀ x ∈ l, x.g < hi) ∧ (l.map Ll.g).Nodup ∧ ∀ x ∈ l, x.ps.length ≤ 1000
  outer : ∀ g, v.ownBlock = some g → g < hi
  hi_le : hi ≤ w.heap.size
  len : xss.length ≤ 1000
theorem LsRow.keep (h : LsRow w lo v l) (h1 : ∀ g, v.ownBlock = some g → g < hi) (h2 : ∀ x ∈ l, x.g < hi) (hb : ∀ g, lo ≤ g → g < hi → g < w.heap.size → w'.heap[g]? = w.heap[g]?) : LsRow w' lo v l :=
  ⟨Row.keep h.1 fun g hg hl => hb g (Row.lt h.1 hg).1 (h1 g hg) hl, fun x hx => Row.keep (h.2 x hx) fun g hg hl => hb g (Row.lt (h.2 x hx) hg).1 (by rw [show x.enc.ownBlock = some x.g from rfl] at hg; injection hg with hg; rw [← hg]; exact h2 x hx) hl⟩
theorem ListsIn.keep (h : ListsIn w lo hi v xss) (hs : w.heap.size ≤ w'.heap.size) (hb : ∀ g, lo ≤ g → g < hi → g < w.heap.size → w'.heap[g]? = w.heap[g]?) : ListsIn w' lo hi v xss := by
  obtain ⟨l, h1, h2, h3, h4, h5⟩ := h.ex
  exact ⟨⟨l, h1.keep h.outer h3 hb, h2, h3, h4, h5⟩, h.outer, Nat.le_trans h.hi_le hs, h.len⟩
theorem ListsIn.below (h : ListsIn w lo hi v xss) (hb : Below w.heap.size w w') : ListsIn w' lo hi v xss := h.keep hb.size fun g _ _ hl => hb.block g hl
theorem ListsIn.alloc (h : ListsIn w lo hi v xss) (o : Obj) : ListsIn (w.alloc o) lo hi v xss := h.below (Joins.below_alloc1 _ _)
theorem ListsIn.chg (h : ListsIn w lo hi v xss) (hb : Chg lo' hi' w w') (hd : hi ≤ lo' ∨ hi' ≤ lo) : ListsIn w' lo hi v xss := h.keep hb.size fun g g0 g1 hl => hb.block g hl (by omega)
theorem ListsIn.wider (h : ListsIn w lo hi v xss) (h1 : lo' ≤ lo) (h2 : hi ≤ hi') (h3 : hi' ≤ w.heap.size) : ListsIn w lo' hi' v xss := by
  obtain ⟨l, k1, k2, k3, k4, k5⟩ := h.ex
  exact ⟨⟨l, k1.le h1, k2, fun x hx => by have := k3 x hx; omega, k4, k5⟩, fun g hg => by have := h.outer g hg; omega, h3, h.len⟩
theorem ListsIn.nil (w : World) (lo hi : Nat) (h : hi ≤ w.heap.size) : ListsIn w lo hi (.slice none 0 0) [] :=
  ⟨⟨[], ⟨Row.nil w lo, fun x hx => by simp at hx⟩, rfl, fun x hx => by simp at hx, List.nodup_nil, fun x hx => by simp at hx⟩, fun g hg => by simp [Value.ownBlock] at hg, h, by simp⟩
/-- The lists marked, from k0 on. -/
def markL (k0 : Int) : List (List Int) → List (List Int)
  | [] => []
  | c :: t => upFrom k0 c.length :: markL (k0 + c.length) t
/-- How many marks that takes. -/
def sumL : List (List Int) → Nat
  | [] => 0
  | c :: t => c.length + sumL t
theorem markL_length : ∀ (cs : List (List Int)) (k0 : Int), (markL k0 cs).length = cs.length
  | [], _ => rfl
  | c :: t, k0 => by simp [markL, markL_length t]
theorem sumL_append (a b : List (List Int)) : sumL (a ++ b) = sumL a + sumL b := by
  induction a with
  | nil => simp [sumL]
  | cons x a ih => simp [sumL, ih]; omega
theorem sumL_take {cs : List (List Int)} {k : Nat} (h : k < cs.length) : sumL (cs.take (k + 1)) = sumL (cs.take k) + cs[k].length := by
  rw [List.take_succ_eq_append_getElem h, sumL_append]
  simp [sumL]
theorem markL_get : ∀ (cs : List (List Int)) (k0 : Int) (i : Nat) (h : i < cs.length), (markL k0 cs)[i]? = some (upFrom (k0 + sumL (cs.take i)) cs[i].length)
  | [], _, i, h => by simp at h
  | c :: t, k0, 0, h => by simp [markL, sumL]
  | c :: t, k0, i + 1, h => by
    have := markL_get t (k0 + c.length) i (by simpa using h)
    have e : k0 + (c.length : Int) + (sumL (t.take i) : Int) = k0 + (sumL ((c :: t).take (i + 1)) : Int) := by
      simp only [List.take_succ_cons, sumL]
      push_cast
      omega
    simp only [markL, List.getElem?_cons_succ, this, e, List.getElem_cons_succ]
theorem sumL_le {cs : List (List Int)} {m : Nat} (h : ∀ c ∈ cs, c.length ≤ m) : sumL cs ≤ cs.length * m := by
  induction cs with
  | nil => simp [sumL]
  | cons x t ih =>
    have h1 := h x (by simp)
    have h2 := ih fun y hy => h y (by simp [hy])
    simp only [sumL, List.length_cons, Nat.succ_mul]
    omega
theorem sumL_take_le (cs : List (List Int)) (k : Nat) : sumL (cs.take k) ≤ sumL cs := by
  have := sumL_append (cs.take k) (cs.drop k)
  rw [List.take_append_drop] at this
  omega
theorem sumL_markL : ∀ (cs : List (List Int)) (k0 : Int), sumL (markL k0 cs) = sumL cs
  | [], _ => rfl
  | c :: t, k0 => by simp [markL, sumL, sumL_markL t, upFrom_length]
theorem ListsIn.sum_le (h : ListsIn w lo hi v xss) : sumL xss ≤ 1000000 := by
  obtain ⟨l, h1, h2, h3, h4, h5⟩ := h.ex
  have h6 := sumL_le (cs := xss) (m := 1000) (fun c hc => by
    rw [← h2] at hc
    obtain ⟨x, hx, rfl⟩ := List.mem_map.1 hc
    exact h5 x hx)
  have h7 := h.len
  have : xss.length * 1000 ≤ 1000 * 1000 := Nat.mul_le_mul_right _ h7
  omega
theorem LsRow.open_ (h : LsRow w B v l) : ∃ A c, v = .slice A l.length c ∧ (0 < l.length → ∃ g, A = some ⟨g, 0, none⟩ ∧ g < w.heap.size) := by
  obtain ⟨A, c, h1, _, h2⟩ := h.1.open_
  exact ⟨A, c, h1, fun h0 => by obtain ⟨g, e, _, hg⟩ := h2 h0; exact ⟨g, e, hg⟩⟩
set_option maxRecDepth 20000 in
set_option maxHeartbeats 4000000 in
theorem K_eqLists (h : ListsIn w lo hi v xss) (k : ListsIn w lo' hi' u yss) (hr : decide (xss = yss) = r) :
    Calls Try.prog 34 #[v, u] w fun e w' => e = .returned (.bool r) ∧ Below w.heap.size w w' := by
  obtain ⟨l, h1, h2, h3, h4, h5⟩ := h.ex
  obtain ⟨l', k1, k2, k3, k4, k5⟩ := k.ex
  have h6 := h.hi_le
  have k6 := k.hi_le
  have hlen := h.len
  have klen := k.len
  obtain ⟨A, cA, rfl, hA⟩ := h1.open_
  obtain ⟨D, cD, rfl, hD⟩ := k1.open_
  have hll : xss.length = l.length := by rw [← h2, List.length_map]
  have kll : yss.length = l'.length := by rw [← k2, List.length_map]
  rw [hll] at hlen
  rw [kll] at klen
  by_cases hl : l.length = l'.length
  · have t1 : ((l.length : Int) != (l'.length : Int)) = false := by simp [hl]
    have HH := Lib.hid h1
    have KK := Lib.hid k1
    have HR := Lib.hid hr
    have HV := Lib.hid h2
    have KV := Lib.hid k2
    have HA := Lib.hid hA
    have HD := Lib.hid hD
    have HLL := Lib.hid (And.intro hll kll)
    have HL := Lib.hid hl
    have H5 := Lib.hid (And.intro h5 k5)
    have bl := Below.refl w.heap.size w
    have hc1 : (l.length : Int) ≤ 1000 := by omega
    clear h k h1 k1 hr h2 k2 hA hD hll kll h3 h4 k3 k4 hl h6 k6 h5 k5
    go_enter Try.func34, Try.ntmps34
    go_wp2
    go_loopw [5] (fun i wr => ∃ k : Nat, k ≤ l.length ∧ i = .int .i64 k ∧ Below w.heap.size w wr ∧ Hid (∀ j : Nat, j < k → xss[j]? = yss[j]?)) (fun i _ => l.length - (intOf i).toNat)
    case atStart => exact ⟨0, Nat.zero_le _, rfl, bl, Lib.hid fun j hj => absurd hj (by omega)⟩
    case round =>
      obtain ⟨k, hk, rfl, hb, hall⟩ := hrel
      by_cases hlt : k < l.length
      · have hlt2 : (k : Int) < l.length := by omega
        have hkl' : k < l'.length := by have := HL.out; omega
        have hlt3 : (k : Int) < l'.length := by omega
        obtain ⟨g, hg, hgl⟩ := HA.out (by omega)
        obtain ⟨g', hg', hgl'⟩ := HD.out (by omega)
        subst hg hg'
        have r1 := HH.out.below hb
        have r2 := KK.out.below hb
        have c0 := Row.cell r1.1 (k := k) hlt
        have d0 := Row.cell r2.1 (k := k) hkl'
        have gl := (Row.lt r1.1 (g := g) rfl).2
        have gl' := (Row.lt r2.1 (g := g') rfl).2
        obtain ⟨x, hx⟩ : ∃ x, l[k] = x := ⟨_, rfl⟩
        obtain ⟨y, hy⟩ : ∃ y, l'[k] = y := ⟨_, rfl⟩
        have xo := r1.2 x (hx ▸ List.getElem_mem hlt)
        have yo := r2.2 y (hy ▸ List.getElem_mem hkl')
        have x5 := H5.out.1 x (hx ▸ List.getElem_mem hlt)
        have y5 := H5.out.2 y (hy ▸ List.getElem_mem hkl')
        rw [hx] at c0
        rw [hy] at d0
        have ex : xss[k]? = some x.ps := by rw [← HV.out, List.getElem?_map, List.getElem?_eq_getElem hlt, hx]; rfl
        have ey : yss[k]? = some y.ps := by rw [← KV.out, List.getElem?_map, List.getElem?_eq_getElem hkl', hy]; rfl
        have xi : IntsIn wr 0 wr.heap.size (.slice (some ⟨x.g, 0, none⟩) x.ps.length x.c) x.ps := IntsIn.ofInts (Row.le xo (Nat.zero_le _)) (by omega)
        have yi : IntsIn wr 0 wr.heap.size (.slice (some ⟨y.g, 0, none⟩) y.ps.length y.c) y.ps := IntsIn.ofInts (Row.le yo (Nat.zero_le _)) (by omega)
        replace c0 : wr.cell? ⟨g, k, none⟩ = some (.slice (some ⟨x.g, 0, none⟩) x.ps.length x.c) := c0
        replace d0 : wr.cell? ⟨g', k, none⟩ = some (.slice (some ⟨y.g, 0, none⟩) y.ps.length y.c) := d0
        have XI := Lib.hid xi
        have YI := Lib.hid yi
        clear xi yi xo yo r1 r2 hx hy x5 y5
        by_cases hxy : x.ps = y.ps
        · have HDD : Hid (decide (x.ps = y.ps) = true) := Lib.hid (decide_eq_true hxy)
          have HN : Hid (∀ j : Nat, j < k + 1 → xss[j]? = yss[j]?) := Lib.hid fun j hj => by
            rcases Nat.lt_or_ge j k with hjk | hjk
            · exact hall.out j hjk
            · have e : j = k := by omega
              subst e
              rw [ex, ey, hxy]
          clear ex ey hxy
          go_wp2
          go_region_law (go_simp; go_at_call 56; (with_reducible refine (K_eqInts (XI.out.below drew_below) (YI.out.below drew_below) HDD.out).mono ?_); rintro e w5 ⟨rfl, hb5⟩; have hB5 := bnext (w := wr) drew_below hb5)
          all_goals
            have hB6 := bnext hb hB5
            clear hb5 hB5
            go_wp2
            go_roundw
            case rel => exact ⟨k + 1, by omega, by go_num, hB6, HN⟩
            case measure => simp [intOf]; omega
        · have HDD : Hid (decide (x.ps = y.ps) = false) := Lib.hid (decide_eq_false hxy)
          have hrf : r = false := by
            rw [← HR.out]
            refine decide_eq_false fun e => hxy ?_
            rw [e, ey] at ex
            injection ex with ex
            exact ex.symm
          subst hrf
          clear ex ey hxy
          go_wp2
          go_region_law (go_simp; go_at_call 56; (with_reducible refine (K_eqInts (XI.out.below drew_below) (YI.out.below drew_below) HDD.out).mono ?_); rintro e w5 ⟨rfl, hb5⟩; have hB5 := bnext (w := wr) drew_below hb5)
          all_goals
            have hB6 := bnext hb hB5
            clear hb5 hB5
            go_wp2
            go_ret
            exact ⟨rfl, hB6⟩
      · have e : k = l.length := by omega
        subst e
        have hfin : r = true := by
          rw [← HR.out]
          refine decide_eq_true (List.ext_getElem? fun j => ?_)
          have h1 := HLL.out
          have h2 := HL.out
          rcases Nat.lt_or_ge j l.length with hj | hj
          · exact hall.out j hj
          · rw [List.getElem?_eq_none (by omega), List.getElem?_eq_none (by omega)]
        subst hfin
        clear hall
        go_wp2
        go_ret
        exact ⟨rfl, hb⟩
  · have t1 : ((l.length : Int) != (l'.length : Int)) = true := by simp; omega
    have hrf : r = false := by rw [← hr]; exact decide_eq_false fun e => hl (by rw [← hll, ← kll, e])
    subst hrf
    have bl := Below.refl w.heap.size w
    clear h k h1 k1 hr h2 k2 hA hD hll kll h3 h4 k3 k4 hl h6 k6 h5 k5
    go_enter Try.func34, Try.ntmps34
    go_wp2
    go_ret
    exact ⟨rfl, bl⟩
theorem tight_row {g n c : Nat} {xs : List Int} (h : Ints w B (.slice (some ⟨g, 0, none⟩) n c) xs) : Ints w g (.slice (some ⟨g, 0, none⟩) n c) xs := by
  refine ⟨h.1, ?_⟩
  rcases h.2 with h2 | ⟨g', cap, cur, hv, hg, r⟩
  · exact .inl h2
  · have : g' = g := by injection hv with hv; injection hv with hv; injection hv with hv; exact hv.symm
    subst this
    exact .inr ⟨g', cap, cur, hv, Nat.le_refl _, r⟩
/-- A list of the row changed where it lies. -/
theorem LsRow.turned {g c k : Nat} {ys : List Int} (h : LsRow w B (.slice (some ⟨g, 0, none⟩) l.length c) l) (hd : (l.map Ll.g).Nodup) (hk : k < l.length) (hI : Ints w' l[k].g (.slice (some ⟨l[k].g, 0, none⟩) l[k].ps.length l[k].c) ys) (hy : ys.length = l[k].ps.length) (hc : Chg l[k].g (l[k].g + 1) w w') :
    LsRow w' B (.slice (some ⟨g, 0, none⟩) l.length c) (l.set k ⟨l[k].g, l[k].c, ys⟩) := by
  have hx : LlOk w B l[k] := h.2 l[k] (List.getElem_mem hk)
  have hxg := hx.g_lt.1
  have hne : g ≠ l[k].g := fun e => two_rows hx h.1 (by decide) (g := l[k].g) rfl (by rw [ownBlock_slice, e])
  have ho : Row Ll.enc 22 w' B (.slice (some ⟨g, 0, none⟩) l.length c) l := Row.keep h.1 fun g' hg' hl => hc.block g' hl (by rw [ownBlock_slice] at hg'; injection hg' with hg'; omega)
  refine ⟨?_, fun x hx' => ?_⟩
  · have e : (l.set k ⟨l[k].g, l[k].c, ys⟩).map Ll.enc = l.map Ll.enc := by
      rw [List.map_set]
      refine List.ext_getElem? fun j => ?_
      rw [List.getElem?_set]
      by_cases hj : k = j
      · subst hj
        simp [hk, Ll.enc, hy]
      · rw [if_neg hj]
    unfold Row at ho ⊢
    rw [e, List.length_set]
    exact ho
  · obtain ⟨j, hj, e⟩ := List.getElem_of_mem hx'
    rw [List.length_set] at hj
    rw [List.getElem_set] at e
    by_cases hkj : k = j
    · rw [if_pos hkj] at e
      subst e
      show Ints w' B (.slice (some ⟨l[k].g, 0, none⟩) ys.length l[k].c) ys
      rw [hy]
      exact Row.le hI hxg
    · rw [if_neg hkj] at e
      have hj2 : LlOk w B l[j] := h.2 l[j] (List.getElem_mem hj)
      have hgj : l[j].g ≠ l[k].g := fun e2 => by
        have hp := List.pairwise_iff_getElem.1 hd
        rcases Nat.lt_or_gt_of_ne hkj with hh | hh
        · exact hp k j (by simpa using hk) (by simpa using hj) hh (by simpa using e2.symm)
        · exact hp j k (by simpa using hj) (by simpa using hk) hh (by simpa using e2)
      rw [← e]
      refine Row.keep hj2 fun g' hg' hl => hc.block g' hl ?_
      rw [show (l[j].enc).ownBlock = some l[j].g from rfl] at hg'
      injection hg' with hg'
      omega
theorem take_drop_put {α : Type} {M cs : List α} {k : Nat} {y : α} (hl : M.length = cs.length) (hk : k < cs.length) (hy : M[k]? = some y) : (M.take k ++ cs.drop k).set k y = M.take (k + 1) ++ cs.drop (k + 1) := by
  have hkM : k < M.length := by omega
  have e0 : (M.take k).length = k := by rw [List.length_take]; omega
  rw [List.take_succ_eq_append_getElem hkM, List.drop_eq_getElem_cons hk, List.set_append_right _ _ (by omega), e0, Nat.sub_self, List.set_cons_zero, List.append_assoc]
  rw [List.getElem?_eq_getElem hkM] at hy
  injection hy with hy
  rw [hy]
  rfl
set_option maxRecDepth 20000 in
set_option maxHeartbeats 4000000 in
theorem K_markLists (h : ListsIn w lo hi v xss) (hk0 : 0 ≤ k0) (hk1 : k0 ≤ 100000000000) :
    Calls Try.prog 35 #[v, .int .i64 k0] w fun e w' => e = .returned (.int .i64 (k0 + sumL xss)) ∧ ListsIn w' lo hi v (markL k0 xss) ∧ Chg lo hi w w' := by
  have hsum := h.sum_le
  obtain ⟨l, h1, h2, h3, h4, h5⟩ := h.ex
  have h6 := h.hi_le
  have hout := h.outer
  have hlen := h.len
  obtain ⟨A, cA, rfl, hA⟩ := h1.open_
  obtain ⟨n, hn⟩ : ∃ n, l.length = n := ⟨_, rfl⟩
  rw [hn] at h1 hA hout ⊢
  have hll : xss.length = n := by rw [← h2, List.length_map, hn]
  rw [hll] at hlen
  have hc1 : (n : Int) ≤ 1000 := by omega
  obtain ⟨GS, hGS⟩ : ∃ GS, l.map Ll.g = GS := ⟨_, rfl⟩
  have HST : Hid (LsRow w lo (.slice A n cA) l ∧ l.map Ll.ps = (markL k0 xss).take 0 ++ xss.drop 0 ∧ l.map Ll.g = GS) := Lib.hid ⟨h1, by simpa using h2, hGS⟩
  have HGS := Lib.hid hGS
  have HP : Hid ((∀ x ∈ l, x.g < hi) ∧ GS.Nodup ∧ l.length = n ∧ hi ≤ w.heap.size ∧ (∀ g, Value.ownBlock (.slice A n cA) = some g → g < hi)) := Lib.hid ⟨h3, hGS ▸ h4, hn, h6, hout⟩
  have HA := Lib.hid hA
  have HLN := Lib.hid hll
  have HX : Hid (∀ k (hk : k < xss.length), xss[k].length ≤ 1000) := Lib.hid fun k hk => by
    have hkl : k < l.length := by omega
    have e : xss[k] = l[k].ps := by simp only [← h2, List.getElem_map]
    rw [e]
    exact h5 _ (List.getElem_mem hkl)
  have HS : Hid (sumL xss ≤ 1000000) := Lib.hid hsum
  have H0 : Hid ((k0 : Int) = k0 + (sumL (xss.take 0) : Int)) := Lib.hid (by simp [sumL])
  have HC : Hid (Chg lo hi w w) := Lib.hid (Chg.ofBelow (Below.refl _ _))
  clear h h1 h2 h3 h4 hA hll h6 hout hsum hGS h5 hn
  go_enter Try.func35, Try.ntmps35
  go_wp2
  go_loopw [1, 5] (fun s1 s5 wr => ∃ (k : Nat) (t : Int) (L : List Ll), k ≤ n ∧ s1 = .int .i64 t ∧ s5 = .int .i64 k ∧ Hid (t = k0 + (sumL (xss.take k) : Int)) ∧ 0 ≤ t ∧ t ≤ 200000000000 ∧
      Hid (LsRow wr lo (.slice A n cA) L ∧ L.map Ll.ps = (markL k0 xss).take k ++ xss.drop k ∧ L.map Ll.g = GS) ∧ Hid (Chg lo hi w wr)) (fun _ s5 _ => n - (intOf s5).toNat)
  case atStart => exact ⟨0, k0, l, Nat.zero_le _, rfl, rfl, H0, hk0, by omega, HST, HC⟩
  case round =>
    obtain ⟨k, t, L, hk, rfl, rfl, ht, ht0, ht1, hst, hcg⟩ := hrel
    by_cases hlt : k < n
    · have hlt2 : (k : Int) < n := by omega
      obtain ⟨g, hg, hgl⟩ := HA.out (by omega)
      subst hg
      obtain ⟨r1, r2, r3⟩ := hst.out
      have hLl : L.length = n := by
        have := congrArg List.length r3
        rw [List.length_map, ← HGS.out, List.length_map, HP.out.2.2.1] at this
        exact this
      have hkl : k < L.length := by omega
      have hkx : k < xss.length := by have := HLN.out; omega
      have c0 : wr.cell? ⟨g, k, none⟩ = some (.slice (some ⟨L[k].g, 0, none⟩) L[k].ps.length L[k].c) := Row.cell r1.1 (k := k) hkl
      have gl := (Row.lt r1.1 (g := g) rfl).2
      have hLn : (L.map Ll.g).Nodup := by rw [r3]; exact HP.out.2.1
      have xo := r1.2 L[k] (List.getElem_mem hkl)
      have xg : L[k].g < hi := by
        have e : (L.map Ll.g)[k]? = (l.map Ll.g)[k]? := by rw [r3, HGS.out]
        have hkl2 : k < l.length := by have := HP.out.2.2.1; omega
        rw [List.getElem?_map, List.getElem?_map, List.getElem?_eq_getElem hkl, List.getElem?_eq_getElem hkl2] at e
        injection e with e
        rw [e]
        exact HP.out.1 _ (List.getElem_mem hkl2)
      have hpx : L[k].ps = xss[k] := by
        have e : (L.map Ll.ps)[k]? = ((markL k0 xss).take k ++ xss.drop k)[k]? := by rw [r2]
        rw [List.getElem?_map, List.getElem?_eq_getElem hkl, List.getElem?_append_right (by rw [List.length_take]; omega), List.length_take, markL_length, Nat.min_eq_left (by omega), Nat.sub_self, List.getElem?_drop, Nat.add_zero, List.getElem?_eq_getElem hkx] at e
        injection e
      have hpl : L[k].ps.length ≤ 1000 := by rw [hpx]; exact HX.out k hkx
      have xi : IntsIn wr L[k].g (L[k].g + 1) (.slice (some ⟨L[k].g, 0, none⟩) L[k].ps.length L[k].c) L[k].ps := ⟨tight_row xo, fun g' hg' => by rw [ownBlock_slice] at hg'; injection hg' with hg'; omega, by have := xo.g_lt.2; omega, by omega⟩
      have XI := Lib.hid xi
      have HGN : Hid (g ≠ L[k].g ∧ g < hi ∧ lo ≤ g ∧ lo ≤ L[k].g ∧ L[k].g < hi) := Lib.hid ⟨fun e => two_rows xo r1.1 (by decide) (g := L[k].g) rfl (by rw [ownBlock_slice, e]), HP.out.2.2.2.2 g rfl, (Row.lt r1.1 (g := g) rfl).1, xo.g_lt.1, xg⟩
      have HR := Lib.hid r1
      have HRV := Lib.hid (And.intro r2 r3)
      have HNK := Lib.hid hLn
      have HPX := Lib.hid hpx
      have HLL := Lib.hid hLl
      clear r1 r2 r3 xi xo xg hpx hLn hLl
      go_wp2_with fail
      refine (K_markInts (XI.out) (by omega) (by omega)).mono ?_
      rintro e w1 ⟨rfl, i1, hc⟩
      obtain ⟨hgn, hg1, hg2, hg3, hg4⟩ := HGN.out
      have hnew : LsRow w1 lo (.slice (some ⟨g, 0, none⟩) n cA) (L.set k ⟨L[k].g, L[k].c, upFrom t L[k].ps.length⟩) := by
        have hr := HR.out
        have e := HLL.out
        rw [← e] at hr ⊢
        exact LsRow.turned hr HNK.out hkl i1.1 (upFrom_length _ _) hc
      have R9 : Hid (∃ (k2 : Nat) (t2 : Int) (L2 : List Ll), k2 ≤ n ∧ (.int .i64 (t + (L[k].ps.length : Int)) : Value) = .int .i64 t2 ∧ (.int .i64 ((k : Int) + 1) : Value) = .int .i64 k2 ∧ Hid (t2 = k0 + (sumL (xss.take k2) : Int)) ∧ 0 ≤ t2 ∧ t2 ≤ 200000000000 ∧
          Hid (LsRow w1 lo (.slice (some ⟨g, 0, none⟩) n cA) L2 ∧ L2.map Ll.ps = (markL k0 xss).take k2 ++ xss.drop k2 ∧ L2.map Ll.g = GS) ∧ Hid (Chg lo hi w w1)) := by
        have e1 := sumL_take hkx
        have e3 := sumL_take_le xss (k + 1)
        have e4 := HS.out
        have e5 := ht.out
        have e6 : L[k].ps.length = xss[k].length := by rw [HPX.out]
        refine Lib.hid ⟨k + 1, t + L[k].ps.length, L.set k ⟨L[k].g, L[k].c, upFrom t L[k].ps.length⟩, by omega, rfl, by push_cast; rfl, Lib.hid (by omega), by omega, by omega, Lib.hid ⟨hnew, ?_, ?_⟩, Lib.hid (hcg.out.trans (hc.mono (by omega) (by omega)))⟩
        · rw [List.map_set, HRV.out.1]
          refine take_drop_put (markL_length xss k0) hkx ?_
          rw [markL_get xss k0 k hkx, ← e5, e6]
        · rw [List.map_set, ← HRV.out.2]
          refine List.ext_getElem? fun j => ?_
          rw [List.getElem?_set]
          by_cases hj : k = j
          · subst hj
            simp [hkl]
          · rw [if_neg hj]
      clear c0 hc i1 hnew HR HRV HNK XI HGN hst hcg ht hgn hg1 hg2 hg3 hg4 gl HPX HLL
      go_wp2
      go_roundw
      case rel => exact R9.out
      case measure => simp [intOf]; omega
    · have e : k = n := by omega
      subst e
      have HF : Hid (t = k0 + (sumL xss : Int) ∧ ListsIn wr lo hi (.slice A k cA) (markL k0 xss) ∧ Chg lo hi w wr) := Lib.hid (by
        obtain ⟨r1, r2, r3⟩ := hst.out
        have e1 := ht.out
        have e2 := HLN.out
        rw [List.take_of_length_le (by omega)] at e1
        have hp := HP.out
        have r4 : L.map Ll.ps = markL k0 xss := by
          rw [r2, List.drop_of_length_le (by omega), List.append_nil]
          exact List.take_of_length_le (by rw [markL_length]; omega)
        refine ⟨e1, ⟨⟨L, r1, r4, fun x hx => ?_, by rw [r3]; exact hp.2.1, fun x hx => ?_⟩, hp.2.2.2.2, Nat.le_trans hp.2.2.2.1 hcg.out.size, by rw [markL_length]; omega⟩, hcg.out⟩
        · have : x.g ∈ l.map Ll.g := by rw [HGS.out, ← r3]; exact List.mem_map.2 ⟨x, hx, rfl⟩
          obtain ⟨y, hy, e⟩ := List.mem_map.1 this
          rw [← e]
          exact hp.1 y hy
        · obtain ⟨j, hj, rfl⟩ := List.getElem_of_mem hx
          have hjx : j < xss.length := by
            have := congrArg List.length r4
            rw [List.length_map, markL_length] at this
            omega
          have e3 : (L.map Ll.ps)[j]? = (markL k0 xss)[j]? := by rw [r4]
          rw [markL_get xss k0 j hjx, List.getElem?_map, List.getElem?_eq_getElem hj] at e3
          injection e3 with e3
          rw [e3, upFrom_length]
          exact HX.out j hjx)
      clear hst ht hcg
      go_wp2
      go_ret
      rw [HF.out.1]
      exact ⟨rfl, HF.out.2⟩
set_option maxRecDepth 20000 in
set_option maxHeartbeats 4000000 in
theorem K_heldLists (h : ListsIn w lo hi v (markL k0 xss)) (hk0 : 0 ≤ k0) (hk1 : k0 ≤ 100000000000) :
    Calls Try.prog 36 #[v, .int .i64 k0] w fun e w' => e = .returned (.int .i64 (k0 + sumL xss)) ∧ Below w.heap.size w w' := by
  have hsum := h.sum_le
  rw [sumL_markL] at hsum
  obtain ⟨l, h1, h2, h3, h4, h5⟩ := h.ex
  have hlen := h.len
  rw [markL_length] at hlen
  obtain ⟨A, cA, rfl, hA⟩ := h1.open_
  obtain ⟨n, hn⟩ : ∃ n, l.length = n := ⟨_, rfl⟩
  rw [hn] at h1 hA ⊢
  have hll : xss.length = n := by rw [← hn, ← markL_length xss k0, ← h2, List.length_map]
  rw [hll] at hlen
  have hc1 : (n : Int) ≤ 1000 := by omega
  have HR := Lib.hid h1
  have HV := Lib.hid h2
  have HA := Lib.hid hA
  have HLL := Lib.hid hn
  have HLN := Lib.hid hll
  have H5 := Lib.hid h5
  have HS : Hid (sumL xss ≤ 1000000) := Lib.hid hsum
  have H0 : Hid ((k0 : Int) = k0 + (sumL (xss.take 0) : Int)) := Lib.hid (by simp [sumL])
  have bl := Below.refl w.heap.size w
  clear h h1 h2 h3 h4 hA hll hsum hn h5
  go_enter Try.func36, Try.ntmps36
  go_wp2
  go_loopw [1, 5] (fun s1 s5 wr => ∃ (k : Nat) (t : Int), k ≤ n ∧ s1 = .int .i64 t ∧ s5 = .int .i64 k ∧ Hid (t = k0 + (sumL (xss.take k) : Int)) ∧ 0 ≤ t ∧ t ≤ 200000000000 ∧ Below w.heap.size w wr) (fun _ s5 _ => n - (intOf s5).toNat)
  case atStart => exact ⟨0, k0, Nat.zero_le _, rfl, rfl, H0, hk0, by omega, bl⟩
  case round =>
    obtain ⟨k, t, hk, rfl, rfl, ht, ht0, ht1, hb⟩ := hrel
    by_cases hlt : k < n
    · have hlt2 : (k : Int) < n := by omega
      obtain ⟨g, hg, hgl⟩ := HA.out (by omega)
      subst hg
      have r1 := HR.out.below hb
      have hkl : k < l.length := by have := HLL.out; omega
      have hkx : k < xss.length := by have := HLN.out; omega
      have c0 : wr.cell? ⟨g, k, none⟩ = some (.slice (some ⟨l[k].g, 0, none⟩) l[k].ps.length l[k].c) := Row.cell r1.1 (k := k) hkl
      have gl := (Row.lt r1.1 (g := g) rfl).2
      have xo := r1.2 l[k] (List.getElem_mem hkl)
      have x5 := H5.out l[k] (List.getElem_mem hkl)
      obtain ⟨m, hm⟩ : ∃ m, xss[k].length = m := ⟨_, rfl⟩
      have hps : l[k].ps = upFrom t m := by
        have e : (l.map Ll.ps)[k]? = (markL k0 xss)[k]? := by rw [HV.out]
        rw [markL_get xss k0 k hkx, List.getElem?_map, List.getElem?_eq_getElem hkl, ← ht.out, hm] at e
        injection e
      have hpl : l[k].ps.length = m := by rw [hps, upFrom_length]
      rw [hpl] at x5
      have xi : IntsIn wr 0 wr.heap.size (.slice (some ⟨l[k].g, 0, none⟩) m l[k].c) (upFrom t m) := by
        have h0 : Ints wr lo (.slice (some ⟨l[k].g, 0, none⟩) l[k].ps.length l[k].c) l[k].ps := xo
        rw [hpl, hps] at h0
        exact IntsIn.ofInts (Row.le h0 (Nat.zero_le _)) (by rw [upFrom_length]; omega)
      rw [hpl] at c0
      have XI := Lib.hid xi
      have HM := Lib.hid hm
      have hnn : ¬ (t + (m : Int) < 0) := by omega
      clear xi xo hps hpl r1 hm
      go_wp2_with fail
      refine (K_heldInts (XI.out) (by omega) (by omega)).mono ?_
      rintro e w1 ⟨rfl, hb1⟩
      have hb2 := bnext hb hb1
      have R9 : Hid (∃ (k2 : Nat) (t2 : Int), k2 ≤ n ∧ (.int .i64 (t + (m : Int)) : Value) = .int .i64 t2 ∧ (.int .i64 ((k : Int) + 1) : Value) = .int .i64 k2 ∧ Hid (t2 = k0 + (sumL (xss.take k2) : Int)) ∧ 0 ≤ t2 ∧ t2 ≤ 200000000000 ∧ Below w.heap.size w w1) := by
        have e1 := sumL_take hkx
        have e2 := HM.out
        have e3 := sumL_take_le xss (k + 1)
        have e4 := HS.out
        have e5 := ht.out
        exact Lib.hid ⟨k + 1, t + m, by omega, rfl, by push_cast; rfl, Lib.hid (by omega), by omega, by omega, hb2⟩
      clear c0 hb1 XI ht hb hb2 gl HM
      go_wp2
      go_roundw
      case rel => exact R9.out
      case measure => simp [intOf]; omega
    · have e : k = n := by omega
      subst e
      have HF : Hid (t = k0 + (sumL xss : Int)) := Lib.hid (by
        have e1 := ht.out
        have e2 := HLN.out
        rw [List.take_of_length_le (by omega)] at e1
        exact e1)
      clear ht
      go_wp2
      go_ret
      rw [HF.out]
      exact ⟨rfl, hb⟩
end
end Go.Proofs.Ytcfdbjjfdddfeaa
