/-
  Rows of pairs, each pair a row of two numbers; a pair put into its place, by the reference.
-/
import Derived.Test.YtnldahadldolpaaAppG
import Derived.Test.YtnldahadldolpaaSegC
import Derived.Test.YtnldahadldolpaaPlAllB
import Derived.BigRegion
namespace Go.Proofs.Ytnldahadldolpaa
open Go.RowKit Knot

/-- A pair in memory. -/
structure Pr where
  g : Nat
  c : Nat
  a : Int
  b : Int
def Pr.enc (x : Pr) : Value := .slice (some ⟨x.g, 0, none⟩) 2 x.c
def Pr.val (x : Pr) : Int × Int := (x.a, x.b)
def PrOk (w : World) (B : Nat) (x : Pr) : Prop := Ints w B x.enc [x.a, x.b]
def gtR (y x : Pr) : Bool := gtQ y.val x.val
theorem PrOk.below {w w' : World} {B : Nat} {x : Pr} (h : PrOk w B x) (hb : Below w.heap.size w w') : PrOk w' B x := Row.below h hb
theorem PrOk.le {w : World} {B C : Nat} {x : Pr} (h : PrOk w B x) (hc : C ≤ B) : PrOk w C x := Row.le h hc
theorem PrOk.cells {w : World} {B : Nat} {x : Pr} (h : PrOk w B x) : w.cell? ⟨x.g, 0, none⟩ = some (.int .i64 x.a) ∧ w.cell? ⟨x.g, 1, none⟩ = some (.int .i64 x.b) ∧ x.g < w.heap.size ∧ B ≤ x.g := by
  have h1 : Ints w B (.slice (some ⟨x.g, 0, none⟩) 2 x.c) [x.a, x.b] := h
  exact ⟨Ints.cell h1 (k := 0) (by simp), Ints.cell h1 (k := 1) (by simp), (Row.lt h1 (g := x.g) rfl).2, (Row.lt h1 (g := x.g) rfl).1⟩
/-- A row of pairs. -/
def PrsRow (w : World) (B : Nat) (v : Value) (l : List Pr) : Prop := Row Pr.enc 22 w B v l ∧ ∀ x ∈ l, PrOk w B x
theorem PrsRow.below {w w' : World} {B : Nat} {v : Value} {l : List Pr} (h : PrsRow w B v l) (hb : Below w.heap.size w w') : PrsRow w' B v l := ⟨Row.below h.1 hb, fun x hx => (h.2 x hx).below hb⟩
theorem PrsRow.le {w : World} {B C : Nat} {v : Value} {l : List Pr} (h : PrsRow w B v l) (hc : C ≤ B) : PrsRow w C v l := ⟨Row.le h.1 hc, fun x hx => (h.2 x hx).le hc⟩
/-- 'append(a, b...)', b from some place on, of one-cell elements. -/
theorem append_off {α : Type} {enc : α → Value} {T E : TypeId} {z : Value} {bytes : Nat} (hT : Try.prog.underlying T = some (.slice E)) (hinfo : (Try.prog.info? E).map (fun i => (i.zero, i.size, i.bytes)) = some (some z, 1, bytes)) (hzs : z.cells.size = 1) (hby : bytes ≤ 64) (henc : ∀ y, (enc y).oneCell' = true)
    {ops : Array Oper} {rest : List Oper} {o : Oper} {a : Act} {Q : Exit → Act → World → Prop} {w : World} (hgd : o.guard = none) (s x : Operand)
    (ho : o.op = .call { callee := .builtin .append, args := #[s, x], argTypes := #[T, T] })
    (B : Nat) (v : Value) (xs ys : List α) (g off c : Nat) (hv : Row enc E w B v xs) (hs : a.eval s = v) (hx : a.eval x = .slice (some ⟨g, off, none⟩) ys.length c) (hcell : ∀ (j : Nat) (hj : j < ys.length), w.cell? ⟨g, off + j, none⟩ = some (enc ys[j]))
    (hlen : xs.length + ys.length < 1000000000) (hB : B ≤ w.heap.size)
    (h : ∀ v' w', Row enc E w' B v' (xs ++ ys) → w.grownBy w' v.ownBlock → (v'.ownBlock = v.ownBlock ∨ v'.ownBlock = some w.heap.size) → wpList Try.prog ops Q rest (a.put o.dst v') w') :
    wpList Try.prog ops Q (o :: rest) a w := by
  obtain ⟨i0, hi, hz0, hz1, hz2⟩ := info_parts hinfo
  refine wpList_append_own_at _ hgd s x T ho B E i0 z 1 bytes hT hi hz0 hz1 hz2 hzs (by decide) v xs.length (xs.map enc) hs hv ⟨g, off, none⟩ ys.length c (ys.map enc) hx (by simp)
    (fun j w0 hj => ?_) (fun w0 hw => ?_) (by unfold maxLen; omega) (by
      have : (xs.length + ys.length) * bytes ≤ 1000000000 * 64 := Nat.mul_le_mul (by omega) hby
      omega) hB ?_
  · have hj' : j < ys.length := by
      have := List.getElem?_eq_some_iff.1 hj
      obtain ⟨h1, _⟩ := this
      simpa using h1
    have := hcell j hj'
    rw [add_plain', this]
    simp [hj'] at hj
    rw [hj]
  · obtain ⟨k, _, rfl⟩ := List.mem_map.1 hw
    exact henc k
  · intro v' w' hown hgrow _ hat
    refine h v' w' ?_ hgrow hat
    unfold Row
    rw [List.length_append, List.map_append]
    exact hown
theorem info_ints : (Try.prog.info? 22).map (fun i => (i.zero, i.size, i.bytes)) = some (some (.slice none 0 0), 1, 24) := by kernel_rfl
theorem Row.take2 {α : Type} {enc : α → Value} {E : TypeId} {w : World} {B g n c m : Nat} {xs : List α} (h : Row enc E w B (.slice (some ⟨g, 0, none⟩) n c) xs) (hm : m ≤ xs.length) : Row enc E w B (.slice (some ⟨g, 0, none⟩) m c) (xs.take m) := by
  obtain ⟨h1, h2⟩ := h
  have hl : (xs.take m).length = m := by simp; omega
  unfold Row
  rw [hl]
  refine ⟨by simp; omega, ?_⟩
  rcases h2 with ⟨e, _⟩ | ⟨g', cap, cur, hv, hg, hh, hn, hc, hs, ht⟩
  · cases e
  · simp only [Value.slice.injEq, Option.some.injEq, Addr.mk.injEq, and_true, true_and] at hv
    obtain ⟨rfl, hn', rfl⟩ := hv
    refine .inr ⟨g, c, cur, rfl, hg, hh, by omega, hc, hs, ?_⟩
    have e1 : (cur.toList.take (xs.length * 1)).take (m * 1) = (xs.map enc).take (m * 1) := by rw [ht]
    rw [List.take_take, Nat.min_eq_left (by omega)] at e1
    rw [e1, List.map_take, Nat.mul_one]
set_option maxHeartbeats 1000000 in
theorem l00Min_any {w : World} {a b : Int} : Calls Try.prog 114 #[.int .i64 a, .int .i64 b] w fun e w' => e = .returned (.int .i64 (min a b)) ∧ w = w' := by
  by_cases h : a < b
  · go_enter Try.func114, Try.ntmps114
    go_wp2
    go_ret
    exact ⟨by rw [show min a b = a by omega]; rfl, rfl⟩
  · go_enter Try.func114, Try.ntmps114
    go_wp2
    go_ret
    exact ⟨by rw [show min a b = b by omega]; rfl, rfl⟩
set_option maxHeartbeats 1000000 in
theorem l00Max_any {w : World} {a b : Int} : Calls Try.prog 115 #[.int .i64 a, .int .i64 b] w fun e w' => e = .returned (.int .i64 (max a b)) ∧ w = w' := by
  by_cases h : b < a
  · go_enter Try.func115, Try.ntmps115
    go_wp2
    go_ret
    exact ⟨by rw [show max a b = a by omega]; rfl, rfl⟩
  · go_enter Try.func115, Try.ntmps115
    go_wp2
    go_ret
    exact ⟨by rw [show max a b = b by omega]; rfl, rfl⟩
set_option maxHeartbeats 1000000 in
theorem l08Pair_any {w : World} {a b : Int} : Calls Try.prog 108 #[.int .i64 a, .int .i64 b] w fun e w' => ∃ x : Pr, e = .returned (.slice (some ⟨x.g, 0, none⟩) 2 x.c) ∧ PrOk w' w.heap.size x ∧ x.val = nrm (a, b) ∧ Below w.heap.size w w' := by
  go_enter Try.func108, Try.ntmps108
  go_wp2_with fail
  refine l00Min_any.mono ?_
  rintro e w1 ⟨rfl, rfl⟩
  go_wp2_with fail
  refine l00Max_any.mono ?_
  rintro e w1 ⟨rfl, rfl⟩
  have hr : Ints (w.alloc (.cells #[.int .i64 (min a b), .int .i64 (max a b)] 2)) w.heap.size (.slice (some ⟨w.heap.size, 0, none⟩) 2 2) [min a b, max a b] :=
    World.ownsRow_lit w #[.int .i64 (min a b), .int .i64 (max a b)] 2 (Nat.le_refl _) (by decide) (by simp)
  have hb := Joins.below_alloc1 w (.cells #[.int .i64 (min a b), .int .i64 (max a b)] 2)
  have hnm : Hid ((min a b, max a b) = nrm (a, b)) := Lib.hid rfl
  generalize min a b = m at *
  generalize max a b = n at *
  go_wp2
  go_ret
  exact ⟨⟨w.heap.size, 2, m, n⟩, rfl, hr, hnm.out, hb⟩
set_option maxHeartbeats 4000000 in
theorem l08Put_any {w : World} {B C g c : Nat} {l : List Pr} {x : Pr} (hl : PrsRow w B (.slice (some ⟨g, 0, none⟩) l.length c) l) (hx : PrOk w C x) (hn : l.length ≤ 1000) :
    Calls Try.prog 107 #[.slice (some ⟨g, 0, none⟩) l.length c, .slice (some ⟨x.g, 0, none⟩) 2 x.c] w fun e w' => ∃ g' c', e = .returned (.slice (some ⟨g', 0, none⟩) (l.length + 1) c') ∧ Row Pr.enc 22 w' w.heap.size (.slice (some ⟨g', 0, none⟩) (l.length + 1) c') (putK gtR l x) ∧ Below w.heap.size w w' := by
  have HL := Lib.hid hl
  have HX := Lib.hid hx
  have hcap := hl.1.form
  have hgl := (Row.lt hl.1 (g := g) rfl).2
  clear hl hx
  have bl := Below.refl w.heap.size w
  go_enter Try.func107, Try.ntmps107
  go_wp2
  go_loopw [5] (fun s5 wr => ∃ k : Nat, k ≤ l.length ∧ s5 = .int .i64 k ∧ Hid (posK gtR l x k = posK gtR l x l.length) ∧ Below w.heap.size w wr) (fun s5 _ => (intOf s5).toNat)
  case atStart => exact ⟨l.length, Nat.le_refl _, rfl, Lib.hid rfl, bl⟩
  case round =>
    obtain ⟨k, hk, rfl, hpos, bl⟩ := hrel
    by_cases hgo : ∃ (j : Nat) (hj : j < l.length), k = j + 1 ∧ gtR l[j] x = true
    · obtain ⟨j, hj, rfl, hgt⟩ := hgo
      have hp2 : Hid (posK gtR l x j = posK gtR l x l.length) := Lib.hid ((posK_yes hj hgt).symm.trans hpos.out)
      have hcs := (gtQ_iff _ _).1 hgt
      simp only [Pr.val] at hcs
      have hjl : j ≤ l.length := by omega
      clear hgt hpos hk
      have bld : Below w.heap.size w wr.drew := bl.trans (below_drewN _ _ 1)
      rcases hcs with h1 | ⟨h1, h2⟩
      · have hk1 : Hid (x.a < l[j].a) := Lib.hid h1
        clear h1
        obtain ⟨y, hy⟩ : ∃ y, l[j] = y := ⟨_, rfl⟩
        have hl1 := HL.out.below bl
        have hx1 := HX.out.below bl
        have c0 := Row.cell hl1.1 (k := j) hj
        rw [hy] at c0
        obtain ⟨y0, y1, y2, y3⟩ := (hl1.2 y (by rw [← hy]; exact List.getElem_mem hj)).cells
        obtain ⟨x0, x1, x2, x3⟩ := hx1.cells
        have hg1 : g < wr.heap.size := (Row.lt hl1.1 (g := g) rfl).2
        have h0 : (0 < j + 1) = True := by simp
        have c0' : wr.cell? ⟨g, j, none⟩ = some (.slice (some ⟨y.g, 0, none⟩) 2 y.c) := c0
        have hy0 := hy
        clear hl1 hx1 c0
        have h1 : (x.a < y.a) = True := by rw [← hy0]; simp [hk1.out]
        generalize y.a = ya at *
        generalize y.b = yb at *
        generalize x.a = xa at *
        generalize x.b = xb at *
        clear hk1 hy0 hy
        go_wp2
        go_quiet (fail)
        go_wp2
        go_roundw
        case rel => exact ⟨j, hjl, by go_num, hp2, bl.trans (below_drewN _ _ _)⟩
        case measure => simp [intOf]
      · have hk1 : Hid (l[j].a = x.a ∧ x.b < l[j].b) := Lib.hid ⟨h1, h2⟩
        clear h1 h2
        obtain ⟨y, hy⟩ : ∃ y, l[j] = y := ⟨_, rfl⟩
        have hl1 := HL.out.below bl
        have hx1 := HX.out.below bl
        have c0 := Row.cell hl1.1 (k := j) hj
        rw [hy] at c0
        obtain ⟨y0, y1, y2, y3⟩ := (hl1.2 y (by rw [← hy]; exact List.getElem_mem hj)).cells
        obtain ⟨x0, x1, x2, x3⟩ := hx1.cells
        have hg1 : g < wr.heap.size := (Row.lt hl1.1 (g := g) rfl).2
        have h0 : (0 < j + 1) = True := by simp
        have c0' : wr.cell? ⟨g, j, none⟩ = some (.slice (some ⟨y.g, 0, none⟩) 2 y.c) := c0
        have hy0 := hy
        clear hl1 hx1 c0
        have h1 : (x.a < y.a) = False := by rw [← hy0, hk1.out.1]; simp
        have h1' : (y.a == x.a) = true := by rw [← hy0, hk1.out.1]; simp
        have h2 : (x.b < y.b) = True := by rw [← hy0]; simp [hk1.out.2]
        generalize y.a = ya at *
        generalize y.b = yb at *
        generalize x.a = xa at *
        generalize x.b = xb at *
        clear hk1 hy0 hy
        go_wp2
        go_quiet (fail)
        go_wp2
        go_roundw
        case rel => exact ⟨j, hjl, by go_num, hp2, bl.trans (below_drewN _ _ _)⟩
        case measure => simp [intOf]
    · have hst : Hid (posK gtR l x l.length = k) := Lib.hid (by
        rw [← hpos.out]
        cases k with
        | zero => rfl
        | succ j => exact posK_no (by omega) (by
            cases hb : gtR (l[j]'(by omega)) x
            · rfl
            · exact absurd ⟨j, by omega, rfl, hb⟩ hgo))
      have hcase : k = 0 ∨ ∃ (j : Nat) (hj : j < l.length), k = j + 1 ∧ (l[j].a < x.a ∨ (l[j].a = x.a ∧ l[j].b ≤ x.b)) := by
        cases k with
        | zero => exact .inl rfl
        | succ j =>
          refine .inr ⟨j, by omega, rfl, ?_⟩
          have hb : gtR (l[j]'(by omega)) x = false := by
            cases hb : gtR (l[j]'(by omega)) x
            · rfl
            · exact absurd ⟨j, by omega, rfl, hb⟩ hgo
          have := (gtQ_no _ _).1 hb
          simp only [Pr.val] at this
          omega
      clear hgo hpos
      have bld : Below w.heap.size w wr.drew := bl.trans (below_drewN _ _ 1)
      rcases hcase with h0 | ⟨j, hj, rfl, h1 | ⟨h1, h2⟩⟩
      · have h3 : (0 < k) = False := by simp; omega
        clear h0
        go_wp2
        go_region
        generalize hV : wr.drew = V at *
        clear hV h3
        have hlc : l.length ≤ c := by
          rcases hcap with ⟨h, _⟩ | ⟨_, _, h, _, _, h2, _⟩
          · cases h
          · injection h with _ _ h3
            omega
        clear hcap
        have hkc : k ≤ c := by omega
        have hl2 := HL.out.below bld
        have hx2 := HX.out.below bld
        have hgl2 : g < V.heap.size := by have := bld.size; omega
        have htk : (l.take (k)).length = k := by rw [List.length_take]; omega
        have hrt := Row.take2 hl2.1 hk
        have hu : Row Pr.enc 22 (V.alloc (.cells #[] 22)) B (.slice (some ⟨g, 0, none⟩) (k) c) (l.take (k)) := Row.alloc hrt _
        have hE := Row.none_ (α := Pr) (enc := Pr.enc) (E := 22) V
        have hB1 : V.heap.size ≤ (V.alloc (.cells #[] 22)).heap.size := by simp
        have hz1 := Joins.below_alloc1 V (.cells #[] 22)
        have hln : ([] : List Pr).length + (l.take (k)).length < 1000000000 := by rw [htk]; simp; omega
        go_wp2_with (at_builtin; refine append_rows (enc := Pr.enc) Try.underlying103 info_ints (by decide) (by decide) (fun _ => rfl) rfl _ _ rfl V.heap.size B _ _ ([] : List Pr) (l.take (k)) hE hu rfl rfl hln hB1 ?_)
        intro v1 w1 hR1 hg1 hat1
        try rw [List.nil_append] at hR1
        have hb1 : Below V.heap.size V w1 := hz1.grown hg1 hB1 (fun i hi => by rw [ownBlock_slice] at hi; injection hi with hi; omega)
        clear hE hu hz1 hln hrt hg1 hB1
        have hB2 := hb1.size
        have hln2 : (l.take (k)).length < 1000000000 := by rw [htk]; omega
        go_wp2_with (at_builtin; refine append_gen (enc := Pr.enc) Try.underlying103 info_ints (by decide) (by decide) rfl _ _ rfl V.heap.size w1.heap.size v1 (l.take (k)) x rfl hR1 rfl rfl rfl hln2 hB2 ?_)
        intro g2 c2 w2 hR2 hg2 hat2
        have hb2 : Below V.heap.size V w2 := hb1.grown hg2 hB2 (fun i hi => (Row.lt hR1 hi).1)
        clear hR1 hg2 hat1 hat2 hB2 hln2
        have hl3 := hl2.1
        have hB3 := hb2.size
        have hdl : (l.drop (k)).length = l.length - (k) := List.length_drop
        have hoff : ∃ off : Nat, (((c = k) = True ∧ off = 0) ∨ ((c = k) = False ∧ off = k)) ∧ ∀ (q : Nat) (hq : q < (l.drop (k)).length), w2.cell? ⟨g, off + q, none⟩ = some (Pr.enc (l.drop (k))[q]) := by
          by_cases hck : c = k
          · exact ⟨0, .inl ⟨by simp [hck], rfl⟩, fun q hq => by rw [hdl] at hq; omega⟩
          · refine ⟨k, .inr ⟨by simp [hck], rfl⟩, fun q hq => ?_⟩
            rw [List.getElem_drop]
            exact (hb2.cell (p := ⟨g, (k) + q, none⟩) hgl2).trans (Row.cell hl3 (by omega))
        have hln3 : (l.take (k) ++ [x]).length + (l.drop (k)).length < 1000000000 := by rw [List.length_append, htk, hdl]; simp; omega
        have hlk : (l.take (k) ++ [x]).length = (k) + 1 := by rw [List.length_append, htk]; rfl
        try rw [htk] at hR2
        try rw [htk]
        have hR2' : Row Pr.enc 22 w2 V.heap.size (.slice (some ⟨g2, 0, none⟩) (k + 1) c2) (l.take (k) ++ [x]) := hR2
        clear hR2
        obtain ⟨off, ho, hcell⟩ := hoff
        rcases ho with ⟨hck, ho⟩ | ⟨hck, ho⟩
        all_goals
          rw [ho] at hcell
          clear ho
          go_wp2_with (at_builtin; refine append_off (enc := Pr.enc) Try.underlying103 info_ints (by decide) (by decide) (fun _ => rfl) rfl _ _ rfl V.heap.size _ (l.take (k) ++ [x]) (l.drop (k)) g _ _ hR2' rfl (by rw [hdl]; rfl) hcell hln3 hB3 ?_)
          intro v3 w3 hR3 hg3 _
          have hb3 : Below V.heap.size V w3 := hb2.grown hg3 hB3 (fun i hi => (Row.lt hR2' hi).1)
          have hfin : l.take (k) ++ x :: l.drop (k) = putK gtR l x := by
            unfold putK
            rw [hst.out]
          try rw [List.append_assoc, List.singleton_append] at hR3
          rw [hfin] at hR3
          have hpl := putK_len gtR l x
          obtain ⟨g4, c4, hv4⟩ : ∃ g4 c4, v3 = .slice (some ⟨g4, 0, none⟩) (l.length + 1) c4 := by
            rcases hR3.form with ⟨_, h⟩ | ⟨g4, c4, h, _⟩
            · rw [h] at hpl; simp at hpl
            · exact ⟨g4, c4, by rw [h, hpl]⟩
          have hbf : Below w.heap.size w w3 := bld.trans (hb3.mono bld.size)
          have hRf : Row Pr.enc 22 w3 w.heap.size v3 (putK gtR l x) := Row.le hR3 bld.size
          rw [hv4] at hRf
          clear hR3 hR2' hg3 hcell hb3 hb2 hb1 hl2 hx2 hln3 hck
          go_wp2
          go_ret
          exact ⟨g4, c4, by rw [← hv4]; rfl, hRf, hbf⟩
      · have hk1 : Hid (l[j].a < x.a) := Lib.hid h1
        clear h1
        obtain ⟨y, hy⟩ : ∃ y, l[j] = y := ⟨_, rfl⟩
        have hl1 := HL.out.below bl
        have hx1 := HX.out.below bl
        have c0 := Row.cell hl1.1 (k := j) hj
        rw [hy] at c0
        obtain ⟨y0, y1, y2, y3⟩ := (hl1.2 y (by rw [← hy]; exact List.getElem_mem hj)).cells
        obtain ⟨x0, x1, x2, x3⟩ := hx1.cells
        have hg1 : g < wr.heap.size := (Row.lt hl1.1 (g := g) rfl).2
        have h0 : (0 < j + 1) = True := by simp
        have c0' : wr.cell? ⟨g, j, none⟩ = some (.slice (some ⟨y.g, 0, none⟩) 2 y.c) := c0
        have hy0 := hy
        clear hl1 hx1 c0
        have h1 : (x.a < y.a) = False := by rw [← hy0]; have := hk1.out; simp; omega
        have h1' : (y.a == x.a) = false := by rw [← hy0]; have := hk1.out; simp; omega
        generalize y.a = ya at *
        generalize y.b = yb at *
        generalize x.a = xa at *
        generalize x.b = xb at *
        clear hk1 hy0 hy
        go_wp2
        go_quiet (fail)
        replace bld : Below w.heap.size w (wr.drewN nq) := bl.trans (below_drewN _ _ _)
        generalize hV : wr.drewN nq = V at *
        clear hV c0' y0 y1 y2 x0 x1 x2 hg1 h0 h1 h1'
        have hlc : l.length ≤ c := by
          rcases hcap with ⟨h, _⟩ | ⟨_, _, h, _, _, h2, _⟩
          · cases h
          · injection h with _ _ h3
            omega
        clear hcap
        have hkc : j + 1 ≤ c := by omega
        have hl2 := HL.out.below bld
        have hx2 := HX.out.below bld
        have hgl2 : g < V.heap.size := by have := bld.size; omega
        have htk : (l.take (j + 1)).length = j + 1 := by rw [List.length_take]; omega
        have hrt := Row.take2 hl2.1 hk
        have hu : Row Pr.enc 22 (V.alloc (.cells #[] 22)) B (.slice (some ⟨g, 0, none⟩) (j + 1) c) (l.take (j + 1)) := Row.alloc hrt _
        have hE := Row.none_ (α := Pr) (enc := Pr.enc) (E := 22) V
        have hB1 : V.heap.size ≤ (V.alloc (.cells #[] 22)).heap.size := by simp
        have hz1 := Joins.below_alloc1 V (.cells #[] 22)
        have hln : ([] : List Pr).length + (l.take (j + 1)).length < 1000000000 := by rw [htk]; simp; omega
        go_wp2_with (at_builtin; refine append_rows (enc := Pr.enc) Try.underlying103 info_ints (by decide) (by decide) (fun _ => rfl) rfl _ _ rfl V.heap.size B _ _ ([] : List Pr) (l.take (j + 1)) hE hu rfl rfl hln hB1 ?_)
        intro v1 w1 hR1 hg1 hat1
        try rw [List.nil_append] at hR1
        have hb1 : Below V.heap.size V w1 := hz1.grown hg1 hB1 (fun i hi => by rw [ownBlock_slice] at hi; injection hi with hi; omega)
        clear hE hu hz1 hln hrt hg1 hB1
        have hB2 := hb1.size
        have hln2 : (l.take (j + 1)).length < 1000000000 := by rw [htk]; omega
        go_wp2_with (at_builtin; refine append_gen (enc := Pr.enc) Try.underlying103 info_ints (by decide) (by decide) rfl _ _ rfl V.heap.size w1.heap.size v1 (l.take (j + 1)) x rfl hR1 rfl rfl rfl hln2 hB2 ?_)
        intro g2 c2 w2 hR2 hg2 hat2
        have hb2 : Below V.heap.size V w2 := hb1.grown hg2 hB2 (fun i hi => (Row.lt hR1 hi).1)
        clear hR1 hg2 hat1 hat2 hB2 hln2
        have hl3 := hl2.1
        have hB3 := hb2.size
        have hdl : (l.drop (j + 1)).length = l.length - (j + 1) := List.length_drop
        have hoff : ∃ off : Nat, (((c = j + 1) = True ∧ off = 0) ∨ ((c = j + 1) = False ∧ off = j + 1)) ∧ ∀ (q : Nat) (hq : q < (l.drop (j + 1)).length), w2.cell? ⟨g, off + q, none⟩ = some (Pr.enc (l.drop (j + 1))[q]) := by
          by_cases hck : c = j + 1
          · exact ⟨0, .inl ⟨by simp [hck], rfl⟩, fun q hq => by rw [hdl] at hq; omega⟩
          · refine ⟨j + 1, .inr ⟨by simp [hck], rfl⟩, fun q hq => ?_⟩
            rw [List.getElem_drop]
            exact (hb2.cell (p := ⟨g, (j + 1) + q, none⟩) hgl2).trans (Row.cell hl3 (by omega))
        have hln3 : (l.take (j + 1) ++ [x]).length + (l.drop (j + 1)).length < 1000000000 := by rw [List.length_append, htk, hdl]; simp; omega
        have hlk : (l.take (j + 1) ++ [x]).length = (j + 1) + 1 := by rw [List.length_append, htk]; rfl
        try rw [htk] at hR2
        try rw [htk]
        have hR2' : Row Pr.enc 22 w2 V.heap.size (.slice (some ⟨g2, 0, none⟩) (j + 1 + 1) c2) (l.take (j + 1) ++ [x]) := hR2
        clear hR2
        obtain ⟨off, ho, hcell⟩ := hoff
        rcases ho with ⟨hck, ho⟩ | ⟨hck, ho⟩
        all_goals
          rw [ho] at hcell
          clear ho
          go_wp2_with (at_builtin; refine append_off (enc := Pr.enc) Try.underlying103 info_ints (by decide) (by decide) (fun _ => rfl) rfl _ _ rfl V.heap.size _ (l.take (j + 1) ++ [x]) (l.drop (j + 1)) g _ _ hR2' rfl (by rw [hdl]; rfl) hcell hln3 hB3 ?_)
          intro v3 w3 hR3 hg3 _
          have hb3 : Below V.heap.size V w3 := hb2.grown hg3 hB3 (fun i hi => (Row.lt hR2' hi).1)
          have hfin : l.take (j + 1) ++ x :: l.drop (j + 1) = putK gtR l x := by
            unfold putK
            rw [hst.out]
          try rw [List.append_assoc, List.singleton_append] at hR3
          rw [hfin] at hR3
          have hpl := putK_len gtR l x
          obtain ⟨g4, c4, hv4⟩ : ∃ g4 c4, v3 = .slice (some ⟨g4, 0, none⟩) (l.length + 1) c4 := by
            rcases hR3.form with ⟨_, h⟩ | ⟨g4, c4, h, _⟩
            · rw [h] at hpl; simp at hpl
            · exact ⟨g4, c4, by rw [h, hpl]⟩
          have hbf : Below w.heap.size w w3 := bld.trans (hb3.mono bld.size)
          have hRf : Row Pr.enc 22 w3 w.heap.size v3 (putK gtR l x) := Row.le hR3 bld.size
          rw [hv4] at hRf
          clear hR3 hR2' hg3 hcell hb3 hb2 hb1 hl2 hx2 hln3 hck
          go_wp2
          go_ret
          exact ⟨g4, c4, by rw [← hv4]; rfl, hRf, hbf⟩
      · have hk1 : Hid (l[j].a = x.a ∧ l[j].b ≤ x.b) := Lib.hid ⟨h1, h2⟩
        clear h1 h2
        obtain ⟨y, hy⟩ : ∃ y, l[j] = y := ⟨_, rfl⟩
        have hl1 := HL.out.below bl
        have hx1 := HX.out.below bl
        have c0 := Row.cell hl1.1 (k := j) hj
        rw [hy] at c0
        obtain ⟨y0, y1, y2, y3⟩ := (hl1.2 y (by rw [← hy]; exact List.getElem_mem hj)).cells
        obtain ⟨x0, x1, x2, x3⟩ := hx1.cells
        have hg1 : g < wr.heap.size := (Row.lt hl1.1 (g := g) rfl).2
        have h0 : (0 < j + 1) = True := by simp
        have c0' : wr.cell? ⟨g, j, none⟩ = some (.slice (some ⟨y.g, 0, none⟩) 2 y.c) := c0
        have hy0 := hy
        clear hl1 hx1 c0
        have h1 : (x.a < y.a) = False := by rw [← hy0, hk1.out.1]; simp
        have h1' : (y.a == x.a) = true := by rw [← hy0, hk1.out.1]; simp
        have h2 : (x.b < y.b) = False := by rw [← hy0]; have := hk1.out.2; simp; omega
        generalize y.a = ya at *
        generalize y.b = yb at *
        generalize x.a = xa at *
        generalize x.b = xb at *
        clear hk1 hy0 hy
        go_wp2
        go_quiet (fail)
        replace bld : Below w.heap.size w (wr.drewN nq) := bl.trans (below_drewN _ _ _)
        generalize hV : wr.drewN nq = V at *
        clear hV c0' y0 y1 y2 x0 x1 x2 hg1 h0 h1 h1' h2
        have hlc : l.length ≤ c := by
          rcases hcap with ⟨h, _⟩ | ⟨_, _, h, _, _, h2, _⟩
          · cases h
          · injection h with _ _ h3
            omega
        clear hcap
        have hkc : j + 1 ≤ c := by omega
        have hl2 := HL.out.below bld
        have hx2 := HX.out.below bld
        have hgl2 : g < V.heap.size := by have := bld.size; omega
        have htk : (l.take (j + 1)).length = j + 1 := by rw [List.length_take]; omega
        have hrt := Row.take2 hl2.1 hk
        have hu : Row Pr.enc 22 (V.alloc (.cells #[] 22)) B (.slice (some ⟨g, 0, none⟩) (j + 1) c) (l.take (j + 1)) := Row.alloc hrt _
        have hE := Row.none_ (α := Pr) (enc := Pr.enc) (E := 22) V
        have hB1 : V.heap.size ≤ (V.alloc (.cells #[] 22)).heap.size := by simp
        have hz1 := Joins.below_alloc1 V (.cells #[] 22)
        have hln : ([] : List Pr).length + (l.take (j + 1)).length < 1000000000 := by rw [htk]; simp; omega
        go_wp2_with (at_builtin; refine append_rows (enc := Pr.enc) Try.underlying103 info_ints (by decide) (by decide) (fun _ => rfl) rfl _ _ rfl V.heap.size B _ _ ([] : List Pr) (l.take (j + 1)) hE hu rfl rfl hln hB1 ?_)
        intro v1 w1 hR1 hg1 hat1
        try rw [List.nil_append] at hR1
        have hb1 : Below V.heap.size V w1 := hz1.grown hg1 hB1 (fun i hi => by rw [ownBlock_slice] at hi; injection hi with hi; omega)
        clear hE hu hz1 hln hrt hg1 hB1
        have hB2 := hb1.size
        have hln2 : (l.take (j + 1)).length < 1000000000 := by rw [htk]; omega
        go_wp2_with (at_builtin; refine append_gen (enc := Pr.enc) Try.underlying103 info_ints (by decide) (by decide) rfl _ _ rfl V.heap.size w1.heap.size v1 (l.take (j + 1)) x rfl hR1 rfl rfl rfl hln2 hB2 ?_)
        intro g2 c2 w2 hR2 hg2 hat2
        have hb2 : Below V.heap.size V w2 := hb1.grown hg2 hB2 (fun i hi => (Row.lt hR1 hi).1)
        clear hR1 hg2 hat1 hat2 hB2 hln2
        have hl3 := hl2.1
        have hB3 := hb2.size
        have hdl : (l.drop (j + 1)).length = l.length - (j + 1) := List.length_drop
        have hoff : ∃ off : Nat, (((c = j + 1) = True ∧ off = 0) ∨ ((c = j + 1) = False ∧ off = j + 1)) ∧ ∀ (q : Nat) (hq : q < (l.drop (j + 1)).length), w2.cell? ⟨g, off + q, none⟩ = some (Pr.enc (l.drop (j + 1))[q]) := by
          by_cases hck : c = j + 1
          · exact ⟨0, .inl ⟨by simp [hck], rfl⟩, fun q hq => by rw [hdl] at hq; omega⟩
          · refine ⟨j + 1, .inr ⟨by simp [hck], rfl⟩, fun q hq => ?_⟩
            rw [List.getElem_drop]
            exact (hb2.cell (p := ⟨g, (j + 1) + q, none⟩) hgl2).trans (Row.cell hl3 (by omega))
        have hln3 : (l.take (j + 1) ++ [x]).length + (l.drop (j + 1)).length < 1000000000 := by rw [List.length_append, htk, hdl]; simp; omega
        have hlk : (l.take (j + 1) ++ [x]).length = (j + 1) + 1 := by rw [List.length_append, htk]; rfl
        try rw [htk] at hR2
        try rw [htk]
        have hR2' : Row Pr.enc 22 w2 V.heap.size (.slice (some ⟨g2, 0, none⟩) (j + 1 + 1) c2) (l.take (j + 1) ++ [x]) := hR2
        clear hR2
        obtain ⟨off, ho, hcell⟩ := hoff
        rcases ho with ⟨hck, ho⟩ | ⟨hck, ho⟩
        all_goals
          rw [ho] at hcell
          clear ho
          go_wp2_with (at_builtin; refine append_off (enc := Pr.enc) Try.underlying103 info_ints (by decide) (by decide) (fun _ => rfl) rfl _ _ rfl V.heap.size _ (l.take (j + 1) ++ [x]) (l.drop (j + 1)) g _ _ hR2' rfl (by rw [hdl]; rfl) hcell hln3 hB3 ?_)
          intro v3 w3 hR3 hg3 _
          have hb3 : Below V.heap.size V w3 := hb2.grown hg3 hB3 (fun i hi => (Row.lt hR2' hi).1)
          have hfin : l.take (j + 1) ++ x :: l.drop (j + 1) = putK gtR l x := by
            unfold putK
            rw [hst.out]
          try rw [List.append_assoc, List.singleton_append] at hR3
          rw [hfin] at hR3
          have hpl := putK_len gtR l x
          obtain ⟨g4, c4, hv4⟩ : ∃ g4 c4, v3 = .slice (some ⟨g4, 0, none⟩) (l.length + 1) c4 := by
            rcases hR3.form with ⟨_, h⟩ | ⟨g4, c4, h, _⟩
            · rw [h] at hpl; simp at hpl
            · exact ⟨g4, c4, by rw [h, hpl]⟩
          have hbf : Below w.heap.size w w3 := bld.trans (hb3.mono bld.size)
          have hRf : Row Pr.enc 22 w3 w.heap.size v3 (putK gtR l x) := Row.le hR3 bld.size
          rw [hv4] at hRf
          clear hR3 hR2' hg3 hcell hb3 hb2 hb1 hl2 hx2 hln3 hck
          go_wp2
          go_ret
          exact ⟨g4, c4, by rw [← hv4]; rfl, hRf, hbf⟩
end Go.Proofs.Ytnldahadldolpaa
