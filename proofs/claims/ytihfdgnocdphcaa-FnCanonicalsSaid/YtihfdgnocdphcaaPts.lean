/-
  Rows of points in memory; the program's list of all inner points.
-/
import Derived.Test.YtihfdgnocdphcaaNum
import Derived.Maps.AppendAt
namespace Go.Proofs.Ytihfdgnocdphcaa
open Go.RowKit Knot

theorem info_point : (Try.prog.info? 36).map (fun i => (i.zero, i.size, i.bytes)) = some (some (.agg #[.int .i64 0, .int .i64 0]), 2, 16) := by kernel_rfl

/-- The slice value v holds n points, whose numbers read as zs, one after the other (X, Y, X, Y, ..), in a row of the call's own from block B on. -/
def PRow (w : World) (B : Nat) (v : Value) (n : Nat) (zs : List Int) : Prop := w.ownsRow B 36 2 v n (zs.map (Value.int .i64))
section
variable {w w' : World} {B n : Nat} {v : Value} {zs : List Int}
theorem PRow.len (h : PRow w B v n zs) : zs.length = 2 * n := by
  have := h.1
  simp at this
  omega
theorem PRow.form (h : PRow w B v n zs) : (v = .slice none 0 0 ∧ n = 0) ∨ ∃ g c, v = .slice (some ⟨g, 0, none⟩) n c ∧ B ≤ g ∧ g < w.heap.size ∧ n ≤ c ∧ c ≤ maxLen := by
  rcases h.2 with ⟨hv, hn⟩ | ⟨g, cap, cur, hv, hg, hh, hn, hm, _⟩
  · exact .inl ⟨hv, hn⟩
  · exact .inr ⟨g, cap, hv, hg, (Array.getElem?_eq_some_iff.1 hh).1, hn, hm⟩
theorem PRow.open_ (h : PRow w B v n zs) : ∃ A c, v = .slice A n c ∧ n ≤ maxLen ∧ (0 < n → ∃ g, A = some ⟨g, 0, none⟩ ∧ B ≤ g ∧ g < w.heap.size) := by
  rcases h.form with ⟨hv, rfl⟩ | ⟨g, c, hv, h1, h2, h3, h4⟩
  · exact ⟨none, 0, hv, by simp, fun h => absurd h (by simp)⟩
  · exact ⟨_, _, hv, by omega, fun _ => ⟨g, rfl, h1, h2⟩⟩
theorem PRow.keep (h : PRow w B v n zs) (hb : ∀ g, v.ownBlock = some g → g < w.heap.size → w'.heap[g]? = w.heap[g]?) : PRow w' B v n zs := by
  obtain ⟨h1, h2⟩ := h
  refine ⟨h1, ?_⟩
  rcases h2 with h2 | ⟨g, cap, cur, hv, hg, hh, r⟩
  · exact .inl h2
  · exact .inr ⟨g, cap, cur, hv, hg, (hb g (by rw [hv]; rfl) (Array.getElem?_eq_some_iff.1 hh).1).trans hh, r⟩
theorem PRow.below (h : PRow w B v n zs) (hb : Below w.heap.size w w') : PRow w' B v n zs := h.keep fun g _ hg => hb.block g hg
theorem PRow.alloc (h : PRow w B v n zs) (o : Obj) : PRow (w.alloc o) B v n zs := World.ownsRow.alloc h o
theorem PRow.lt (h : PRow w B v n zs) {g : Nat} (hg : v.ownBlock = some g) : B ≤ g ∧ g < w.heap.size := World.ownsRow.lt h g hg
theorem PRow.le (h : PRow w B v n zs) {C : Nat} (hc : C ≤ B) : PRow w C v n zs := by
  obtain ⟨h1, h2⟩ := h
  refine ⟨h1, ?_⟩
  rcases h2 with h2 | ⟨g, cap, cur, hv, hg, r⟩
  · exact .inl h2
  · exact .inr ⟨g, cap, cur, hv, by omega, r⟩
theorem PRow.setCell (h : PRow w B v n zs) {p : Addr} (hne : ∀ g, v.ownBlock = some g → g ≠ p.block) (u : Value) : PRow (w.setCell p u) B v n zs :=
  h.keep fun g hv _ => Below.heap_setCell w p u g (hne g hv)
theorem PRow.none_ (w : World) : PRow (w.alloc (.cells #[] 36)) w.heap.size (.slice (some ⟨w.heap.size, 0, none⟩) 0 0) 0 [] :=
  World.ownsRow_made w #[] 0 (Nat.le_refl _) (Nat.zero_le _) (by simp)
theorem PRow.cell {g c m : Nat} (h : PRow w B (.slice (some ⟨g, 0, none⟩) m c) n zs) {j : Nat} (hj : j < 2 * n) : w.cell? ⟨g, j, none⟩ = some (.int .i64 (gI zs (j : Nat))) := by
  have hm : m = n := by
    rcases h.form with ⟨h1, _⟩ | ⟨_, _, h1, _⟩ <;> cases h1
    rfl
  subst hm
  have hl := h.len
  have := World.ownsRow.cellAt h j (by omega)
  rw [this]
  have hlt : j < zs.length := by omega
  simp [gI, List.getD, hlt]
theorem PRow.free {g c m : Nat} (h : PRow w B (.slice (some ⟨g, 0, none⟩) m c) n zs) (j : Nat) : w.frozen? ⟨g, j, none⟩ = false := by
  have hm : m = n := by
    rcases h.form with ⟨h1, _⟩ | ⟨_, _, h1, _⟩ <;> cases h1
    rfl
  subst hm
  exact World.ownsRow.frozenAt h j
theorem PRow.set_ {g c m : Nat} (h : PRow w B (.slice (some ⟨g, 0, none⟩) m c) n zs) (j : Nat) (x : Int) : PRow (w.setCell ⟨g, j, none⟩ (.int .i64 x)) B (.slice (some ⟨g, 0, none⟩) m c) n (zs.set j x) := by
  have hm : m = n := by
    rcases h.form with ⟨h1, _⟩ | ⟨_, _, h1, _⟩ <;> cases h1
    rfl
  subst hm
  have := (World.ownsRow.stored h j (.int .i64 x)).1
  unfold PRow
  rw [List.map_set]
  exact this
end

/-- 'out = append(out, Point{..})'. -/
theorem append_pt {ops : Array Oper} {rest : List Oper} {o : Oper} {a : Act} {Q : Exit → Act → World → Prop} {wr : World} (hgd : o.guard = none) (s x : Operand)
    (ho : o.op = .call { callee := .builtin .append, args := #[s, x], argTypes := #[66, 66] })
    (B H n : Nat) (v : Value) (zs : List Int) (p q : Int) (hv : PRow wr B v n zs) (hs : a.eval s = v) (hx : a.eval x = .slice (some ⟨H, 0, none⟩) 1 1) (hH : wr.heap.size = H)
    (hlen : n < 1000000000) (hB : B ≤ wr.heap.size)
    (h : ∀ g c w', PRow w' B (.slice (some ⟨g, 0, none⟩) (n + 1) c) (n + 1) (zs ++ [p, q]) → wr.grownBy w' v.ownBlock → (v.ownBlock = some g ∨ wr.heap.size ≤ g) →
      wpList Try.prog ops Q rest (a.put o.dst (.slice (some ⟨g, 0, none⟩) (n + 1) c)) w') :
    wpList Try.prog ops Q (o :: rest) a (wr.alloc (.cells #[.int .i64 p, .int .i64 q] 36)) := by
  subst hH
  obtain ⟨i0, hi, hz0, hz1, hz2⟩ := info_parts info_point
  have hown := World.ownsRow.alloc hv (.cells #[.int .i64 p, .int .i64 q] 36)
  refine wpList_append_own_at _ hgd s x 66 ho B 36 i0 (.agg #[.int .i64 0, .int .i64 0]) 2 16 Try.underlying66 hi hz0 hz1 hz2 rfl (by decide) v n (zs.map (Value.int .i64)) hs hown ⟨wr.heap.size, 0, none⟩ 1 1 [.int .i64 p, .int .i64 q] hx rfl
    (fun j u hu => ?_) (fun u hu => by simp at hu; rcases hu with rfl | rfl <;> rfl) (by unfold maxLen; omega) (by omega) (by rw [World.size_alloc]; omega) ?_
  · have hb := Box.new wr 36 #[.int .i64 p, .int .i64 q]
    have hadd : (⟨wr.heap.size, 0, none⟩ : Addr).add j = ⟨wr.heap.size, j, none⟩ := by unfold Addr.add; split <;> simp_all
    rw [hadd, hb.cell j]
    simpa using hu
  · intro v' w' hown' hgrow _ hat
    have hI : PRow w' B v' (n + 1) (zs ++ [p, q]) := by
      unfold PRow
      rw [List.map_append]
      exact hown'
    rcases hI.form with ⟨_, h2⟩ | ⟨g, c, rfl, _⟩
    · omega
    · refine h g c w' hI ⟨hgrow.os, hgrow.tape, hgrow.output, by have := hgrow.size; rw [World.size_alloc] at this; omega, fun k hk hne => ?_⟩ ?_
      · exact (hgrow.block k (by rw [World.size_alloc]; omega) hne).trans (Below.heap_alloc _ _ _ hk)
      · rcases hat with e | e
        · exact .inl e.symm
        · rw [World.size_alloc] at e
          simp [Value.ownBlock] at e
          exact .inr (by omega)

set_option maxHeartbeats 4000000 in
theorem points_any {w : World} {W H : Int} {v : Value} {hn : Nat} (hW : 1 ≤ W ∧ W ≤ 8) (hH : 1 ≤ H ∧ H ≤ 8) (hN : inner W H = hn) {A : Option Addr} {n c : Nat} (hv : v = .slice A n c) :
    Calls Try.prog 92 #[.agg #[.int .i64 W, .int .i64 H, v]] w fun e w' => ∃ A c, e = .returned (.slice A hn c) ∧ PRow w' w.heap.size (.slice A hn c) hn (ptsTo W hn) ∧ Below w.heap.size w w' := by
  subst hv
  obtain ⟨W1, W8⟩ := hW
  obtain ⟨H1, H8⟩ := hH
  have bl := Joins.below_alloc2 w (.cells #[.int .i64 W, .int .i64 H, .slice A n c] 30) (.cells #[] 36)
  have hL := PRow.none_ (w.alloc (.cells #[.int .i64 W, .int .i64 H, .slice A n c] 30))
  rw [World.size_alloc] at hL
  have ba := (Box.new w 30 #[.int .i64 W, .int .i64 H, .slice A n c]).alloc (.cells #[] 36)
  have HR1 := Lib.hid (row_one W1 W8)
  have HRE : Hid (rowOf W (2 * H) = hn) := Lib.hid (by rw [row_end W1 W8]; exact hN)
  have hbd := inner_bd W1 W8 H1 H8
  have hn2 : hn ≤ 200 := by unfold inner at hN; omega
  clear hN hbd
  go_enter Try.func92, Try.ntmps92
  go_wp2
  go_loopw [3, 4] (fun s t wr => ∃ (y : Int) (m : Nat) (B : Option Addr) (d : Nat), 1 ≤ y ∧ y ≤ 2 * H ∧ t = .int .i64 y ∧ s = .slice B m d ∧ Hid (rowOf W y = m) ∧ PRow wr (w.heap.size + 1) (.slice B m d) m (ptsTo W m) ∧ Below (w.heap.size + 1) (w.alloc (.cells #[.int .i64 W, .int .i64 H, .slice A n c] 30)) wr) (fun _ t _ => (2 * H - intOf t).toNat)
  case atStart => exact ⟨1, 0, _, 0, by omega, by omega, rfl, rfl, HR1, hL, (Below.refl _ _).alloc (by simp) _⟩
  case round =>
    obtain ⟨y, m, D, d, y1, y2, rfl, rfl, hm, hP, hb⟩ := hrel
    clear hL bl ba
    have ba : Box wr w.heap.size 30 #[.int .i64 W, .int .i64 H, .slice A n c] := (hb.block _ (by omega)).trans (Box.new w 30 #[.int .i64 W, .int .i64 H, .slice A n c])
    have q0 := ba.cell 0
    have q1 := ba.cell 1
    have n0 := ba.lt
    by_cases hlt : y < 2 * H
    · obtain ⟨W0, hW0⟩ : ∃ x, x = wr := ⟨wr, rfl⟩
      subst hW0
      have hy0 : 0 ≤ y := by omega
      have hrs := row_succ W1 W8 y1
      have HS := Lib.hid hrs
      have HMY := hm
      obtain ⟨e0, e1⟩ : 0 ≤ y % 2 ∧ y % 2 ≤ 1 := by omega
      clear hrs
      go_wp2
      clear q0 q1 n0
      go_loopw [3, 5] (fun s t wr => ∃ (x : Int) (m : Nat) (B : Option Addr) (d : Nat), 1 ≤ x ∧ x ≤ 2 * W + 1 ∧ t = .int .i64 x ∧ s = .slice B m d ∧ Hid ((x + y) % 2 = 1 ∧ rowOf W y + (x - 1) / 2 = m) ∧ PRow wr (w.heap.size + 1) (.slice B m d) m (ptsTo W m) ∧ Below (w.heap.size + 1) (w.alloc (.cells #[.int .i64 W, .int .i64 H, .slice A n c] 30)) wr) (fun _ t _ => (2 * W + 1 - intOf t).toNat)
      case atStart => exact ⟨1 + y % 2, m, D, d, by omega, by omega, rfl, rfl, Lib.hid ⟨by omega, by have := HMY.out; omega⟩, hP, hb⟩
      case round =>
        obtain ⟨x, m, D, d, x1, x2, rfl, rfl, hx, hP, hb⟩ := hrel
        have ba : Box wr w.heap.size 30 #[.int .i64 W, .int .i64 H, .slice A n c] := (hb.block _ (by omega)).trans (Box.new w 30 #[.int .i64 W, .int .i64 H, .slice A n c])
        have q0 := ba.cell 0
        have q1 := ba.cell 1
        have n0 := ba.lt
        by_cases hlx : x < 2 * W
        · have hn' := num_pt (H := H) W1 W8 y1 hlt x1 hlx hx.out.1
          have hsz := hb.size
          rw [World.size_alloc] at hsz
          have hml : m < 1000000000 := by
            have h1 := hn'.2.1
            have h2 := hx.out.2
            have h3 := inner_bd W1 W8 H1 H8
            unfold inner at h1
            omega
          have HZ : Hid (ptsTo W m ++ [x, y] = ptsTo W (m + 1)) := Lib.hid (by
            rw [ptsTo]
            congr 2
            · have := hn'.2.2.1; rw [hx.out.2] at this; exact this.symm
            · congr 1
              have := hn'.2.2.2; rw [hx.out.2] at this; exact this.symm)
          have HX2 : Hid ((x + 2 + y) % 2 = 1 ∧ rowOf W y + (x + 2 - 1) / 2 = ((m + 1 : Nat) : Int)) := Lib.hid (by have := hx.out; omega)
          clear hn' hx hm HMY
          go_wp2_with (at_builtin; refine append_pt rfl _ _ rfl (w.heap.size + 1) _ m _ (ptsTo W m) x y hP rfl rfl (by simp) hml hsz ?_)
          intro g c' w2 hP2 hg2 _
          rw [HZ.out] at hP2
          have hb2 : Below (w.heap.size + 1) (w.alloc (.cells #[.int .i64 W, .int .i64 H, .slice A n c] 30)) w2 := hb.grown hg2 hsz (fun j hj => (PRow.lt hP hj).1)
          have ba2 : Box w2 w.heap.size 30 #[.int .i64 W, .int .i64 H, .slice A n c] := (hb2.block _ (by omega)).trans (Box.new w 30 #[.int .i64 W, .int .i64 H, .slice A n c])
          clear hP hb hg2 q0 q1 n0 ba ba2
          go_wp2
          go_roundw
          case rel => exact ⟨x + 2, m + 1, _, c', by omega, by omega, rfl, rfl, HX2, hP2, hb2⟩
          case measure => simp [intOf]; omega
        · have HM2 : Hid (rowOf W (y + 1) = m) := Lib.hid (by have := hx.out; have := HS.out; omega)
          clear hx hm HMY
          go_wp2
          go_roundw
          case rel => exact ⟨y + 1, m, D, d, by omega, by omega, rfl, rfl, HM2, hP, hb⟩
          case measure => simp [intOf]; omega
    · have e : y = 2 * H := by omega
      subst e
      have hmn : m = hn := by have := hm.out; have := HRE.out; omega
      subst hmn
      clear hm HRE
      go_wp2
      go_ret
      exact ⟨D, d, rfl, hP.le (by omega), bnext (Joins.below_alloc1 _ _) (hb.mono (by simp))⟩
end Go.Proofs.Ytihfdgnocdphcaa
