/-
  The library's Compact at a row of points that stand in order.
-/
import Derived.Test.YtihfdgnocdphcaaPtF
import Derived.Test.YtihfdgnocdphcaaPts
import Derived.Test.YtihfdgnocdphcaaPlAllD
import Derived.Lib.SliceRun
import Derived.BigRegion
namespace Go.Proofs.Ytihfdgnocdphcaa
open Go.RowKit Knot

/-- Points are one, or they are not. -/
theorem ptEqT (X Y : Int) (u : World) : (binOp .eql 36 (.agg #[.int .i64 X, .int .i64 Y]) (.agg #[.int .i64 X, .int .i64 Y])).run Try.prog u = .ok (.bool true) u := by
  simp [go_sem]
theorem ptEqF {X Y x y : Int} (h : ¬ (X = x ∧ Y = y)) (u : World) : (binOp .eql 36 (.agg #[.int .i64 X, .int .i64 Y]) (.agg #[.int .i64 x, .int .i64 y])).run Try.prog u = .ok (.bool false) u := by
  by_cases h1 : X = x
  · have h2 : ¬ Y = y := fun h2 => h ⟨h1, h2⟩
    simp [go_sem, h1, h2]
  · simp [go_sem, h1]
theorem ptNeF (X Y : Int) (u : World) : (binOp .neq 36 (.agg #[.int .i64 X, .int .i64 Y]) (.agg #[.int .i64 X, .int .i64 Y])).run Try.prog u = .ok (.bool false) u := by
  simp [go_sem]
theorem ptNeT {X Y x y : Int} (h : ¬ (X = x ∧ Y = y)) (u : World) : (binOp .neq 36 (.agg #[.int .i64 X, .int .i64 Y]) (.agg #[.int .i64 x, .int .i64 y])).run Try.prog u = .ok (.bool true) u := by
  by_cases h1 : X = x
  · have h2 : ¬ Y = y := fun h2 => h ⟨h1, h2⟩
    simp [go_sem, h1, h2]
  · simp [go_sem, h1]
theorem ptF_set : ∀ (l : List (Int × Int)) (k : Nat) (x : Int × Int), ptF (l.set k x) = ((ptF l).set (k * 2) x.1).set (k * 2 + 1) x.2
  | [], k, x => by simp [ptF]
  | a :: l, 0, x => by simp [ptF]
  | a :: l, k + 1, x => by
    have ih := ptF_set l k x
    have e : ∀ b m, ptF (b :: m) = b.1 :: b.2 :: ptF m := fun _ _ => rfl
    rw [List.set_cons_succ, e, e, ih, show (k + 1) * 2 = k * 2 + 1 + 1 by omega]
    simp
theorem ptF_take (l : List (Int × Int)) (k : Nat) : ptF (l.take k) = (ptF l).take (2 * k) := by
  induction l generalizing k with
  | nil => simp [ptF]
  | cons a t ih =>
    have e : ∀ b m, ptF (b :: m) = b.1 :: b.2 :: ptF m := fun _ _ => rfl
    cases k with
    | zero => simp [ptF]
    | succ k =>
      rw [List.take_succ_cons, e, e, ih, show 2 * (k + 1) = 2 * k + 1 + 1 by omega]
      simp
/-- The same points. -/
def SamePts (m l : List (Int × Int)) : Prop := ∀ q, q ∈ m ↔ q ∈ l
section
variable {w w' : World} {B g n c : Nat} {zs : List Int} {l : List (Int × Int)}
theorem PRow.take_ (h : PRow w B (.slice (some ⟨g, 0, none⟩) n c) n zs) {k : Nat} (hk : k ≤ n) : PRow w B (.slice (some ⟨g, 0, none⟩) k c) k (zs.take (2 * k)) := by
  have hl := h.len
  obtain ⟨h1, h2⟩ := h
  refine ⟨by rw [List.length_map, List.length_take]; omega, ?_⟩
  rcases h2 with ⟨hv, _⟩ | ⟨g', cap, cur, hv, hg, hh, k1, k2, k3, k4⟩
  · cases hv
  · cases hv
    refine .inr ⟨g, c, cur, rfl, hg, hh, by omega, k2, k3, ?_⟩
    have : cur.toList.take (k * 2) = (cur.toList.take (n * 2)).take (k * 2) := by rw [List.take_take, Nat.min_eq_left (by omega)]
    rw [this, k4, List.map_take, Nat.mul_comm k 2]
theorem PRow.beyond (h : PRow w B (.slice (some ⟨g, 0, none⟩) n c) n zs) : ∀ (us : List Int) (o : Nat), 2 * n ≤ o → PRow (w.setCells g o (us.map (Value.int .i64))) B (.slice (some ⟨g, 0, none⟩) n c) n zs := by
  intro us
  induction us generalizing w with
  | nil => intro o _; exact h
  | cons u us ih =>
    intro o ho
    have h2 := h.set_ o u
    rw [List.set_eq_of_length_le (by rw [h.len]; exact ho)] at h2
    exact ih h2 (o + 1) (by omega)
theorem Chg.cells {lo hi : Nat} {a b : World} : ∀ (us : List Value) (o : Nat) (_ : Chg lo hi a b), lo ≤ g → g < hi → Chg lo hi a (b.setCells g o us)
  | [], _, h, _, _ => h
  | u :: us, o, h, h1, h2 => Chg.cells us (o + 1) (⟨h.os, h.tape, h.output, by simpa [World.setCell] using h.size, fun k hk hd => (Below.heap_setCell b ⟨g, o, none⟩ u k (by show k ≠ g; omega)).trans (h.block k hk hd)⟩ : Chg lo hi a (b.setCell ⟨g, o, none⟩ u)) h1 h2
theorem Chg.cell1 {lo hi : Nat} {a b : World} (h : Chg lo hi a b) {o : Nat} (h1 : lo ≤ g) (h2 : g < hi) (u : Value) : Chg lo hi a (b.setCell ⟨g, o, none⟩ u) :=
  ⟨h.os, h.tape, h.output, by simpa [World.setCell] using h.size, fun k hk hd => (Below.heap_setCell b ⟨g, o, none⟩ u k (by show k ≠ g; omega)).trans (h.block k hk hd)⟩
theorem Chg.drw {lo hi : Nat} {a b : World} (h : Chg lo hi a b) (n : Nat) : Chg lo hi a (b.drewN n) := ⟨h.os, h.tape, h.output, h.size, h.block⟩
/-- The cells of point i. -/
theorem PRow.at_ (h : PRow w B (.slice (some ⟨g, 0, none⟩) n c) l.length (ptF l)) {i : Nat} (hi : i < l.length) :
    w.cell? ⟨g, i * 2, none⟩ = some (.int .i64 l[i].1) ∧ w.cell? ⟨g, i * 2 + 1, none⟩ = some (.int .i64 l[i].2) := by
  obtain ⟨e0, e1⟩ := ptF_at l i hi
  have c0 := h.cell (j := 2 * i) (by omega)
  have c1 := h.cell (j := 2 * i + 1) (by omega)
  rw [e0, Nat.mul_comm 2 i] at c0
  rw [e1, Nat.mul_comm 2 i] at c1
  exact ⟨c0, c1⟩
theorem clear_pts (w : World) (ty : TypeId) (o n c : Nat) (hn : 0 < n) (hc : ∀ j, j < n * 2 → (w.cell? ⟨g, o + j, none⟩).isSome = true) (hf : ∀ j, w.frozen? ⟨g, j, none⟩ = false) :
    (Builtin.clear_ #[66] ty #[.slice (some ⟨g, o, none⟩) n c]).run Try.prog w = .ok (.tuple #[]) (w.setCells g o (List.replicate (n * 2) (.int .i64 0))) := by
  have hzc : (Builtin.zeroCells (Value.agg #[.int .i64 0, .int .i64 0]).cells n).toList = List.replicate (n * 2) (.int .i64 0) := by
    simp [Builtin.zeroCells, Value.cells]
    apply List.ext_getElem
    · simp
    · intro i h1 h2
      rcases Nat.mod_two_eq_zero_or_one i with e | e <;> simp [e]
  have hst := run_storeCells_cells (P := Try.prog) g o (List.replicate (n * 2) (.int .i64 0)) 0 w (by simpa using hc) (fun j _ => hf _) (by intro v hv'; rw [List.eq_of_mem_replicate hv']; rfl)
  simp only [Nat.add_zero] at hst
  obtain ⟨m, rfl⟩ : ∃ m, n = m + 1 := ⟨n - 1, by omega⟩
  have hz : ∀ w, (zeroValue 36).run Try.prog w = .ok (.agg #[.int .i64 0, .int .i64 0]) w := by
    intro w
    kernel_rfl
  simp [Builtin.clear_, run_underlying Try.underlying66, hz, hzc, hst]
end

set_option maxRecDepth 20000 in
set_option maxHeartbeats 8000000 in
theorem compactPt_any {w : World} {B g c : Nat} {l : List (Int × Int)} (h : PRow w B (.slice (some ⟨g, 0, none⟩) l.length c) l.length (ptF l)) (hm : l.length ≤ 100000) (h1 : 1 ≤ l.length) (hs : l.Pairwise fun a b => ¬ lt2 b a) :
    Calls Try.prog 114 #[.slice (some ⟨g, 0, none⟩) l.length c] w fun e w' => ∃ l' : List (Int × Int), e = .returned (.slice (some ⟨g, 0, none⟩) l'.length c) ∧ Srt l' ∧ SamePts l' l ∧
      PRow w' B (.slice (some ⟨g, 0, none⟩) l'.length c) l'.length (ptF l') ∧ Chg g (g + 1) w w' := by
  have hlc : l.length ≤ c := by
    rcases h.form with ⟨h1, _⟩ | ⟨_, _, h1, _, _, h2, _⟩
    · cases h1
    · cases h1; exact h2
  have hgl := (h.lt (g := g) rfl).2
  by_cases h2 : l.length < 2
  · have e2 : (l.length : Int) < 2 := by omega
    have HP := Lib.hid h
    have HS : Hid (Srt l) := Lib.hid (by
      match l, h1, h2 with
      | [a], _, _ => simp
      | _ :: _ :: _, _, h => exact absurd h (by simp))
    clear h hs
    go_enter Try.func114, Try.ntmps114
    go_wp2
    go_ret
    exact ⟨l, rfl, HS.out, fun _ => Iff.rfl, HP.out, Chg.ofBelow (Below.refl _ _)⟩
  have e2 : ¬ (l.length : Int) < 2 := by omega
  have HP := Lib.hid h
  have HS := Lib.hid hs
  have H1 := Lib.hid (CptI.start h1)
  clear h hs
  go_enter Try.func114, Try.ntmps114
  go_wp2
  go_loopw [3] (fun s3 wr => ∃ k : Nat, k + 1 ≤ l.length ∧ s3 = .int .i64 ((k : Int) + 1) ∧ Hid (CptI l l (k + 1) (k + 1)) ∧ Below w.heap.size w wr) (fun s3 _ => l.length - (intOf s3).toNat)
  case atStart => exact ⟨0, h1, rfl, H1, Below.refl _ _⟩
  case round =>
    obtain ⟨k, hk, rfl, hI, hb⟩ := hrel
    have hPr := HP.out.below hb
    by_cases hlt : k + 1 < l.length
    · have i1 : ((k : Int) + 1) < l.length := by omega
      have i2 : (k : Int) < l.length := by omega
      have hjn : ((k : Int) + 1).toNat = k + 1 := by omega
      have hj0 : ((k : Int) + 1 - 1) = k := by omega
      obtain ⟨d0, d1⟩ := hPr.at_ (i := k + 1) hlt
      obtain ⟨e0, e1⟩ := hPr.at_ (i := k) (by omega)
      obtain ⟨X, hX⟩ : ∃ X, l[k + 1] = X := ⟨_, rfl⟩
      obtain ⟨Y, hY⟩ : ∃ Y, l[k] = Y := ⟨_, rfl⟩
      obtain ⟨X1, X2⟩ := X
      obtain ⟨Y1, Y2⟩ := Y
      rw [hX] at d0 d1
      rw [hY] at e0 e1
      have HX := Lib.hid (And.intro hX hY)
      have HB := Lib.hid hb
      have HPR := Lib.hid hPr
      clear hX hY hb hPr
      simp only [] at d0 d1 e0 e1
      by_cases he : X1 = Y1 ∧ X2 = Y2
      · obtain ⟨rfl, rfl⟩ := he
        have hq := ptEqT X1 X2
        go_wp2_with fail
        go_quiet (fail)
        obtain ⟨nq1, hnq1⟩ : ∃ m, m = nq := ⟨_, rfl⟩
        rw [← hnq1]
        have HP2 : Hid (PRow (wr.drewN nq1) B (.slice (some ⟨g, 0, none⟩) l.length c) l.length (ptF l)) := Lib.hid (HPR.out.below (below_drewN _ _ _))
        have HC2 : Hid (Chg g (g + 1) w (wr.drewN nq1)) := Lib.hid ((Chg.ofBelow HB.out).drw nq1)
        have HI2 : Hid (CptI l l (k + 1 + 1) (k + 1)) := Lib.hid (hI.out.skip hlt (by rw [HX.out.1]; simp only [Nat.add_sub_cancel]; exact HX.out.2.symm))
        clear hnq1 d0 d1 e0 e1 hq
        generalize (wr.drewN nq1) = W1 at HP2 HC2 ⊢
        go_wp2
        obtain ⟨n, hn⟩ : ∃ n, l.length = n := ⟨_, rfl⟩
        have HN := Lib.hid hn
        rw [hn] at hlc hk hlt i1 i2 hm HP2 ⊢
        clear hn h1 h2 e2
        go_loopw [3, 5] (fun s3 s5 wr => ∃ (kk i : Nat) (m : List (Int × Int)), s3 = .int .i64 kk ∧ s5 = .int .i64 ((i : Int) + 1) ∧ k + 1 + (i + 1) ≤ n ∧ kk < k + 1 + (i + 1) ∧ m.length = n ∧ Hid (CptI l m (k + 1 + (i + 1)) kk) ∧ PRow wr B (.slice (some ⟨g, 0, none⟩) n c) m.length (ptF m) ∧ Chg g (g + 1) w wr) (fun _ s5 _ => n - (intOf s5).toNat)
        case atStart => exact ⟨k + 1, 0, l, by go_num, rfl, by omega, by omega, HN.out, HI2, by rw [HN.out]; exact HP2.out, HC2.out⟩
        case round =>
          obtain ⟨kk, i, m, rfl, rfl, hi, hkk, hml, hI3, hP3, hc3⟩ := hrel
          have HC3 := Lib.hid hc3
          have HP3 := Lib.hid hP3
          have HM := Lib.hid hml
          clear hc3
          by_cases hlt3 : k + 1 + (i + 1) < n
          · have i3 : ((i : Int) + 1) < (n : Int) - ((k : Int) + 1) := by omega
            have i4 : ((i : Int)) < (n : Int) - ((k : Int) + 1) := by omega
            have hkI : (kk : Int) < n := by omega
            have hjn2 : ((i : Int) + 1).toNat = i + 1 := by omega
            have hj02 : ((i : Int) + 1 - 1) = i := by omega
            have hsub : ((n - (k + 1) : Nat) : Int) = (n : Int) - ((k : Int) + 1) := by omega
            obtain ⟨d0, d1⟩ := hP3.at_ (i := k + 1 + (i + 1)) (by omega)
            obtain ⟨e0, e1⟩ := hP3.at_ (i := k + 1 + i) (by omega)
            obtain ⟨b0, b1⟩ := hP3.at_ (i := kk) (by omega)
            have f0 := PRow.free hP3 (kk * 2)
            have f1 := PRow.free hP3 (kk * 2 + 1)
            have hm1 : m[k + 1 + (i + 1)]'(by omega) = l[k + 1 + (i + 1)]'(by rw [HN.out]; omega) := by
              have := hI3.out.high (k + 1 + (i + 1)) (by omega)
              rw [List.getElem?_eq_getElem (by omega), List.getElem?_eq_getElem (by rw [HN.out]; omega)] at this
              injection this
            have hm0 : m[k + 1 + i]'(by omega) = l[k + 1 + i]'(by rw [HN.out]; omega) := by
              have := hI3.out.high (k + 1 + i) (by omega)
              rw [List.getElem?_eq_getElem (by omega), List.getElem?_eq_getElem (by rw [HN.out]; omega)] at this
              injection this
            obtain ⟨U, hU⟩ : ∃ U, l[k + 1 + (i + 1)]'(by rw [HN.out]; omega) = U := ⟨_, rfl⟩
            obtain ⟨V, hV⟩ : ∃ V, l[k + 1 + i]'(by rw [HN.out]; omega) = V := ⟨_, rfl⟩
            obtain ⟨O, hO⟩ : ∃ O, m[kk]'(by omega) = O := ⟨_, rfl⟩
            obtain ⟨U1, U2⟩ := U
            obtain ⟨V1, V2⟩ := V
            obtain ⟨O1, O2⟩ := O
            rw [hm1, hU] at d0 d1
            rw [hm0, hV] at e0 e1
            rw [hO] at b0 b1
            simp only [] at d0 d1 e0 e1 b0 b1
            rw [Nat.add_mul (k + 1) (i + 1) 2] at d0 d1
            rw [Nat.add_mul (k + 1) i 2] at e0 e1
            have HU := Lib.hid (And.intro hU hV)
            clear hm1 hm0 hU hV hO hP3 HP2 HC2
            by_cases he : U1 = V1 ∧ U2 = V2
            · obtain ⟨rfl, rfl⟩ := he
              have hq := ptNeF U1 U2
              go_wp2_with fail
              go_quiet (fail)
              obtain ⟨nq2, hnq2⟩ : ∃ m, m = nq := ⟨_, rfl⟩
              rw [← hnq2]
              have HP4 : Hid (PRow (wr.drewN nq2) B (.slice (some ⟨g, 0, none⟩) n c) m.length (ptF m)) := Lib.hid (HP3.out.below (below_drewN _ _ _))
              have HC4 : Hid (Chg g (g + 1) w (wr.drewN nq2)) := Lib.hid (HC3.out.drw nq2)
              have HI4 : Hid (CptI l m (k + 1 + (i + 1 + 1)) kk) := Lib.hid (hI3.out.skip (by rw [HN.out]; exact hlt3) (by rw [HU.out.1]; exact HU.out.2.symm))
              clear hnq2 d0 d1 e0 e1 b0 b1 f0 f1 hq
              go_wp2
              go_roundw
              case rel => exact ⟨kk, i + 1, m, rfl, by go_num, by omega, by omega, HM.out, HI4, HP4.out, HC4.out⟩
              case measure => simp [intOf]; omega
            · have hq := ptNeT he
              go_wp2_with fail
              go_quiet (fail)
              obtain ⟨nq2, hnq2⟩ : ∃ m, m = nq := ⟨_, rfl⟩
              rw [← hnq2]
              have HP4 : Hid (PRow (wr.drewN nq2) B (.slice (some ⟨g, 0, none⟩) n c) m.length (ptF m)) := Lib.hid (HP3.out.below (below_drewN _ _ _))
              have HC4 : Hid (Chg g (g + 1) w (wr.drewN nq2)) := Lib.hid (HC3.out.drw nq2)
              have HI4 : Hid (CptI l (m.set kk (U1, U2)) (k + 1 + (i + 1 + 1)) (kk + 1)) := Lib.hid (by
                have := hI3.out.keep HS.out (by rw [HN.out]; exact hlt3) (by rw [HU.out.1]; intro e; rw [show l[k + 1 + (i + 1) - 1]'(by rw [HN.out]; omega) = (V1, V2) from HU.out.2] at e; injection e with e1 e2; exact he ⟨e1, e2⟩)
                rw [HU.out.1] at this
                exact this)
              clear hnq2 hq
              go_wp2
              go_roundw
              case rel =>
                refine ⟨kk + 1, i + 1, m.set kk (U1, U2), by go_num, by go_num, by omega, by omega, by rw [List.length_set]; exact HM.out, HI4, ?_, (HC4.out.cell1 (Nat.le_refl _) (Nat.lt_succ_self _) _).cell1 (Nat.le_refl _) (Nat.lt_succ_self _) _⟩
                rw [List.length_set, ptF_set]
                exact (HP4.out.set_ _ _).set_ _ _
              case measure => simp [intOf]; omega
          · have e : k + 1 + (i + 1) = n := by omega
            have i3 : ¬ ((i : Int) + 1) < (n : Int) - ((k : Int) + 1) := by omega
            have hsub : ((n - (k + 1) : Nat) : Int) = (n : Int) - ((k : Int) + 1) := by omega
            have hkI : (kk : Int) < n := by omega
            have hcl : ∀ ty, (Builtin.clear_ #[66] ty #[.slice (some ⟨g, kk * 2, none⟩) (n - kk) (c - kk)]).run Try.prog wr = .ok (.tuple #[]) (wr.setCells g (kk * 2) (List.replicate ((n - kk) * 2) (.int .i64 0))) := fun ty => clear_pts wr ty (kk * 2) (n - kk) (c - kk) (by omega) (fun j hj => by rw [hP3.cell (j := kk * 2 + j) (by omega)]; rfl) (fun j => hP3.free j)
            have hI4 := hI3.out
            rw [e, ← HN.out] at hI4
            obtain ⟨f1, f2⟩ := hI4.done
            have hmk : (m.take kk).length = kk := by rw [List.length_take]; omega
            have HF : Hid (Srt (m.take kk) ∧ SamePts (m.take kk) l) := Lib.hid ⟨f1, f2⟩
            have HPE : Hid (PRow (wr.setCells g (kk * 2) (List.replicate ((n - kk) * 2) (.int .i64 0))) B (.slice (some ⟨g, 0, none⟩) (m.take kk).length c) (m.take kk).length (ptF (m.take kk))) := Lib.hid (by
              have h1 : PRow wr B (.slice (some ⟨g, 0, none⟩) n c) n (ptF m) := by have := HP3.out; rw [HM.out] at this; exact this
              have h2 := (h1.take_ (k := kk) (by omega)).beyond (List.replicate ((n - kk) * 2) 0) (kk * 2) (by omega)
              rw [List.map_replicate, ← ptF_take] at h2
              rw [hmk]
              exact h2)
            have HCE : Hid (Chg g (g + 1) w (wr.setCells g (kk * 2) (List.replicate ((n - kk) * 2) (.int .i64 0)))) := Lib.hid (Chg.cells _ _ HC3.out (Nat.le_refl _) (Nat.lt_succ_self _))
            have HMK := Lib.hid hmk
            clear hI4 f1 f2 hmk hP3 hml
            go_wp2
            go_ret
            exact ⟨m.take kk, by rw [HMK.out]; rfl, HF.out.1, HF.out.2, HPE.out, HCE.out⟩
      · have hq := ptEqF he
        go_wp2_with fail
        go_quiet (fail)
        obtain ⟨nq1, hnq1⟩ : ∃ m, m = nq := ⟨_, rfl⟩
        rw [← hnq1]
        have HB2 : Hid (Below w.heap.size w (wr.drewN nq1)) := Lib.hid (bnext HB.out (below_drewN _ _ _))
        have HI2 : Hid (CptI l l (k + 1 + 1) (k + 1 + 1)) := Lib.hid (hI.out.same HS.out hlt (by rw [HX.out.1]; simp only [Nat.add_sub_cancel]; rw [HX.out.2]; intro e; injection e with e1 e2; exact he ⟨e1, e2⟩))
        clear hnq1 d0 d1 e0 e1 hq
        go_wp2
        go_roundw
        case rel => exact ⟨k + 1, by omega, by go_num, HI2, HB2.out⟩
        case measure => simp [intOf]; omega
    · have e : k + 1 = l.length := by omega
      have i1 : ¬ ((k : Int) + 1) < l.length := by omega
      have hI2 := hI.out
      rw [e] at hI2
      obtain ⟨f1, _⟩ := hI2.done
      rw [List.take_length] at f1
      have HF := Lib.hid f1
      clear hI2 f1
      have HPR := Lib.hid hPr
      clear hPr
      go_wp2
      go_ret
      exact ⟨l, rfl, HF.out, fun _ => Iff.rfl, HPR.out, Chg.ofBelow hb⟩
end Go.Proofs.Ytihfdgnocdphcaa
