/-
  All curves, traced by the reference.
-/
import Derived.Test.YtihfdgnocdphcaaTrS
import Derived.Test.YtihfdgnocdphcaaAppG
namespace Go.Proofs.Ytihfdgnocdphcaa
open Go.RowKit Knot

/-- A slice of slices of points that reads as the curves: each lies in a row of its own. -/
def NestP (w : World) (B : Nat) (v : Value) (css : List (List Wk)) : Prop :=
  ∃ vs : List Value, Row id 66 w B v vs ∧ vs.length = css.length ∧ ∀ i, i < css.length → PRow w B (vs.getD i undef) (css.getD i []).length (flatP (css.getD i []))
theorem NestP.keep {w w' : World} {B : Nat} {v : Value} {css : List (List Wk)} (h : NestP w B v css) (hb : ∀ (g : Nat) cur (t : TypeId), w.heap[g]? = some (.cells cur t (0, 0)) → t = 66 ∨ t = 36 → w'.heap[g]? = w.heap[g]?) : NestP w' B v css := by
  obtain ⟨vs, h1, h2, h3⟩ := h
  refine ⟨vs, ?_, h2, fun i hi => ?_⟩
  · obtain ⟨a, b⟩ := h1
    refine ⟨a, ?_⟩
    rcases b with b | ⟨g, cap, cur, hv, hg, hh, r⟩
    · exact .inl b
    · exact .inr ⟨g, cap, cur, hv, hg, (hb g cur _ hh (.inl rfl)).trans hh, r⟩
  · obtain ⟨a, b⟩ := h3 i hi
    refine ⟨a, ?_⟩
    rcases b with b | ⟨g, cap, cur, hv, hg, hh, r⟩
    · exact .inl b
    · exact .inr ⟨g, cap, cur, hv, hg, (hb g cur _ hh (.inr rfl)).trans hh, r⟩
theorem NestP.below {w w' : World} {B : Nat} {v : Value} {css : List (List Wk)} (h : NestP w B v css) (hb : Below w.heap.size w w') : NestP w' B v css :=
  h.keep fun g _ _ hg _ => hb.block g (Array.getElem?_eq_some_iff.1 hg).1
theorem info_pts : (Try.prog.info? 66).map (fun i => (i.zero, i.size, i.bytes)) = some (some (.slice none 0 0), 1, 24) := by kernel_rfl
theorem NestP.none_ (w : World) : NestP (w.alloc (.cells #[] 66)) w.heap.size (.slice (some ⟨w.heap.size, 0, none⟩) 0 0) [] :=
  ⟨[], Row.none_ w, rfl, fun i hi => by simp at hi⟩
theorem NestP.le {w : World} {B C : Nat} {v : Value} {css : List (List Wk)} (h : NestP w B v css) (hc : C ≤ B) : NestP w C v css := by
  obtain ⟨vs, h1, h2, h3⟩ := h
  exact ⟨vs, h1.le hc, h2, fun i hi => (h3 i hi).le hc⟩
theorem NestP.snoc {w : World} {B : Nat} {v y : Value} {vs : List Value} {css : List (List Wk)} {c : List Wk} (h1 : Row id 66 w B v (vs ++ [y])) (h2 : vs.length = css.length)
    (h3 : ∀ i, i < css.length → PRow w B (vs.getD i undef) (css.getD i []).length (flatP (css.getD i []))) (h4 : PRow w B y c.length (flatP c)) : NestP w B v (css ++ [c]) := by
  refine ⟨_, h1, by simp [h2], fun i hi => ?_⟩
  by_cases h : i < css.length
  · have e1 : (vs ++ [y]).getD i undef = vs.getD i undef := by simp [List.getD, List.getElem?_append_left (show i < vs.length by omega)]
    have e2 : (css ++ [c]).getD i [] = css.getD i [] := by simp [List.getD, List.getElem?_append_left h]
    rw [e1, e2]
    exact h3 i h
  · have e : i = css.length := by simp at hi; omega
    subst e
    have e1 : (vs ++ [y]).getD css.length undef = y := by simp [List.getD, ← h2]
    have e2 : (css ++ [c]).getD css.length [] = c := by simp [List.getD]
    rw [e1, e2]
    exact h4
theorem row_type {α : Type} {enc : α → Value} {E : TypeId} {w : World} {B k n c : Nat} {xs : List α} (h : Row enc E w B (.slice (some ⟨k, 0, none⟩) n c) xs) : ∃ cur, w.heap[k]? = some (.cells cur E (0, 0)) := by
  rcases h.2 with ⟨hv, _⟩ | ⟨g, cap, cur, hv, _, hh, _⟩
  · cases hv
  · cases hv
    exact ⟨cur, hh⟩
theorem cell_block {w w' : World} {g : Nat} (h : w'.heap[g]? = w.heap[g]?) {o : Nat} : w'.cell? ⟨g, o, none⟩ = w.cell? ⟨g, o, none⟩ := by
  simp only [World.cell?, h]
/-- A change of one block of numbers leaves curves as they are. -/
theorem NestP.chg1 {w w' : World} {B B2 k n c : Nat} {v : Value} {css : List (List Wk)} {xs : List Int} (h : NestP w B v css) (hk : Ints w B2 (.slice (some ⟨k, 0, none⟩) n c) xs) (hb : ∀ g, g < w.heap.size → g ≠ k → w'.heap[g]? = w.heap[g]?) : NestP w' B v css := by
  obtain ⟨cur0, h0⟩ := row_type hk
  refine h.keep fun g cur t hg ht => hb g (Array.getElem?_eq_some_iff.1 hg).1 ?_
  rintro rfl
  rw [hg] at h0
  injection h0 with h0
  injection h0 with h1 h2 h3
  subst h2
  rcases ht with ht | ht <;> exact absurd ht (by decide)
set_option maxHeartbeats 8000000 in
theorem l04All_any {w : World} {b Bd : Nat} {W H : Int} {v : Value} {B : List Int} (bp : Box w b 30 #[.int .i64 W, .int .i64 H, v]) (hI : Ints w Bd v B) (hp : Ok ⟨W, H, B⟩) :
    Calls Try.prog 133 #[.pointer (some ⟨b, 0, none⟩)] w fun e w' => ∃ (D : Option Addr) (c g : Nat),
      e = .returned (.tuple #[.slice D (traceP ⟨W, H, B⟩ (segN ⟨W, H, B⟩)).1.length c, .slice (some ⟨g, 0, none⟩) (segN ⟨W, H, B⟩) (segN ⟨W, H, B⟩)]) ∧ NestP w' w.heap.size (.slice D (traceP ⟨W, H, B⟩ (segN ⟨W, H, B⟩)).1.length c) (traceP ⟨W, H, B⟩ (segN ⟨W, H, B⟩)).1 ∧
      Ints w' w.heap.size (.slice (some ⟨g, 0, none⟩) (segN ⟨W, H, B⟩) (segN ⟨W, H, B⟩)) (traceP ⟨W, H, B⟩ (segN ⟨W, H, B⟩)).2 ∧ Below w.heap.size w w' := by
  obtain ⟨i0, hi, hz0, hz1, hz2⟩ := info_parts info_int
  have hN : 4 * W * H = ((segN ⟨W, H, B⟩ : Nat) : Int) := by
    have h4 : 4 ≤ 4 * W * H := (mul4 ⟨hp.w1, hp.w8⟩ ⟨hp.h1, hp.h8⟩).1
    have hs : segN ⟨W, H, B⟩ = (4 * W * H).toNat := rfl
    rw [hs]
    omega
  have hN2 := segN_le hp
  have hm : 4 ≤ 4 * W * H ∧ 4 * W * H ≤ 256 := mul4 ⟨hp.w1, hp.w8⟩ ⟨hp.h1, hp.h8⟩
  have hbl := bp.lt
  have HV : Hid (∀ w', Below w.heap.size w w' → Box w' b 30 #[.int .i64 W, .int .i64 H, v] ∧ Ints w' Bd v B) := Lib.hid (fun w' hx => ⟨bp.below hx, Row.below hI hx⟩)
  have HP := Lib.hid hp
  have HNN := Lib.hid hN
  obtain ⟨W1, W8⟩ : 1 ≤ W ∧ W ≤ 8 := ⟨hp.w1, hp.w8⟩
  obtain ⟨H1, H8⟩ : 1 ≤ H ∧ H ≤ 8 := ⟨hp.h1, hp.h8⟩
  obtain ⟨m1, m2⟩ := hm
  have q0 := bp.cell 0
  have q1 := bp.cell 1
  simp only [List.getElem?_toArray, List.getElem?_cons_zero, List.getElem?_cons_succ] at q0 q1
  generalize hNd : segN ⟨W, H, B⟩ = N at *
  clear hp hI bp hN
  go_enter Try.func133, Try.ntmps133
  go_wp2
  go_quiet (fail)
  rw [HNN.out]
  have hb0 : Below w.heap.size w (w.drewN nq) := below_drewN _ _ _
  have hV0 : (w.drewN nq).heap.size = w.heap.size := rfl
  clear q0 q1 m1 m2
  generalize (w.drewN nq) = V at hb0 hV0 ⊢
  go_wp2_with (at_make; refine wpList_make_full _ rfl _ _ 25 rfl w.heap.size 2 i0 (.int .i64 0) 1 Try.underlying25 hi hz0 hz1 _ _ _ _ N rfl rfl (by omega) (by omega) (by rw [hz2]; omega) (by unfold maxLen; omega) (by omega) ?_)
  intro w1 hown hgrow
  have hb1 : Below w.heap.size w w1 := hb0.grown hgrow (by omega) (by simp)
  have H1r : Ints w1 w.heap.size (.slice (some ⟨w.heap.size, 0, none⟩) N N) (List.replicate N 0) := by
    unfold Ints Row
    rw [List.length_replicate, List.map_replicate]
    simpa [Value.cells, toList_madeCells_one] using hown
  clear hown hgrow hi hz0 hz1 hz2 hb0 hV0
  go_wp2
  go_loopw [6] (fun i wr => ∃ k : Nat, k ≤ N ∧ i = .int .i64 k ∧ Ints wr w.heap.size (.slice (some ⟨w.heap.size, 0, none⟩) N N) ((List.replicate N (-1)).take k ++ List.replicate (N - k) 0) ∧ Below w.heap.size w wr) (fun i _ => N - (intOf i).toNat)
  case atStart => exact ⟨0, Nat.zero_le _, rfl, by simpa using H1r, hb1⟩
  case round =>
    obtain ⟨k, hk, rfl, hF, hb⟩ := hrel
    clear H1r hb1
    by_cases hlt : k < N
    · have hlen : ((List.replicate N (-1 : Int)).take k ++ List.replicate (N - k) 0).length = N := by simp; omega
      have hs := hF.cell (k := k) (by omega)
      have hf := hF.free k
      have hset := hF.set_ k (-1)
      rw [set_fill (List.replicate N (-1 : Int)) 0 (-1) N k hlt (by simp) (by simp [hlt])] at hset
      have hb2 : Below w.heap.size w (wr.setCell ⟨w.heap.size, k, none⟩ (.int .i64 (-1))) := hb.setCell (p := ⟨w.heap.size, k, none⟩) (Nat.le_refl _) _
      have HS := Lib.hid hset
      have i1 : (k : Int) < (N : Int) := by omega
      clear hF hset hlen
      go_wp2
      go_roundw
      case rel => exact ⟨k + 1, by omega, by go_num, HS.out, hb2⟩
      case measure => simp [intOf]; omega
    · have e : N = k := by omega
      subst e
      have H0 : Ints wr w.heap.size (.slice (some ⟨w.heap.size, 0, none⟩) N N) (traceP ⟨W, H, B⟩ 0).2 := by
        have h0 : (traceP ⟨W, H, B⟩ 0).2 = List.replicate N (-1) := by rw [← hNd]; rfl
        rw [h0]
        simpa using hF
      have HN1 := NestP.none_ wr
      have hb3 := hb.alloc (hb.size) (.cells #[] 66)
      have H0a := Row.alloc H0 (.cells #[] 66)
      have hsz1 := hb.size
      clear hF hb H0
      go_wp2
      go_loopw [7, 8] (fun s t wr => ∃ (k : Nat) (D : Option Addr) (c : Nat), k ≤ N ∧ s = .slice D (traceP ⟨W, H, B⟩ k).1.length c ∧ t = .int .i64 k ∧ NestP wr w.heap.size (.slice D (traceP ⟨W, H, B⟩ k).1.length c) (traceP ⟨W, H, B⟩ k).1 ∧ Ints wr w.heap.size (.slice (some ⟨w.heap.size, 0, none⟩) N N) (traceP ⟨W, H, B⟩ k).2 ∧ Below w.heap.size w wr) (fun _ t _ => N - (intOf t).toNat)
      case atStart => exact ⟨0, _, 0, Nat.zero_le _, rfl, rfl, HN1.le hsz1, H0a, hb3⟩
      case round =>
        obtain ⟨k, D, c, hk, rfl, rfl, hNs, hO, hb⟩ := hrel
        clear HN1 H0a hb3 hsz1
        have hlen := traceP_len ⟨W, H, B⟩ k
        have hcnt := traceP_count ⟨W, H, B⟩ k
        rw [hNd] at hlen
        by_cases hlt : k < N
        rotate_left
        · have e : N = k := by omega
          subst e
          clear hlen
          go_wp2
          go_ret2
          exact ⟨D, c, _, rfl, hNs, hO, hb⟩
        have i1 : (k : Int) < (N : Int) := by omega
        have c1 := Ints.cell hO (k := k) (by omega)
        by_cases hse : 0 ≤ gI (traceP ⟨W, H, B⟩ k).2 k
        · have HE := Lib.hid (traceP_seen hse)
          generalize hq : gI (traceP ⟨W, H, B⟩ k).2 k = q at *
          clear hq hlen hcnt
          go_wp2
          go_roundw
          case rel => exact ⟨k + 1, D, c, by omega, by rw [HE.out], by go_num, by rw [HE.out]; exact hNs, by rw [HE.out]; exact hO, hb⟩
          case measure => simp [intOf]; omega
        · have HE := Lib.hid (traceP_new hse)
          generalize hq : gI (traceP ⟨W, H, B⟩ k).2 k = q at *
          obtain ⟨X, Y, ex, ey, hst⟩ : ∃ X Y ex ey, startI ⟨W, H, B⟩ (k : Int) = ⟨X, Y, ex, ey⟩ := ⟨_, _, _, _, rfl⟩
          have hkN : (k : Int) < 4 * W * H := by rw [HNN.out]; omega
          have hok := (start_ok HP.out (by omega : (0 : Int) ≤ (k : Int)) hkN).1
          rw [hst] at HE hok
          have HST := Lib.hid hst
          have HOK := Lib.hid hok
          have HKN := Lib.hid hkN
          have hlen2 := hlen
          generalize htr : traceP ⟨W, H, B⟩ k = R at *
          clear hq hst hok hkN htr hlen
          have hsz := hb.size
          have hv1 := HV.out wr hb
          go_wp2_with fail
          refine (l03Walker_any (B := B) hv1.1 ⟨W1, W8⟩ ⟨H1, H8⟩ (by omega) HKN.out HST.out).mono ?_
          rintro e w2 ⟨rfl, hb2⟩
          have hb2' := hb.trans (hb2.mono hsz)
          have hNs2 := hNs.below hb2
          have hO2 : Ints w2 w.heap.size (.slice (some ⟨w.heap.size, 0, none⟩) N N) R.2 := Row.below hO hb2
          have hv2 := HV.out w2 hb2'
          have hsz2 := hb2.size
          have hof : w.heap.size < w2.heap.size := (Row.lt hO2 (g := w.heap.size) rfl).2
          clear hNs hO hb hb2 hv1 c1
          go_wp2_with fail
          refine (l04Trace_any hv2.1 hv2.2 HP.out HOK.out).mono ?_
          rintro e w3 ⟨T, A, c3, D3, d3, rfl, hP3, hS3, hT5, horb, hb3⟩
          have hb3' := hb2'.trans (hb3.mono (by omega))
          have hNs3 := hNs2.below hb3
          have hO3 : Ints w3 w.heap.size (.slice (some ⟨w.heap.size, 0, none⟩) N N) R.2 := Row.below hO2 hb3
          have hsz3 := hb3.size
          rw [← horb] at HE
          clear hNs2 hO2 hb2' hb3 hv2 horb
          have htl := trk_length ⟨W, H, B⟩ ⟨X, Y, ex, ey⟩ T
          have hOKs : Hid (∀ i, OkW ⟨W, H, B⟩ (it (stepW ⟨W, H, B⟩) i ⟨X, Y, ex, ey⟩)) := Lib.hid (fun i => trk_ok HP.out HOK.out i)
          have HSB : Hid (∀ g, (Value.slice D3 T d3).ownBlock = some g → w2.heap.size ≤ g ∧ g < w3.heap.size) := Lib.hid (fun g hg => Row.lt hS3 hg)
          have hSlen : (segsP ⟨W, H, B⟩ (trk ⟨W, H, B⟩ ⟨X, Y, ex, ey⟩ T)).length = T := by simp [segsP, trk_length]
          obtain ⟨A3, cA3, hA3e, _, hA3⟩ := Row.open_ hS3
          rw [hSlen] at hA3e hA3
          injection hA3e with hA3e _ hA3c
          subst hA3e hA3c
          go_wp2
          obtain ⟨W3, hW3⟩ : ∃ x, x = w3 := ⟨w3, rfl⟩
          subst hW3
          go_loopw [11] (fun t wr => ∃ i : Nat, i ≤ T ∧ t = .int .i64 i ∧ Ints wr w.heap.size (.slice (some ⟨w.heap.size, 0, none⟩) N N) (Knot.mark R.1.length R.2 ((segN' ⟨W, H, B⟩ (trk ⟨W, H, B⟩ ⟨X, Y, ex, ey⟩ T)).take i)) ∧ Chg w.heap.size (w.heap.size + 1) W3 wr) (fun t _ => T - (intOf t).toNat)
          case atStart => exact ⟨0, Nat.zero_le _, rfl, hO3, ⟨rfl, rfl, rfl, Nat.le_refl _, fun _ _ _ => rfl⟩⟩
          case round =>
            obtain ⟨i, hi, rfl, hO4, hch⟩ := hrel
            by_cases hlti : i < T
            · have i2 : (i : Int) < (T : Int) := by omega
              obtain ⟨g3, rfl, hg3, hg3'⟩ := hA3 (by omega)
              have cs := Ints.cell hS3 (k := i) (by rw [hSlen]; exact hlti)
              rw [gI_segsP _ _ _ _ hlti] at cs
              have cs2 : wr.cell? ⟨g3, i, none⟩ = some (.int .i64 (segI ⟨W, H, B⟩ (it (stepW ⟨W, H, B⟩) i ⟨X, Y, ex, ey⟩))) := by
                rw [← cs]
                exact cell_block (hch.block g3 hg3' (.inr (by omega)))
              have hsb := seg_bounds (hOKs.out i)
              have hsb2 : segI ⟨W, H, B⟩ (it (stepW ⟨W, H, B⟩) i ⟨X, Y, ex, ey⟩) < (N : Int) := by have := HNN.out; have h2 : segI ⟨W, H, B⟩ (it (stepW ⟨W, H, B⟩) i ⟨X, Y, ex, ey⟩) < 4 * W * H := hsb.2; omega
              obtain ⟨hsb0, _⟩ := hsb
              obtain ⟨hi2, hge⟩ := segN'_get ⟨W, H, B⟩ ⟨X, Y, ex, ey⟩ T i hlti
              have HMT := Lib.hid (mark_take (R.1.length : Int) R.2 (segN' ⟨W, H, B⟩ (trk ⟨W, H, B⟩ ⟨X, Y, ex, ey⟩ T)) i hi2)
              rw [hge] at HMT
              have hml := mark_length (R.1.length : Int) ((segN' ⟨W, H, B⟩ (trk ⟨W, H, B⟩ ⟨X, Y, ex, ey⟩ T)).take i) R.2
              generalize segI ⟨W, H, B⟩ (it (stepW ⟨W, H, B⟩) i ⟨X, Y, ex, ey⟩) = sg at *
              have co := Ints.cellI hO4 (i := sg) hsb0 (by rw [hml, hlen2]; exact hsb2)
              have fo := hO4.free sg.toNat
              have hset := hO4.set_ sg.toNat (R.1.length : Int)
              rw [← HMT.out] at hset
              have HS := Lib.hid hset
              have HC : Hid (Chg w.heap.size (w.heap.size + 1) W3 (wr.setCell ⟨w.heap.size, sg.toNat, none⟩ (.int .i64 R.1.length))) := Lib.hid ⟨hch.os, hch.tape, hch.output, by simpa [World.setCell] using hch.size, fun j hj hd => (Below.heap_setCell wr ⟨w.heap.size, sg.toNat, none⟩ _ j (by show j ≠ w.heap.size; omega)).trans (hch.block j hj hd)⟩
              clear hO4 hch cs hge hml hset hA3
              go_wp2
              go_roundw
              case rel => exact ⟨i + 1, by omega, by go_num, HS.out, HC.out⟩
              case measure => simp [intOf]; omega
            · have e : T = i := by omega
              subst e
              rw [mark_all _ _ _ (by rw [segN'_length, trk_length]; exact Nat.le_refl _)] at hO4
              have hNs4 : NestP wr w.heap.size (.slice D R.1.length c) R.1 := hNs3.chg1 hO3 (fun g hg hne => hch.block g hg (by omega))
              have hP4 : PRow wr w.heap.size (.slice A T c3) T (flatP (trk ⟨W, H, B⟩ ⟨X, Y, ex, ey⟩ T)) := (hP3.keep (fun g hg hl => hch.block g hl (.inr (by have := (PRow.lt hP3 hg).1; omega)))).le (by omega)
              have hb4 : Below w.heap.size w wr := hb3'.trans (hch.toBelow (Nat.le_refl _) hb3'.size)
              have hsz4 := hb4.size
              obtain ⟨vs, hvs, hvl, hvp⟩ := hNs4
              have HVP := Lib.hid hvp
              have hvl2 : vs.length < 1000000000 := by omega
              clear hNs3 hO3 hP3 hS3 hb3' hch hA3 hvp hlen2
              go_wp2_with (at_builtin; refine append_gen (enc := id) Try.underlying123 info_pts rfl (by decide) rfl _ _ rfl w.heap.size _ (.slice D R.1.length c) vs (.slice A T c3) rfl hvs rfl rfl rfl hvl2 hsz4 ?_)
              intro g5 c5 w5 hR5 hg5 _
              have hP5 : PRow w5 w.heap.size (.slice A T c3) (trk ⟨W, H, B⟩ ⟨X, Y, ex, ey⟩ T).length (flatP (trk ⟨W, H, B⟩ ⟨X, Y, ex, ey⟩ T)) := by
                rw [htl]
                exact hP4.keep (fun g hg hl => hg5.block g hl (fun e => rows_apart hP4 hvs (by decide) hg e.symm))
              have hVP5 : ∀ i, i < R.1.length → PRow w5 w.heap.size (vs.getD i undef) (R.1.getD i []).length (flatP (R.1.getD i [])) := fun i hi =>
                (HVP.out i hi).keep (fun g hg hl => hg5.block g hl (fun e => rows_apart (HVP.out i hi) hvs (by decide) hg e.symm))
              have hN5 := NestP.snoc hR5 hvl hVP5 hP5
              have hO5 : Ints w5 w.heap.size (.slice (some ⟨w.heap.size, 0, none⟩) N N) (Knot.mark R.1.length R.2 (segN' ⟨W, H, B⟩ (trk ⟨W, H, B⟩ ⟨X, Y, ex, ey⟩ T))) := Row.keep hO4 (fun g hg hl => hg5.block g hl (fun e => rows_apart hO4 hvs (by decide) hg e.symm))
              have hb5 : Below w.heap.size w w5 := hb4.grown hg5 hsz4 (fun j hj => (Row.lt hvs hj).1)
              have HN5 := Lib.hid hN5
              have HO5 := Lib.hid hO5
              have HL5 : Hid ((traceP ⟨W, H, B⟩ (k + 1)).1.length = R.1.length + 1) := Lib.hid (by rw [HE.out]; simp)
              clear hR5 hg5 hP5 hVP5 hN5 hO5 hb4 hO4 hP4 hvs hvl hvl2
              go_wp2
              go_roundw
              case rel => exact ⟨k + 1, _, c5, by omega, by rw [HL5.out], by go_num, by rw [HL5.out, HE.out]; exact HN5.out, by rw [HE.out]; exact HO5.out, hb5⟩
              case measure => simp [intOf]; omega
end Go.Proofs.Ytihfdgnocdphcaa
