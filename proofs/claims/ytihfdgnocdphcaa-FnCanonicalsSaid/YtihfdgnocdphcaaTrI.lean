/-
  All curves, traced by the program.
-/
import Derived.Test.YtihfdgnocdphcaaStepI
import Derived.Test.YtihfdgnocdphcaaPlTrm
import Derived.Test.YtihfdgnocdphcaaAppG
import Derived.Test.YtihfdgnocdphcaaAppC
import Derived.Deep.LoopGhost
namespace Go.Proofs.Ytihfdgnocdphcaa
open Go.RowKit Knot

theorem info_wk : (Try.prog.info? 134).map (fun i => (i.zero, i.size, i.bytes)) = some (some (.agg #[.int .i64 0, .int .i64 0, .int .i64 0, .int .i64 0]), 4, 32) := by kernel_rfl
theorem info_wks : (Try.prog.info? 136).map (fun i => (i.zero, i.size, i.bytes)) = some (some (.slice none 0 0), 1, 24) := by kernel_rfl
theorem own_keep {w w' : World} {B n sz : Nat} {E : TypeId} {v : Value} {xs : List Value} (h : w.ownsRow B E sz v n xs) (hb : ∀ g, v.ownBlock = some g → g < w.heap.size → w'.heap[g]? = w.heap[g]?) : w'.ownsRow B E sz v n xs := by
  obtain ⟨h1, h2⟩ := h
  refine ⟨h1, ?_⟩
  rcases h2 with h2 | ⟨g, cap, cur, hv, hg, hh, r⟩
  · exact .inl h2
  · exact .inr ⟨g, cap, cur, hv, hg, (hb g (by rw [hv]; rfl) (Array.getElem?_eq_some_iff.1 hh).1).trans hh, r⟩
theorem own_box {w : World} {Bd : Nat} {E T : TypeId} {sz n : Nat} {v : Value} {zs : List Value} {k : Nat} {cs : Array Value} (h : w.ownsRow Bd E sz v n zs) (hb : Box w k T cs) (hne : E ≠ T) {g : Nat} (hg : v.ownBlock = some g) : g ≠ k := by
  rintro rfl
  rcases h.2 with ⟨rfl, _⟩ | ⟨g', cap, cur, rfl, _, hh, _⟩
  · simp [Value.ownBlock] at hg
  · simp [Value.ownBlock] at hg
    subst hg
    unfold Box at hb
    rw [hb] at hh
    injection hh with hh
    injection hh with h1 h2 h3
    exact hne h2.symm
theorem own_apart {w : World} {B1 B2 : Nat} {E T : TypeId} {s1 s2 n1 n2 : Nat} {v u : Value} {xs ys : List Value} (h : w.ownsRow B1 E s1 v n1 xs) (k : w.ownsRow B2 T s2 u n2 ys) (hne : E ≠ T) {g : Nat} (hg : v.ownBlock = some g) : u.ownBlock ≠ some g := by
  intro hu
  rcases h.2 with ⟨rfl, _⟩ | ⟨g1, cap, cur, rfl, _, hh, _⟩
  · simp [Value.ownBlock] at hg
  · rcases k.2 with ⟨rfl, _⟩ | ⟨g2, cap2, cur2, rfl, _, hh2, _⟩
    · simp [Value.ownBlock] at hu
    · simp [Value.ownBlock] at hg hu
      subst hg hu
      rw [hh] at hh2
      injection hh2 with hh2
      injection hh2 with h1 h2 h3
      exact hne h2
set_option maxHeartbeats 8000000 in
theorem trace_any {w : World} {Bd : Nat} {W H : Int} {v : Value} {B : List Int} (hI : Ints w Bd v B) (hp : Ok ⟨W, H, B⟩) :
    Calls Try.prog 134 #[.agg #[.int .i64 W, .int .i64 H, v]] w fun e w' => ∃ (D : Option Addr) (c g : Nat),
      e = .returned (.tuple #[.slice D (traceP ⟨W, H, B⟩ (segN ⟨W, H, B⟩)).1.length c, .slice (some ⟨g, 0, none⟩) (segN ⟨W, H, B⟩) (segN ⟨W, H, B⟩)]) ∧
      Ints w' w.heap.size (.slice (some ⟨g, 0, none⟩) (segN ⟨W, H, B⟩) (segN ⟨W, H, B⟩)) (traceP ⟨W, H, B⟩ (segN ⟨W, H, B⟩)).2 ∧ Below w.heap.size w w' := by
  obtain ⟨A, cA, rfl, _, _⟩ := hI.open_
  obtain ⟨i0, hi, hz0, hz1, hz2⟩ := info_parts info_int
  have hN : 4 * W * H = ((segN ⟨W, H, B⟩ : Nat) : Int) := by
    have h4 : 4 ≤ 4 * W * H := (mul4 ⟨hp.w1, hp.w8⟩ ⟨hp.h1, hp.h8⟩).1
    have hs : segN ⟨W, H, B⟩ = (4 * W * H).toNat := rfl
    rw [hs]
    omega
  have hN2 := segN_le hp
  have bl := Joins.below_alloc2 w (.cells #[.int .i64 W, .int .i64 H, .slice A B.length cA] 30) (.cells #[] 136)
  have ba := (Box.new w 30 #[.int .i64 W, .int .i64 H, .slice A B.length cA]).alloc (.cells #[] 136)
  have hL : Row id 136 ((w.alloc (.cells #[.int .i64 W, .int .i64 H, .slice A B.length cA] 30)).alloc (.cells #[] 136)) (w.heap.size + 1) (.slice (some ⟨w.heap.size + 1, 0, none⟩) 0 0) ([] : List Value) := by
    have := Row.none_ (enc := id) (E := 136) (w.alloc (.cells #[.int .i64 W, .int .i64 H, .slice A B.length cA] 30))
    rw [World.size_alloc] at this
    exact this
  have HV : Hid (∀ w', Below w.heap.size w w' → Ints w' Bd (.slice A B.length cA) B) := Lib.hid (fun w' hx => Row.below hI hx)
  have HP := Lib.hid hp
  have HNN := Lib.hid hN
  obtain ⟨W1, W8⟩ : 1 ≤ W ∧ W ≤ 8 := ⟨hp.w1, hp.w8⟩
  obtain ⟨H1, H8⟩ : 1 ≤ H ∧ H ≤ 8 := ⟨hp.h1, hp.h8⟩
  have q0 := ba.cell 0
  have q1 := ba.cell 1
  have q2 := ba.cell 2
  have qn := ba.lt
  simp only [List.getElem?_toArray, List.getElem?_cons_zero, List.getElem?_cons_succ] at q0 q1 q2
  generalize hNd : segN ⟨W, H, B⟩ = N at *
  clear hp hI hN
  go_enter Try.func134, Try.ntmps134
  go_wp2_with fail
  refine (segments_any ⟨W1, W8⟩ ⟨H1, H8⟩).mono ?_
  rintro e w1 ⟨rfl, hb1⟩





  rw [HNN.out]
  have hsz1 := hb1.size
  rw [World.size_alloc, World.size_alloc] at hsz1
  have hL1 := Row.below hL hb1
  have hb1' : Below (w.heap.size + 1) (w.alloc (.cells #[.int .i64 W, .int .i64 H, .slice A B.length cA] 30)) w1 := ((Below.refl (w.heap.size + 1) (w.alloc (.cells #[.int .i64 W, .int .i64 H, .slice A B.length cA] 30))).alloc (by simp) (.cells #[] 136)).trans (hb1.mono (by simp))
  obtain ⟨og, hog⟩ : ∃ og, og = w1.heap.size := ⟨_, rfl⟩
  clear hL hb1 q0 q1 q2 qn bl ba
  go_wp2_with (at_make; refine wpList_make_full _ rfl _ _ 25 rfl (w.heap.size + 1) 2 i0 (.int .i64 0) 1 Try.underlying25 hi hz0 hz1 _ _ _ _ N rfl rfl (by omega) (by omega) (by rw [hz2]; omega) (by unfold maxLen; omega) (by omega) ?_)
  intro w2 hown hgrow
  have hb2 : Below (w.heap.size + 1) (w.alloc (.cells #[.int .i64 W, .int .i64 H, .slice A B.length cA] 30)) w2 := hb1'.grown hgrow (by omega) (by simp)
  have H1r : Ints w2 (w.heap.size + 1) (.slice (some ⟨og, 0, none⟩) N N) (List.replicate N 0) := by
    unfold Ints Row
    rw [List.length_replicate, List.map_replicate, hog]
    simpa [Value.cells, toList_madeCells_one] using hown
  have hL2 : Row id 136 w2 (w.heap.size + 1) (.slice (some ⟨w.heap.size + 1, 0, none⟩) 0 0) ([] : List Value) := Row.grown hL1 hgrow (by simp)
  rw [← hog]
  have hog2 : w.heap.size + 1 ≤ og := by omega
  clear hown hgrow hi hz0 hz1 hz2 hb1' hL1 hog hsz1
  go_wp2
  go_loopw [16] (fun i wr => ∃ k : Nat, k ≤ N ∧ i = .int .i64 k ∧ Ints wr (w.heap.size + 1) (.slice (some ⟨og, 0, none⟩) N N) ((List.replicate N (-1)).take k ++ List.replicate (N - k) 0) ∧ Row id 136 wr (w.heap.size + 1) (.slice (some ⟨w.heap.size + 1, 0, none⟩) 0 0) ([] : List Value) ∧ Below (w.heap.size + 1) (w.alloc (.cells #[.int .i64 W, .int .i64 H, .slice A B.length cA] 30)) wr) (fun i _ => N - (intOf i).toNat)
  case atStart => exact ⟨0, Nat.zero_le _, rfl, by simpa using H1r, hL2, hb2⟩
  case round =>
    obtain ⟨k, hk, rfl, hF, hL3, hb⟩ := hrel
    clear H1r hb2 hL2
    by_cases hlt : k < N
    · have hlen : ((List.replicate N (-1 : Int)).take k ++ List.replicate (N - k) 0).length = N := by simp; omega
      have hs := hF.cell (k := k) (by omega)
      have hf := hF.free k
      have hset := hF.set_ k (-1)
      rw [set_fill (List.replicate N (-1 : Int)) 0 (-1) N k hlt (by simp) (by simp [hlt])] at hset
      have hb2 : Below (w.heap.size + 1) (w.alloc (.cells #[.int .i64 W, .int .i64 H, .slice A B.length cA] 30)) (wr.setCell ⟨og, k, none⟩ (.int .i64 (-1))) := hb.setCell (p := ⟨og, k, none⟩) hog2 _
      have hL4 : Row id 136 (wr.setCell ⟨og, k, none⟩ (.int .i64 (-1))) (w.heap.size + 1) (.slice (some ⟨w.heap.size + 1, 0, none⟩) 0 0) ([] : List Value) := Row.setCell hL3 (fun g hg e => own_apart hL3 hF (by decide) hg (by rw [e]; rfl)) _
      have HS := Lib.hid hset
      have i1 : (k : Int) < (N : Int) := by omega
      clear hF hset hlen hL3
      go_wp2
      go_roundw
      case rel => exact ⟨k + 1, by omega, by go_num, HS.out, hL4, hb2⟩
      case measure => simp [intOf]; omega
    · have e : N = k := by omega
      subst e
      have H0 : Ints wr (w.heap.size + 1) (.slice (some ⟨og, 0, none⟩) N N) (traceP ⟨W, H, B⟩ 0).2 := by
        have h0 : (traceP ⟨W, H, B⟩ 0).2 = List.replicate N (-1) := by rw [← hNd]; rfl
        rw [h0]
        simpa using hF
      have ba : Box wr w.heap.size 30 #[.int .i64 W, .int .i64 H, .slice A B.length cA] := (hb.block _ (by omega)).trans (Box.new w 30 #[.int .i64 W, .int .i64 H, .slice A B.length cA])
      have q0 := ba.cell 0
      have q1 := ba.cell 1
      have q2 := ba.cell 2
      have qn := ba.lt
      simp only [List.getElem?_toArray, List.getElem?_cons_zero, List.getElem?_cons_succ] at q0 q1 q2
      clear hF ba
      go_wp2_with fail
      refine (segments_any ⟨W1, W8⟩ ⟨H1, H8⟩).mono ?_
      rintro e w3 ⟨rfl, hb3⟩
      rw [HNN.out]
      have hsz0 := hb.size
      rw [World.size_alloc] at hsz0
      have hb3' := hb.trans (hb3.mono (by omega))
      have hL4 := Row.below hL3 hb3
      have H04 := Row.below H0 hb3
      clear q0 q1 q2 qn hb hb3 hL3 H0 hsz0
      go_wp2
      go_loopw [4, 25] (fun s t wr => ∃ (k : Nat) (D : Option Addr) (c : Nat) (vs : List Value), k ≤ N ∧ s = .slice D (traceP ⟨W, H, B⟩ k).1.length c ∧ t = .int .i64 k ∧ Row id 136 wr (w.heap.size + 1) (.slice D (traceP ⟨W, H, B⟩ k).1.length c) vs ∧ vs.length = (traceP ⟨W, H, B⟩ k).1.length ∧ Ints wr (w.heap.size + 1) (.slice (some ⟨og, 0, none⟩) N N) (traceP ⟨W, H, B⟩ k).2 ∧ Below (w.heap.size + 1) (w.alloc (.cells #[.int .i64 W, .int .i64 H, .slice A B.length cA] 30)) wr) (fun _ t _ => N - (intOf t).toNat)
      case atStart => exact ⟨0, _, 0, [], Nat.zero_le _, rfl, rfl, hL4, rfl, H04, hb3'⟩
      case round =>
        obtain ⟨k, D, c, vs, hk, rfl, rfl, hL5, hvl, hO, hb⟩ := hrel
        clear hL4 H04 hb3'
        have hlen := traceP_len ⟨W, H, B⟩ k
        have hcnt := traceP_count ⟨W, H, B⟩ k
        rw [hNd] at hlen
        have hsz := hb.size
        rw [World.size_alloc] at hsz
        by_cases hlt : k < N
        rotate_left
        · have e : N = k := by omega
          subst e
          have hbw : Below w.heap.size w wr := (Joins.below_alloc1 w (.cells #[.int .i64 W, .int .i64 H, .slice A B.length cA] 30)).trans (hb.mono (by omega))
          have hO2 := Row.le hO (show w.heap.size ≤ w.heap.size + 1 by omega)
          clear hlen hvl hO hb
          go_wp2
          go_ret2
          exact ⟨D, c, og, rfl, hO2, hbw⟩
        have i1 : (k : Int) < (N : Int) := by omega
        have c1 := Ints.cell hO (k := k) (by omega)
        by_cases hse : 0 ≤ gI (traceP ⟨W, H, B⟩ k).2 k
        · have HE := Lib.hid (traceP_seen hse)
          generalize hq : gI (traceP ⟨W, H, B⟩ k).2 k = q at *
          clear hq hlen hcnt
          go_wp2
          go_roundw
          case rel => exact ⟨k + 1, D, c, vs, by omega, by rw [HE.out], by go_num, by rw [HE.out]; exact hL5, by rw [HE.out]; exact hvl, by rw [HE.out]; exact hO, hb⟩
          case measure => simp [intOf]; omega
        · have hTO := hse
          have HE := Lib.hid (traceP_new hse)
          have hkN : (k : Int) < 4 * W * H := by rw [HNN.out]; omega
          have hok := (start_ok HP.out (by omega : (0 : Int) ≤ (k : Int)) hkN).1
          obtain ⟨T, T1, T5, hT, hmin, horb⟩ := trk_orb HP.out hok
          rw [horb] at HE
          have HFR : Hid (∀ i, i < T → gI (Knot.mark (traceP ⟨W, H, B⟩ k).1.length (traceP ⟨W, H, B⟩ k).2 (segN' ⟨W, H, B⟩ (trk ⟨W, H, B⟩ (startI ⟨W, H, B⟩ k) i))) (segI ⟨W, H, B⟩ (it (stepW ⟨W, H, B⟩) i (startI ⟨W, H, B⟩ k))) = -1) := Lib.hid (fun i hi => fresh HP.out (by omega) hse hmin hi _)
          have HST2 : Hid (gI (Knot.mark (traceP ⟨W, H, B⟩ k).1.length (traceP ⟨W, H, B⟩ k).2 (segN' ⟨W, H, B⟩ (trk ⟨W, H, B⟩ (startI ⟨W, H, B⟩ k) T))) (segI ⟨W, H, B⟩ (it (stepW ⟨W, H, B⟩) T (startI ⟨W, H, B⟩ k))) = ((traceP ⟨W, H, B⟩ k).1.length : Int)) := Lib.hid (stale HP.out (by omega) T1 hT _)
          have HML : Hid (∀ i, (Knot.mark (traceP ⟨W, H, B⟩ k).1.length (traceP ⟨W, H, B⟩ k).2 (segN' ⟨W, H, B⟩ (trk ⟨W, H, B⟩ (startI ⟨W, H, B⟩ k) i))).length = N) := Lib.hid (fun i => by rw [mark_length]; exact hlen)
          have HMS : Hid (∀ i, Knot.mark (traceP ⟨W, H, B⟩ k).1.length (traceP ⟨W, H, B⟩ k).2 (segN' ⟨W, H, B⟩ (trk ⟨W, H, B⟩ (startI ⟨W, H, B⟩ k) (i + 1))) = (Knot.mark (traceP ⟨W, H, B⟩ k).1.length (traceP ⟨W, H, B⟩ k).2 (segN' ⟨W, H, B⟩ (trk ⟨W, H, B⟩ (startI ⟨W, H, B⟩ k) i))).set (segI ⟨W, H, B⟩ (it (stepW ⟨W, H, B⟩) i (startI ⟨W, H, B⟩ k))).toNat ((traceP ⟨W, H, B⟩ k).1.length : Int)) := Lib.hid (fun i => mark_step _ _ _ _ i)
          have HOKs : Hid (∀ i, OkW ⟨W, H, B⟩ (it (stepW ⟨W, H, B⟩) i (startI ⟨W, H, B⟩ k))) := Lib.hid (fun i => trk_ok HP.out hok i)
          have HTT := Lib.hid hT
          generalize hq : gI (traceP ⟨W, H, B⟩ k).2 k = q at *
          obtain ⟨X0, Y0, ex0, ey0, hst⟩ : ∃ X Y ex ey, startI ⟨W, H, B⟩ (k : Int) = ⟨X, Y, ex, ey⟩ := ⟨_, _, _, _, rfl⟩
          have HST := Lib.hid hst
          have HKN := Lib.hid hkN
          rw [hst] at HE HFR HST2 HML HMS HOKs HTT
          generalize htr : traceP ⟨W, H, B⟩ k = R at *
          have hm0 : (0 : Int) ≤ (R.1.length : Int) := by omega
          clear hq hst hok hkN htr hTO hT hmin horb
          have ba : Box wr w.heap.size 30 #[.int .i64 W, .int .i64 H, .slice A B.length cA] := (hb.block _ (by omega)).trans (Box.new w 30 #[.int .i64 W, .int .i64 H, .slice A B.length cA])
          replace ba := ba.alloc (.cells #[] 134)
          have hC := World.ownsRow_made (base := w.heap.size + 1) (e := 134) (size := 4) wr #[] 0 hsz (Nat.zero_le _) (by simp)
          have hO2 := Row.alloc hO (.cells #[] 134)
          have hL6 := Row.alloc hL5 (.cells #[] 134)
          have hb2 := hb.alloc hsz (.cells #[] 134)
          have hgw : wr.heap.size < (wr.alloc (.cells #[] 134)).heap.size := by simp
          clear hO hL5 hb
          have q0 := ba.cell 0
          have q1 := ba.cell 1
          have q2 := ba.cell 2
          have qn := ba.lt
          simp only [List.getElem?_toArray, List.getElem?_cons_zero, List.getElem?_cons_succ] at q0 q1 q2
          clear ba
          go_wp2_with fail
          refine (walker_any (B := B) ⟨W1, W8⟩ ⟨H1, H8⟩ (by omega) HKN.out HST.out).mono ?_
          rintro e w4 ⟨rfl, hb4⟩
          have hsz4 := hb4.size
          rw [World.size_alloc] at hsz4
          have hC4 := own_keep hC (fun g _ hl => hb4.block g hl)
          have hO4 : Ints w4 (w.heap.size + 1) (.slice (some ⟨og, 0, none⟩) N N) R.2 := Row.below hO2 hb4
          have hL7 := Row.below hL6 hb4
          have hb5 := hb2.trans (hb4.mono (by rw [World.size_alloc]; omega))
          clear q0 q1 q2 qn hC hO2 hL6 hb2 hb4 c1 hgw
          have hB0 := Box.new w4 134 #[.int .i64 X0, .int .i64 Y0, .int .i64 ex0, .int .i64 ey0]
          have hC5 := own_keep hC4 (w' := w4.alloc (.cells #[.int .i64 X0, .int .i64 Y0, .int .i64 ex0, .int .i64 ey0] 134)) (fun g _ hl => Below.heap_alloc _ _ _ hl)
          have hO5 := Row.alloc hO4 (.cells #[.int .i64 X0, .int .i64 Y0, .int .i64 ex0, .int .i64 ey0] 134)
          have hL8 := Row.alloc hL7 (.cells #[.int .i64 X0, .int .i64 Y0, .int .i64 ex0, .int .i64 ey0] 134)
          have hb6 := hb5.alloc (show w.heap.size + 1 ≤ w4.heap.size by omega) (.cells #[.int .i64 X0, .int .i64 Y0, .int .i64 ex0, .int .i64 ey0] 134)
          have hCne : ∀ g, (Value.slice (some ⟨wr.heap.size, 0, none⟩) 0 0).ownBlock = some g → g < w4.heap.size := fun g hg => (World.ownsRow.lt hC4 g hg).2
          have hle4 : w.heap.size + 1 ≤ w4.heap.size := by omega
          clear hC4 hO4 hL7 hb5 hsz4
          go_wp2
          generalize (w4.alloc (.cells #[.int .i64 X0, .int .i64 Y0, .int .i64 ex0, .int .i64 ey0] 134)) = V at *
          go_loopg [8, 9] T (fun gk s u wr => ∃ (i : Nat) (A1 : Option Addr) (c1 pb : Nat) (X Y ex ey : Int) (zs : List Value), gk = T - i ∧ i ≤ T ∧ s = .slice A1 i c1 ∧ u = .pointer (some ⟨pb, 0, none⟩) ∧ Hid (it (stepW ⟨W, H, B⟩) i ⟨X0, Y0, ex0, ey0⟩ = ⟨X, Y, ex, ey⟩) ∧
              Box wr pb 134 #[.int .i64 X, .int .i64 Y, .int .i64 ex, .int .i64 ey] ∧ w.heap.size + 1 ≤ pb ∧ wr.ownsRow (w.heap.size + 1) 134 4 (.slice A1 i c1) i zs ∧ (∀ g, (Value.slice A1 i c1).ownBlock = some g → g ≠ pb) ∧
              Ints wr (w.heap.size + 1) (.slice (some ⟨og, 0, none⟩) N N) (Knot.mark R.1.length R.2 (segN' ⟨W, H, B⟩ (trk ⟨W, H, B⟩ ⟨X0, Y0, ex0, ey0⟩ i))) ∧ Row id 136 wr (w.heap.size + 1) (.slice D R.1.length c) vs ∧ Below (w.heap.size + 1) (w.alloc (.cells #[.int .i64 W, .int .i64 H, .slice A B.length cA] 30)) wr)
          case atStart => exact ⟨0, _, 0, w4.heap.size, X0, Y0, ex0, ey0, [], rfl, Nat.zero_le _, rfl, rfl, Lib.hid rfl, hB0, hle4, hC5, fun g hg => by have := hCne g hg; omega, hO5, hL8, hb6⟩
          case round =>
            obtain ⟨i, A1, c1, pb, X, Y, ex, ey, zs, rfl, hi, rfl, rfl, hX, hB, hpb, hC, hCn, hO, hL, hb⟩ := hrel
            clear hB0 hC5 hO5 hL8 hb6 hCne hle4
            have hsz5 := hb.size
            rw [World.size_alloc] at hsz5
            have ba : Box wr w.heap.size 30 #[.int .i64 W, .int .i64 H, .slice A B.length cA] := (hb.block _ (by omega)).trans (Box.new w 30 #[.int .i64 W, .int .i64 H, .slice A B.length cA])
            have OKI := HOKs.out i
            rw [hX.out] at OKI
            have HOK := Lib.hid OKI
            clear OKI
            obtain ⟨sg, hsg⟩ : ∃ sg, segI ⟨W, H, B⟩ ⟨X, Y, ex, ey⟩ = sg := ⟨_, rfl⟩
            have hsb := seg_bounds HOK.out
            rw [hsg] at hsb
            obtain ⟨sg0, sg1'⟩ := hsb
            have sg1 : sg < (N : Int) := by have := HNN.out; have h2 : sg < 4 * W * H := sg1'; omega
            clear sg1'
            have HSG := Lib.hid hsg
            have hmk := HML.out i
            have co := Ints.cellI hO (i := sg) sg0 (by rw [hmk]; exact sg1)
            by_cases hlti : i < T
            rotate_left
            · have e : T = i := by omega
              subst e
              have hst2 := HST2.out
              rw [hX.out, hsg] at hst2
              rw [hst2] at co
              clear hst2 hsg hmk HST2 HFR HML HMS
              have q0 := ba.cell 0
              have q1 := ba.cell 1
              have q2 := ba.cell 2
              have qn := ba.lt
              simp only [List.getElem?_toArray, List.getElem?_cons_zero, List.getElem?_cons_succ] at q0 q1 q2
              have p0 := hB.cell 0
              have p1 := hB.cell 1
              have p2 := hB.cell 2
              have p3 := hB.cell 3
              have pn := hB.lt
              simp only [List.getElem?_toArray, List.getElem?_cons_zero, List.getElem?_cons_succ] at p0 p1 p2 p3
              go_wp2_with fail
              refine (segment_any (B := B) ⟨W1, W8⟩ ⟨H1, H8⟩ HOK.out HSG.out).mono ?_
              rintro e w6 ⟨rfl, hb6⟩
              have hsz6 := hb6.size
              have co6 := keep_cell hb6 co
              have hC6 := own_keep hC (fun g _ hl => hb6.block g hl)
              have hO6 : Ints w6 (w.heap.size + 1) (.slice (some ⟨og, 0, none⟩) N N) (Knot.mark R.1.length R.2 (segN' ⟨W, H, B⟩ (trk ⟨W, H, B⟩ ⟨X0, Y0, ex0, ey0⟩ T))) := Row.below hO hb6
              have hL6 := Row.below hL hb6
              have hb6' := hb.trans (hb6.mono hsz5)
              have hvl2 : vs.length < 1000000000 := by omega
              have hlw : w.heap.size + 1 ≤ w6.heap.size := by omega
              clear hC hO hL hb hb6 co ba hB q0 q1 q2 qn p0 p1 p2 p3 pn hCn
              go_wp2_with (at_builtin; refine append_gen (enc := id) Try.underlying126 info_wks rfl (by decide) rfl _ _ rfl (w.heap.size + 1) _ (.slice D R.1.length c) vs (.slice A1 T c1) rfl hL6 rfl rfl rfl hvl2 hlw ?_)
              intro g7 c7 w7 hL7 hg7 _
              have hO7 : Ints w7 (w.heap.size + 1) (.slice (some ⟨og, 0, none⟩) N N) (Knot.mark R.1.length R.2 (segN' ⟨W, H, B⟩ (trk ⟨W, H, B⟩ ⟨X0, Y0, ex0, ey0⟩ T))) := Row.keep hO6 (fun g hg hl => hg7.block g hl (fun e => own_apart hO6 hL6 (by decide) hg e.symm))
              have hb7 := hb6'.grown hg7 hlw (fun j hj => (Row.lt hL6 hj).1)
              have HL7 := Lib.hid hL7
              have HO7 := Lib.hid hO7
              have HN7 : Hid ((traceP ⟨W, H, B⟩ (k + 1)).1.length = R.1.length + 1 ∧ (vs ++ [Value.slice A1 T c1]).length = R.1.length + 1) := Lib.hid ⟨by rw [HE.out]; simp, by simp [hvl]⟩
              clear hL7 hO7 hg7 hC6 hO6 hL6 hb6' co6 hvl hvl2
              go_wp2
              go_roundw
              case rel => exact ⟨k + 1, _, c7, _, by omega, by rw [HN7.out.1], by go_num, by rw [HN7.out.1]; exact HL7.out, by rw [HN7.out.1]; exact HN7.out.2, by rw [HE.out]; exact HO7.out, hb7⟩
              case measure => simp [intOf]; omega
            · have hst2 := HFR.out i hlti
              rw [hX.out, hsg] at hst2
              rw [hst2] at co
              have HM1 := HMS.out i
              rw [hX.out, hsg] at HM1
              have HMI := Lib.hid HM1
              obtain ⟨⟨nX, nY, nx, ny⟩, hstp⟩ : ∃ a : Wk, stepW ⟨W, H, B⟩ ⟨X, Y, ex, ey⟩ = a := ⟨_, rfl⟩
              have HN2 : Hid (it (stepW ⟨W, H, B⟩) (i + 1) ⟨X0, Y0, ex0, ey0⟩ = ⟨nX, nY, nx, ny⟩) := Lib.hid (by show stepW ⟨W, H, B⟩ (it (stepW ⟨W, H, B⟩) i ⟨X0, Y0, ex0, ey0⟩) = _; rw [hX.out, hstp])
              have HSTP := Lib.hid hstp
              have hlI : i < 1000000000 := by omega
              generalize Knot.mark R.1.length R.2 (segN' ⟨W, H, B⟩ (trk ⟨W, H, B⟩ ⟨X0, Y0, ex0, ey0⟩ i)) = M at *
              clear hst2 hsg HM1 hstp
              have q0 := ba.cell 0
              have q1 := ba.cell 1
              have q2 := ba.cell 2
              have qn := ba.lt
              simp only [List.getElem?_toArray, List.getElem?_cons_zero, List.getElem?_cons_succ] at q0 q1 q2
              have p0 := hB.cell 0
              have p1 := hB.cell 1
              have p2 := hB.cell 2
              have p3 := hB.cell 3
              have pn := hB.lt
              simp only [List.getElem?_toArray, List.getElem?_cons_zero, List.getElem?_cons_succ] at p0 p1 p2 p3
              go_wp2_with fail
              refine (segment_any (B := B) ⟨W1, W8⟩ ⟨H1, H8⟩ HOK.out HSG.out).mono ?_
              rintro e w6 ⟨rfl, hb6⟩
              have hsz6 := hb6.size
              have co6 := keep_cell hb6 co
              have ba6 := ba.below hb6
              have hB6 := hB.below hb6
              have hC6 := own_keep hC (fun g _ hl => hb6.block g hl)
              have hO6 : Ints w6 (w.heap.size + 1) (.slice (some ⟨og, 0, none⟩) N N) M := Row.below hO hb6
              have hL6 := Row.below hL hb6
              have hb6' := hb.trans (hb6.mono hsz5)
              clear hC hO hL hb hb6 co ba hB q0 q1 q2 qn p0 p1 p2 p3 pn
              have q0 := ba6.cell 0
              have q1 := ba6.cell 1
              have q2 := ba6.cell 2
              have qn := ba6.lt
              simp only [List.getElem?_toArray, List.getElem?_cons_zero, List.getElem?_cons_succ] at q0 q1 q2
              have p0 := hB6.cell 0
              have p1 := hB6.cell 1
              have p2 := hB6.cell 2
              have p3 := hB6.cell 3
              have pn := hB6.lt
              simp only [List.getElem?_toArray, List.getElem?_cons_zero, List.getElem?_cons_succ] at p0 p1 p2 p3
              go_wp2_with fail
              refine (segment_any (B := B) ⟨W1, W8⟩ ⟨H1, H8⟩ HOK.out HSG.out).mono ?_
              rintro e w7 ⟨rfl, hb7⟩
              have hsz7 := hb7.size
              have co7 := keep_cell hb7 co6
              have ba7 := ba6.below hb7
              have hB7 := hB6.below hb7
              have hC7 := own_keep hC6 (fun g _ hl => hb7.block g hl)
              have hO7 : Ints w7 (w.heap.size + 1) (.slice (some ⟨og, 0, none⟩) N N) M := Row.below hO6 hb7
              have hL7 := Row.below hL6 hb7
              have hb7' := hb6'.trans (hb7.mono (by omega))
              have fo := hO7.free sg.toNat
              clear hC6 hO6 hL6 hb6' hb7 co6 ba6 hB6 q0 q1 q2 qn p0 p1 p2 p3 pn
              have hogp : og ≠ pb := own_box hO7 hB7 (by decide) (g := og) rfl
              have hO8 := hO7.set_ sg.toNat (R.1.length : Int)
              rw [← HMI.out] at hO8
              have hB8 := hB7.far (p := ⟨og, sg.toNat, none⟩) (fun e => hogp e.symm) (.int .i64 R.1.length)
              have hC8 := own_keep hC7 (w' := w7.setCell ⟨og, sg.toNat, none⟩ (.int .i64 R.1.length)) (fun g hg hl => Below.heap_setCell w7 ⟨og, sg.toNat, none⟩ _ g (fun e => own_apart hC7 hO7 (by decide) hg (by rw [e]; rfl)))
              have hL8 : Row id 136 (w7.setCell ⟨og, sg.toNat, none⟩ (.int .i64 R.1.length)) (w.heap.size + 1) (.slice D R.1.length c) vs := Row.setCell hL7 (fun g hg e => own_apart hL7 hO7 (by decide) hg (by rw [e]; rfl)) _
              have hb8 := hb7'.setCell (p := ⟨og, sg.toNat, none⟩) hog2 (.int .i64 R.1.length)
              have hsz8 : (w7.setCell ⟨og, sg.toNat, none⟩ (.int .i64 R.1.length)).heap.size = w7.heap.size := by simp [World.setCell]
              have p0 := hB7.cell 0
              have p1 := hB7.cell 1
              have p2 := hB7.cell 2
              have p3 := hB7.cell 3
              have pn := hB7.lt
              simp only [List.getElem?_toArray, List.getElem?_cons_zero, List.getElem?_cons_succ] at p0 p1 p2 p3
              have nog1 : (og = pb) = False := by simp [hogp]
              have nog2 : (pb = og) = False := by simp; exact fun e => hogp e.symm
              clear hO7 hC7 hL7 hb7' ba7 hB7
              go_wp2_with (at_builtin; refine append_cells Try.underlying136 info_wk rfl (by decide) (by decide) rfl _ _ rfl (w.heap.size + 1) _ i _ zs [.int .i64 X, .int .i64 Y, .int .i64 ex, .int .i64 ey] rfl (by simp [Value.oneCell']) hC8 rfl rfl hsz8 hlI (by rw [hsz8]; omega) ?_)
              intro g8 c8 w9 hC9 hg9 hat9
              have hsz9 := hg9.size
              rw [hsz8] at hsz9
              have hpbl := hB8.lt
              rw [hsz8] at hpbl
              have hB9 := hB8.grown hg9 (fun e => hCn pb e.symm rfl)
              have hO9 : Ints w9 (w.heap.size + 1) (.slice (some ⟨og, 0, none⟩) N N) (Knot.mark R.1.length R.2 (segN' ⟨W, H, B⟩ (trk ⟨W, H, B⟩ ⟨X0, Y0, ex0, ey0⟩ (i + 1)))) := Row.keep hO8 (fun g hg hl => hg9.block g hl (fun e => own_apart hO8 hC8 (by decide) hg e.symm))
              have hL9 := Row.keep hL8 (fun g hg hl => hg9.block g hl (fun e => own_apart hL8 hC8 (by decide) hg e.symm))
              have hb9 := hb8.grown hg9 (by rw [hsz8]; omega) (fun j hj => (World.ownsRow.lt hC8 j hj).1)
              have hCl9 : ∀ g, (Value.slice (some ⟨g8, 0, none⟩) (i + 1) c8).ownBlock = some g → g < w9.heap.size := fun g hg => (World.ownsRow.lt hC9 g hg).2
              have ba9 : Box w9 w.heap.size 30 #[.int .i64 W, .int .i64 H, .slice A B.length cA] := (hb9.block _ (by omega)).trans (Box.new w 30 #[.int .i64 W, .int .i64 H, .slice A B.length cA])
              clear hC8 hO8 hB8 hL8 hb8 hg9 hat9 p0 p1 p2 p3 pn fo co7 hCn hsz8
              have p0 := hB9.cell 0
              have p1 := hB9.cell 1
              have p2 := hB9.cell 2
              have p3 := hB9.cell 3
              have pn := hB9.lt
              simp only [List.getElem?_toArray, List.getElem?_cons_zero, List.getElem?_cons_succ] at p0 p1 p2 p3
              have q0 := ba9.cell 0
              have q1 := ba9.cell 1
              have q2 := ba9.cell 2
              have qn := ba9.lt
              simp only [List.getElem?_toArray, List.getElem?_cons_zero, List.getElem?_cons_succ] at q0 q1 q2
              go_wp2_with fail
              have hle9 : w.heap.size + 1 ≤ w9.heap.size := by omega
              have bn := Box.new w9 134 #[.int .i64 X, .int .i64 Y, .int .i64 ex, .int .i64 ey]
              have hC10 := own_keep hC9 (w' := w9.alloc (.cells #[.int .i64 X, .int .i64 Y, .int .i64 ex, .int .i64 ey] 134)) (fun g _ hl => Below.heap_alloc _ _ _ hl)
              have hO10 := Row.alloc hO9 (.cells #[.int .i64 X, .int .i64 Y, .int .i64 ex, .int .i64 ey] 134)
              have hL10 := Row.alloc hL9 (.cells #[.int .i64 X, .int .i64 Y, .int .i64 ex, .int .i64 ey] 134)
              have hb10 := hb9.alloc hle9 (.cells #[.int .i64 X, .int .i64 Y, .int .i64 ex, .int .i64 ey] 134)
              have hv10 := HV.out (w9.alloc (.cells #[.int .i64 X, .int .i64 Y, .int .i64 ex, .int .i64 ey] 134)) ((Joins.below_alloc1 w (.cells #[.int .i64 W, .int .i64 H, .slice A B.length cA] 30)).trans (hb10.mono (by omega)))
              clear hC9 hO9 hL9 hb9 hB9 ba9 p0 p1 p2 p3 pn q0 q1 q2 qn
              refine (step_any hv10 HP.out HOK.out HSTP.out).mono ?_
              rintro e w11 ⟨tb, rfl, hb11⟩
              have hsz11 := hb11.size
              rw [World.size_alloc] at hsz11
              have bn11 := bn.below hb11
              have hC11 := own_keep hC10 (fun g _ hl => hb11.block g hl)
              have hO11 : Ints w11 (w.heap.size + 1) (.slice (some ⟨og, 0, none⟩) N N) (Knot.mark R.1.length R.2 (segN' ⟨W, H, B⟩ (trk ⟨W, H, B⟩ ⟨X0, Y0, ex0, ey0⟩ (i + 1)))) := Row.below hO10 hb11
              have hL11 := Row.below hL10 hb11
              have hb11' := hb10.trans (hb11.mono (by rw [World.size_alloc]; omega))
              clear bn hC10 hO10 hL10 hb10 hv10 hb11
              have n0 := bn11.cell 0
              have n1 := bn11.cell 1
              have n2 := bn11.cell 2
              have n3 := bn11.cell 3
              have nf0 := bn11.free 0
              have nf1 := bn11.free 1
              have nf2 := bn11.free 2
              have nf3 := bn11.free 3
              have nn := bn11.lt
              simp only [List.getElem?_toArray, List.getElem?_cons_zero, List.getElem?_cons_succ] at n0 n1 n2 n3
              have HB7 : Hid (Box ((((w11.setCell ⟨w9.heap.size, 0, none⟩ (.int .i64 nX)).setCell ⟨w9.heap.size, 1, none⟩ (.int .i64 nY)).setCell ⟨w9.heap.size, 2, none⟩ (.int .i64 nx)).setCell ⟨w9.heap.size, 3, none⟩ (.int .i64 ny)) w9.heap.size 134 #[.int .i64 nX, .int .i64 nY, .int .i64 nx, .int .i64 ny]) := Lib.hid (by simpa using (((bn11.set_ 0 (.int .i64 nX)).set_ 1 (.int .i64 nY)).set_ 2 (.int .i64 nx)).set_ 3 (.int .i64 ny))
              have hneC : ∀ g, (Value.slice (some ⟨g8, 0, none⟩) (i + 1) c8).ownBlock = some g → g ≠ w9.heap.size := fun g hg => by have := hCl9 g hg; omega
              have hneO : ∀ g, (Value.slice (some ⟨og, 0, none⟩) N N).ownBlock = some g → g ≠ w9.heap.size := fun g hg => own_box hO11 bn11 (by decide) hg
              have hneL : ∀ g, (Value.slice D R.1.length c).ownBlock = some g → g ≠ w9.heap.size := fun g hg => own_box hL11 bn11 (by decide) hg
              have hse4 : ∀ g, g ≠ w9.heap.size → ((((w11.setCell ⟨w9.heap.size, 0, none⟩ (.int .i64 nX)).setCell ⟨w9.heap.size, 1, none⟩ (.int .i64 nY)).setCell ⟨w9.heap.size, 2, none⟩ (.int .i64 nx)).setCell ⟨w9.heap.size, 3, none⟩ (.int .i64 ny)).heap[g]? = w11.heap[g]? := fun g hg => ((Below.heap_setCell _ ⟨w9.heap.size, 3, none⟩ _ g hg).trans ((Below.heap_setCell _ ⟨w9.heap.size, 2, none⟩ _ g hg).trans ((Below.heap_setCell _ ⟨w9.heap.size, 1, none⟩ _ g hg).trans (Below.heap_setCell _ ⟨w9.heap.size, 0, none⟩ _ g hg))))
              have HC7 := Lib.hid (own_keep hC11 (w' := ((((w11.setCell ⟨w9.heap.size, 0, none⟩ (.int .i64 nX)).setCell ⟨w9.heap.size, 1, none⟩ (.int .i64 nY)).setCell ⟨w9.heap.size, 2, none⟩ (.int .i64 nx)).setCell ⟨w9.heap.size, 3, none⟩ (.int .i64 ny))) (fun g hg _ => hse4 g (hneC g hg)))
              have HO7 : Hid (Ints ((((w11.setCell ⟨w9.heap.size, 0, none⟩ (.int .i64 nX)).setCell ⟨w9.heap.size, 1, none⟩ (.int .i64 nY)).setCell ⟨w9.heap.size, 2, none⟩ (.int .i64 nx)).setCell ⟨w9.heap.size, 3, none⟩ (.int .i64 ny)) (w.heap.size + 1) (.slice (some ⟨og, 0, none⟩) N N) (Knot.mark R.1.length R.2 (segN' ⟨W, H, B⟩ (trk ⟨W, H, B⟩ ⟨X0, Y0, ex0, ey0⟩ (i + 1))))) := Lib.hid (Row.keep hO11 (fun g hg _ => hse4 g (hneO g hg)))
              have HL7 : Hid (Row id 136 ((((w11.setCell ⟨w9.heap.size, 0, none⟩ (.int .i64 nX)).setCell ⟨w9.heap.size, 1, none⟩ (.int .i64 nY)).setCell ⟨w9.heap.size, 2, none⟩ (.int .i64 nx)).setCell ⟨w9.heap.size, 3, none⟩ (.int .i64 ny)) (w.heap.size + 1) (.slice D R.1.length c) vs) := Lib.hid (Row.keep hL11 (fun g hg _ => hse4 g (hneL g hg)))
              have HBL7 : Hid (Below (w.heap.size + 1) (w.alloc (.cells #[.int .i64 W, .int .i64 H, .slice A B.length cA] 30)) ((((w11.setCell ⟨w9.heap.size, 0, none⟩ (.int .i64 nX)).setCell ⟨w9.heap.size, 1, none⟩ (.int .i64 nY)).setCell ⟨w9.heap.size, 2, none⟩ (.int .i64 nx)).setCell ⟨w9.heap.size, 3, none⟩ (.int .i64 ny))) := Lib.hid ((((hb11'.setCell (p := ⟨w9.heap.size, 0, none⟩) (by show _ ≤ w9.heap.size; omega) _).setCell (p := ⟨w9.heap.size, 1, none⟩) (by show _ ≤ w9.heap.size; omega) _).setCell (p := ⟨w9.heap.size, 2, none⟩) (by show _ ≤ w9.heap.size; omega) _).setCell (p := ⟨w9.heap.size, 3, none⟩) (by show _ ≤ w9.heap.size; omega) _)
              have HNC := Lib.hid hneC
              clear hC11 hO11 hL11 hb11' bn11 hneC hneO hneL hse4 hCl9
              go_wp2
              go_roundg (T - (i + 1))
              case rel => exact ⟨i + 1, _, c8, w9.heap.size, nX, nY, nx, ny, _, rfl, by omega, rfl, rfl, HN2, HB7.out, hle9, HC7.out, HNC.out, HO7.out, HL7.out, HBL7.out⟩
              case measure => omega
end Go.Proofs.Ytihfdgnocdphcaa
