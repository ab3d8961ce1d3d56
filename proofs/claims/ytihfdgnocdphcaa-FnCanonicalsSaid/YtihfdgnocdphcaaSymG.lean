/-
  Panels made symmetric, by the reference.
-/
import Derived.Test.YtihfdgnocdphcaaSymF
import Derived.Test.YtihfdgnocdphcaaSymC
import Derived.StillTailTactics
namespace Go.Proofs.Ytihfdgnocdphcaa
open Go.RowKit Knot

/-- What SymmetricPanel answers. -/
noncomputable def symM (p : Pan) (s : Int) : Int × Int × List Int × Int :=
  open Classical in if Ok p then if symOk s = true then if 4 ≤ s ∧ p.W ≠ p.H then (0, 0, [], 6) else (p.W, p.H, (symTo p.W p.H s p.B p.B.length).1, 0) else (0, 0, [], 2) else (0, 0, [], 1)
theorem symM_inv {p : Pan} (h : ¬ Ok p) (s : Int) : symM p s = (0, 0, [], 1) := by unfold symM; rw [if_neg h]
theorem symM_rng {p : Pan} (h : Ok p) {s : Int} (hs : symOk s = false) : symM p s = (0, 0, [], 2) := by unfold symM; rw [if_pos h, if_neg (by simp [hs])]
theorem symM_sta {p : Pan} (h : Ok p) {s : Int} (hs : symOk s = true) (hq : 4 ≤ s ∧ p.W ≠ p.H) : symM p s = (0, 0, [], 6) := by unfold symM; rw [if_pos h, if_pos hs, if_pos hq]
theorem symM_ok {p : Pan} (h : Ok p) {s : Int} (hs : symOk s = true) (hq : ¬ (4 ≤ s ∧ p.W ≠ p.H)) : symM p s = (p.W, p.H, (symTo p.W p.H s p.B p.B.length).1, 0) := by unfold symM; rw [if_pos h, if_pos hs, if_neg hq]
theorem Bools.at_ {w : World} {B g n c : Nat} {xs : List Bool} (h : Bools w B (.slice (some ⟨g, 0, none⟩) n c) xs) (a : Nat) : Bools (w.setCell ⟨g, a, none⟩ (.bool true)) B (.slice (some ⟨g, 0, none⟩) n c) (xs.set a true) := Row.set_ h a true
theorem Chg.setc {lo hi : Nat} {a b : World} (h : Chg lo hi a b) {p : Addr} (h1 : lo ≤ p.block) (h2 : p.block < hi) (u : Value) : Chg lo hi a (b.setCell p u) :=
  h.trans ⟨rfl, rfl, rfl, by simp [World.setCell], fun k _ hd => Below.heap_setCell b p u k (by omega)⟩

theorem pan_l {W H : Int} {B : List Int} (h : Ok ⟨W, H, B⟩) : B.length ≤ 200 := by
  obtain ⟨n, e, hn⟩ := inner_nat ⟨h.w1, h.w8⟩ ⟨h.h1, h.h8⟩
  have := h.len
  simp only [] at this e
  omega
set_option maxRecDepth 20000 in
set_option maxHeartbeats 16000000 in
theorem K_spec_SymmetricPanel {w : World} {lo hi : Nat} {x y s px py r : Int} {v : Value} {xs zs : List Int} (hp : IntsIn w lo hi v xs) (hm : symM ⟨x, y, xs⟩ s = (px, py, zs, r)) :
    Calls Try.prog 35 #[.agg #[.int .i64 x, .int .i64 y, v], .int .i64 s] w fun e w' => ∃ A c, e = .returned (.tuple #[.agg #[.int .i64 px, .int .i64 py, .slice A zs.length c], .int .i64 r]) ∧
      IntsIn w' w.heap.size w'.heap.size (.slice A zs.length c) zs ∧ Below w.heap.size w w' := by
  obtain ⟨A, cA, rfl, _, hA⟩ := hp.1.open_
  have bl := Joins.below_alloc2 w (.cells #[.int .i64 x, .int .i64 y, .slice A xs.length cA] 30) (.cells #[.int .i64 0, .int .i64 0, .slice none 0 0] 30)
  have ba := (Box.new w 30 #[.int .i64 x, .int .i64 y, .slice A xs.length cA]).alloc (.cells #[.int .i64 0, .int .i64 0, .slice none 0 0] 30)
  have br := Box.new (w.alloc (.cells #[.int .i64 x, .int .i64 y, .slice A xs.length cA] 30)) 30 #[.int .i64 0, .int .i64 0, .slice none 0 0]
  rw [World.size_alloc] at br
  have hp1 := hp.below bl
  have hph := hp.2.2.1
  clear hp
  by_cases ho : Ok ⟨x, y, xs⟩
  rotate_left
  · rw [symM_inv ho] at hm
    obtain ⟨rfl, rfl, rfl, rfl⟩ : 0 = px ∧ 0 = py ∧ [] = zs ∧ 1 = r := by simpa using hm
    clear hm
    have HCC : Hid (scM ⟨x, y, xs⟩ s = 1) := Lib.hid (by simp [scM, ho])
    go_enter Try.func35, Try.ntmps35
    go_wp2_with fail
    refine (l06Code_any (xs := xs) ⟨ba, hp1.ints⟩ HCC.out).mono ?_
    rintro e w2 ⟨rfl, hb⟩
    replace ba := ba.below hb
    replace br := br.below hb
    replace bl := bnext bl hb
    clear hb hp1
    have q0 := ba.cell 0
    have q1 := ba.cell 1
    have q2 := ba.cell 2
    have qn := ba.lt
    simp only [List.getElem?_toArray, List.getElem?_cons_zero, List.getElem?_cons_succ] at q0 q1 q2
    have r0 := br.cell 0
    have r1 := br.cell 1
    have r2 := br.cell 2
    have rf0 := br.free 0
    have rf1 := br.free 1
    have rf2 := br.free 2
    have rn := br.lt
    go_wp2
    refine bodyPost_ret (v := .tuple #[.agg #[.int .i64 0, .int .i64 0, .slice none 0 0], .int .i64 1]) (by simp [results, Try.results35, go_sem, r0, r1, r2, rf0, rf1, rf2, rn]) rfl ⟨none, 0, rfl, IntsIn.nil _ _ _ (Nat.le_refl _), ?_⟩
    exact ((bl.setCell (p := ⟨w.heap.size + 1, 0, none⟩) (by simp) _).setCell (p := ⟨w.heap.size + 1, 1, none⟩) (by simp) _).setCell (p := ⟨w.heap.size + 1, 2, none⟩) (by simp) _
  cases hs : symOk s
  · rw [symM_rng ho hs] at hm
    obtain ⟨rfl, rfl, rfl, rfl⟩ : 0 = px ∧ 0 = py ∧ [] = zs ∧ 2 = r := by simpa using hm
    clear hm
    have HCC : Hid (scM ⟨x, y, xs⟩ s = 2) := Lib.hid (by simp [scM, ho, hs])
    go_enter Try.func35, Try.ntmps35
    go_wp2_with fail
    refine (l06Code_any (xs := xs) ⟨ba, hp1.ints⟩ HCC.out).mono ?_
    rintro e w2 ⟨rfl, hb⟩
    replace ba := ba.below hb
    replace br := br.below hb
    replace bl := bnext bl hb
    clear hb hp1
    have q0 := ba.cell 0
    have q1 := ba.cell 1
    have q2 := ba.cell 2
    have qn := ba.lt
    simp only [List.getElem?_toArray, List.getElem?_cons_zero, List.getElem?_cons_succ] at q0 q1 q2
    have r0 := br.cell 0
    have r1 := br.cell 1
    have r2 := br.cell 2
    have rf0 := br.free 0
    have rf1 := br.free 1
    have rf2 := br.free 2
    have rn := br.lt
    go_wp2
    refine bodyPost_ret (v := .tuple #[.agg #[.int .i64 0, .int .i64 0, .slice none 0 0], .int .i64 2]) (by simp [results, Try.results35, go_sem, r0, r1, r2, rf0, rf1, rf2, rn]) rfl ⟨none, 0, rfl, IntsIn.nil _ _ _ (Nat.le_refl _), ?_⟩
    exact ((bl.setCell (p := ⟨w.heap.size + 1, 0, none⟩) (by simp) _).setCell (p := ⟨w.heap.size + 1, 1, none⟩) (by simp) _).setCell (p := ⟨w.heap.size + 1, 2, none⟩) (by simp) _
  have hsb := symOk_bd hs
  obtain ⟨s0, s7⟩ := hsb
  have hand := and_four s0 s7
  by_cases hq : 4 ≤ s ∧ x ≠ y
  · rw [symM_sta ho hs hq] at hm
    obtain ⟨rfl, rfl, rfl, rfl⟩ : 0 = px ∧ 0 = py ∧ [] = zs ∧ 6 = r := by simpa using hm
    clear hm
    rw [if_pos hq.1] at hand
    have hxy : (x != y) = true := bne_iff_ne.2 hq.2
    have HCC : Hid (scM ⟨x, y, xs⟩ s = 0) := Lib.hid (by simp [scM, ho, hs])
    go_enter Try.func35, Try.ntmps35
    go_wp2_with fail
    refine (l06Code_any (xs := xs) ⟨ba, hp1.ints⟩ HCC.out).mono ?_
    rintro e w2 ⟨rfl, hb⟩
    replace ba := ba.below hb
    replace br := br.below hb
    replace bl := bnext bl hb
    clear hb hp1
    have q0 := ba.cell 0
    have q1 := ba.cell 1
    have q2 := ba.cell 2
    have qn := ba.lt
    simp only [List.getElem?_toArray, List.getElem?_cons_zero, List.getElem?_cons_succ] at q0 q1 q2
    have r0 := br.cell 0
    have r1 := br.cell 1
    have r2 := br.cell 2
    have rf0 := br.free 0
    have rf1 := br.free 1
    have rf2 := br.free 2
    have rn := br.lt
    go_wp2
    refine bodyPost_ret (v := .tuple #[.agg #[.int .i64 0, .int .i64 0, .slice none 0 0], .int .i64 6]) (by simp [results, Try.results35, go_sem, r0, r1, r2, rf0, rf1, rf2, rn]) rfl ⟨none, 0, rfl, IntsIn.nil _ _ _ (Nat.le_refl _), ?_⟩
    exact ((bl.setCell (p := ⟨w.heap.size + 1, 0, none⟩) (by simp) _).setCell (p := ⟨w.heap.size + 1, 1, none⟩) (by simp) _).setCell (p := ⟨w.heap.size + 1, 2, none⟩) (by simp) _
  rw [symM_ok ho hs hq] at hm
  obtain ⟨rfl, rfl, rfl, rfl⟩ : x = px ∧ y = py ∧ (symTo x y s xs xs.length).1 = zs ∧ 0 = r := by simpa using hm
  have HCC : Hid (scM ⟨x, y, xs⟩ s = 0) := Lib.hid (by simp [scM, ho, hs])
  have HO := Lib.hid ho
  have HS := Lib.hid hs
  have HW : Hid (1 ≤ x ∧ x ≤ 8) := Lib.hid ⟨ho.w1, ho.w8⟩
  have HH : Hid (1 ≤ y ∧ y ≤ 8) := Lib.hid ⟨ho.h1, ho.h8⟩
  have HQ : Hid (4 ≤ s → x = y) := Lib.hid (fun h => by omega)
  have HN : Hid (inner x y = (xs.length : Int)) := Lib.hid ho.len.symm
  have HK : Hid (∀ k : Nat, k < xs.length → 0 ≤ gI xs k ∧ gI xs k ≤ 2) := Lib.hid ((ok_iff x y xs).1 ho).2.2.2
  have hl := pan_l ho
  clear hm ho hs hq
  by_cases h4 : 4 ≤ s
  · skip
    rw [if_pos h4] at hand
    have hxy : (x != y) = false := by simp [HQ.out h4]
    go_enter Try.func35, Try.ntmps35
    go_wp2_with fail
    refine (l06Code_any (xs := xs) ⟨ba, hp1.ints⟩ HCC.out).mono ?_
    rintro e w2 ⟨rfl, hb⟩
    have s2 := hb.size
    simp only [World.size_alloc] at s2
    replace ba := ba.below hb
    replace br := br.below hb
    replace bl := bnext bl hb
    replace hp1 := hp1.below hb
    clear hb
    have q0 := ba.cell 0
    have q1 := ba.cell 1
    have q2 := ba.cell 2
    have qn := ba.lt
    simp only [List.getElem?_toArray, List.getElem?_cons_zero, List.getElem?_cons_succ] at q0 q1 q2
    go_wp2_with fail
    refine (l02Own_any ba hp1).mono ?_
    rintro e w3 ⟨D, d, rfl, hI, hb⟩
    have s3 := hb.size
    replace ba := ba.below hb
    replace br := br.below hb
    replace bl := bnext bl hb
    replace hp1 := hp1.below hb
    clear hb q0 q1 q2 qn
    have bo := Box.new w3 30 #[.int .i64 x, .int .i64 y, .slice D xs.length d]
    have hz := Joins.below_alloc1 w3 (.cells #[.int .i64 x, .int .i64 y, .slice D xs.length d] 30)
    replace ba := ba.below hz
    replace br := br.below hz
    replace bl := bnext bl hz
    replace hp1 := hp1.below hz
    have hD : ∀ g, (Value.slice D xs.length d).ownBlock = some g → w2.heap.size ≤ g ∧ g < w3.heap.size := fun g hg => ⟨(Row.lt hI.1 hg).1, hI.2.1 g hg⟩
    replace hI := hI.below hz
    clear hz
    obtain ⟨j0, hinf, hz0, hz1, hz2⟩ := info_parts info_bool
    generalize hV : w3.alloc (.cells #[.int .i64 x, .int .i64 y, .slice D xs.length d] 30) = V at *
    have hVs : V.heap.size = w3.heap.size + 1 := by rw [← hV]; simp
    have q0 := ba.cell 0
    have q1 := ba.cell 1
    have q2 := ba.cell 2
    have qn := ba.lt
    simp only [List.getElem?_toArray, List.getElem?_cons_zero, List.getElem?_cons_succ] at q0 q1 q2
    go_wp2_with (at_make; refine wpList_make_full _ rfl _ _ 92 rfl (w3.heap.size + 1) 4 j0 (.bool false) 1 Try.underlying92 hinf hz0 hz1 _ _ _ _ xs.length rfl rfl (by omega) (by omega) (by rw [hz2]; omega) (by unfold maxLen; omega) (by omega) ?_)
    intro w4 hown hgrow
    have hb1 : Below V.heap.size V w4 := (Below.refl _ _).grown hgrow (Nat.le_refl _) (by simp)
    have H1 : Bools w4 (w3.heap.size + 1) (.slice (some ⟨w3.heap.size + 1, 0, none⟩) xs.length xs.length) (List.replicate xs.length false) := by
      unfold Bools Row
      rw [List.length_replicate, List.map_replicate]
      simpa [Value.cells, toList_madeCells_one] using hown
    have s4 := (Row.lt H1 (g := w3.heap.size + 1) rfl).2
    replace ba := ba.below hb1
    replace br := br.below hb1
    replace bo := bo.below hb1
    replace bl := bnext bl hb1
    replace hp1 := hp1.below hb1
    replace hI := hI.below hb1
    have hI0 : Ints w4 w2.heap.size (.slice D xs.length d) xs := hI.1
    have KX : Hid (∀ wr, Chg w2.heap.size w4.heap.size w4 wr → Box wr w.heap.size 30 #[.int .i64 x, .int .i64 y, .slice A xs.length cA] ∧ Box wr (w.heap.size + 1) 30 #[.int .i64 0, .int .i64 0, .slice none 0 0] ∧ IntsIn wr lo hi (.slice A xs.length cA) xs ∧ Below w.heap.size w wr) :=
      Lib.hid (fun wr hc => ⟨ba.chg hc (.inl (by omega)), br.chg hc (.inl (by omega)), hp1.chg hc (.inl (by omega)), bl.trans (hc.toBelow (by omega) bl.size)⟩)
    have hDp : ∀ g, (Value.slice D xs.length d).ownBlock = some g → g ≠ w3.heap.size := fun g hg => by have := hD g hg; omega
    have hDs : ∀ g, (Value.slice D xs.length d).ownBlock = some g → g ≠ w3.heap.size + 1 := fun g hg => by have := hD g hg; omega
    clear hV hown hgrow hinf hz0 hz1 hz2 hb1 hI ba br bl hp1 q0 q1 q2 qn
    have hc0 : Chg w2.heap.size w4.heap.size w4 w4 := Chg.ofBelow (Below.refl _ _)
    go_wp2
    go_loopw [9] (fun i wr => ∃ k : Nat, k ≤ xs.length ∧ i = .int .i64 k ∧ Ints wr w2.heap.size (.slice D xs.length d) (symTo x y s xs k).1 ∧ Bools wr (w3.heap.size + 1) (.slice (some ⟨w3.heap.size + 1, 0, none⟩) xs.length xs.length) (symTo x y s xs k).2 ∧
        Box wr w3.heap.size 30 #[.int .i64 x, .int .i64 y, .slice D xs.length d] ∧ Chg w2.heap.size w4.heap.size w4 wr) (fun i _ => xs.length - (intOf i).toNat)
    case atStart => exact ⟨0, Nat.zero_le _, rfl, hI0, H1, bo, hc0⟩
    case round =>
      obtain ⟨k, hk, rfl, hR, hS, bo, hc⟩ := hrel
      clear hI0 H1 hc0
      obtain ⟨ba, br, hp1, bl⟩ := KX.out _ hc
      have hln := symTo_len x y s xs k
      obtain ⟨hl1, hl2⟩ := hln
      have q0 := ba.cell 0
      have q1 := ba.cell 1
      have q2 := ba.cell 2
      have qn := ba.lt
      simp only [List.getElem?_toArray, List.getElem?_cons_zero, List.getElem?_cons_succ] at q0 q1 q2
      by_cases hlt : k < xs.length
      · have i1 : (k : Int) < (xs.length : Int) := by omega
        have i0 : (0 : Int) ≤ (k : Int) := by omega
        have c1 := Bools.cell hS (k := k) (by omega)
        cases hbk : gB (symTo x y s xs k).2 k
        · rw [hbk] at c1
          have HNX := Lib.hid (symTo_no hbk)
          obtain ⟨tb, htb⟩ : ∃ tb, decide (4 ≤ s ∧ perN x y s k % 2 = 1) = tb := ⟨_, rfl⟩
          have HTB := Lib.hid htb
          have HIK : Hid ((k : Int) < inner x y) := Lib.hid (by rw [HN.out]; exact i1)
          generalize hQ : symTo x y s xs k = Q at *
          clear hbk htb hQ
          go_wp2_with fail
          obtain ⟨T, hT⟩ : ∃ T, perN x y s k = T := ⟨_, rfl⟩
          have T4 := (per_is HW.out HH.out s0 s7 HQ.out i0 HIK.out).1.2
          rw [hT] at T4
          have hcy := l06Cycle_any ba HW.out HH.out HS.out HQ.out i0 HIK.out HTB.out
          rw [hT] at hcy
          refine hcy.mono ?_
          clear hcy
          rintro e w5 ⟨E, ec, rfl, hC, hb⟩
          have hwr := hc.size
          replace hR := Row.below hR hb
          replace hS := Row.below hS hb
          replace bo := bo.below hb
          replace hc := hc.trans (Chg.ofBelow hb)
          obtain ⟨ba, br, hp1, bl⟩ := KX.out _ hc
          have HT := Lib.hid hT
          clear hT hb c1 q0 q1 q2 qn
          replace hC : Ints w5 w4.heap.size (.slice E T ec) (cycL x y s k T) := Row.le hC hwr
          have hE : ∀ g, (Value.slice E T ec).ownBlock = some g → w4.heap.size ≤ g := fun g hg => (Row.lt hC hg).1
          obtain ⟨ga, rfl, _, _⟩ := hA (by omega)
          have c3 := Ints.cell hp1.1 (k := k) hlt
          have q0 := ba.cell 0
          have q1 := ba.cell 1
          have q2 := ba.cell 2
          have qn := ba.lt
          simp only [List.getElem?_toArray, List.getElem?_cons_zero, List.getElem?_cons_succ] at q0 q1 q2
          cases tb
          · have HKD : Hid (kd0 x y s xs k = gI xs k) := Lib.hid (by unfold kd0; rw [if_neg (of_decide_eq_false HTB.out)])
            have hq0 : (0 : Int) ≤ gI xs k ∧ (gI xs k : Int) ≤ 2 := HK.out k hlt
            have HKB : Hid (∀ m, 0 ≤ itK s (gI xs k) m ∧ itK s (gI xs k) m ≤ 2) := Lib.hid (itK_bd hq0)
            clear hq0
            have hw0 : wrS x y s k (gI xs k) Q.1 0 = Q.1 := rfl
            go_wp2
            go_loopw [12, 13] (fun kd i wr => ∃ m : Nat, m ≤ T ∧ kd = .int .i64 (itK s (gI xs k) m) ∧ i = .int .i64 m ∧ Ints wr w2.heap.size (.slice D xs.length d) (wrS x y s k (gI xs k) Q.1 m) ∧ Bools wr (w3.heap.size + 1) (.slice (some ⟨w3.heap.size + 1, 0, none⟩) xs.length xs.length) (mkS x y s k Q.2 m) ∧
                Box wr w3.heap.size 30 #[.int .i64 x, .int .i64 y, .slice D xs.length d] ∧ Ints wr w4.heap.size (.slice E T ec) (cycL x y s k T) ∧ Chg w2.heap.size w4.heap.size w4 wr) (fun _ i _ => T - (intOf i).toNat)
            case atStart => exact ⟨0, Nat.zero_le _, rfl, rfl, hR, hS, bo, hC, hc⟩
            case round =>
              obtain ⟨m, hm, rfl, rfl, hR, hS, bo, hC, hc⟩ := hrel
              clear c3 q0 q1 q2 qn ba br hp1 bl hw0
              have hcl := cycL_len x y s k T
              have hwl := wrS_len x y s k (gI xs k) Q.1 m
              have hml := mkS_len x y s k Q.2 m
              by_cases hmt : m < T
              · have hcv := cycL_get x y s k T m hmt
                have hin := itN_in HW.out HH.out (symOk_bd HS.out).1 (symOk_bd HS.out).2 i0 HIK.out m
                rw [HN.out] at hin
                obtain ⟨N, hNN⟩ : ∃ N, itN x y s k m = N := ⟨_, rfl⟩
                obtain ⟨kd, hkd⟩ : ∃ kd, itK s (gI xs k) m = kd := ⟨_, rfl⟩
                obtain ⟨kd', hkd'⟩ : ∃ kd', kindX kd s = kd' := ⟨_, rfl⟩
                have HKK := Lib.hid (HKB.out m)
                rw [hkd] at HKK
                have HW1 : Hid (wrS x y s k (gI xs k) Q.1 (m + 1) = (wrS x y s k (gI xs k) Q.1 m).set N.toNat kd) := Lib.hid (by rw [wrS, hNN, hkd])
                have HM1 : Hid (mkS x y s k Q.2 (m + 1) = (mkS x y s k Q.2 m).set N.toNat true) := Lib.hid (by rw [mkS, hNN])
                have HK1 : Hid (itK s (gI xs k) (m + 1) = kd') := Lib.hid (by rw [itK, hkd, hkd'])
                rw [hNN] at hin hcv
                have hcv2 := Lib.hid hcv
                have HKD' := Lib.hid hkd'
                obtain ⟨n0, n1⟩ := hin
                obtain ⟨gd, hgd⟩ : ∃ gd, D = some ⟨gd, 0, none⟩ := by
                  rcases hR.form with ⟨_, h2⟩ | ⟨g, c, h2, _⟩
                  · exfalso
                    have : xs.length = 0 := by rw [← hl1, ← hwl, h2]; rfl
                    omega
                  · injection h2 with h2 _ _
                    exact ⟨g, h2⟩
                subst hgd
                obtain ⟨ge, hge⟩ : ∃ ge, E = some ⟨ge, 0, none⟩ := by
                  rcases hC.form with ⟨_, h2⟩ | ⟨g, c, h2, _⟩
                  · exfalso
                    have : T = 0 := by rw [← hcl, h2]; rfl
                    omega
                  · injection h2 with h2 _ _
                    exact ⟨g, h2⟩
                subst hge
                have cE := Ints.cell hC (k := m) (by omega)
                rw [hcv] at cE
                have cS := Bools.cellI hS (i := N) n0 (by rw [hml]; omega)
                have fS := Row.free hS N.toNat
                have gS := hS.at_ N.toNat
                have hE1 := hE ge rfl
                have hD1 := hD gd rfl
                have sS := (Row.lt hS (g := w3.heap.size + 1) rfl).2
                rw [hkd]
                clear hkd hkd' hNN hcv hcl hml hwl
                have bo2 := bo.far (p := ⟨w3.heap.size + 1, N.toNat, none⟩) (by show w3.heap.size ≠ w3.heap.size + 1; omega) (.bool true)
                have hR2 : Ints (wr.setCell ⟨w3.heap.size + 1, N.toNat, none⟩ (.bool true)) w2.heap.size (.slice (some ⟨gd, 0, none⟩) xs.length d) (wrS x y s k (gI xs k) Q.1 m) := Row.setCell (p := ⟨w3.heap.size + 1, N.toNat, none⟩) hR hDs _
                have hC2 : Ints (wr.setCell ⟨w3.heap.size + 1, N.toNat, none⟩ (.bool true)) w4.heap.size (.slice (some ⟨ge, 0, none⟩) T ec) (cycL x y s k T) := Row.setCell (p := ⟨w3.heap.size + 1, N.toNat, none⟩) hC (fun g hg e => by have := hE g hg; have e' : g = w3.heap.size + 1 := e; omega) _
                have hc2 := hc.setc (p := ⟨w3.heap.size + 1, N.toNat, none⟩) (by show w2.heap.size ≤ w3.heap.size + 1; omega) (by show w3.heap.size + 1 < w4.heap.size; omega) (.bool true)
                clear hR hC bo hc
                go_wp2_with fail
                clear cE cS fS hS
                generalize hW2 : wr.setCell ⟨w3.heap.size + 1, N.toNat, none⟩ (.bool true) = W2 at *
                clear hW2
                have o2 := bo2.cell 2
                have on := bo2.lt
                have cE := Ints.cell hC2 (k := m) (by rw [cycL_len]; exact hmt)
                rw [hcv2.out] at cE
                have cR := Ints.cellI hR2 (i := N) n0 (by rw [wrS_len, hl1]; exact n1)
                have fR := Row.free hR2 N.toNat
                have sR := (Row.lt hR2 (g := gd) rfl).2
                have sE := (Row.lt hC2 (g := ge) rfl).2
                simp only [List.getElem?_toArray, List.getElem?_cons_zero, List.getElem?_cons_succ] at o2
                go_still_tail 8, (by kernel_rfl)
                change wpList _ _ _ _ _ W2.drew
                have cR' : W2.drew.cell? ⟨gd, N.toNat, none⟩ = some (.int .i64 (gI (wrS x y s k (gI xs k) Q.1 m) N)) := cR
                have fR' : W2.drew.frozen? ⟨gd, N.toNat, none⟩ = false := fR
                have sR' : gd < W2.drew.heap.size := sR
                have hR3 : Ints (W2.drew.setCell ⟨gd, N.toNat, none⟩ (.int .i64 kd)) w2.heap.size (.slice (some ⟨gd, 0, none⟩) xs.length d) (wrS x y s k (gI xs k) Q.1 (m + 1)) := by
                  rw [HW1.out]
                  exact Row.set_ (w := W2.drew) hR2 N.toNat kd
                have hS3 : Bools (W2.drew.setCell ⟨gd, N.toNat, none⟩ (.int .i64 kd)) (w3.heap.size + 1) (.slice (some ⟨w3.heap.size + 1, 0, none⟩) xs.length xs.length) (mkS x y s k Q.2 (m + 1)) := by
                  rw [HM1.out]
                  exact Row.setCell (w := W2.drew) (p := ⟨gd, N.toNat, none⟩) gS (fun g hg e => hDs gd rfl (by have e' : g = gd := e; rw [ownBlock_slice] at hg; injection hg with hg; omega)) _
                have bo3 : Box (W2.drew.setCell ⟨gd, N.toNat, none⟩ (.int .i64 kd)) w3.heap.size 30 #[.int .i64 x, .int .i64 y, .slice (some ⟨gd, 0, none⟩) xs.length d] := Box.far (w := W2.drew) bo2 (p := ⟨gd, N.toNat, none⟩) (fun e => hDp gd rfl e.symm) _
                have hC3 : Ints (W2.drew.setCell ⟨gd, N.toNat, none⟩ (.int .i64 kd)) w4.heap.size (.slice (some ⟨ge, 0, none⟩) T ec) (cycL x y s k T) := Row.setCell (w := W2.drew) (p := ⟨gd, N.toNat, none⟩) hC2 (fun g hg e => by have := hE g hg; have e' : g = gd := e; omega) _
                have hc3 : Chg w2.heap.size w4.heap.size w4 (W2.drew.setCell ⟨gd, N.toNat, none⟩ (.int .i64 kd)) := (hc2.trans (Chg.ofBelow (below_drewN W2.heap.size W2 1))).setc (p := ⟨gd, N.toNat, none⟩) (by show w2.heap.size ≤ gd; omega) (by show gd < w4.heap.size; omega) _
                clear hR2 gS bo2 hC2 hc2 o2 on cE cR fR sR sE
                go_wp2_with fail
                refine (l06Kind_any HKK.out HS.out HKD'.out).mono ?_
                rintro e w' ⟨rfl, rfl⟩
                have R1 := Lib.hid hR3
                have R2 := Lib.hid hS3
                have R3 := Lib.hid bo3
                have R4 := Lib.hid hC3
                have R5 := Lib.hid hc3
                clear hR3 hS3 bo3 hC3 hc3 cR' fR' sR'
                go_wp2
                go_roundw
                case rel => exact ⟨m + 1, by omega, by rw [HK1.out], by go_num, R1.out, R2.out, R3.out, R4.out, R5.out⟩
                case measure => simp [intOf]; omega
              · have e : m = T := by omega
                subst e
                have HR2 : Hid (Ints wr w2.heap.size (.slice D xs.length d) (symTo x y s xs (k + 1)).1) := Lib.hid (by rw [HNX.out, HT.out, HKD.out]; exact hR)
                have HS2 : Hid (Bools wr (w3.heap.size + 1) (.slice (some ⟨w3.heap.size + 1, 0, none⟩) xs.length xs.length) (symTo x y s xs (k + 1)).2) := Lib.hid (by rw [HNX.out, HT.out]; exact hS)
                clear hR hS hC hcl hwl hml
                go_wp2
                go_roundw
                case rel => exact ⟨k + 1, by omega, by go_num, HR2.out, HS2.out, bo, hc⟩
                case measure => simp [intOf]; omega
          · have HKD : Hid (kd0 x y s xs k = 0) := Lib.hid (by unfold kd0; rw [if_pos (of_decide_eq_true HTB.out)])
            have hq0 : (0 : Int) ≤ 0 ∧ (0 : Int) ≤ 2 := ⟨by omega, by omega⟩
            have HKB : Hid (∀ m, 0 ≤ itK s (0) m ∧ itK s (0) m ≤ 2) := Lib.hid (itK_bd hq0)
            clear hq0
            have hw0 : wrS x y s k (0) Q.1 0 = Q.1 := rfl
            go_wp2
            go_loopw [12, 13] (fun kd i wr => ∃ m : Nat, m ≤ T ∧ kd = .int .i64 (itK s (0) m) ∧ i = .int .i64 m ∧ Ints wr w2.heap.size (.slice D xs.length d) (wrS x y s k (0) Q.1 m) ∧ Bools wr (w3.heap.size + 1) (.slice (some ⟨w3.heap.size + 1, 0, none⟩) xs.length xs.length) (mkS x y s k Q.2 m) ∧
                Box wr w3.heap.size 30 #[.int .i64 x, .int .i64 y, .slice D xs.length d] ∧ Ints wr w4.heap.size (.slice E T ec) (cycL x y s k T) ∧ Chg w2.heap.size w4.heap.size w4 wr) (fun _ i _ => T - (intOf i).toNat)
            case atStart => exact ⟨0, Nat.zero_le _, rfl, rfl, hR, hS, bo, hC, hc⟩
            case round =>
              obtain ⟨m, hm, rfl, rfl, hR, hS, bo, hC, hc⟩ := hrel
              clear c3 q0 q1 q2 qn ba br hp1 bl hw0
              have hcl := cycL_len x y s k T
              have hwl := wrS_len x y s k (0) Q.1 m
              have hml := mkS_len x y s k Q.2 m
              by_cases hmt : m < T
              · have hcv := cycL_get x y s k T m hmt
                have hin := itN_in HW.out HH.out (symOk_bd HS.out).1 (symOk_bd HS.out).2 i0 HIK.out m
                rw [HN.out] at hin
                obtain ⟨N, hNN⟩ : ∃ N, itN x y s k m = N := ⟨_, rfl⟩
                obtain ⟨kd, hkd⟩ : ∃ kd, itK s (0) m = kd := ⟨_, rfl⟩
                obtain ⟨kd', hkd'⟩ : ∃ kd', kindX kd s = kd' := ⟨_, rfl⟩
                have HKK := Lib.hid (HKB.out m)
                rw [hkd] at HKK
                have HW1 : Hid (wrS x y s k (0) Q.1 (m + 1) = (wrS x y s k (0) Q.1 m).set N.toNat kd) := Lib.hid (by rw [wrS, hNN, hkd])
                have HM1 : Hid (mkS x y s k Q.2 (m + 1) = (mkS x y s k Q.2 m).set N.toNat true) := Lib.hid (by rw [mkS, hNN])
                have HK1 : Hid (itK s (0) (m + 1) = kd') := Lib.hid (by rw [itK, hkd, hkd'])
                rw [hNN] at hin hcv
                have hcv2 := Lib.hid hcv
                have HKD' := Lib.hid hkd'
                obtain ⟨n0, n1⟩ := hin
                obtain ⟨gd, hgd⟩ : ∃ gd, D = some ⟨gd, 0, none⟩ := by
                  rcases hR.form with ⟨_, h2⟩ | ⟨g, c, h2, _⟩
                  · exfalso
                    have : xs.length = 0 := by rw [← hl1, ← hwl, h2]; rfl
                    omega
                  · injection h2 with h2 _ _
                    exact ⟨g, h2⟩
                subst hgd
                obtain ⟨ge, hge⟩ : ∃ ge, E = some ⟨ge, 0, none⟩ := by
                  rcases hC.form with ⟨_, h2⟩ | ⟨g, c, h2, _⟩
                  · exfalso
                    have : T = 0 := by rw [← hcl, h2]; rfl
                    omega
                  · injection h2 with h2 _ _
                    exact ⟨g, h2⟩
                subst hge
                have cE := Ints.cell hC (k := m) (by omega)
                rw [hcv] at cE
                have cS := Bools.cellI hS (i := N) n0 (by rw [hml]; omega)
                have fS := Row.free hS N.toNat
                have gS := hS.at_ N.toNat
                have hE1 := hE ge rfl
                have hD1 := hD gd rfl
                have sS := (Row.lt hS (g := w3.heap.size + 1) rfl).2
                rw [hkd]
                clear hkd hkd' hNN hcv hcl hml hwl
                have bo2 := bo.far (p := ⟨w3.heap.size + 1, N.toNat, none⟩) (by show w3.heap.size ≠ w3.heap.size + 1; omega) (.bool true)
                have hR2 : Ints (wr.setCell ⟨w3.heap.size + 1, N.toNat, none⟩ (.bool true)) w2.heap.size (.slice (some ⟨gd, 0, none⟩) xs.length d) (wrS x y s k (0) Q.1 m) := Row.setCell (p := ⟨w3.heap.size + 1, N.toNat, none⟩) hR hDs _
                have hC2 : Ints (wr.setCell ⟨w3.heap.size + 1, N.toNat, none⟩ (.bool true)) w4.heap.size (.slice (some ⟨ge, 0, none⟩) T ec) (cycL x y s k T) := Row.setCell (p := ⟨w3.heap.size + 1, N.toNat, none⟩) hC (fun g hg e => by have := hE g hg; have e' : g = w3.heap.size + 1 := e; omega) _
                have hc2 := hc.setc (p := ⟨w3.heap.size + 1, N.toNat, none⟩) (by show w2.heap.size ≤ w3.heap.size + 1; omega) (by show w3.heap.size + 1 < w4.heap.size; omega) (.bool true)
                clear hR hC bo hc
                go_wp2_with fail
                clear cE cS fS hS
                generalize hW2 : wr.setCell ⟨w3.heap.size + 1, N.toNat, none⟩ (.bool true) = W2 at *
                clear hW2
                have o2 := bo2.cell 2
                have on := bo2.lt
                have cE := Ints.cell hC2 (k := m) (by rw [cycL_len]; exact hmt)
                rw [hcv2.out] at cE
                have cR := Ints.cellI hR2 (i := N) n0 (by rw [wrS_len, hl1]; exact n1)
                have fR := Row.free hR2 N.toNat
                have sR := (Row.lt hR2 (g := gd) rfl).2
                have sE := (Row.lt hC2 (g := ge) rfl).2
                simp only [List.getElem?_toArray, List.getElem?_cons_zero, List.getElem?_cons_succ] at o2
                go_still_tail 8, (by kernel_rfl)
                change wpList _ _ _ _ _ W2.drew
                have cR' : W2.drew.cell? ⟨gd, N.toNat, none⟩ = some (.int .i64 (gI (wrS x y s k (0) Q.1 m) N)) := cR
                have fR' : W2.drew.frozen? ⟨gd, N.toNat, none⟩ = false := fR
                have sR' : gd < W2.drew.heap.size := sR
                have hR3 : Ints (W2.drew.setCell ⟨gd, N.toNat, none⟩ (.int .i64 kd)) w2.heap.size (.slice (some ⟨gd, 0, none⟩) xs.length d) (wrS x y s k (0) Q.1 (m + 1)) := by
                  rw [HW1.out]
                  exact Row.set_ (w := W2.drew) hR2 N.toNat kd
                have hS3 : Bools (W2.drew.setCell ⟨gd, N.toNat, none⟩ (.int .i64 kd)) (w3.heap.size + 1) (.slice (some ⟨w3.heap.size + 1, 0, none⟩) xs.length xs.length) (mkS x y s k Q.2 (m + 1)) := by
                  rw [HM1.out]
                  exact Row.setCell (w := W2.drew) (p := ⟨gd, N.toNat, none⟩) gS (fun g hg e => hDs gd rfl (by have e' : g = gd := e; rw [ownBlock_slice] at hg; injection hg with hg; omega)) _
                have bo3 : Box (W2.drew.setCell ⟨gd, N.toNat, none⟩ (.int .i64 kd)) w3.heap.size 30 #[.int .i64 x, .int .i64 y, .slice (some ⟨gd, 0, none⟩) xs.length d] := Box.far (w := W2.drew) bo2 (p := ⟨gd, N.toNat, none⟩) (fun e => hDp gd rfl e.symm) _
                have hC3 : Ints (W2.drew.setCell ⟨gd, N.toNat, none⟩ (.int .i64 kd)) w4.heap.size (.slice (some ⟨ge, 0, none⟩) T ec) (cycL x y s k T) := Row.setCell (w := W2.drew) (p := ⟨gd, N.toNat, none⟩) hC2 (fun g hg e => by have := hE g hg; have e' : g = gd := e; omega) _
                have hc3 : Chg w2.heap.size w4.heap.size w4 (W2.drew.setCell ⟨gd, N.toNat, none⟩ (.int .i64 kd)) := (hc2.trans (Chg.ofBelow (below_drewN W2.heap.size W2 1))).setc (p := ⟨gd, N.toNat, none⟩) (by show w2.heap.size ≤ gd; omega) (by show gd < w4.heap.size; omega) _
                clear hR2 gS bo2 hC2 hc2 o2 on cE cR fR sR sE
                go_wp2_with fail
                refine (l06Kind_any HKK.out HS.out HKD'.out).mono ?_
                rintro e w' ⟨rfl, rfl⟩
                have R1 := Lib.hid hR3
                have R2 := Lib.hid hS3
                have R3 := Lib.hid bo3
                have R4 := Lib.hid hC3
                have R5 := Lib.hid hc3
                clear hR3 hS3 bo3 hC3 hc3 cR' fR' sR'
                go_wp2
                go_roundw
                case rel => exact ⟨m + 1, by omega, by rw [HK1.out], by go_num, R1.out, R2.out, R3.out, R4.out, R5.out⟩
                case measure => simp [intOf]; omega
              · have e : m = T := by omega
                subst e
                have HR2 : Hid (Ints wr w2.heap.size (.slice D xs.length d) (symTo x y s xs (k + 1)).1) := Lib.hid (by rw [HNX.out, HT.out, HKD.out]; exact hR)
                have HS2 : Hid (Bools wr (w3.heap.size + 1) (.slice (some ⟨w3.heap.size + 1, 0, none⟩) xs.length xs.length) (symTo x y s xs (k + 1)).2) := Lib.hid (by rw [HNX.out, HT.out]; exact hS)
                clear hR hS hC hcl hwl hml
                go_wp2
                go_roundw
                case rel => exact ⟨k + 1, by omega, by go_num, HR2.out, HS2.out, bo, hc⟩
                case measure => simp [intOf]; omega
        · rw [hbk] at c1
          have HNX := Lib.hid (symTo_yes hbk)
          clear hbk
          go_wp2
          go_roundw
          case rel => exact ⟨k + 1, by omega, by go_num, by rw [HNX.out]; exact hR, by rw [HNX.out]; exact hS, bo, hc⟩
          case measure => simp [intOf]; omega
      · have e : k = xs.length := by omega
        subst e
        have o0 := bo.cell 0
        have o1 := bo.cell 1
        have o2 := bo.cell 2
        have on := bo.lt
        have r0 := br.cell 0
        have r1 := br.cell 1
        have r2 := br.cell 2
        have rf0 := br.free 0
        have rf1 := br.free 1
        have rf2 := br.free 2
        have rn := br.lt
        simp only [List.getElem?_toArray, List.getElem?_cons_zero, List.getElem?_cons_succ] at o0 o1 o2 r0 r1 r2
        go_wp2
        rw [hl1]
        refine bodyPost_ret (v := .tuple #[.agg #[.int .i64 x, .int .i64 y, .slice D xs.length d], .int .i64 0]) (by simp [results, Try.results35, go_sem, r0, r1, r2, rf0, rf1, rf2, rn]) rfl ⟨D, d, rfl, ?_, ?_⟩
        · have hz : IntsIn wr w2.heap.size w4.heap.size (.slice D xs.length d) (symTo x y s xs xs.length).1 := ⟨hR, fun g hg => by have := hD g hg; omega, hc.size, by rw [hl1]; omega⟩
          exact (((hz.at_store (p := ⟨w.heap.size + 1, 0, none⟩) (by simp; omega) _).at_store (p := ⟨w.heap.size + 1, 1, none⟩) (by simp; omega) _).at_store (p := ⟨w.heap.size + 1, 2, none⟩) (by simp; omega) _).wider (by omega) (by simp; exact hc.size) (Nat.le_refl _)
        · exact ((bl.setCell (p := ⟨w.heap.size + 1, 0, none⟩) (by simp) _).setCell (p := ⟨w.heap.size + 1, 1, none⟩) (by simp) _).setCell (p := ⟨w.heap.size + 1, 2, none⟩) (by simp) _
  · skip
    rw [if_neg h4] at hand
    go_enter Try.func35, Try.ntmps35
    go_wp2_with fail
    refine (l06Code_any (xs := xs) ⟨ba, hp1.ints⟩ HCC.out).mono ?_
    rintro e w2 ⟨rfl, hb⟩
    have s2 := hb.size
    simp only [World.size_alloc] at s2
    replace ba := ba.below hb
    replace br := br.below hb
    replace bl := bnext bl hb
    replace hp1 := hp1.below hb
    clear hb
    have q0 := ba.cell 0
    have q1 := ba.cell 1
    have q2 := ba.cell 2
    have qn := ba.lt
    simp only [List.getElem?_toArray, List.getElem?_cons_zero, List.getElem?_cons_succ] at q0 q1 q2
    go_wp2_with fail
    refine (l02Own_any ba hp1).mono ?_
    rintro e w3 ⟨D, d, rfl, hI, hb⟩
    have s3 := hb.size
    replace ba := ba.below hb
    replace br := br.below hb
    replace bl := bnext bl hb
    replace hp1 := hp1.below hb
    clear hb q0 q1 q2 qn
    have bo := Box.new w3 30 #[.int .i64 x, .int .i64 y, .slice D xs.length d]
    have hz := Joins.below_alloc1 w3 (.cells #[.int .i64 x, .int .i64 y, .slice D xs.length d] 30)
    replace ba := ba.below hz
    replace br := br.below hz
    replace bl := bnext bl hz
    replace hp1 := hp1.below hz
    have hD : ∀ g, (Value.slice D xs.length d).ownBlock = some g → w2.heap.size ≤ g ∧ g < w3.heap.size := fun g hg => ⟨(Row.lt hI.1 hg).1, hI.2.1 g hg⟩
    replace hI := hI.below hz
    clear hz
    obtain ⟨j0, hinf, hz0, hz1, hz2⟩ := info_parts info_bool
    generalize hV : w3.alloc (.cells #[.int .i64 x, .int .i64 y, .slice D xs.length d] 30) = V at *
    have hVs : V.heap.size = w3.heap.size + 1 := by rw [← hV]; simp
    have q0 := ba.cell 0
    have q1 := ba.cell 1
    have q2 := ba.cell 2
    have qn := ba.lt
    simp only [List.getElem?_toArray, List.getElem?_cons_zero, List.getElem?_cons_succ] at q0 q1 q2
    go_wp2_with (at_make; refine wpList_make_full _ rfl _ _ 92 rfl (w3.heap.size + 1) 4 j0 (.bool false) 1 Try.underlying92 hinf hz0 hz1 _ _ _ _ xs.length rfl rfl (by omega) (by omega) (by rw [hz2]; omega) (by unfold maxLen; omega) (by omega) ?_)
    intro w4 hown hgrow
    have hb1 : Below V.heap.size V w4 := (Below.refl _ _).grown hgrow (Nat.le_refl _) (by simp)
    have H1 : Bools w4 (w3.heap.size + 1) (.slice (some ⟨w3.heap.size + 1, 0, none⟩) xs.length xs.length) (List.replicate xs.length false) := by
      unfold Bools Row
      rw [List.length_replicate, List.map_replicate]
      simpa [Value.cells, toList_madeCells_one] using hown
    have s4 := (Row.lt H1 (g := w3.heap.size + 1) rfl).2
    replace ba := ba.below hb1
    replace br := br.below hb1
    replace bo := bo.below hb1
    replace bl := bnext bl hb1
    replace hp1 := hp1.below hb1
    replace hI := hI.below hb1
    have hI0 : Ints w4 w2.heap.size (.slice D xs.length d) xs := hI.1
    have KX : Hid (∀ wr, Chg w2.heap.size w4.heap.size w4 wr → Box wr w.heap.size 30 #[.int .i64 x, .int .i64 y, .slice A xs.length cA] ∧ Box wr (w.heap.size + 1) 30 #[.int .i64 0, .int .i64 0, .slice none 0 0] ∧ IntsIn wr lo hi (.slice A xs.length cA) xs ∧ Below w.heap.size w wr) :=
      Lib.hid (fun wr hc => ⟨ba.chg hc (.inl (by omega)), br.chg hc (.inl (by omega)), hp1.chg hc (.inl (by omega)), bl.trans (hc.toBelow (by omega) bl.size)⟩)
    have hDp : ∀ g, (Value.slice D xs.length d).ownBlock = some g → g ≠ w3.heap.size := fun g hg => by have := hD g hg; omega
    have hDs : ∀ g, (Value.slice D xs.length d).ownBlock = some g → g ≠ w3.heap.size + 1 := fun g hg => by have := hD g hg; omega
    clear hV hown hgrow hinf hz0 hz1 hz2 hb1 hI ba br bl hp1 q0 q1 q2 qn
    have hc0 : Chg w2.heap.size w4.heap.size w4 w4 := Chg.ofBelow (Below.refl _ _)
    go_wp2
    go_loopw [9] (fun i wr => ∃ k : Nat, k ≤ xs.length ∧ i = .int .i64 k ∧ Ints wr w2.heap.size (.slice D xs.length d) (symTo x y s xs k).1 ∧ Bools wr (w3.heap.size + 1) (.slice (some ⟨w3.heap.size + 1, 0, none⟩) xs.length xs.length) (symTo x y s xs k).2 ∧
        Box wr w3.heap.size 30 #[.int .i64 x, .int .i64 y, .slice D xs.length d] ∧ Chg w2.heap.size w4.heap.size w4 wr) (fun i _ => xs.length - (intOf i).toNat)
    case atStart => exact ⟨0, Nat.zero_le _, rfl, hI0, H1, bo, hc0⟩
    case round =>
      obtain ⟨k, hk, rfl, hR, hS, bo, hc⟩ := hrel
      clear hI0 H1 hc0
      obtain ⟨ba, br, hp1, bl⟩ := KX.out _ hc
      have hln := symTo_len x y s xs k
      obtain ⟨hl1, hl2⟩ := hln
      have q0 := ba.cell 0
      have q1 := ba.cell 1
      have q2 := ba.cell 2
      have qn := ba.lt
      simp only [List.getElem?_toArray, List.getElem?_cons_zero, List.getElem?_cons_succ] at q0 q1 q2
      by_cases hlt : k < xs.length
      · have i1 : (k : Int) < (xs.length : Int) := by omega
        have i0 : (0 : Int) ≤ (k : Int) := by omega
        have c1 := Bools.cell hS (k := k) (by omega)
        cases hbk : gB (symTo x y s xs k).2 k
        · rw [hbk] at c1
          have HNX := Lib.hid (symTo_no hbk)
          obtain ⟨tb, htb⟩ : ∃ tb, decide (4 ≤ s ∧ perN x y s k % 2 = 1) = tb := ⟨_, rfl⟩
          have HTB := Lib.hid htb
          have HIK : Hid ((k : Int) < inner x y) := Lib.hid (by rw [HN.out]; exact i1)
          generalize hQ : symTo x y s xs k = Q at *
          clear hbk htb hQ
          go_wp2_with fail
          obtain ⟨T, hT⟩ : ∃ T, perN x y s k = T := ⟨_, rfl⟩
          have T4 := (per_is HW.out HH.out s0 s7 HQ.out i0 HIK.out).1.2
          rw [hT] at T4
          have hcy := l06Cycle_any ba HW.out HH.out HS.out HQ.out i0 HIK.out HTB.out
          rw [hT] at hcy
          refine hcy.mono ?_
          clear hcy
          rintro e w5 ⟨E, ec, rfl, hC, hb⟩
          have hwr := hc.size
          replace hR := Row.below hR hb
          replace hS := Row.below hS hb
          replace bo := bo.below hb
          replace hc := hc.trans (Chg.ofBelow hb)
          obtain ⟨ba, br, hp1, bl⟩ := KX.out _ hc
          have HT := Lib.hid hT
          clear hT hb c1 q0 q1 q2 qn
          replace hC : Ints w5 w4.heap.size (.slice E T ec) (cycL x y s k T) := Row.le hC hwr
          have hE : ∀ g, (Value.slice E T ec).ownBlock = some g → w4.heap.size ≤ g := fun g hg => (Row.lt hC hg).1
          obtain ⟨ga, rfl, _, _⟩ := hA (by omega)
          have c3 := Ints.cell hp1.1 (k := k) hlt
          have q0 := ba.cell 0
          have q1 := ba.cell 1
          have q2 := ba.cell 2
          have qn := ba.lt
          simp only [List.getElem?_toArray, List.getElem?_cons_zero, List.getElem?_cons_succ] at q0 q1 q2
          cases tb
          · have HKD : Hid (kd0 x y s xs k = gI xs k) := Lib.hid (by unfold kd0; rw [if_neg (of_decide_eq_false HTB.out)])
            have hq0 : (0 : Int) ≤ gI xs k ∧ (gI xs k : Int) ≤ 2 := HK.out k hlt
            have HKB : Hid (∀ m, 0 ≤ itK s (gI xs k) m ∧ itK s (gI xs k) m ≤ 2) := Lib.hid (itK_bd hq0)
            clear hq0
            have hw0 : wrS x y s k (gI xs k) Q.1 0 = Q.1 := rfl
            go_wp2
            go_loopw [12, 13] (fun kd i wr => ∃ m : Nat, m ≤ T ∧ kd = .int .i64 (itK s (gI xs k) m) ∧ i = .int .i64 m ∧ Ints wr w2.heap.size (.slice D xs.length d) (wrS x y s k (gI xs k) Q.1 m) ∧ Bools wr (w3.heap.size + 1) (.slice (some ⟨w3.heap.size + 1, 0, none⟩) xs.length xs.length) (mkS x y s k Q.2 m) ∧
                Box wr w3.heap.size 30 #[.int .i64 x, .int .i64 y, .slice D xs.length d] ∧ Ints wr w4.heap.size (.slice E T ec) (cycL x y s k T) ∧ Chg w2.heap.size w4.heap.size w4 wr) (fun _ i _ => T - (intOf i).toNat)
            case atStart => exact ⟨0, Nat.zero_le _, rfl, rfl, hR, hS, bo, hC, hc⟩
            case round =>
              obtain ⟨m, hm, rfl, rfl, hR, hS, bo, hC, hc⟩ := hrel
              clear c3 q0 q1 q2 qn ba br hp1 bl hw0
              have hcl := cycL_len x y s k T
              have hwl := wrS_len x y s k (gI xs k) Q.1 m
              have hml := mkS_len x y s k Q.2 m
              by_cases hmt : m < T
              · have hcv := cycL_get x y s k T m hmt
                have hin := itN_in HW.out HH.out (symOk_bd HS.out).1 (symOk_bd HS.out).2 i0 HIK.out m
                rw [HN.out] at hin
                obtain ⟨N, hNN⟩ : ∃ N, itN x y s k m = N := ⟨_, rfl⟩
                obtain ⟨kd, hkd⟩ : ∃ kd, itK s (gI xs k) m = kd := ⟨_, rfl⟩
                obtain ⟨kd', hkd'⟩ : ∃ kd', kindX kd s = kd' := ⟨_, rfl⟩
                have HKK := Lib.hid (HKB.out m)
                rw [hkd] at HKK
                have HW1 : Hid (wrS x y s k (gI xs k) Q.1 (m + 1) = (wrS x y s k (gI xs k) Q.1 m).set N.toNat kd) := Lib.hid (by rw [wrS, hNN, hkd])
                have HM1 : Hid (mkS x y s k Q.2 (m + 1) = (mkS x y s k Q.2 m).set N.toNat true) := Lib.hid (by rw [mkS, hNN])
                have HK1 : Hid (itK s (gI xs k) (m + 1) = kd') := Lib.hid (by rw [itK, hkd, hkd'])
                rw [hNN] at hin hcv
                have hcv2 := Lib.hid hcv
                have HKD' := Lib.hid hkd'
                obtain ⟨n0, n1⟩ := hin
                obtain ⟨gd, hgd⟩ : ∃ gd, D = some ⟨gd, 0, none⟩ := by
                  rcases hR.form with ⟨_, h2⟩ | ⟨g, c, h2, _⟩
                  · exfalso
                    have : xs.length = 0 := by rw [← hl1, ← hwl, h2]; rfl
                    omega
                  · injection h2 with h2 _ _
                    exact ⟨g, h2⟩
                subst hgd
                obtain ⟨ge, hge⟩ : ∃ ge, E = some ⟨ge, 0, none⟩ := by
                  rcases hC.form with ⟨_, h2⟩ | ⟨g, c, h2, _⟩
                  · exfalso
                    have : T = 0 := by rw [← hcl, h2]; rfl
                    omega
                  · injection h2 with h2 _ _
                    exact ⟨g, h2⟩
                subst hge
                have cE := Ints.cell hC (k := m) (by omega)
                rw [hcv] at cE
                have cS := Bools.cellI hS (i := N) n0 (by rw [hml]; omega)
                have fS := Row.free hS N.toNat
                have gS := hS.at_ N.toNat
                have hE1 := hE ge rfl
                have hD1 := hD gd rfl
                have sS := (Row.lt hS (g := w3.heap.size + 1) rfl).2
                rw [hkd]
                clear hkd hkd' hNN hcv hcl hml hwl
                have bo2 := bo.far (p := ⟨w3.heap.size + 1, N.toNat, none⟩) (by show w3.heap.size ≠ w3.heap.size + 1; omega) (.bool true)
                have hR2 : Ints (wr.setCell ⟨w3.heap.size + 1, N.toNat, none⟩ (.bool true)) w2.heap.size (.slice (some ⟨gd, 0, none⟩) xs.length d) (wrS x y s k (gI xs k) Q.1 m) := Row.setCell (p := ⟨w3.heap.size + 1, N.toNat, none⟩) hR hDs _
                have hC2 : Ints (wr.setCell ⟨w3.heap.size + 1, N.toNat, none⟩ (.bool true)) w4.heap.size (.slice (some ⟨ge, 0, none⟩) T ec) (cycL x y s k T) := Row.setCell (p := ⟨w3.heap.size + 1, N.toNat, none⟩) hC (fun g hg e => by have := hE g hg; have e' : g = w3.heap.size + 1 := e; omega) _
                have hc2 := hc.setc (p := ⟨w3.heap.size + 1, N.toNat, none⟩) (by show w2.heap.size ≤ w3.heap.size + 1; omega) (by show w3.heap.size + 1 < w4.heap.size; omega) (.bool true)
                clear hR hC bo hc
                go_wp2_with fail
                clear cE cS fS hS
                generalize hW2 : wr.setCell ⟨w3.heap.size + 1, N.toNat, none⟩ (.bool true) = W2 at *
                clear hW2
                have o2 := bo2.cell 2
                have on := bo2.lt
                have cE := Ints.cell hC2 (k := m) (by rw [cycL_len]; exact hmt)
                rw [hcv2.out] at cE
                have cR := Ints.cellI hR2 (i := N) n0 (by rw [wrS_len, hl1]; exact n1)
                have fR := Row.free hR2 N.toNat
                have sR := (Row.lt hR2 (g := gd) rfl).2
                have sE := (Row.lt hC2 (g := ge) rfl).2
                simp only [List.getElem?_toArray, List.getElem?_cons_zero, List.getElem?_cons_succ] at o2
                go_still_tail 8, (by kernel_rfl)
                change wpList _ _ _ _ _ W2.drew
                have cR' : W2.drew.cell? ⟨gd, N.toNat, none⟩ = some (.int .i64 (gI (wrS x y s k (gI xs k) Q.1 m) N)) := cR
                have fR' : W2.drew.frozen? ⟨gd, N.toNat, none⟩ = false := fR
                have sR' : gd < W2.drew.heap.size := sR
                have hR3 : Ints (W2.drew.setCell ⟨gd, N.toNat, none⟩ (.int .i64 kd)) w2.heap.size (.slice (some ⟨gd, 0, none⟩) xs.length d) (wrS x y s k (gI xs k) Q.1 (m + 1)) := by
                  rw [HW1.out]
                  exact Row.set_ (w := W2.drew) hR2 N.toNat kd
                have hS3 : Bools (W2.drew.setCell ⟨gd, N.toNat, none⟩ (.int .i64 kd)) (w3.heap.size + 1) (.slice (some ⟨w3.heap.size + 1, 0, none⟩) xs.length xs.length) (mkS x y s k Q.2 (m + 1)) := by
                  rw [HM1.out]
                  exact Row.setCell (w := W2.drew) (p := ⟨gd, N.toNat, none⟩) gS (fun g hg e => hDs gd rfl (by have e' : g = gd := e; rw [ownBlock_slice] at hg; injection hg with hg; omega)) _
                have bo3 : Box (W2.drew.setCell ⟨gd, N.toNat, none⟩ (.int .i64 kd)) w3.heap.size 30 #[.int .i64 x, .int .i64 y, .slice (some ⟨gd, 0, none⟩) xs.length d] := Box.far (w := W2.drew) bo2 (p := ⟨gd, N.toNat, none⟩) (fun e => hDp gd rfl e.symm) _
                have hC3 : Ints (W2.drew.setCell ⟨gd, N.toNat, none⟩ (.int .i64 kd)) w4.heap.size (.slice (some ⟨ge, 0, none⟩) T ec) (cycL x y s k T) := Row.setCell (w := W2.drew) (p := ⟨gd, N.toNat, none⟩) hC2 (fun g hg e => by have := hE g hg; have e' : g = gd := e; omega) _
                have hc3 : Chg w2.heap.size w4.heap.size w4 (W2.drew.setCell ⟨gd, N.toNat, none⟩ (.int .i64 kd)) := (hc2.trans (Chg.ofBelow (below_drewN W2.heap.size W2 1))).setc (p := ⟨gd, N.toNat, none⟩) (by show w2.heap.size ≤ gd; omega) (by show gd < w4.heap.size; omega) _
                clear hR2 gS bo2 hC2 hc2 o2 on cE cR fR sR sE
                go_wp2_with fail
                refine (l06Kind_any HKK.out HS.out HKD'.out).mono ?_
                rintro e w' ⟨rfl, rfl⟩
                have R1 := Lib.hid hR3
                have R2 := Lib.hid hS3
                have R3 := Lib.hid bo3
                have R4 := Lib.hid hC3
                have R5 := Lib.hid hc3
                clear hR3 hS3 bo3 hC3 hc3 cR' fR' sR'
                go_wp2
                go_roundw
                case rel => exact ⟨m + 1, by omega, by rw [HK1.out], by go_num, R1.out, R2.out, R3.out, R4.out, R5.out⟩
                case measure => simp [intOf]; omega
              · have e : m = T := by omega
                subst e
                have HR2 : Hid (Ints wr w2.heap.size (.slice D xs.length d) (symTo x y s xs (k + 1)).1) := Lib.hid (by rw [HNX.out, HT.out, HKD.out]; exact hR)
                have HS2 : Hid (Bools wr (w3.heap.size + 1) (.slice (some ⟨w3.heap.size + 1, 0, none⟩) xs.length xs.length) (symTo x y s xs (k + 1)).2) := Lib.hid (by rw [HNX.out, HT.out]; exact hS)
                clear hR hS hC hcl hwl hml
                go_wp2
                go_roundw
                case rel => exact ⟨k + 1, by omega, by go_num, HR2.out, HS2.out, bo, hc⟩
                case measure => simp [intOf]; omega
          · have HKD : Hid (kd0 x y s xs k = 0) := Lib.hid (by unfold kd0; rw [if_pos (of_decide_eq_true HTB.out)])
            have hq0 : (0 : Int) ≤ 0 ∧ (0 : Int) ≤ 2 := ⟨by omega, by omega⟩
            have HKB : Hid (∀ m, 0 ≤ itK s (0) m ∧ itK s (0) m ≤ 2) := Lib.hid (itK_bd hq0)
            clear hq0
            have hw0 : wrS x y s k (0) Q.1 0 = Q.1 := rfl
            go_wp2
            go_loopw [12, 13] (fun kd i wr => ∃ m : Nat, m ≤ T ∧ kd = .int .i64 (itK s (0) m) ∧ i = .int .i64 m ∧ Ints wr w2.heap.size (.slice D xs.length d) (wrS x y s k (0) Q.1 m) ∧ Bools wr (w3.heap.size + 1) (.slice (some ⟨w3.heap.size + 1, 0, none⟩) xs.length xs.length) (mkS x y s k Q.2 m) ∧
                Box wr w3.heap.size 30 #[.int .i64 x, .int .i64 y, .slice D xs.length d] ∧ Ints wr w4.heap.size (.slice E T ec) (cycL x y s k T) ∧ Chg w2.heap.size w4.heap.size w4 wr) (fun _ i _ => T - (intOf i).toNat)
            case atStart => exact ⟨0, Nat.zero_le _, rfl, rfl, hR, hS, bo, hC, hc⟩
            case round =>
              obtain ⟨m, hm, rfl, rfl, hR, hS, bo, hC, hc⟩ := hrel
              clear c3 q0 q1 q2 qn ba br hp1 bl hw0
              have hcl := cycL_len x y s k T
              have hwl := wrS_len x y s k (0) Q.1 m
              have hml := mkS_len x y s k Q.2 m
              by_cases hmt : m < T
              · have hcv := cycL_get x y s k T m hmt
                have hin := itN_in HW.out HH.out (symOk_bd HS.out).1 (symOk_bd HS.out).2 i0 HIK.out m
                rw [HN.out] at hin
                obtain ⟨N, hNN⟩ : ∃ N, itN x y s k m = N := ⟨_, rfl⟩
                obtain ⟨kd, hkd⟩ : ∃ kd, itK s (0) m = kd := ⟨_, rfl⟩
                obtain ⟨kd', hkd'⟩ : ∃ kd', kindX kd s = kd' := ⟨_, rfl⟩
                have HKK := Lib.hid (HKB.out m)
                rw [hkd] at HKK
                have HW1 : Hid (wrS x y s k (0) Q.1 (m + 1) = (wrS x y s k (0) Q.1 m).set N.toNat kd) := Lib.hid (by rw [wrS, hNN, hkd])
                have HM1 : Hid (mkS x y s k Q.2 (m + 1) = (mkS x y s k Q.2 m).set N.toNat true) := Lib.hid (by rw [mkS, hNN])
                have HK1 : Hid (itK s (0) (m + 1) = kd') := Lib.hid (by rw [itK, hkd, hkd'])
                rw [hNN] at hin hcv
                have hcv2 := Lib.hid hcv
                have HKD' := Lib.hid hkd'
                obtain ⟨n0, n1⟩ := hin
                obtain ⟨gd, hgd⟩ : ∃ gd, D = some ⟨gd, 0, none⟩ := by
                  rcases hR.form with ⟨_, h2⟩ | ⟨g, c, h2, _⟩
                  · exfalso
                    have : xs.length = 0 := by rw [← hl1, ← hwl, h2]; rfl
                    omega
                  · injection h2 with h2 _ _
                    exact ⟨g, h2⟩
                subst hgd
                obtain ⟨ge, hge⟩ : ∃ ge, E = some ⟨ge, 0, none⟩ := by
                  rcases hC.form with ⟨_, h2⟩ | ⟨g, c, h2, _⟩
                  · exfalso
                    have : T = 0 := by rw [← hcl, h2]; rfl
                    omega
                  · injection h2 with h2 _ _
                    exact ⟨g, h2⟩
                subst hge
                have cE := Ints.cell hC (k := m) (by omega)
                rw [hcv] at cE
                have cS := Bools.cellI hS (i := N) n0 (by rw [hml]; omega)
                have fS := Row.free hS N.toNat
                have gS := hS.at_ N.toNat
                have hE1 := hE ge rfl
                have hD1 := hD gd rfl
                have sS := (Row.lt hS (g := w3.heap.size + 1) rfl).2
                rw [hkd]
                clear hkd hkd' hNN hcv hcl hml hwl
                have bo2 := bo.far (p := ⟨w3.heap.size + 1, N.toNat, none⟩) (by show w3.heap.size ≠ w3.heap.size + 1; omega) (.bool true)
                have hR2 : Ints (wr.setCell ⟨w3.heap.size + 1, N.toNat, none⟩ (.bool true)) w2.heap.size (.slice (some ⟨gd, 0, none⟩) xs.length d) (wrS x y s k (0) Q.1 m) := Row.setCell (p := ⟨w3.heap.size + 1, N.toNat, none⟩) hR hDs _
                have hC2 : Ints (wr.setCell ⟨w3.heap.size + 1, N.toNat, none⟩ (.bool true)) w4.heap.size (.slice (some ⟨ge, 0, none⟩) T ec) (cycL x y s k T) := Row.setCell (p := ⟨w3.heap.size + 1, N.toNat, none⟩) hC (fun g hg e => by have := hE g hg; have e' : g = w3.heap.size + 1 := e; omega) _
                have hc2 := hc.setc (p := ⟨w3.heap.size + 1, N.toNat, none⟩) (by show w2.heap.size ≤ w3.heap.size + 1; omega) (by show w3.heap.size + 1 < w4.heap.size; omega) (.bool true)
                clear hR hC bo hc
                go_wp2_with fail
                clear cE cS fS hS
                generalize hW2 : wr.setCell ⟨w3.heap.size + 1, N.toNat, none⟩ (.bool true) = W2 at *
                clear hW2
                have o2 := bo2.cell 2
                have on := bo2.lt
                have cE := Ints.cell hC2 (k := m) (by rw [cycL_len]; exact hmt)
                rw [hcv2.out] at cE
                have cR := Ints.cellI hR2 (i := N) n0 (by rw [wrS_len, hl1]; exact n1)
                have fR := Row.free hR2 N.toNat
                have sR := (Row.lt hR2 (g := gd) rfl).2
                have sE := (Row.lt hC2 (g := ge) rfl).2
                simp only [List.getElem?_toArray, List.getElem?_cons_zero, List.getElem?_cons_succ] at o2
                go_still_tail 8, (by kernel_rfl)
                change wpList _ _ _ _ _ W2.drew
                have cR' : W2.drew.cell? ⟨gd, N.toNat, none⟩ = some (.int .i64 (gI (wrS x y s k (0) Q.1 m) N)) := cR
                have fR' : W2.drew.frozen? ⟨gd, N.toNat, none⟩ = false := fR
                have sR' : gd < W2.drew.heap.size := sR
                have hR3 : Ints (W2.drew.setCell ⟨gd, N.toNat, none⟩ (.int .i64 kd)) w2.heap.size (.slice (some ⟨gd, 0, none⟩) xs.length d) (wrS x y s k (0) Q.1 (m + 1)) := by
                  rw [HW1.out]
                  exact Row.set_ (w := W2.drew) hR2 N.toNat kd
                have hS3 : Bools (W2.drew.setCell ⟨gd, N.toNat, none⟩ (.int .i64 kd)) (w3.heap.size + 1) (.slice (some ⟨w3.heap.size + 1, 0, none⟩) xs.length xs.length) (mkS x y s k Q.2 (m + 1)) := by
                  rw [HM1.out]
                  exact Row.setCell (w := W2.drew) (p := ⟨gd, N.toNat, none⟩) gS (fun g hg e => hDs gd rfl (by have e' : g = gd := e; rw [ownBlock_slice] at hg; injection hg with hg; omega)) _
                have bo3 : Box (W2.drew.setCell ⟨gd, N.toNat, none⟩ (.int .i64 kd)) w3.heap.size 30 #[.int .i64 x, .int .i64 y, .slice (some ⟨gd, 0, none⟩) xs.length d] := Box.far (w := W2.drew) bo2 (p := ⟨gd, N.toNat, none⟩) (fun e => hDp gd rfl e.symm) _
                have hC3 : Ints (W2.drew.setCell ⟨gd, N.toNat, none⟩ (.int .i64 kd)) w4.heap.size (.slice (some ⟨ge, 0, none⟩) T ec) (cycL x y s k T) := Row.setCell (w := W2.drew) (p := ⟨gd, N.toNat, none⟩) hC2 (fun g hg e => by have := hE g hg; have e' : g = gd := e; omega) _
                have hc3 : Chg w2.heap.size w4.heap.size w4 (W2.drew.setCell ⟨gd, N.toNat, none⟩ (.int .i64 kd)) := (hc2.trans (Chg.ofBelow (below_drewN W2.heap.size W2 1))).setc (p := ⟨gd, N.toNat, none⟩) (by show w2.heap.size ≤ gd; omega) (by show gd < w4.heap.size; omega) _
                clear hR2 gS bo2 hC2 hc2 o2 on cE cR fR sR sE
                go_wp2_with fail
                refine (l06Kind_any HKK.out HS.out HKD'.out).mono ?_
                rintro e w' ⟨rfl, rfl⟩
                have R1 := Lib.hid hR3
                have R2 := Lib.hid hS3
                have R3 := Lib.hid bo3
                have R4 := Lib.hid hC3
                have R5 := Lib.hid hc3
                clear hR3 hS3 bo3 hC3 hc3 cR' fR' sR'
                go_wp2
                go_roundw
                case rel => exact ⟨m + 1, by omega, by rw [HK1.out], by go_num, R1.out, R2.out, R3.out, R4.out, R5.out⟩
                case measure => simp [intOf]; omega
              · have e : m = T := by omega
                subst e
                have HR2 : Hid (Ints wr w2.heap.size (.slice D xs.length d) (symTo x y s xs (k + 1)).1) := Lib.hid (by rw [HNX.out, HT.out, HKD.out]; exact hR)
                have HS2 : Hid (Bools wr (w3.heap.size + 1) (.slice (some ⟨w3.heap.size + 1, 0, none⟩) xs.length xs.length) (symTo x y s xs (k + 1)).2) := Lib.hid (by rw [HNX.out, HT.out]; exact hS)
                clear hR hS hC hcl hwl hml
                go_wp2
                go_roundw
                case rel => exact ⟨k + 1, by omega, by go_num, HR2.out, HS2.out, bo, hc⟩
                case measure => simp [intOf]; omega
        · rw [hbk] at c1
          have HNX := Lib.hid (symTo_yes hbk)
          clear hbk
          go_wp2
          go_roundw
          case rel => exact ⟨k + 1, by omega, by go_num, by rw [HNX.out]; exact hR, by rw [HNX.out]; exact hS, bo, hc⟩
          case measure => simp [intOf]; omega
      · have e : k = xs.length := by omega
        subst e
        have o0 := bo.cell 0
        have o1 := bo.cell 1
        have o2 := bo.cell 2
        have on := bo.lt
        have r0 := br.cell 0
        have r1 := br.cell 1
        have r2 := br.cell 2
        have rf0 := br.free 0
        have rf1 := br.free 1
        have rf2 := br.free 2
        have rn := br.lt
        simp only [List.getElem?_toArray, List.getElem?_cons_zero, List.getElem?_cons_succ] at o0 o1 o2 r0 r1 r2
        go_wp2
        rw [hl1]
        refine bodyPost_ret (v := .tuple #[.agg #[.int .i64 x, .int .i64 y, .slice D xs.length d], .int .i64 0]) (by simp [results, Try.results35, go_sem, r0, r1, r2, rf0, rf1, rf2, rn]) rfl ⟨D, d, rfl, ?_, ?_⟩
        · have hz : IntsIn wr w2.heap.size w4.heap.size (.slice D xs.length d) (symTo x y s xs xs.length).1 := ⟨hR, fun g hg => by have := hD g hg; omega, hc.size, by rw [hl1]; omega⟩
          exact (((hz.at_store (p := ⟨w.heap.size + 1, 0, none⟩) (by simp; omega) _).at_store (p := ⟨w.heap.size + 1, 1, none⟩) (by simp; omega) _).at_store (p := ⟨w.heap.size + 1, 2, none⟩) (by simp; omega) _).wider (by omega) (by simp; exact hc.size) (Nat.le_refl _)
        · exact ((bl.setCell (p := ⟨w.heap.size + 1, 0, none⟩) (by simp) _).setCell (p := ⟨w.heap.size + 1, 1, none⟩) (by simp) _).setCell (p := ⟨w.heap.size + 1, 2, none⟩) (by simp) _
end Go.Proofs.Ytihfdgnocdphcaa
