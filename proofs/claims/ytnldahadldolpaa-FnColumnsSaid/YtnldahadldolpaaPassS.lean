/-
  What is known on one side passed on over links, by the reference.
-/
import Derived.Test.YtnldahadldolpaaPassC
namespace Go.Proofs.Ytnldahadldolpaa
open Go.RowKit Knot

/-- A new column with a row of zeros. -/
def ColMade (V wc : World) (n : Nat) (cl : Int) (s : Value) : Prop := ∃ pb go : Nat, s = .pointer (some ⟨pb, 0, none⟩) ∧ Box wc pb 38 #[.slice (some ⟨go, 0, none⟩) n n, .int .i64 cl] ∧ Ints wc V.heap.size (.slice (some ⟨go, 0, none⟩) n n) (List.replicate n 0) ∧
  go ≠ pb ∧ V.heap.size ≤ pb ∧ V.heap.size ≤ go ∧ pb < V.heap.size + 2 ∧ go < V.heap.size + 2 ∧ wc.heap.size = V.heap.size + 2 ∧ Below V.heap.size V wc
theorem ColMade.drew {V wc : World} {n : Nat} {cl : Int} {s : Value} (h : ColMade V wc n cl s) : ColMade V wc.drew n cl s := by
  obtain ⟨pb, go, h1, h2, h3, h4, h5, h6, h7, h8, h9, h10⟩ := h
  exact ⟨pb, go, h1, h2, h3, h4, h5, h6, h7, h8, h9, h10.trans (below_drewN _ _ 1)⟩
theorem cm_one {V : World} {n : Nat} {cl : Int} {M1 : Array Value} (h1 : ∀ u : World, Ints (u.alloc (.cells M1 2)) u.heap.size (.slice (some ⟨u.heap.size, 0, none⟩) n n) (List.replicate n 0)) :
    ColMade V ((V.alloc (.cells M1 2)).alloc (.cells #[.slice (some ⟨V.heap.size, 0, none⟩) n n, .int .i64 cl] 38)) n cl (.pointer (some ⟨V.heap.size + 1, 0, none⟩)) := by
  have a := h1 V
  have b := Box.new (V.alloc (.cells M1 2)) 38 #[.slice (some ⟨V.heap.size, 0, none⟩) n n, .int .i64 cl]
  rw [World.size_alloc] at b
  exact ⟨_, _, rfl, b, Row.alloc a _, by omega, by omega, by omega, by omega, by omega, by simp, ((Below.refl _ _).alloc (Nat.le_refl _) _).alloc (by simp) _⟩
theorem cm_two {V : World} {n : Nat} {cl : Int} {M1 : Array Value} (h1 : ∀ u : World, Ints (u.alloc (.cells M1 2)) u.heap.size (.slice (some ⟨u.heap.size, 0, none⟩) n n) (List.replicate n 0)) :
    ColMade V ((V.alloc (.cells #[.slice (some ⟨V.heap.size + 1, 0, none⟩) n n, .int .i64 cl] 38)).alloc (.cells M1 2)) n cl (.pointer (some ⟨V.heap.size, 0, none⟩)) := by
  have a := h1 (V.alloc (.cells #[.slice (some ⟨V.heap.size + 1, 0, none⟩) n n, .int .i64 cl] 38))
  have b := (Box.new V 38 #[.slice (some ⟨V.heap.size + 1, 0, none⟩) n n, .int .i64 cl]).alloc (.cells M1 2)
  rw [World.size_alloc] at a
  exact ⟨_, _, rfl, b, Row.le a (by omega), by omega, by omega, by omega, by omega, by omega, by simp, ((Below.refl _ _).alloc (Nat.le_refl _) _).alloc (by simp) _⟩
theorem cm_three {V : World} {n : Nat} {cl : Int} {M1 cs : Array Value} {a b : Value} (hcs : cs = #[a, b]) (h1 : ∀ u : World, Ints (u.alloc (.cells M1 2)) u.heap.size (.slice (some ⟨u.heap.size, 0, none⟩) n n) (List.replicate n 0)) :
    ColMade V ((((V.alloc (.cells cs 38)).alloc (.cells M1 2)).setCell ⟨V.heap.size, 0, none⟩ (.slice (some ⟨V.heap.size + 1, 0, none⟩) n n)).setCell ⟨V.heap.size, 1, none⟩ (.int .i64 cl)) n cl (.pointer (some ⟨V.heap.size, 0, none⟩)) := by
  subst hcs
  have a' := h1 (V.alloc (.cells #[a, b] 38))
  have b' := (Box.new V 38 #[a, b]).alloc (.cells M1 2)
  rw [World.size_alloc] at a'
  refine ⟨V.heap.size, V.heap.size + 1, rfl, by simpa using (b'.set_ 0 (.slice (some ⟨V.heap.size + 1, 0, none⟩) n n)).set_ 1 (.int .i64 cl), Row.setCell (p := ⟨V.heap.size, 1, none⟩) (Row.setCell (p := ⟨V.heap.size, 0, none⟩) (Row.le a' (by omega)) (fun g hg e => by rw [ownBlock_slice] at hg; injection hg with hg; have e' : g = V.heap.size := e; omega) _) (fun g hg e => by rw [ownBlock_slice] at hg; injection hg with hg; have e' : g = V.heap.size := e; omega) _,
    by omega, by omega, by omega, by omega, by omega, by simp [World.size_setCell], ((((Below.refl _ _).alloc (Nat.le_refl _) _).alloc (by simp) _).setCell (p := ⟨V.heap.size, 0, none⟩) (Nat.le_refl _) _).setCell (p := ⟨V.heap.size, 1, none⟩) (Nat.le_refl _) _⟩
set_option maxRecDepth 20000 in
set_option maxHeartbeats 16000000 in
theorem l09Pass_any {w : World} {h gl C D : Nat} {cl : Int} {u : Value} {P LK : List Int} (hL : Ints w D (.slice (some ⟨gl, 0, none⟩) (2 * (2 * h)) (2 * (2 * h))) LK) (hu : Ints w C u P) (hP : Pairing (2 * h) P) (hPL : Pairing (2 * (2 * h)) LK) (h8 : 1 ≤ h ∧ h ≤ 8) (hcl : 0 ≤ cl ∧ cl ≤ 100000) {R : List Int × Int} (hR : pass P LK (2 * h) = R) :
    Calls Try.prog 75 #[.slice (some ⟨gl, 0, none⟩) (2 * (2 * h)) (2 * (2 * h)), .int .i64 (2 * (h : Int)), .agg #[u, .int .i64 cl]] w fun e w' => ∃ g, e = .returned (.agg #[.slice (some ⟨g, 0, none⟩) (2 * h) (2 * h), .int .i64 (cl + R.2)]) ∧
      Ints w' w.heap.size (.slice (some ⟨g, 0, none⟩) (2 * h) (2 * h)) R.1 ∧ R.1.length = 2 * h ∧ Below w.heap.size w w' := by
  obtain ⟨Du, cD, rfl, lD, hD⟩ := hu.open_
  have hPl := hP.len
  obtain ⟨gp, rfl, gp0, gp1⟩ := hD (by omega)
  rw [hPl] at hu ⊢
  have hgl1 := (Row.lt hL (g := gl) rfl).2
  have HP := Lib.hid hP
  have HPL := Lib.hid hPL
  have HR := Lib.hid hR
  have bl := Joins.below_alloc2 w (.cells #[.slice (some ⟨gp, 0, none⟩) (2 * h) cD, .int .i64 cl] 38) (.cells #[.slice none 0 0, .int .i64 0] 38)
  have bc := (Box.new w 38 #[.slice (some ⟨gp, 0, none⟩) (2 * h) cD, .int .i64 cl]).alloc (.cells #[.slice none 0 0, .int .i64 0] 38)
  have b6 := Box.new (w.alloc (.cells #[.slice (some ⟨gp, 0, none⟩) (2 * h) cD, .int .i64 cl] 38)) 38 #[.slice none 0 0, .int .i64 0]
  rw [World.size_alloc] at b6
  have hI1 := Row.below hL bl
  have hu1 := Row.below hu bl
  obtain ⟨M1, hM1, hM1'⟩ := make_ints (2 * h) (by omega)
  have HM1 := Lib.hid hM1'
  have hK1 : ∀ u : World, (Instr.makeSlice 22 (.int .i64 (2 * (h : Int))) (.int .i64 (2 * (h : Int)))).run Try.prog u = .ok (.slice (some ⟨u.heap.size, 0, none⟩) (2 * h) (2 * h)) (u.alloc (.cells M1 2)) := hM1
  obtain ⟨i0, hinf, hz0, hz1, hz2⟩ := info_parts info_bool
  clear hP hPL hR hu hL hD hM1 hM1'
  go_enter Try.func75, Try.ntmps75
  have c0 := bc.cell 0
  have c1 := bc.cell 1
  have cn := bc.lt
  simp only [List.getElem?_toArray, List.getElem?_cons_zero, List.getElem?_cons_succ] at c0 c1
  go_wp2
  generalize hV : (w.alloc (.cells #[.slice (some ⟨gp, 0, none⟩) (2 * h) cD, .int .i64 cl] 38)).alloc (.cells #[.slice none 0 0, .int .i64 0] 38) = V at *
  have hVa : w.heap.size + 1 + 1 ≤ V.heap.size := by rw [← hV]; simp
  have hVb : V.heap.size ≤ w.heap.size + 1 + 1 := by rw [← hV]; simp
  clear hV
  go_cut [7] (fun s7 wc => ColMade V wc (2 * h) cl s7)
  case first =>
    go_region
    all_goals
      go_wp2_with fail
      go_meet
      case rel =>
        first
          | exact (cm_one HM1.out).drew
          | exact (cm_two HM1.out).drew
          | exact (cm_three rfl HM1.out).drew
  case rest =>
    obtain ⟨pb, go, rfl, bo, hOut, hne2, hp1, ho1, hp2, ho2, hsz, hbw⟩ := hcut
    obtain ⟨V1, hV1⟩ : ∃ z, z = wc := ⟨wc, rfl⟩
    subst hV1
    clear c0 c1 cn
    go_wp2_with (at_make; refine wpList_make_full _ rfl _ _ 94 rfl V1.heap.size 4 i0 (.bool false) 1 Try.underlying94 hinf hz0 hz1 _ _ _ _ (2 * h) rfl rfl (by omega) (by omega) (by rw [hz2]; omega) (by unfold maxLen; omega) (Nat.le_refl _) ?_)
    intro V2 hown hgrow
    have hb2 : Below V1.heap.size V1 V2 := (Below.refl _ _).grown hgrow (Nat.le_refl _) (by simp)
    obtain ⟨gs, hgs2⟩ : ∃ gs, V.heap.size + 2 = gs := ⟨_, rfl⟩
    try rw [hsz] at hown
    rw [hgs2] at hown
    rw [hgs2]
    have hSeen : Bools V2 gs (.slice (some ⟨gs, 0, none⟩) (2 * h) (2 * h)) (List.replicate (2 * h) false) := by
      unfold Bools Row
      rw [List.length_replicate, List.map_replicate]
      simpa [Value.cells, toList_madeCells_one] using hown
    have hs4 := (Row.lt hSeen (g := gs) rfl).2
    have hSeen2 := Row.le hSeen (C := V.heap.size) (by omega)
    have hne : go ≠ gs := by omega
    have hnp : pb ≠ gs := by omega
    have KY : Hid (∀ wr, Chg V.heap.size (V.heap.size + 3) V2 wr → Box wr w.heap.size 38 #[.slice (some ⟨gp, 0, none⟩) (2 * h) cD, .int .i64 cl] ∧ Ints wr C (.slice (some ⟨gp, 0, none⟩) (2 * h) cD) P ∧
        Ints wr D (.slice (some ⟨gl, 0, none⟩) (2 * (2 * h)) (2 * (2 * h))) LK ∧ Below w.heap.size w wr ∧ Box wr (w.heap.size + 1) 38 #[.slice none 0 0, .int .i64 0]) := by
      have bc2 := (bc.below hbw).below hb2
      have b62 := (b6.below hbw).below hb2
      have hu2 := Row.below (Row.below hu1 hbw) hb2
      have hL2 := Row.below (Row.below hI1 hbw) hb2
      have bl2 := bnext (bnext bl hbw) hb2
      refine Lib.hid (fun wr hc => ⟨bc2.chg hc (.inl (by omega)), Row.keep hu2 fun g hg hl => hc.block g hl (.inl ?_), Row.keep hL2 fun g hg hl => hc.block g hl (.inl ?_), bl2.trans (hc.toBelow (by omega) bl2.size), b62.chg hc (.inl (by omega))⟩)
      · rw [ownBlock_slice] at hg
        injection hg with hg
        omega
      · rw [ownBlock_slice] at hg
        injection hg with hg
        omega
    have bo2 := bo.below hb2
    have hO2 := Row.below hOut hb2
    clear bc b6 hI1 hu1 bl hbw hb2 bo hOut hSeen hown hgrow hinf hz0 hz1 hz2 hK1
    have hc0 : Chg V.heap.size (V.heap.size + 3) V2 V2 := Chg.ofBelow (Below.refl _ _)
    have HCH : Hid (∀ k : Nat, k < 2 * h → ∃ (j : Nat) (e : Int) (sf : List Bool), j ≤ 2 * h ∧ ((2 * h : Nat) : Int) ≤ e ∧ e < ((2 * (2 * h) : Nat) : Int) ∧ Ch P LK (2 * h) (gI LK (((2 * h : Nat) : Int) + k)) (pass1 P LK (2 * h) k).2 j e sf ∧ pass1 P LK (2 * h) (k + 1) = ((pass1 P LK (2 * h) k).1 ++ [e - ((2 * h : Nat) : Int)], sf)) := Lib.hid (fun k hk => pass1_chain HP.out HPL.out hk)
    have HLE : Hid (∀ k, k ≤ 2 * h → (pass1 P LK (2 * h) k).1.length = k ∧ (pass1 P LK (2 * h) k).2.length = 2 * h) := Lib.hid (fun k hk => pass1_len HP.out HPL.out k hk)
    have hO0 : Ints V2 V.heap.size (.slice (some ⟨go, 0, none⟩) (2 * h) (2 * h)) (oZ (pass1 P LK (2 * h) 0).1 (2 * h)) := by
      show Ints V2 V.heap.size (.slice (some ⟨go, 0, none⟩) (2 * h) (2 * h)) (oZ [] (2 * h))
      rw [oZ_nil]
      exact hO2
    have hS0 : Bools V2 V.heap.size (.slice (some ⟨gs, 0, none⟩) (2 * h) (2 * h)) (pass1 P LK (2 * h) 0).2 := hSeen2
    clear hO2 hSeen2
    have hk0 := Lib.hid (show (.int .i64 (2 * (h : Int)) : Value) = .int .i64 (2 * (h : Int) + ((0 : Nat) : Int)) by simp)
    go_wp2
    go_loopw [9] (fun s9 wr => ∃ k : Nat, k ≤ 2 * h ∧ s9 = .int .i64 (2 * (h : Int) + (k : Int)) ∧ Ints wr V.heap.size (.slice (some ⟨go, 0, none⟩) (2 * h) (2 * h)) (oZ (pass1 P LK (2 * h) k).1 (2 * h)) ∧ Bools wr V.heap.size (.slice (some ⟨gs, 0, none⟩) (2 * h) (2 * h)) (pass1 P LK (2 * h) k).2 ∧
        Box wr pb 38 #[.slice (some ⟨go, 0, none⟩) (2 * h) (2 * h), .int .i64 cl] ∧ Chg V.heap.size (V.heap.size + 3) V2 wr) (fun s9 _ => 4 * h - (intOf s9).toNat)
    case atStart => exact ⟨0, Nat.zero_le _, hk0.out, hO0, hS0, bo2, hc0⟩
    case round =>
      clear hO0 hS0 hc0 bo2 hk0
      obtain ⟨k, hk, rfl, hO, hS, bo, hc⟩ := hrel
      obtain ⟨hle1, hle2⟩ := HLE.out k hk
      obtain ⟨bc, hu1, hL, bl, b6⟩ := KY.out _ hc
      clear bc hu1 hL bl b6
      by_cases hlt : k < 2 * h
      · obtain ⟨j, e, sf, hj, he1, he2, hch, hnx⟩ := HCH.out k hlt
        have HNX := Lib.hid hnx
        obtain ⟨Q, hQ⟩ : ∃ Q, pass1 P LK (2 * h) k = Q := ⟨_, rfl⟩
        rw [hQ] at hO hS hle1 hle2 hch
        have HQ := Lib.hid hQ
        obtain ⟨a0, ha0⟩ : ∃ a0, gI LK (((2 * h : Nat) : Int) + k) = a0 := ⟨_, rfl⟩
        obtain ⟨bc, hu1, hL, bl, b6⟩ := KY.out _ hc
        have hLKl := HPL.out.len
        have cL := Ints.cell hL (k := 2 * h + k) (by rw [hLKl]; omega)
        rw [show ((2 * h + k : Nat) : Int) = ((2 * h : Nat) : Int) + k by omega] at cL
        have sL := (Row.lt hL (g := gl) rfl).2
        rw [ha0] at hch cL
        have e2 : ((2 * h : Nat) : Int) = 2 * (h : Int) := by omega
        rw [e2] at he1
        have HCH0 := Lib.hid hch
        have HE2 : Hid (e < 4 * (h : Int)) := Lib.hid (by omega)
        have he3 : e < 64 := by omega
        have c0 := bc.cell 0
        have cn := bc.lt
        simp only [List.getElem?_toArray, List.getElem?_cons_zero, List.getElem?_cons_succ] at c0
        clear hch hnx hQ ha0 e2 he2 bc b6 hu1 hL bl hLKl
        go_wp2
        clear c0 cn cL sL
        go_loopg [10] j (fun gk s21 wr => ∃ (a : Int) (s : List Bool), s21 = .int .i64 a ∧ Hid (Ch P LK (2 * h) a s gk e sf) ∧ s.length = 2 * h ∧ Ints wr V.heap.size (.slice (some ⟨go, 0, none⟩) (2 * h) (2 * h)) (oZ Q.1 (2 * h)) ∧
            Bools wr V.heap.size (.slice (some ⟨gs, 0, none⟩) (2 * h) (2 * h)) s ∧ Box wr pb 38 #[.slice (some ⟨go, 0, none⟩) (2 * h) (2 * h), .int .i64 cl] ∧ Chg V.heap.size (V.heap.size + 3) V2 wr)
        case atStart => exact ⟨a0, Q.2, rfl, HCH0, hle2, hO, hS, bo, hc⟩
        case round =>
          clear hO hS bo hc HCH0
          obtain ⟨a, s, rfl, HC, hsl, hO, hS, bo, hc⟩ := hrel
          obtain ⟨bc, hu1, hL, bl, b6⟩ := KY.out _ hc
          have c0 := bc.cell 0
          have cn := bc.lt
          simp only [List.getElem?_toArray, List.getElem?_cons_zero, List.getElem?_cons_succ] at c0
          clear bc b6 bl
          cases gk with
          | zero =>
            obtain ⟨rfl, rfl⟩ := HC.out.zero
            have hHi := HE2.out
            have hout : Ints (wr.setCell ⟨go, k, none⟩ (.int .i64 (a - 2 * (h : Int)))) V.heap.size (.slice (some ⟨go, 0, none⟩) (2 * h) (2 * h)) (oZ (pass1 P LK (2 * h) (k + 1)).1 (2 * h)) := by
              have h1 := Row.set_ hO k (a - 2 * (h : Int))
              rw [oZ_set hle1 hlt] at h1
              rw [HNX.out, HQ.out]
              have e2 : ((2 * h : Nat) : Int) = 2 * (h : Int) := by omega
              rw [e2]
              exact h1
            have hseen : Bools (wr.setCell ⟨go, k, none⟩ (.int .i64 (a - 2 * (h : Int)))) V.heap.size (.slice (some ⟨gs, 0, none⟩) (2 * h) (2 * h)) (pass1 P LK (2 * h) (k + 1)).2 := by
              rw [HNX.out]
              exact Row.setCell (p := ⟨go, k, none⟩) hS (fun g' hg' e' => hne (by rw [ownBlock_slice] at hg'; injection hg' with hg'; exact (hg'.trans e').symm)) _
            have hc3 : Chg V.heap.size (V.heap.size + 3) V2 (wr.setCell ⟨go, k, none⟩ (.int .i64 (a - 2 * (h : Int)))) := hc.trans ⟨rfl, rfl, rfl, by simp [World.setCell], fun q _ hd => Below.heap_setCell _ _ _ q (by show q ≠ go; omega)⟩
            have d1 := Ints.cell hO (k := k) (by rw [oZ_len (by omega)]; exact hlt)
            have f1 := Row.free hO k
            have s1 := (Row.lt hO (g := go) rfl).2
            have bo3 := bo.far (p := ⟨go, k, none⟩) (fun e' => hne2 e'.symm) (.int .i64 (a - 2 * (h : Int)))
            have hsub : 2 * (h : Int) + (k : Int) - 2 * (h : Int) = (k : Int) := by omega
            have o0 := bo.cell 0
            have on := bo.lt
            simp only [List.getElem?_toArray, List.getElem?_cons_zero, List.getElem?_cons_succ] at o0
            have R3 : Hid (∃ k2 : Nat, k2 ≤ 2 * h ∧ (.int .i64 (2 * (h : Int) + (k : Int) + 1) : Value) = .int .i64 (2 * (h : Int) + (k2 : Int)) ∧ Ints (wr.setCell ⟨go, k, none⟩ (.int .i64 (a - 2 * (h : Int)))) V.heap.size (.slice (some ⟨go, 0, none⟩) (2 * h) (2 * h)) (oZ (pass1 P LK (2 * h) k2).1 (2 * h)) ∧
                Bools (wr.setCell ⟨go, k, none⟩ (.int .i64 (a - 2 * (h : Int)))) V.heap.size (.slice (some ⟨gs, 0, none⟩) (2 * h) (2 * h)) (pass1 P LK (2 * h) k2).2 ∧ Box (wr.setCell ⟨go, k, none⟩ (.int .i64 (a - 2 * (h : Int)))) pb 38 #[.slice (some ⟨go, 0, none⟩) (2 * h) (2 * h), .int .i64 cl] ∧ Chg V.heap.size (V.heap.size + 3) V2 (wr.setCell ⟨go, k, none⟩ (.int .i64 (a - 2 * (h : Int))))) :=
              Lib.hid ⟨k + 1, by omega, by first | (congr 1; done) | (congr 1; omega), hout, hseen, bo3, hc3⟩
            clear hout hseen hc3 hO hS hc hu1 hL HC bo bo3
            go_wp2
            go_roundw
            case rel => exact R3.out
            case measure => simp [intOf]; omega
          | succ gk =>
            have hd := HC.out.head
            have hPr := HP.out
            have p0 := hPr.lo a hd.1 hd.2
            have p1 := hPr.hi a hd.1 hd.2
            have HC2 := Lib.hid HC.out.next
            obtain ⟨a1, a2⟩ := hd
            have hLKl := HPL.out.len
            have c1 := Ints.cellI hu1 (i := a) a1 (by omega)
            have c2 := Ints.cellI hL (i := gI P a) p0 (by rw [hLKl]; omega)
            have s3 := (Row.lt hL (g := gl) rfl).2
            have d1 := Bools.cellI hS (i := a) a1 (by rw [hsl]; exact a2)
            have d2 := Bools.cellI hS (i := gI P a) p0 (by rw [hsl]; exact p1)
            have d3 := Bools.cellI (hS.put a) (i := gI P a) p0 (by rw [sB_length, hsl]; exact p1)
            have f1 := Bools.free hS a.toNat
            have f2 := Bools.free hS (gI P a).toNat
            have f3 := Bools.free (hS.put a) (gI P a).toNat
            have s1 := (Row.lt hS (g := gs) rfl).2
            have s4 := (Row.lt hu1 (g := gp) rfl).2
            have hS2 := (hS.put a).put (gI P a)
            have hO2 := Row.setCell (p := ⟨gs, (gI P a).toNat, none⟩) (Row.setCell (p := ⟨gs, a.toNat, none⟩) hO (fun g' hg' e' => hne (by rw [ownBlock_slice] at hg'; injection hg' with hg'; exact hg'.trans e')) (.bool true)) (fun g' hg' e' => hne (by rw [ownBlock_slice] at hg'; injection hg' with hg'; exact hg'.trans e')) (.bool true)
            have hc3 : Chg V.heap.size (V.heap.size + 3) V2 ((wr.setCell ⟨gs, a.toNat, none⟩ (.bool true)).setCell ⟨gs, (gI P a).toNat, none⟩ (.bool true)) := by
              refine hc.trans (Chg.trans (b := wr.setCell ⟨gs, a.toNat, none⟩ (.bool true)) ⟨rfl, rfl, rfl, by simp [World.setCell], fun q _ hd => Below.heap_setCell _ _ _ q ?_⟩ ⟨rfl, rfl, rfl, by simp [World.setCell], fun q _ hd => Below.heap_setCell _ _ _ q ?_⟩)
              · show q ≠ gs
                omega
              · show q ≠ gs
                omega
            have q1 : (gs = gp) = False := by simp; omega
            have q2 : (gs = gl) = False := by simp; omega
            have q1' : (gp = gs) = False := by simp; omega
            have q2' : (gl = gs) = False := by simp; omega
            have q3' : (w.heap.size = gs) = False := by simp; omega
            have q4' : (gs = w.heap.size) = False := by simp; omega
            have q5' : (gs = pb) = False := by simp; omega
            have q6' : (pb = gs) = False := by simp; omega
            have HS2 : Hid ((sB (sB s a) (gI P a)).length = 2 * h) := Lib.hid (by rw [sB_length, sB_length, hsl])
            have bo3 := (bo.far (p := ⟨gs, a.toNat, none⟩) hnp (.bool true)).far (p := ⟨gs, (gI P a).toNat, none⟩) hnp (.bool true)
            have R3 := Lib.hid (And.intro hO2 (And.intro hS2 (And.intro bo3 hc3)))
            clear hO2 hS2 hc3 hO hS hc hu1 hL HC bo bo3 hPr hLKl hsl
            go_wp2
            go_roundg gk
            case rel => exact ⟨_, _, rfl, HC2, HS2.out, R3.out.1, R3.out.2.1, R3.out.2.2.1, R3.out.2.2.2⟩
            case measure => omega
      · have e : k = 2 * h := by omega
        subst e
        rw [oZ_full hle1] at hO
        clear hle1
        have HPI : Hid (Pairing (2 * h) (inL P LK (2 * h))) := Lib.hid (inL_pair HP.out HPL.out)
        have HAG : Hid (∀ x : Int, 0 ≤ x → x < ((2 * h : Nat) : Int) → gB (pass1 P LK (2 * h) (2 * h)).2 x = false → gI LK (gI P x) = gI (inL P LK (2 * h)) (gI P x)) := Lib.hid (fun x x0 x1 hx => pass_agree HP.out HPL.out x0 x1 hx)
        have HRR : Hid (R = ((pass1 P LK (2 * h) (2 * h)).1, (cycTo P (inL P LK (2 * h)) (2 * h) (pass1 P LK (2 * h) (2 * h)).2 (2 * h)).1)) := Lib.hid (HR.out.symm.trans (pass_as HP.out HPL.out))
        have HOL : Hid ((pass1 P LK (2 * h) (2 * h)).1.length = 2 * h) := Lib.hid (HLE.out _ (Nat.le_refl _)).1
        generalize inL P LK (2 * h) = LI at *
        obtain ⟨S0, hS0⟩ : ∃ S0, (pass1 P LK (2 * h) (2 * h)).2 = S0 := ⟨_, rfl⟩
        obtain ⟨O0, hO0⟩ : ∃ O0, (pass1 P LK (2 * h) (2 * h)).1 = O0 := ⟨_, rfl⟩
        have hrest := Lib.hid (And.intro hS0 hO0)
        rw [hS0] at hS hle2 HAG HRR
        rw [hO0] at hO HRR HOL
        clear hS0 hO0
        obtain ⟨bc, hu1, hL, bl, b6⟩ := KY.out _ hc
        have c0 := bc.cell 0
        have cn := bc.lt
        simp only [List.getElem?_toArray, List.getElem?_cons_zero, List.getElem?_cons_succ] at c0
        clear bc b6 bl hu1 hL
        have hS0 : Bools wr V.heap.size (.slice (some ⟨gs, 0, none⟩) (2 * h) (2 * h)) (cycTo P LI (2 * h) S0 0).2 := hS
        have h00 := Lib.hid (show (.int .i64 cl : Value) = .int .i64 (cl + (cycTo P LI (2 * h) S0 0).1) by show _ = Value.int .i64 (cl + 0); simp)
        rw [h00.out] at bo
        clear hS
        go_wp2
        clear c0 cn
        go_loopw [11] (fun s108 wr => ∃ k : Nat, k ≤ 2 * h ∧ s108 = .int .i64 k ∧ Ints wr V.heap.size (.slice (some ⟨go, 0, none⟩) (2 * h) (2 * h)) O0 ∧ Bools wr V.heap.size (.slice (some ⟨gs, 0, none⟩) (2 * h) (2 * h)) (cycTo P LI (2 * h) S0 k).2 ∧ Box wr pb 38 #[.slice (some ⟨go, 0, none⟩) (2 * h) (2 * h), .int .i64 (cl + (cycTo P LI (2 * h) S0 k).1)] ∧
            Chg V.heap.size (V.heap.size + 3) V2 wr) (fun s108 _ => 2 * h - (intOf s108).toNat)
        case atStart => exact ⟨0, Nat.zero_le _, rfl, hO, hS0, bo, hc⟩
        case round =>
          clear hO hS0 bo hc h00 hk
          obtain ⟨k, hk, rfl, hO, hS, bo, hc⟩ := hrel
          have hcl : (cycTo P LI (2 * h) S0 k).2.length = 2 * h := by rw [cycTo_length]; exact hle2
          obtain ⟨hb0, hb1⟩ := cycTo_bd P LI (2 * h) S0 k
          by_cases hlt : k < 2 * h
          · have i1 : (k : Int) < ((2 * h : Nat) : Int) := by omega
            have i0 : (0 : Int) ≤ (k : Int) := by omega
            have c1 := Bools.cell hS (k := k) (by omega)
            have s1 := (Row.lt hS (g := gs) rfl).2
            have HWD := Lib.hid (cyc_wide HP.out HPI.out hle2 hk)
            have hrg : Hid (∀ a : Int, 0 ≤ a → a < ((2 * h : Nat) : Int) → 0 ≤ nxt P LI a ∧ nxt P LI a < ((2 * h : Nat) : Int)) := Lib.hid (fun a a0 a1 => ⟨HPI.out.lo _ (HP.out.lo a a0 a1) (HP.out.hi a a0 a1), HPI.out.hi _ (HP.out.lo a a0 a1) (HP.out.hi a a0 a1)⟩)
            cases hbk : gB (cycTo P LI (2 * h) S0 k).2 k
            · rw [hbk] at c1
              have HN := Lib.hid (cycTo_new hbk)
              have HC := Lib.hid hcl
              generalize hQ : (cycTo P LI (2 * h) S0 k) = Q at *
              clear hbk hcl hQ
              have HST : Hid (cyc P LI (unseen Q.2 + 1) k Q.2 = cyc P LI (2 * h + 1) k Q.2) := Lib.hid (cyc_start hrg.out HC.out i0 i1).symm
              have o0 := bo.cell 0
              have o1 := bo.cell 1
              have of1 := bo.free 1
              have on := bo.lt
              simp only [List.getElem?_toArray, List.getElem?_cons_zero, List.getElem?_cons_succ] at o0 o1
              have bo2 : Box (wr.setCell ⟨pb, 1, none⟩ (.int .i64 (cl + Q.1 + 1))) pb 38 #[.slice (some ⟨go, 0, none⟩) (2 * h) (2 * h), .int .i64 (cl + Q.1 + 1)] := by simpa using bo.set_ 1 (.int .i64 (cl + Q.1 + 1))
              have hS2 := Row.setCell (p := ⟨pb, 1, none⟩) hS (fun g' hg' e' => hnp (by rw [ownBlock_slice] at hg'; injection hg' with hg'; exact (hg'.trans e').symm)) (.int .i64 (cl + Q.1 + 1))
              have hO2 := Row.setCell (p := ⟨pb, 1, none⟩) hO (fun g' hg' e' => hne2 (by rw [ownBlock_slice] at hg'; injection hg' with hg'; exact hg'.trans e')) (.int .i64 (cl + Q.1 + 1))
              have hc2 : Chg V.heap.size (V.heap.size + 3) V2 (wr.setCell ⟨pb, 1, none⟩ (.int .i64 (cl + Q.1 + 1))) := hc.trans ⟨rfl, rfl, rfl, by simp [World.setCell], fun q _ hd => Below.heap_setCell _ _ _ q (by show q ≠ pb; omega)⟩
              have q5' : (gs = pb) = False := by simp; omega
              have q6' : (pb = gs) = False := by simp; omega
              clear hS hO hc bo
              have hcb : -1000000 ≤ cl + Q.1 ∧ cl + Q.1 ≤ 1000000 := by omega
              go_wp2
              clear c1 s1 o0 o1 of1 on q5' q6' hcb
              go_loopg [12] (unseen Q.2) (fun gk s24 wr => ∃ (a : Int) (s : List Bool), gk = unseen s ∧ s24 = .int .i64 a ∧ 0 ≤ a ∧ a < 2 * (h : Int) ∧ s.length = 2 * h ∧ Ints wr V.heap.size (.slice (some ⟨go, 0, none⟩) (2 * h) (2 * h)) O0 ∧ Bools wr V.heap.size (.slice (some ⟨gs, 0, none⟩) (2 * h) (2 * h)) s ∧ Box wr pb 38 #[.slice (some ⟨go, 0, none⟩) (2 * h) (2 * h), .int .i64 (cl + Q.1 + 1)] ∧
                  Chg V.heap.size (V.heap.size + 3) V2 wr ∧ Hid (cyc P LI (unseen s + 1) a s = cyc P LI (2 * h + 1) k Q.2) ∧ Hid (Wide S0 s))
              case atStart => exact ⟨k, Q.2, rfl, rfl, i0, by omega, HC.out, hO2, hS2, bo2, hc2, HST, HWD⟩
              case round =>
                clear hO2 hS2 bo2 hc2
                obtain ⟨a, s, rfl, rfl, a0, a1, hsl, hO, hS, bo, hc, hcy, hwd⟩ := hrel
                obtain ⟨bc, hu1, hL, bl, b6⟩ := KY.out _ hc
                have c0 := bc.cell 0
                have cn := bc.lt
                simp only [List.getElem?_toArray, List.getElem?_cons_zero, List.getElem?_cons_succ] at c0
                clear bc b6 bl
                have a2 : a < ((2 * h : Nat) : Int) := by omega
                have d1 := Bools.cellI hS (i := a) a0 (by omega)
                have s1 := (Row.lt hS (g := gs) rfl).2
                cases hga : gB s a
                · rw [hga] at d1
                  have hag := HAG.out a a0 a2 (hwd.out a a0 hga)
                  have p0 := HP.out.lo a a0 a2
                  have p1 := HP.out.hi a a0 a2
                  have n1 := hrg.out a a0 a2
                  have HS3 : Hid (cyc P LI (unseen (sB (sB s a) (gI P a)) + 1) (nxt P LI a) (sB (sB s a) (gI P a)) = cyc P LI (2 * h + 1) k Q.2) := Lib.hid (by rw [← hcy.out]; exact (cyc_step hrg.out hsl a0 a2 hga).symm)
                  have HM : Hid (unseen (sB (sB s a) (gI P a)) < unseen s) := Lib.hid (by have := unseen_set a0 (by omega) hga; have := unseen_set_le (sB s a) (gI P a); omega)
                  have HW2 : Hid (Wide S0 (sB (sB s a) (gI P a))) := Lib.hid (wide_put (n := 2 * h) (by rw [sB_length]; exact hsl) (wide_put hsl hwd.out a0 a2) p0 p1)
                  have hLKl := HPL.out.len
                  have c1 := Ints.cellI hu1 (i := a) a0 (by omega)
                  have c2 := Ints.cellI hL (i := gI P a) p0 (by rw [hLKl]; omega)
                  rw [hag] at c2
                  have s3 := (Row.lt hL (g := gl) rfl).2
                  have d2 := Bools.cellI hS (i := gI P a) p0 (by rw [hsl]; exact p1)
                  have d3 := Bools.cellI (hS.put a) (i := gI P a) p0 (by rw [sB_length, hsl]; exact p1)
                  have f1 := Bools.free hS a.toNat
                  have f2 := Bools.free hS (gI P a).toNat
                  have f3 := Bools.free (hS.put a) (gI P a).toNat
                  have s4 := (Row.lt hu1 (g := gp) rfl).2
                  have hS2 := (hS.put a).put (gI P a)
                  have hO2 := Row.setCell (p := ⟨gs, (gI P a).toNat, none⟩) (Row.setCell (p := ⟨gs, a.toNat, none⟩) hO (fun g' hg' e' => hne (by rw [ownBlock_slice] at hg'; injection hg' with hg'; exact hg'.trans e')) (.bool true)) (fun g' hg' e' => hne (by rw [ownBlock_slice] at hg'; injection hg' with hg'; exact hg'.trans e')) (.bool true)
                  have hc3 : Chg V.heap.size (V.heap.size + 3) V2 ((wr.setCell ⟨gs, a.toNat, none⟩ (.bool true)).setCell ⟨gs, (gI P a).toNat, none⟩ (.bool true)) := by
                    refine hc.trans (Chg.trans (b := wr.setCell ⟨gs, a.toNat, none⟩ (.bool true)) ⟨rfl, rfl, rfl, by simp [World.setCell], fun q _ hd => Below.heap_setCell _ _ _ q ?_⟩ ⟨rfl, rfl, rfl, by simp [World.setCell], fun q _ hd => Below.heap_setCell _ _ _ q ?_⟩)
                    · show q ≠ gs
                      omega
                    · show q ≠ gs
                      omega
                  have q1 : (gs = gp) = False := by simp; omega
                  have q2 : (gs = gl) = False := by simp; omega
                  have q1' : (gp = gs) = False := by simp; omega
                  have q2' : (gl = gs) = False := by simp; omega
                  have q3' : (w.heap.size = gs) = False := by simp; omega
                  have q4' : (gs = w.heap.size) = False := by simp; omega
                  have HS2 : Hid ((sB (sB s a) (gI P a)).length = 2 * h) := Lib.hid (by rw [sB_length, sB_length, hsl])
                  have bo3 := (bo.far (p := ⟨gs, a.toNat, none⟩) hnp (.bool true)).far (p := ⟨gs, (gI P a).toNat, none⟩) hnp (.bool true)
                  have R3 := Lib.hid (And.intro hO2 (And.intro hS2 (And.intro bo3 hc3)))
                  obtain ⟨n2, n3⟩ := n1
                  unfold nxt at n2 n3 HS3
                  have n4 : gI LI (gI P a) < 2 * (h : Int) := by omega
                  clear hO2 hS2 hc3 hO hS hc hu1 hL bo bo3 hLKl hsl hcy hwd hga hag n3
                  go_wp2
                  go_roundg (unseen (sB (sB s a) (gI P a)))
                  case rel => exact ⟨_, _, rfl, rfl, n2, n4, HS2.out, R3.out.1, R3.out.2.1, R3.out.2.2.1, R3.out.2.2.2, HS3, HW2⟩
                  case measure => exact HM.out
                · rw [hga] at d1
                  have HE : Hid (s = cyc P LI (2 * h + 1) k Q.2) := Lib.hid (by rw [← hcy.out, cyc_stop _ hga])
                  have R4 : Hid (∃ k2 : Nat, k2 ≤ 2 * h ∧ (.int .i64 ((k : Int) + 1) : Value) = .int .i64 k2 ∧ Ints wr V.heap.size (.slice (some ⟨go, 0, none⟩) (2 * h) (2 * h)) O0 ∧ Bools wr V.heap.size (.slice (some ⟨gs, 0, none⟩) (2 * h) (2 * h)) (cycTo P LI (2 * h) S0 k2).2 ∧ Box wr pb 38 #[.slice (some ⟨go, 0, none⟩) (2 * h) (2 * h), .int .i64 (cl + (cycTo P LI (2 * h) S0 k2).1)] ∧
                      Chg V.heap.size (V.heap.size + 3) V2 wr) := Lib.hid ⟨k + 1, by omega, by go_num, hO, by rw [HN.out]; show Bools _ _ _ (cyc _ _ _ _ _); rw [← HE.out]; exact hS, by rw [HN.out]; show Box _ _ _ #[_, .int .i64 (cl + (Q.1 + 1))]; rw [← Int.add_assoc]; exact bo, hc⟩
                  clear hga hcy hO hS hc hu1 hL bo
                  go_wp2
                  go_roundw
                  case rel => exact R4.out
                  case measure => simp [intOf]; omega
            · rw [hbk] at c1
              have HN := Lib.hid (cycTo_seen hbk)
              have R4 : Hid (∃ k2 : Nat, k2 ≤ 2 * h ∧ (.int .i64 ((k : Int) + 1) : Value) = .int .i64 k2 ∧ Ints wr V.heap.size (.slice (some ⟨go, 0, none⟩) (2 * h) (2 * h)) O0 ∧ Bools wr V.heap.size (.slice (some ⟨gs, 0, none⟩) (2 * h) (2 * h)) (cycTo P LI (2 * h) S0 k2).2 ∧ Box wr pb 38 #[.slice (some ⟨go, 0, none⟩) (2 * h) (2 * h), .int .i64 (cl + (cycTo P LI (2 * h) S0 k2).1)] ∧
                      Chg V.heap.size (V.heap.size + 3) V2 wr) := Lib.hid ⟨k + 1, by omega, by go_num, hO, by rw [HN.out]; exact hS, by rw [HN.out]; exact bo, hc⟩
              clear hbk hcl hO hS hc bo
              go_wp2
              go_roundw
              case rel => exact R4.out
              case measure => simp [intOf]; omega
          · have e : k = 2 * h := by omega
            subst e
            have hRR := HRR.out
            obtain ⟨bc, hu1, hL, bl, b6⟩ := KY.out _ hc
            have hOV : Ints wr w.heap.size (.slice (some ⟨go, 0, none⟩) (2 * h) (2 * h)) O0 := Row.le hO (by omega)
            have RR : Hid (R.2 = (cycTo P LI (2 * h) S0 (2 * h)).1 ∧ R.1 = O0) := Lib.hid (by rw [hRR]; exact ⟨rfl, rfl⟩)
            have o0 := bo.cell 0
            have o1 := bo.cell 1
            have on := bo.lt
            have r0 := b6.cell 0
            have r1 := b6.cell 1
            have rf0 := b6.free 0
            have rf1 := b6.free 1
            have rn := b6.lt
            simp only [List.getElem?_toArray, List.getElem?_cons_zero, List.getElem?_cons_succ] at o0 o1 r0 r1
            have hOf : Ints ((wr.setCell ⟨w.heap.size + 1, 0, none⟩ (.slice (some ⟨go, 0, none⟩) (2 * h) (2 * h))).setCell ⟨w.heap.size + 1, 1, none⟩ (.int .i64 (cl + (cycTo P LI (2 * h) S0 (2 * h)).1))) w.heap.size (.slice (some ⟨go, 0, none⟩) (2 * h) (2 * h)) O0 :=
              Row.setCell (p := ⟨w.heap.size + 1, 1, none⟩) (Row.setCell (p := ⟨w.heap.size + 1, 0, none⟩) hOV (fun g' hg' e' => by rw [ownBlock_slice] at hg'; injection hg' with hg'; have e2 : g' = w.heap.size + 1 := e'; omega) _) (fun g' hg' e' => by rw [ownBlock_slice] at hg'; injection hg' with hg'; have e2 : g' = w.heap.size + 1 := e'; omega) _
            have blf := (bl.setCell (p := ⟨w.heap.size + 1, 0, none⟩) (by simp) (.slice (some ⟨go, 0, none⟩) (2 * h) (2 * h))).setCell (p := ⟨w.heap.size + 1, 1, none⟩) (by simp) (.int .i64 (cl + (cycTo P LI (2 * h) S0 (2 * h)).1))
            clear hS hcl hRR bc b6 hu1 hL hO hc hOV bo bl
            go_wp2
            refine bodyPost_ret (v := .agg #[.slice (some ⟨go, 0, none⟩) (2 * h) (2 * h), .int .i64 (cl + (cycTo P LI (2 * h) S0 (2 * h)).1)]) (by simp [results, Try.results75, go_sem, r0, r1, rf0, rf1, rn]) rfl ⟨go, ?_, ?_, ?_, ?_⟩
            · rw [RR.out.1]
            · rw [RR.out.2]; exact hOf
            · rw [RR.out.2]; exact HOL.out
            · exact blf
end Go.Proofs.Ytnldahadldolpaa
