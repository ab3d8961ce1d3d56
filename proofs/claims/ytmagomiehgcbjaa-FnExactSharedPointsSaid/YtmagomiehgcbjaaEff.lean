/-
  What a change does to the number of curves (EffectOf, EffectsAt), by the program and by the reference.
-/
import Derived.Test.YtmagomiehgcbjaaCnt
import Derived.Test.YtmagomiehgcbjaaCode
namespace Go.Proofs.Ytmagomiehgcbjaa
open Go.RowKit Knot

theorem bnd8 {p : Pan} (h : Ok p) : (1 ≤ p.W ∧ p.W ≤ 8) ∧ 1 ≤ p.H ∧ p.H ≤ 8 := ⟨⟨h.w1, h.w8⟩, h.h1, h.h8⟩
set_option maxHeartbeats 4000000 in
theorem l10Code_any {w : World} {b lo hi : Nat} {W H x y kd r : Int} {v : Value} {B : List Int} (bp : Box w b 28 #[.int .i64 W, .int .i64 H, v]) (hI : IntsIn w lo hi v B) (hr : codeK ⟨W, H, B⟩ x y kd = r) :
    Calls Try.prog 36 #[.pointer (some ⟨b, 0, none⟩), .agg #[.int .i64 x, .int .i64 y], .int .i64 kd] w fun e w' => e = .returned (.int .i64 r) ∧ Below w.heap.size w w' := by
  have bl := Joins.below_alloc1 w (.cells #[.int .i64 x, .int .i64 y] 35)
  have ba := bp.alloc (.cells #[.int .i64 x, .int .i64 y] 35)
  have bb := Box.new w 35 #[.int .i64 x, .int .i64 y]
  have hp1 := hI.below bl
  clear bp hI
  by_cases ho : Ok ⟨W, H, B⟩
  rotate_left
  · have HR : Hid (codeP ⟨W, H, B⟩ x y = r) := Lib.hid (by rw [← hr]; simp [codeK, ho])
    have HO := Lib.hid ho
    clear ho hr
    have p0 := bb.cell 0
    have p1 := bb.cell 1
    have pn := bb.lt
    simp only [List.getElem?_toArray, List.getElem?_cons_zero, List.getElem?_cons_succ] at p0 p1
    go_enter Try.func36, Try.ntmps36
    go_wp2_with fail
    refine (l02Ok_any _ W H _ B false (no_iff HO.out) _ ⟨ba, hp1.ints⟩).mono ?_
    rintro e w2 ⟨rfl, hd⟩
    have hb := bdrawn hd
    clear hd
    replace ba := ba.below hb
    replace bb := bb.below hb
    replace hp1 := hp1.below hb
    replace bl := bnext bl hb
    clear hb
    clear p0 p1 pn
    have p0 := bb.cell 0
    have p1 := bb.cell 1
    have pn := bb.lt
    simp only [List.getElem?_toArray, List.getElem?_cons_zero, List.getElem?_cons_succ] at p0 p1
    go_wp2_with fail
    refine (l02Code_any ba hp1 HR.out).mono ?_
    rintro e w5 ⟨rfl, hb⟩
    replace bl := bnext bl hb
    clear hb p0 p1 pn
    go_wp2
    go_ret
    exact ⟨rfl, bl⟩
  have HO := Lib.hid ho
  obtain ⟨⟨W1, W8⟩, H1, H8⟩ := bnd8 ho
  simp only [] at W1 W8 H1 H8
  have W0 : 0 ≤ W := by omega
  have W6 : W ≤ 1000000 := by omega
  have H0 : 0 ≤ H := by omega
  have H6 : H ≤ 1000000 := by omega
  by_cases hh : Has ⟨W, H, B⟩ x y
  rotate_left
  · have HR : Hid (codeP ⟨W, H, B⟩ x y = r) := Lib.hid (by rw [← hr]; simp [codeK, hh])
    have HH := Lib.hid hh
    clear ho hr hh
    have p0 := bb.cell 0
    have p1 := bb.cell 1
    have pn := bb.lt
    simp only [List.getElem?_toArray, List.getElem?_cons_zero, List.getElem?_cons_succ] at p0 p1
    go_enter Try.func36, Try.ntmps36
    go_wp2_with fail
    refine (l02Ok_any _ W H _ B true (yes_iff HO.out) _ ⟨ba, hp1.ints⟩).mono ?_
    rintro e w2 ⟨rfl, hd⟩
    have hb := bdrawn hd
    clear hd
    replace ba := ba.below hb
    replace bb := bb.below hb
    replace hp1 := hp1.below hb
    replace bl := bnext bl hb
    clear hb
    clear p0 p1 pn
    have p0 := bb.cell 0
    have p1 := bb.cell 1
    have pn := bb.lt
    simp only [List.getElem?_toArray, List.getElem?_cons_zero, List.getElem?_cons_succ] at p0 p1
    go_wp2_with fail
    refine (l02Has_any (B := B) ba ⟨W0, W6⟩ ⟨H0, H6⟩ (no_iff HH.out)).mono ?_
    rintro e w3 ⟨rfl, hb⟩
    replace ba := ba.below hb
    replace bb := bb.below hb
    replace hp1 := hp1.below hb
    replace bl := bnext bl hb
    clear hb
    clear p0 p1 pn
    have p0 := bb.cell 0
    have p1 := bb.cell 1
    have pn := bb.lt
    simp only [List.getElem?_toArray, List.getElem?_cons_zero, List.getElem?_cons_succ] at p0 p1
    go_wp2_with fail
    refine (l02Code_any ba hp1 HR.out).mono ?_
    rintro e w5 ⟨rfl, hb⟩
    replace bl := bnext bl hb
    clear hb p0 p1 pn
    go_wp2
    go_ret
    exact ⟨rfl, bl⟩
  have HH := Lib.hid hh
  by_cases hk : 0 ≤ kd ∧ kd ≤ 2
  · have HR : Hid (codeP ⟨W, H, B⟩ x y = r) := Lib.hid (by rw [← hr]; simp [codeK, hk])
    have HK := Lib.hid (inR_t hk)
    clear ho hr hh hk
    have p0 := bb.cell 0
    have p1 := bb.cell 1
    have pn := bb.lt
    simp only [List.getElem?_toArray, List.getElem?_cons_zero, List.getElem?_cons_succ] at p0 p1
    go_enter Try.func36, Try.ntmps36
    go_wp2_with fail
    refine (l02Ok_any _ W H _ B true (yes_iff HO.out) _ ⟨ba, hp1.ints⟩).mono ?_
    rintro e w2 ⟨rfl, hd⟩
    have hb := bdrawn hd
    clear hd
    replace ba := ba.below hb
    replace bb := bb.below hb
    replace hp1 := hp1.below hb
    replace bl := bnext bl hb
    clear hb
    clear p0 p1 pn
    have p0 := bb.cell 0
    have p1 := bb.cell 1
    have pn := bb.lt
    simp only [List.getElem?_toArray, List.getElem?_cons_zero, List.getElem?_cons_succ] at p0 p1
    go_wp2_with fail
    refine (l02Has_any (B := B) ba ⟨W0, W6⟩ ⟨H0, H6⟩ (yes_iff HH.out)).mono ?_
    rintro e w3 ⟨rfl, hb⟩
    replace ba := ba.below hb
    replace bb := bb.below hb
    replace hp1 := hp1.below hb
    replace bl := bnext bl hb
    clear hb
    clear p0 p1 pn
    have p0 := bb.cell 0
    have p1 := bb.cell 1
    have pn := bb.lt
    simp only [List.getElem?_toArray, List.getElem?_cons_zero, List.getElem?_cons_succ] at p0 p1
    go_wp2_with fail
    refine (l02Kind_any HK.out).mono ?_
    rintro e w' ⟨rfl, rfl⟩
    go_wp2_with fail
    refine (l02Code_any ba hp1 HR.out).mono ?_
    rintro e w5 ⟨rfl, hb⟩
    replace bl := bnext bl hb
    clear hb p0 p1 pn
    go_wp2
    go_ret
    exact ⟨rfl, bl⟩
  · obtain rfl : 2 = r := by rw [← hr]; simp [codeK, ho, hh, hk]
    have HK := Lib.hid (inR_f hk)
    clear ho hr hh hk
    have p0 := bb.cell 0
    have p1 := bb.cell 1
    have pn := bb.lt
    simp only [List.getElem?_toArray, List.getElem?_cons_zero, List.getElem?_cons_succ] at p0 p1
    go_enter Try.func36, Try.ntmps36
    go_wp2_with fail
    refine (l02Ok_any _ W H _ B true (yes_iff HO.out) _ ⟨ba, hp1.ints⟩).mono ?_
    rintro e w2 ⟨rfl, hd⟩
    have hb := bdrawn hd
    clear hd
    replace ba := ba.below hb
    replace bb := bb.below hb
    replace hp1 := hp1.below hb
    replace bl := bnext bl hb
    clear hb
    clear p0 p1 pn
    have p0 := bb.cell 0
    have p1 := bb.cell 1
    have pn := bb.lt
    simp only [List.getElem?_toArray, List.getElem?_cons_zero, List.getElem?_cons_succ] at p0 p1
    go_wp2_with fail
    refine (l02Has_any (B := B) ba ⟨W0, W6⟩ ⟨H0, H6⟩ (yes_iff HH.out)).mono ?_
    rintro e w3 ⟨rfl, hb⟩
    replace ba := ba.below hb
    replace bb := bb.below hb
    replace hp1 := hp1.below hb
    replace bl := bnext bl hb
    clear hb
    clear p0 p1 pn
    have p0 := bb.cell 0
    have p1 := bb.cell 1
    have pn := bb.lt
    simp only [List.getElem?_toArray, List.getElem?_cons_zero, List.getElem?_cons_succ] at p0 p1
    go_wp2_with fail
    refine (l02Kind_any HK.out).mono ?_
    rintro e w' ⟨rfl, rfl⟩
    go_wp2
    go_ret
    exact ⟨rfl, bl⟩
set_option maxHeartbeats 4000000 in
theorem effectsAt_any {w : World} {lo hi : Nat} {W H k : Int} {v : Value} {B : List Int} (hI : IntsIn w lo hi v B) (hp : Ok ⟨W, H, B⟩) (k0 : 0 ≤ k) (k1 : k < B.length) :
    Calls Try.prog 50 #[.agg #[.int .i64 W, .int .i64 H, v], .int .i64 k] w fun e w' => ∃ D d, e = .returned (.slice D 3 d) ∧ IntsIn w' w.heap.size w'.heap.size (.slice D 3 d) (effs ⟨W, H, B⟩ k) ∧ Below w.heap.size w w' := by
  obtain ⟨A, c, rfl, _, _⟩ := hI.1.open_
  have bl := Joins.below_alloc2 w (.cells #[.int .i64 W, .int .i64 H, .slice A B.length c] 28) (.cells #[] 2)
  have HV : Hid (∀ w', Below w.heap.size w w' → IntsIn w' lo hi (.slice A B.length c) B) := Lib.hid (fun w' hx => hI.below hx)
  have HP := Lib.hid hp
  have hL : Ints ((w.alloc (.cells #[.int .i64 W, .int .i64 H, .slice A B.length c] 28)).alloc (.cells #[] 2)) (w.heap.size + 1) (.slice (some ⟨w.heap.size + 1, 0, none⟩) 0 0) [] := by
    have := Row.none_ (enc := Value.int .i64) (E := 2) (w.alloc (.cells #[.int .i64 W, .int .i64 H, .slice A B.length c] 28))
    rw [World.size_alloc] at this
    exact this
  have hb0 : Below (w.heap.size + 1) (w.alloc (.cells #[.int .i64 W, .int .i64 H, .slice A B.length c] 28)) ((w.alloc (.cells #[.int .i64 W, .int .i64 H, .slice A B.length c] 28)).alloc (.cells #[] 2)) := (Below.refl _ _).alloc (by simp) _
  clear hI hp bl
  go_enter Try.func50, Try.ntmps50
  go_wp2
  go_loopw [5, 8] (fun s t wr => ∃ (i : Nat) (D : Option Addr) (d : Nat), i ≤ 3 ∧ s = .slice D i d ∧ t = .int .i64 i ∧ Ints wr (w.heap.size + 1) (.slice D i d) ((effs ⟨W, H, B⟩ k).take i) ∧ Below (w.heap.size + 1) (w.alloc (.cells #[.int .i64 W, .int .i64 H, .slice A B.length c] 28)) wr) (fun _ t _ => 3 - (intOf t).toNat)
  case atStart => exact ⟨0, _, 0, by omega, rfl, rfl, hL, hb0⟩
  case round =>
    obtain ⟨i, D, d, hi, rfl, rfl, hS, hb⟩ := hrel
    clear hL hb0
    have hbw : Below w.heap.size w wr := (Joins.below_alloc1 w (.cells #[.int .i64 W, .int .i64 H, .slice A B.length c] 28)).trans (hb.mono (by omega))
    have hsz := hb.size
    rw [World.size_alloc] at hsz
    by_cases hlt : i < 3
    · have ba : Box wr w.heap.size 28 #[.int .i64 W, .int .i64 H, .slice A B.length c] := (hb.block _ (by omega)).trans (Box.new w 28 #[.int .i64 W, .int .i64 H, .slice A B.length c])
      have i1 : (i : Int) < 3 := by omega
      have hv := HV.out wr hbw
      have hk2 : 0 ≤ (i : Int) ∧ (i : Int) ≤ 2 := by omega
      have HO := Lib.hid (withP_ok HP.out (k := k) hk2)
      have HE : Hid ((effs ⟨W, H, B⟩ k).take (i + 1) = (effs ⟨W, H, B⟩ k).take i ++ [cntP (withP ⟨W, H, B⟩ k i)]) := Lib.hid (by
        rcases (show i = 0 ∨ i = 1 ∨ i = 2 by omega) with rfl | rfl | rfl <;> rfl)
      have hlen : ((effs ⟨W, H, B⟩ k).take i).length = i := by
        rcases (show i = 0 ∨ i = 1 ∨ i = 2 by omega) with rfl | rfl | rfl <;> rfl
      have HB : Hid (withP ⟨W, H, B⟩ k i = ⟨W, H, B.set k.toNat i⟩) := Lib.hid rfl
      rw [HB.out] at HO
      generalize hE : (effs ⟨W, H, B⟩ k).take i = es at *
      have hlI : es.length < 1000000000 := by omega
      have q0 := ba.cell 0
      have q1 := ba.cell 1
      have q2 := ba.cell 2
      have qn := ba.lt
      simp only [List.getElem?_toArray, List.getElem?_cons_zero, List.getElem?_cons_succ] at q0 q1 q2
      clear ba hE hk2
      go_wp2_with fail
      refine (changed_any hv k0 k1).mono ?_
      rintro e w2 ⟨E, f, rfl, j1, hb2⟩
      have hS2 := Row.below hS hb2
      have hb2' := hb.trans (hb2.mono hsz)
      have hsz2 := hb2.size
      have hIE : Ints w2 wr.heap.size (.slice E B.length f) (B.set k.toNat i) := j1.1
      clear q0 q1 q2 qn hS hb hbw hv hb2 j1
      go_wp2_with fail
      refine (countCurves_any hIE HO.out).mono ?_
      rintro e w3 ⟨rfl, hb3⟩
      have hS3 := Row.below hS2 hb3
      have hb3' := hb2'.trans (hb3.mono (by omega))
      have hsz3 := hb3.size
      rw [← HB.out]
      generalize hcv : cntP (withP ⟨W, H, B⟩ k i) = cv at *
      clear hS2 hb2' hb3 hIE hcv
      have hlw : w.heap.size + 1 ≤ w3.heap.size := by omega
      go_wp2_with (at_builtin; refine append_one_at rfl _ _ rfl (w.heap.size + 1) _ (.slice D i d) es cv hS3 rfl rfl rfl hlI hlw ?_)
      intro g4 d4 w4 hS4 hg4 _
      have hb4 := hb3'.grown hg4 hlw (fun j hj => (Row.lt hS3 hj).1)
      rw [← HE.out] at hS4
      have HS4 := Lib.hid hS4
      clear hS3 hb3' hg4 hS4
      try rw [hlen]
      go_wp2
      go_roundw
      case rel => exact ⟨i + 1, _, d4, by omega, rfl, by go_num, by have := HS4.out; simpa [hlen] using this, hb4⟩
      case measure => simp [intOf]; omega
    · have e : i = 3 := by omega
      subst e
      have hS3 : IntsIn wr w.heap.size wr.heap.size (.slice D 3 d) (effs ⟨W, H, B⟩ k) := (IntsIn.ofInts (by simpa [effs] using hS) (by simp [effs])).wider (by omega) (Nat.le_refl _) (Nat.le_refl _)
      have HS3 := Lib.hid hS3
      clear hS hb hS3
      go_wp2
      go_ret
      exact ⟨D, d, rfl, HS3.out, hbw⟩
end Go.Proofs.Ytmagomiehgcbjaa
