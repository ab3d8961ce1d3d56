/-
  The codes of a panel and an inner point.
-/
import Derived.Test.YtmagomiehgcbjaaPoint
import Derived.Test.YtmagomiehgcbjaaEdge
import Derived.Test.YtmagomiehgcbjaaPlEff
namespace Go.Proofs.Ytmagomiehgcbjaa
open Go.RowKit Knot

set_option maxHeartbeats 4000000 in
theorem innerCode_any {w : World} {lo hi : Nat} {W H x y r : Int} {v : Value} {B : List Int} (hI : IntsIn w lo hi v B) (hr : codeP ⟨W, H, B⟩ x y = r) :
    Calls Try.prog 40 #[.agg #[.int .i64 W, .int .i64 H, v], .agg #[.int .i64 x, .int .i64 y]] w fun e w' => e = .returned (.int .i64 r) ∧ Below w.heap.size w w' := by
  obtain ⟨A, c, rfl, _, _⟩ := hI.1.open_
  have bl := Joins.below_alloc2 w (.cells #[.int .i64 W, .int .i64 H, .slice A B.length c] 28) (.cells #[.int .i64 x, .int .i64 y] 35)
  have ba := (Box.new w 28 #[.int .i64 W, .int .i64 H, .slice A B.length c]).alloc (.cells #[.int .i64 x, .int .i64 y] 35)
  have bb := Box.new (w.alloc (.cells #[.int .i64 W, .int .i64 H, .slice A B.length c] 28)) 35 #[.int .i64 x, .int .i64 y]
  rw [World.size_alloc] at bb
  have hp1 := hI.below bl
  clear hI
  by_cases ho : Ok ⟨W, H, B⟩
  rotate_left
  · obtain rfl : 1 = r := by simpa [codeP, ho] using hr
    have HO := Lib.hid ho
    clear ho hr
    have q0 := ba.cell 0
    have q1 := ba.cell 1
    have q2 := ba.cell 2
    have qn := ba.lt
    simp only [List.getElem?_toArray, List.getElem?_cons_zero, List.getElem?_cons_succ] at q0 q1 q2
    have p0 := bb.cell 0
    have p1 := bb.cell 1
    have pn := bb.lt
    simp only [List.getElem?_toArray, List.getElem?_cons_zero, List.getElem?_cons_succ] at p0 p1
    go_enter Try.func40, Try.ntmps40
    go_wp2_with fail
    refine (ValidPanel_any W H _ B false (no_iff HO.out) _ hp1.ints).mono ?_
    rintro e w2 ⟨rfl, hb⟩
    replace ba := ba.below hb
    replace bb := bb.below hb
    replace bl := bnext bl hb
    clear hb
    clear q0 q1 q2 qn p0 p1 pn
    go_wp2
    go_ret
    exact ⟨rfl, bl⟩
  have HO := Lib.hid ho
  obtain ⟨W1, W8⟩ : 1 ≤ W ∧ W ≤ 8 := ⟨ho.w1, ho.w8⟩
  obtain ⟨H1, H8⟩ : 1 ≤ H ∧ H ≤ 8 := ⟨ho.h1, ho.h8⟩
  have W0 : 0 ≤ W := by omega
  have W6 : W ≤ 1000000 := by omega
  have H0 : 0 ≤ H := by omega
  have H6 : H ≤ 1000000 := by omega
  by_cases hh : Has ⟨W, H, B⟩ x y
  rotate_left
  · obtain rfl : 2 = r := by simpa [codeP, ho, hh] using hr
    have HH := Lib.hid hh
    clear ho hr hh
    have q0 := ba.cell 0
    have q1 := ba.cell 1
    have q2 := ba.cell 2
    have qn := ba.lt
    simp only [List.getElem?_toArray, List.getElem?_cons_zero, List.getElem?_cons_succ] at q0 q1 q2
    have p0 := bb.cell 0
    have p1 := bb.cell 1
    have pn := bb.lt
    simp only [List.getElem?_toArray, List.getElem?_cons_zero, List.getElem?_cons_succ] at p0 p1
    go_enter Try.func40, Try.ntmps40
    go_wp2_with fail
    refine (ValidPanel_any W H _ B true (yes_iff HO.out) _ hp1.ints).mono ?_
    rintro e w2 ⟨rfl, hb⟩
    replace ba := ba.below hb
    replace bb := bb.below hb
    replace bl := bnext bl hb
    clear hb
    clear q0 q1 q2 qn p0 p1 pn
    have q0 := ba.cell 0
    have q1 := ba.cell 1
    have q2 := ba.cell 2
    have qn := ba.lt
    simp only [List.getElem?_toArray, List.getElem?_cons_zero, List.getElem?_cons_succ] at q0 q1 q2
    have p0 := bb.cell 0
    have p1 := bb.cell 1
    have pn := bb.lt
    simp only [List.getElem?_toArray, List.getElem?_cons_zero, List.getElem?_cons_succ] at p0 p1
    go_wp2_with fail
    refine (isPoint_any (B := B) ⟨W0, W6⟩ ⟨H0, H6⟩ (no_iff HH.out)).mono ?_
    rintro e w3 ⟨rfl, hb⟩
    replace ba := ba.below hb
    replace bb := bb.below hb
    replace bl := bnext bl hb
    clear hb
    clear q0 q1 q2 qn p0 p1 pn
    go_wp2
    go_ret
    exact ⟨rfl, bl⟩
  have HH := Lib.hid hh
  by_cases he : Knot.Edge ⟨W, H, B⟩ x y
  · obtain rfl : 6 = r := by simpa [codeP, ho, hh, he] using hr
    have HE := Lib.hid he
    clear ho hr hh he
    have q0 := ba.cell 0
    have q1 := ba.cell 1
    have q2 := ba.cell 2
    have qn := ba.lt
    simp only [List.getElem?_toArray, List.getElem?_cons_zero, List.getElem?_cons_succ] at q0 q1 q2
    have p0 := bb.cell 0
    have p1 := bb.cell 1
    have pn := bb.lt
    simp only [List.getElem?_toArray, List.getElem?_cons_zero, List.getElem?_cons_succ] at p0 p1
    go_enter Try.func40, Try.ntmps40
    go_wp2_with fail
    refine (ValidPanel_any W H _ B true (yes_iff HO.out) _ hp1.ints).mono ?_
    rintro e w2 ⟨rfl, hb⟩
    replace ba := ba.below hb
    replace bb := bb.below hb
    replace bl := bnext bl hb
    clear hb
    clear q0 q1 q2 qn p0 p1 pn
    have q0 := ba.cell 0
    have q1 := ba.cell 1
    have q2 := ba.cell 2
    have qn := ba.lt
    simp only [List.getElem?_toArray, List.getElem?_cons_zero, List.getElem?_cons_succ] at q0 q1 q2
    have p0 := bb.cell 0
    have p1 := bb.cell 1
    have pn := bb.lt
    simp only [List.getElem?_toArray, List.getElem?_cons_zero, List.getElem?_cons_succ] at p0 p1
    go_wp2_with fail
    refine (isPoint_any (B := B) ⟨W0, W6⟩ ⟨H0, H6⟩ (yes_iff HH.out)).mono ?_
    rintro e w3 ⟨rfl, hb⟩
    replace ba := ba.below hb
    replace bb := bb.below hb
    replace bl := bnext bl hb
    clear hb
    clear q0 q1 q2 qn p0 p1 pn
    have q0 := ba.cell 0
    have q1 := ba.cell 1
    have q2 := ba.cell 2
    have qn := ba.lt
    simp only [List.getElem?_toArray, List.getElem?_cons_zero, List.getElem?_cons_succ] at q0 q1 q2
    have p0 := bb.cell 0
    have p1 := bb.cell 1
    have pn := bb.lt
    simp only [List.getElem?_toArray, List.getElem?_cons_zero, List.getElem?_cons_succ] at p0 p1
    go_wp2_with fail
    refine (isBorder_any (B := B) ⟨W1, W8⟩ ⟨H1, H8⟩ (yes_iff HE.out)).mono ?_
    rintro e w4 ⟨rfl, hb⟩
    replace ba := ba.below hb
    replace bb := bb.below hb
    replace bl := bnext bl hb
    clear hb
    clear q0 q1 q2 qn p0 p1 pn
    go_wp2
    go_ret
    exact ⟨rfl, bl⟩
  · obtain rfl : 0 = r := by simpa [codeP, ho, hh, he] using hr
    have HE := Lib.hid he
    clear ho hr hh he
    have q0 := ba.cell 0
    have q1 := ba.cell 1
    have q2 := ba.cell 2
    have qn := ba.lt
    simp only [List.getElem?_toArray, List.getElem?_cons_zero, List.getElem?_cons_succ] at q0 q1 q2
    have p0 := bb.cell 0
    have p1 := bb.cell 1
    have pn := bb.lt
    simp only [List.getElem?_toArray, List.getElem?_cons_zero, List.getElem?_cons_succ] at p0 p1
    go_enter Try.func40, Try.ntmps40
    go_wp2_with fail
    refine (ValidPanel_any W H _ B true (yes_iff HO.out) _ hp1.ints).mono ?_
    rintro e w2 ⟨rfl, hb⟩
    replace ba := ba.below hb
    replace bb := bb.below hb
    replace bl := bnext bl hb
    clear hb
    clear q0 q1 q2 qn p0 p1 pn
    have q0 := ba.cell 0
    have q1 := ba.cell 1
    have q2 := ba.cell 2
    have qn := ba.lt
    simp only [List.getElem?_toArray, List.getElem?_cons_zero, List.getElem?_cons_succ] at q0 q1 q2
    have p0 := bb.cell 0
    have p1 := bb.cell 1
    have pn := bb.lt
    simp only [List.getElem?_toArray, List.getElem?_cons_zero, List.getElem?_cons_succ] at p0 p1
    go_wp2_with fail
    refine (isPoint_any (B := B) ⟨W0, W6⟩ ⟨H0, H6⟩ (yes_iff HH.out)).mono ?_
    rintro e w3 ⟨rfl, hb⟩
    replace ba := ba.below hb
    replace bb := bb.below hb
    replace bl := bnext bl hb
    clear hb
    clear q0 q1 q2 qn p0 p1 pn
    have q0 := ba.cell 0
    have q1 := ba.cell 1
    have q2 := ba.cell 2
    have qn := ba.lt
    simp only [List.getElem?_toArray, List.getElem?_cons_zero, List.getElem?_cons_succ] at q0 q1 q2
    have p0 := bb.cell 0
    have p1 := bb.cell 1
    have pn := bb.lt
    simp only [List.getElem?_toArray, List.getElem?_cons_zero, List.getElem?_cons_succ] at p0 p1
    go_wp2_with fail
    refine (isBorder_any (B := B) ⟨W1, W8⟩ ⟨H1, H8⟩ (no_iff HE.out)).mono ?_
    rintro e w4 ⟨rfl, hb⟩
    replace ba := ba.below hb
    replace bb := bb.below hb
    replace bl := bnext bl hb
    clear hb
    clear q0 q1 q2 qn p0 p1 pn
    go_wp2
    go_ret
    exact ⟨rfl, bl⟩
set_option maxHeartbeats 4000000 in
theorem l02Code_any {w : World} {b lo hi : Nat} {W H x y r : Int} {v : Value} {B : List Int} (bp : Box w b 28 #[.int .i64 W, .int .i64 H, v]) (hI : IntsIn w lo hi v B) (hr : codeP ⟨W, H, B⟩ x y = r) :
    Calls Try.prog 49 #[.pointer (some ⟨b, 0, none⟩), .agg #[.int .i64 x, .int .i64 y]] w fun e w' => e = .returned (.int .i64 r) ∧ Below w.heap.size w w' := by
  have bl := Joins.below_alloc1 w (.cells #[.int .i64 x, .int .i64 y] 35)
  have ba := bp.alloc (.cells #[.int .i64 x, .int .i64 y] 35)
  have bb := Box.new w 35 #[.int .i64 x, .int .i64 y]
  have hp1 := hI.below bl
  clear bp hI
  by_cases ho : Ok ⟨W, H, B⟩
  rotate_left
  · obtain rfl : 1 = r := by simpa [codeP, ho] using hr
    have HO := Lib.hid ho
    clear ho hr
    have p0 := bb.cell 0
    have p1 := bb.cell 1
    have pn := bb.lt
    simp only [List.getElem?_toArray, List.getElem?_cons_zero, List.getElem?_cons_succ] at p0 p1
    go_enter Try.func49, Try.ntmps49
    go_wp2_with fail
    refine (l02Ok_any _ W H _ B false (no_iff HO.out) _ ⟨ba, hp1.ints⟩).mono ?_
    rintro e w2 ⟨rfl, hd⟩
    have hb := bdrawn hd
    clear hd
    replace ba := ba.below hb
    replace bb := bb.below hb
    replace bl := bnext bl hb
    clear hb
    clear p0 p1 pn
    go_wp2
    go_ret
    exact ⟨rfl, bl⟩
  have HO := Lib.hid ho
  obtain ⟨W1, W8⟩ : 1 ≤ W ∧ W ≤ 8 := ⟨ho.w1, ho.w8⟩
  obtain ⟨H1, H8⟩ : 1 ≤ H ∧ H ≤ 8 := ⟨ho.h1, ho.h8⟩
  have W0 : 0 ≤ W := by omega
  have W6 : W ≤ 1000000 := by omega
  have H0 : 0 ≤ H := by omega
  have H6 : H ≤ 1000000 := by omega
  by_cases hh : Has ⟨W, H, B⟩ x y
  rotate_left
  · obtain rfl : 2 = r := by simpa [codeP, ho, hh] using hr
    have HH := Lib.hid hh
    clear ho hr hh
    have p0 := bb.cell 0
    have p1 := bb.cell 1
    have pn := bb.lt
    simp only [List.getElem?_toArray, List.getElem?_cons_zero, List.getElem?_cons_succ] at p0 p1
    go_enter Try.func49, Try.ntmps49
    go_wp2_with fail
    refine (l02Ok_any _ W H _ B true (yes_iff HO.out) _ ⟨ba, hp1.ints⟩).mono ?_
    rintro e w2 ⟨rfl, hd⟩
    have hb := bdrawn hd
    clear hd
    replace ba := ba.below hb
    replace bb := bb.below hb
    replace bl := bnext bl hb
    clear hb
    clear p0 p1 pn
    have p0 := bb.cell 0
    have p1 := bb.cell 1
    have pn := bb.lt
    simp only [List.getElem?_toArray, List.getElem?_cons_zero, List.getElem?_cons_succ] at p0 p1
    go_wp2_with fail
    refine (l02Has_any (B := B) ba ⟨W0, W6⟩ ⟨H0, H6⟩ (no_iff HH.out)).mono ?_
    rintro e w3 ⟨rfl, hb⟩
    replace ba := ba.below hb
    replace bb := bb.below hb
    replace bl := bnext bl hb
    clear hb
    clear p0 p1 pn
    go_wp2
    go_ret
    exact ⟨rfl, bl⟩
  have HH := Lib.hid hh
  by_cases he : Knot.Edge ⟨W, H, B⟩ x y
  · obtain rfl : 6 = r := by simpa [codeP, ho, hh, he] using hr
    have HE := Lib.hid he
    clear ho hr hh he
    have p0 := bb.cell 0
    have p1 := bb.cell 1
    have pn := bb.lt
    simp only [List.getElem?_toArray, List.getElem?_cons_zero, List.getElem?_cons_succ] at p0 p1
    go_enter Try.func49, Try.ntmps49
    go_wp2_with fail
    refine (l02Ok_any _ W H _ B true (yes_iff HO.out) _ ⟨ba, hp1.ints⟩).mono ?_
    rintro e w2 ⟨rfl, hd⟩
    have hb := bdrawn hd
    clear hd
    replace ba := ba.below hb
    replace bb := bb.below hb
    replace bl := bnext bl hb
    clear hb
    clear p0 p1 pn
    have p0 := bb.cell 0
    have p1 := bb.cell 1
    have pn := bb.lt
    simp only [List.getElem?_toArray, List.getElem?_cons_zero, List.getElem?_cons_succ] at p0 p1
    go_wp2_with fail
    refine (l02Has_any (B := B) ba ⟨W0, W6⟩ ⟨H0, H6⟩ (yes_iff HH.out)).mono ?_
    rintro e w3 ⟨rfl, hb⟩
    replace ba := ba.below hb
    replace bb := bb.below hb
    replace bl := bnext bl hb
    clear hb
    clear p0 p1 pn
    have p0 := bb.cell 0
    have p1 := bb.cell 1
    have pn := bb.lt
    simp only [List.getElem?_toArray, List.getElem?_cons_zero, List.getElem?_cons_succ] at p0 p1
    go_wp2_with fail
    refine (l02Edge_any (B := B) ba ⟨W1, W8⟩ ⟨H1, H8⟩ (yes_iff HE.out)).mono ?_
    rintro e w4 ⟨rfl, hb⟩
    replace ba := ba.below hb
    replace bb := bb.below hb
    replace bl := bnext bl hb
    clear hb
    clear p0 p1 pn
    go_wp2
    go_ret
    exact ⟨rfl, bl⟩
  · obtain rfl : 0 = r := by simpa [codeP, ho, hh, he] using hr
    have HE := Lib.hid he
    clear ho hr hh he
    have p0 := bb.cell 0
    have p1 := bb.cell 1
    have pn := bb.lt
    simp only [List.getElem?_toArray, List.getElem?_cons_zero, List.getElem?_cons_succ] at p0 p1
    go_enter Try.func49, Try.ntmps49
    go_wp2_with fail
    refine (l02Ok_any _ W H _ B true (yes_iff HO.out) _ ⟨ba, hp1.ints⟩).mono ?_
    rintro e w2 ⟨rfl, hd⟩
    have hb := bdrawn hd
    clear hd
    replace ba := ba.below hb
    replace bb := bb.below hb
    replace bl := bnext bl hb
    clear hb
    clear p0 p1 pn
    have p0 := bb.cell 0
    have p1 := bb.cell 1
    have pn := bb.lt
    simp only [List.getElem?_toArray, List.getElem?_cons_zero, List.getElem?_cons_succ] at p0 p1
    go_wp2_with fail
    refine (l02Has_any (B := B) ba ⟨W0, W6⟩ ⟨H0, H6⟩ (yes_iff HH.out)).mono ?_
    rintro e w3 ⟨rfl, hb⟩
    replace ba := ba.below hb
    replace bb := bb.below hb
    replace bl := bnext bl hb
    clear hb
    clear p0 p1 pn
    have p0 := bb.cell 0
    have p1 := bb.cell 1
    have pn := bb.lt
    simp only [List.getElem?_toArray, List.getElem?_cons_zero, List.getElem?_cons_succ] at p0 p1
    go_wp2_with fail
    refine (l02Edge_any (B := B) ba ⟨W1, W8⟩ ⟨H1, H8⟩ (no_iff HE.out)).mono ?_
    rintro e w4 ⟨rfl, hb⟩
    replace ba := ba.below hb
    replace bb := bb.below hb
    replace bl := bnext bl hb
    clear hb
    clear p0 p1 pn
    go_wp2
    go_ret
    exact ⟨rfl, bl⟩
theorem l02Kind_any {w : World} {n : Int} {r : Bool} (h : inR n 0 2 = r) : Calls Try.prog 61 #[.int .i64 n] w fun e w' => e = .returned (.bool r) ∧ w = w' := by
  have HR := Lib.hid h
  clear h
  go_enter Try.func61, Try.ntmps61
  go_wp2_with fail
  refine (l00In_any n 0 2 r HR.out _).mono ?_
  rintro e w' ⟨rfl, rfl⟩
  cases r
  all_goals
    go_wp2
    go_ret
    exact ⟨rfl, rfl⟩
end Go.Proofs.Ytmagomiehgcbjaa
