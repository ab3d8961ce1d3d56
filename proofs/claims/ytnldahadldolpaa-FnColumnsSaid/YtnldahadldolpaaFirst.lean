/-
  The pairing of neighbours; FirstColumn, by the program and by the reference.
-/
import Derived.Test.YtnldahadldolpaaVal
import Derived.Test.YtnldahadldolpaaApp
namespace Go.Proofs.Ytnldahadldolpaa
open Go.RowKit Knot

/-- The neighbour of a number: 0 and 1, 2 and 3, .. -/
def nbr (k : Nat) : Int := if k % 2 = 0 then (k : Int) + 1 else (k : Int) - 1
def nbrs (n : Nat) : List Int := (List.range n).map nbr
theorem nbrs_length (n : Nat) : (nbrs n).length = n := by simp [nbrs]
theorem nbrs_succ (n : Nat) : nbrs (n + 1) = nbrs n ++ [nbr n] := by simp [nbrs, List.range_succ]
theorem nbrs_two (k : Nat) : nbrs (2 * (k + 1)) = nbrs (2 * k) ++ [2 * (k : Int) + 1, 2 * (k : Int)] := by
  rw [show 2 * (k + 1) = 2 * k + 1 + 1 by omega, nbrs_succ, nbrs_succ, List.append_assoc]
  have e1 : nbr (2 * k) = 2 * (k : Int) + 1 := by unfold nbr; rw [if_pos (by omega)]; omega
  have e2 : nbr (2 * k + 1) = 2 * (k : Int) := by unfold nbr; rw [if_neg (by omega)]; omega
  rw [e1, e2]
  rfl
theorem xor_nbr {k : Nat} (h : k < 16) : bits .xor .i64 (k : Int) 1 = nbr k := by
  rcases (show k = 0 ∨ k = 1 ∨ k = 2 ∨ k = 3 ∨ k = 4 ∨ k = 5 ∨ k = 6 ∨ k = 7 ∨ k = 8 ∨ k = 9 ∨ k = 10 ∨ k = 11 ∨ k = 12 ∨ k = 13 ∨ k = 14 ∨ k = 15 by omega) with rfl | rfl | rfl | rfl | rfl | rfl | rfl | rfl | rfl | rfl | rfl | rfl | rfl | rfl | rfl | rfl <;> decide +kernel
theorem Ints.pair (w : World) (y z : Int) : Ints (w.alloc (.cells #[.int .i64 y, .int .i64 z] 2)) w.heap.size (.slice (some ⟨w.heap.size, 0, none⟩) 2 2) [y, z] :=
  ⟨by simp, .inr ⟨w.heap.size, 2, #[.int .i64 y, .int .i64 z], rfl, Nat.le_refl _, heap_alloc_new w _, Nat.le_refl _, by unfold maxLen; omega, rfl, by simp⟩⟩

set_option maxHeartbeats 2000000 in
theorem neighbours_any {w : World} {n : Nat} (hn : n ≤ 16) :
    Calls Try.prog 67 #[.int .i64 n] w fun e w' => ∃ A c, e = .returned (.slice A n c) ∧ IntsIn w' w.heap.size w'.heap.size (.slice A n c) (nbrs n) ∧ Below w.heap.size w w' := by
  have bl := Joins.below_alloc1 w (.cells #[] 2)
  have hL : Ints (w.alloc (.cells #[] 2)) w.heap.size (.slice (some ⟨w.heap.size, 0, none⟩) 0 0) [] := Row.none_ w
  go_enter Try.func67, Try.ntmps67
  go_wp2
  go_loopw [3, 7] (fun v i wr => ∃ (k : Nat) (A : Option Addr) (c : Nat), k ≤ n ∧ v = .slice A k c ∧ i = .int .i64 k ∧ Ints wr w.heap.size (.slice A k c) (nbrs k) ∧ Below w.heap.size w wr) (fun _ i _ => n - (intOf i).toNat)
  case atStart => exact ⟨0, _, 0, Nat.zero_le _, rfl, rfl, hL, bl⟩
  case round =>
    obtain ⟨k, A, c, hk, rfl, rfl, hI, hb⟩ := hrel
    clear hL bl
    by_cases hlt : k < n
    · have hx := xor_nbr (k := k) (by omega)
      obtain ⟨q, hq⟩ : ∃ q, nbr k = q := ⟨_, rfl⟩
      rw [hq] at hx
      have HQ := Lib.hid hq
      have hlen : (nbrs k).length < 1000000000 := by rw [nbrs_length]; omega
      have hs := hb.size
      clear hq
      go_wp2_with (at_builtin; refine append_one rfl _ _ rfl w.heap.size _ (nbrs k) q hI rfl rfl hlen hs ?_)
      intro g c' w2 hI2 hg2
      have hb2 : Below w.heap.size w w2 := hb.grown hg2 (by omega) (fun j hj => (Row.lt hI hj).1)
      rw [← HQ.out, ← nbrs_succ, nbrs_length] at hI2
      rw [nbrs_length]
      clear hI hb hg2 hx
      go_wp2
      go_roundw
      case rel => exact ⟨k + 1, _, c', by omega, by go_num, by go_num, hI2, hb2⟩
      case measure => simp [intOf]; omega
    · have e : k = n := by omega
      subst e
      go_wp2
      go_ret
      exact ⟨A, c, rfl, IntsIn.ofInts hI (by rw [nbrs_length]; omega), hb⟩
set_option maxHeartbeats 2000000 in
theorem l09First_any {w : World} {h : Nat} (hn : h ≤ 8) :
    Calls Try.prog 65 #[.int .i64 h] w fun e w' => ∃ A c, e = .returned (.slice A (2 * h) c) ∧ IntsIn w' w.heap.size w'.heap.size (.slice A (2 * h) c) (nbrs (2 * h)) ∧ Below w.heap.size w w' := by
  have bl := Joins.below_alloc1 w (.cells #[] 2)
  have hL : Ints (w.alloc (.cells #[] 2)) w.heap.size (.slice (some ⟨w.heap.size, 0, none⟩) 0 0) [] := Row.none_ w
  go_enter Try.func65, Try.ntmps65
  go_wp2
  go_loopw [3, 4] (fun v i wr => ∃ (k : Nat) (A : Option Addr) (c : Nat), k ≤ h ∧ v = .slice A (2 * k) c ∧ i = .int .i64 k ∧ Ints wr w.heap.size (.slice A (2 * k) c) (nbrs (2 * k)) ∧ Below w.heap.size w wr) (fun _ i _ => h - (intOf i).toNat)
  case atStart => exact ⟨0, _, 0, Nat.zero_le _, rfl, rfl, hL, bl⟩
  case round =>
    obtain ⟨k, A, c, hk, rfl, rfl, hI, hb⟩ := hrel
    clear hL bl
    by_cases hlt : k < h
    · have hP := Ints.pair wr (2 * (k : Int) + 1) (2 * (k : Int))
      have hI2 : Ints (wr.alloc (.cells #[.int .i64 (2 * (k : Int) + 1), .int .i64 (2 * (k : Int))] 2)) w.heap.size _ _ := Row.alloc hI _
      have hlen : (nbrs (2 * k)).length + [2 * (k : Int) + 1, 2 * (k : Int)].length < 1000000000 := by rw [nbrs_length]; simp; omega
      have hs := hb.size
      have bl := bnext hb (Joins.below_alloc1 _ (.cells #[.int .i64 (2 * (k : Int) + 1), .int .i64 (2 * (k : Int))] 2))
      go_wp2_with (at_builtin; refine append_row rfl _ _ rfl w.heap.size wr.heap.size _ _ (nbrs (2 * k)) [2 * (k : Int) + 1, 2 * (k : Int)] hI2 hP rfl rfl hlen (by rw [World.size_alloc]; omega) ?_)
      intro v' w2 hI3 hg2
      have hb2 : Below w.heap.size w w2 := bl.grown hg2 (by rw [World.size_alloc]; omega) (fun j hj => (Row.lt hI hj).1)
      rw [← nbrs_two] at hI3
      obtain ⟨A', c', rfl, _, _⟩ := hI3.open_
      rw [nbrs_length] at hI3 ⊢
      clear hI hI2 hP hb hg2 bl
      go_wp2
      go_roundw
      case rel => exact ⟨k + 1, A', c', by omega, rfl, by go_num, hI3, hb2⟩
      case measure => simp [intOf]; omega
    · have e : k = h := by omega
      subst e
      go_wp2
      go_ret
      exact ⟨A, c, rfl, IntsIn.ofInts hI (by rw [nbrs_length]; omega), hb⟩
theorem IntsIn.storeA {w : World} {lo hi : Nat} {v : Value} {xs : List Int} (h : IntsIn w lo hi v xs) {p : Addr} (hp : p.block < lo) (u : Value) : IntsIn (w.setCell p u) lo hi v xs :=
  ⟨Row.setCell h.1 (fun g hg => by have := (Row.lt h.1 hg).1; omega) u, h.2.1, by have := h.2.2.1; simpa [World.setCell] using this, h.2.2.2⟩
/-- What FirstColumn answers. -/
def firstM (p : Pan) : List Int × Int × Int := if Ok p then (nbrs (2 * p.H.toNat), 0, 0) else ([], 0, 1)

section
variable {w : World} {lo hi : Nat} {x y cl r : Int} {v : Value} {xs zs : List Int}
theorem ok_hnat {p : Pan} (h : Ok p) : ∃ n : Nat, p.H = n ∧ 1 ≤ n ∧ n ≤ 8 := by
  have h1 := h.h1
  have h8 := h.h8
  exact ⟨p.H.toNat, by omega, by omega, by omega⟩
set_option maxHeartbeats 4000000 in
theorem K_impl_FirstColumn (hp : IntsIn w lo hi v xs) (hm : firstM ⟨x, y, xs⟩ = (zs, cl, r)) :
    Calls Try.prog 30 #[.agg #[.int .i64 x, .int .i64 y, v]] w fun e w' => ∃ A c, e = .returned (.tuple #[.agg #[.slice A zs.length c, .int .i64 cl], .int .i64 r]) ∧
      IntsIn w' w.heap.size w'.heap.size (.slice A zs.length c) zs ∧ Below w.heap.size w w' := by
  obtain ⟨A, cA, rfl, _, _⟩ := hp.1.open_
  have bl := Joins.below_alloc2 w (.cells #[.int .i64 x, .int .i64 y, .slice A xs.length cA] 41) (.cells #[.slice none 0 0, .int .i64 0] 38)
  have ba := (Box.new w 41 #[.int .i64 x, .int .i64 y, .slice A xs.length cA]).alloc (.cells #[.slice none 0 0, .int .i64 0] 38)
  have br := Box.new (w.alloc (.cells #[.int .i64 x, .int .i64 y, .slice A xs.length cA] 41)) 38 #[.slice none 0 0, .int .i64 0]
  rw [World.size_alloc] at br
  have hp1 := (hp.below bl).ints
  by_cases ho : Ok ⟨x, y, xs⟩
  rotate_left
  · obtain ⟨rfl, rfl, rfl⟩ : [] = zs ∧ 0 = cl ∧ 1 = r := by simpa [firstM, ho] using hm
    have HO := Lib.hid ho
    have q0 := ba.cell 0
    have q1 := ba.cell 1
    have q2 := ba.cell 2
    have qn := ba.lt
    clear hm ho hp
    go_enter Try.func30, Try.ntmps30
    go_wp2_with fail
    refine (ValidPanel_any x y _ xs false (no_iff HO.out) _ hp1).mono ?_
    rintro e w2 ⟨rfl, hb⟩
    replace br := br.below hb
    replace bl := bnext bl hb
    clear q0 q1 q2 qn hb
    have x0 := br.cell 0
    have x1 := br.cell 1
    have y0 := br.free 0
    have y1 := br.free 1
    have xn := br.lt
    go_wp2
    refine bodyPost_ret (v := .tuple #[.agg #[.slice none 0 0, .int .i64 0], .int .i64 1]) (by simp [results, Try.results30, go_sem, x0, x1, y0, y1, xn]) rfl ⟨none, 0, rfl, IntsIn.nil _ _ _ (Nat.le_refl _), ?_⟩
    exact (bl.setCell (p := ⟨w.heap.size + 1, 0, none⟩) (by simp) _).setCell (p := ⟨w.heap.size + 1, 1, none⟩) (by simp) _
  obtain ⟨n, hn, n1, n8⟩ := ok_hnat ho
  simp only [] at hn
  subst hn
  obtain ⟨rfl, rfl, rfl⟩ : nbrs (2 * n) = zs ∧ 0 = cl ∧ 0 = r := by simpa [firstM, ho] using hm
  have HO := Lib.hid ho
  have q0 := ba.cell 0
  have q1 := ba.cell 1
  have q2 := ba.cell 2
  have qn := ba.lt
  clear hm ho hp
  go_enter Try.func30, Try.ntmps30
  go_wp2_with fail
  refine (ValidPanel_any x n _ xs true (yes_iff HO.out) _ hp1).mono ?_
  rintro e w2 ⟨rfl, hb⟩
  have s2 := hb.size
  simp only [World.size_alloc] at s2
  replace br := br.below hb
  replace ba := ba.below hb
  replace bl := bnext bl hb
  clear q0 q1 q2 qn hb
  have q0 := ba.cell 0
  have q1 := ba.cell 1
  have q2 := ba.cell 2
  have qn := ba.lt
  go_wp2_with fail
  rw [show 2 * (n : Int) = ((2 * n : Nat) : Int) by omega]
  refine (neighbours_any (n := 2 * n) (by omega)).mono ?_
  rintro e w3 ⟨B, c, rfl, hI, hb⟩
  replace br := br.below hb
  replace bl := bnext bl hb
  clear q0 q1 q2 qn hb
  have x0 := br.cell 0
  have x1 := br.cell 1
  have y0 := br.free 0
  have y1 := br.free 1
  have xn := br.lt
  go_wp2
  rw [nbrs_length]
  refine bodyPost_ret (v := .tuple #[.agg #[.slice B (2 * n) c, .int .i64 0], .int .i64 0]) (by simp [results, Try.results30, go_sem, x0, x1, y0, y1, xn]) rfl ⟨B, c, rfl, ?_, ?_⟩
  · exact (IntsIn.storeA (IntsIn.storeA hI (p := ⟨w.heap.size + 1, 0, none⟩) (by simp; omega) _) (p := ⟨w.heap.size + 1, 1, none⟩) (by simp; omega) _).wider (by omega) (by simp) (Nat.le_refl _)
  · exact (bl.setCell (p := ⟨w.heap.size + 1, 0, none⟩) (by simp) _).setCell (p := ⟨w.heap.size + 1, 1, none⟩) (by simp) _
set_option maxHeartbeats 4000000 in
theorem K_spec_FirstColumn (hp : IntsIn w lo hi v xs) (hm : firstM ⟨x, y, xs⟩ = (zs, cl, r)) :
    Calls Try.prog 28 #[.agg #[.int .i64 x, .int .i64 y, v]] w fun e w' => ∃ A c, e = .returned (.tuple #[.agg #[.slice A zs.length c, .int .i64 cl], .int .i64 r]) ∧
      IntsIn w' w.heap.size w'.heap.size (.slice A zs.length c) zs ∧ Below w.heap.size w w' := by
  obtain ⟨A, cA, rfl, _, _⟩ := hp.1.open_
  have bl := Joins.below_alloc2 w (.cells #[.int .i64 x, .int .i64 y, .slice A xs.length cA] 41) (.cells #[.slice none 0 0, .int .i64 0] 38)
  have ba := (Box.new w 41 #[.int .i64 x, .int .i64 y, .slice A xs.length cA]).alloc (.cells #[.slice none 0 0, .int .i64 0] 38)
  have br := Box.new (w.alloc (.cells #[.int .i64 x, .int .i64 y, .slice A xs.length cA] 41)) 38 #[.slice none 0 0, .int .i64 0]
  rw [World.size_alloc] at br
  have hp1 := (hp.below bl).ints
  by_cases ho : Ok ⟨x, y, xs⟩
  rotate_left
  · obtain ⟨rfl, rfl, rfl⟩ : [] = zs ∧ 0 = cl ∧ 1 = r := by simpa [firstM, ho] using hm
    have HO := Lib.hid ho
    clear hm ho hp
    go_enter Try.func28, Try.ntmps28
    go_wp2_with fail
    refine (l02Ok_any _ x y _ xs false (no_iff HO.out) _ ⟨ba, hp1⟩).mono ?_
    rintro e w2 ⟨rfl, hd⟩
    have hb := bdrawn hd
    replace br := br.below hb
    replace bl := bnext bl hb
    clear hb hd
    have x0 := br.cell 0
    have x1 := br.cell 1
    have y0 := br.free 0
    have y1 := br.free 1
    have xn := br.lt
    go_wp2
    refine bodyPost_ret (v := .tuple #[.agg #[.slice none 0 0, .int .i64 0], .int .i64 1]) (by simp [results, Try.results28, go_sem, x0, x1, y0, y1, xn]) rfl ⟨none, 0, rfl, IntsIn.nil _ _ _ (Nat.le_refl _), ?_⟩
    exact (bl.setCell (p := ⟨w.heap.size + 1, 0, none⟩) (by simp) _).setCell (p := ⟨w.heap.size + 1, 1, none⟩) (by simp) _
  obtain ⟨n, hn, n1, n8⟩ := ok_hnat ho
  simp only [] at hn
  subst hn
  obtain ⟨rfl, rfl, rfl⟩ : nbrs (2 * n) = zs ∧ 0 = cl ∧ 0 = r := by simpa [firstM, ho] using hm
  have HO := Lib.hid ho
  clear hm ho hp
  go_enter Try.func28, Try.ntmps28
  go_wp2_with fail
  refine (l02Ok_any _ x n _ xs true (yes_iff HO.out) _ ⟨ba, hp1⟩).mono ?_
  rintro e w2 ⟨rfl, hd⟩
  have hb := bdrawn hd
  have s2 := hb.size
  simp only [World.size_alloc] at s2
  replace br := br.below hb
  replace ba := ba.below hb
  replace bl := bnext bl hb
  clear hb hd
  have q0 := ba.cell 0
  have q1 := ba.cell 1
  have q2 := ba.cell 2
  have qn := ba.lt
  go_wp2_with fail
  refine (l09First_any (h := n) (by omega)).mono ?_
  rintro e w3 ⟨B, c, rfl, hI, hb⟩
  replace br := br.below hb
  replace bl := bnext bl hb
  clear q0 q1 q2 qn hb
  have x0 := br.cell 0
  have x1 := br.cell 1
  have y0 := br.free 0
  have y1 := br.free 1
  have xn := br.lt
  go_wp2
  rw [nbrs_length]
  refine bodyPost_ret (v := .tuple #[.agg #[.slice B (2 * n) c, .int .i64 0], .int .i64 0]) (by simp [results, Try.results28, go_sem, x0, x1, y0, y1, xn]) rfl ⟨B, c, rfl, ?_, ?_⟩
  · exact (IntsIn.storeA (IntsIn.storeA hI (p := ⟨w.heap.size + 1, 0, none⟩) (by simp; omega) _) (p := ⟨w.heap.size + 1, 1, none⟩) (by simp; omega) _).wider (by omega) (by simp) (Nat.le_refl _)
  · exact (bl.setCell (p := ⟨w.heap.size + 1, 0, none⟩) (by simp) _).setCell (p := ⟨w.heap.size + 1, 1, none⟩) (by simp) _
end
end Go.Proofs.Ytnldahadldolpaa
