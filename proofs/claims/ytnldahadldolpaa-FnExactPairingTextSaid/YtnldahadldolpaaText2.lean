/-
  The text of a pairing, by the reference.
-/
import Derived.Test.YtnldahadldolpaaText
namespace Go.Proofs.Ytnldahadldolpaa
open Go.RowKit Knot

/-- A slice of bytes. -/
def Byts (w : World) (B : Nat) (v : Value) (xs : List Int) : Prop := Row (Value.int .u8) 5 w B v xs
theorem info_u8 : (Try.prog.info? 5).map (fun i => (i.zero, i.size, i.bytes)) = some (some (.int .u8 0), 1, 1) := by kernel_rfl
theorem Byts.cell {w : World} {B g c n : Nat} {ss : List Int} (h : Byts w B (.slice (some ⟨g, 0, none⟩) n c) ss) {k : Nat} (hk : k < ss.length) : w.cell? ⟨g, k, none⟩ = some (.int .u8 (ss[k]'hk)) := Row.cell h hk
theorem byts_new (w : World) (d : Int) : Byts (w.alloc (.cells #[.int .u8 d] 5)) w.heap.size (.slice (some ⟨w.heap.size, 0, none⟩) 1 1) [d] :=
  World.ownsRow_lit w #[.int .u8 d] 1 (Nat.le_refl _) (by decide) (by simp)
set_option maxRecDepth 100000 in
set_option maxHeartbeats 4000000 in
theorem l01Dec_any {w : World} {n : Int} (h0 : 0 ≤ n) (h1 : n < 16) :
    Calls Try.prog 58 #[.int .i64 n] w fun e w' => e = .returned (.string (decB n)) ∧ Below w.heap.size w w' := by
  have bl := Joins.below_alloc1 w (.cells #[] 5)
  have hL : Byts (w.alloc (.cells #[] 5)) w.heap.size (.slice (some ⟨w.heap.size, 0, none⟩) 0 0) [] := Row.none_ w
  go_enter Try.func58, Try.ntmps58
  go_wp2
  go_loopw [3, 4] (fun t k wr => ∃ (v : Value) (a : Int) (zs : List Int), t = v ∧ k = .int .i64 a ∧ Byts wr w.heap.size v zs ∧ Below w.heap.size w wr ∧ Hid ((a = n ∧ zs = []) ∨ (1 ≤ n ∧ a = n / 10 ∧ zs = [48 + n % 10]) ∨ (10 ≤ n ∧ a = 0 ∧ zs = [49, 48 + n % 10]))) (fun _ k _ => (intOf k).toNat)
  case atStart => exact ⟨_, n, [], rfl, rfl, hL, bl, Lib.hid (.inl ⟨rfl, rfl⟩)⟩
  case round =>
    obtain ⟨v, a, zs, rfl, rfl, hB, hb, hc⟩ := hrel
    obtain ⟨A, c, rfl, _, hA⟩ := Row.open_ hB
    clear hL
    have hsz := hb.size
    rcases hc.out with ⟨rfl, rfl⟩ | ⟨n1, rfl, rfl⟩ | ⟨n1, rfl, rfl⟩
    · by_cases hz : a = 0
      · subst hz
        clear hA
        go_wp2
        go_ret
        exact ⟨rfl, hb⟩
      · have t1 : (a != 0) = true := by simp [hz]
        have t2 : 0 ≤ a % 10 ∧ a % 10 < 10 := by omega
        obtain ⟨t2, t3⟩ := t2
        clear hA
        go_wp2_with (at_builtin; refine append_rows (enc := Value.int .u8) Try.underlying29 info_u8 rfl (by decide) (fun _ => rfl) rfl _ _ rfl w.heap.size w.heap.size _ _ [48 + a % 10] ([] : List Int) (Row.le (byts_new wr (48 + a % 10)) hsz) (Row.alloc hB _) rfl rfl (by simp) (by rw [World.size_alloc]; omega) ?_)
        intro v' w2 hR hg _
        have hB2 : Byts w2 w.heap.size v' [48 + a % 10] := hR
        have hb2 : Below w.heap.size w w2 := (hb.alloc hsz _).grown hg (by rw [World.size_alloc]; omega) (fun j hj => by simp [Value.ownBlock] at hj; omega)
        clear hR hg hB hb hc
        obtain ⟨A2, c2, rfl, _, _⟩ := Row.open_ hB2
        go_wp2
        go_roundw
        case rel => exact ⟨_, a / 10, _, rfl, by go_num, hB2, hb2, Lib.hid (.inr (.inl ⟨by omega, rfl, rfl⟩))⟩
        case measure => simp [intOf]; omega
    · by_cases hlt : n < 10
      · rw [show n / 10 = 0 by omega]
        obtain ⟨g, rfl, _, _⟩ := hA (by simp)
        have cc := Byts.cell hB (k := 0) (by simp)
        simp only [List.getElem_cons_zero] at cc
        rw [show n % 10 = n by omega] at cc
        have kc := dec_one c h0 hlt cc
        clear hA hc cc
        go_wp2
        go_ret
        exact ⟨rfl, hb⟩
      · rw [show n / 10 = 1 by omega]
        have t2 : 0 ≤ n % 10 ∧ n % 10 < 10 := by omega
        obtain ⟨t2, t3⟩ := t2
        clear hA
        go_wp2_with (at_builtin; refine append_rows (enc := Value.int .u8) Try.underlying29 info_u8 rfl (by decide) (fun _ => rfl) rfl _ _ rfl w.heap.size w.heap.size _ _ [49] [48 + n % 10] (Row.le (byts_new wr (49)) hsz) (Row.alloc hB _) rfl rfl (by simp) (by rw [World.size_alloc]; omega) ?_)
        intro v' w2 hR hg _
        have hB2 : Byts w2 w.heap.size v' [49, 48 + n % 10] := hR
        have hb2 : Below w.heap.size w w2 := (hb.alloc hsz _).grown hg (by rw [World.size_alloc]; omega) (fun j hj => by simp [Value.ownBlock] at hj; omega)
        clear hR hg hB hb hc
        obtain ⟨A2, c2, rfl, _, _⟩ := Row.open_ hB2
        go_wp2
        go_roundw
        case rel => exact ⟨_, 0, _, rfl, by go_num, hB2, hb2, Lib.hid (.inr (.inr ⟨by omega, rfl, rfl⟩))⟩
        case measure => simp [intOf]
    · obtain ⟨g, rfl, _, _⟩ := hA (by simp)
      have cc := Byts.cell hB (k := 0) (by simp)
      have cd := Byts.cell hB (k := 1) (by simp)
      simp only [List.getElem_cons_zero, List.getElem_cons_succ] at cc cd
      rw [show 48 + n % 10 = 38 + n by omega] at cd
      have kc := dec_two c n1 h1 cc cd
      clear hA hc cc cd
      go_wp2
      go_ret
      exact ⟨rfl, hb⟩
theorem pr_rng {xs : List Int} (hp : IsPr xs) : ∀ k : Nat, k < xs.length → 0 ≤ gI xs k ∧ gI xs k < 16 := fun k hk => by
  have := hp.2.2.2 k hk
  exact ⟨this.1, by have := this.2.1; have := hp.2.1; omega⟩
theorem join_succ (xs : List Int) (k : Nat) (hk : k < xs.length) : joinTo (xs.map decB) (k + 1) = (if 0 < k then joinTo (xs.map decB) k ++ ⟨#[44]⟩ else joinTo (xs.map decB) k) ++ decB (gI xs k) := by
  conv => lhs; unfold joinTo
  congr 1
  simp [List.getD, hk, gI_nat xs k hk]
theorem join_map_size (xs : List Int) (k : Nat) : (joinTo (xs.map decB) k).size ≤ 3 * k :=
  joinTo_size _ (fun s hs => by
    obtain ⟨n, _, rfl⟩ := List.mem_map.1 hs
    exact decB_size n) k
set_option maxHeartbeats 2000000 in
theorem K_spec_PairingText {w : World} {lo hi : Nat} {v : Value} {xs : List Int} {r : ByteArray} (hx : IntsIn w lo hi v xs) (hm : textM xs = r) :
    Calls Try.prog 22 #[v] w fun e w' => e = .returned (.string r) ∧ Below w.heap.size w w' := by
  have h1 := hx.1
  by_cases hp : IsPr xs
  rotate_left
  · obtain rfl : ⟨#[]⟩ = r := by simpa [textM, hp] using hm
    have HP := Lib.hid hp
    clear hm hp
    go_enter Try.func22, Try.ntmps22
    go_wp2_with fail
    refine (l09Ok_any v xs false (no_iff HP.out) _ _ h1).mono ?_
    rintro e w' ⟨rfl, rfl⟩
    go_wp2
    go_ret
    exact ⟨rfl, Below.refl _ _⟩
  obtain rfl : joinTo (xs.map decB) xs.length = r := by simpa [textM, hp] using hm
  obtain ⟨A, cA, rfl, lA, hA⟩ := h1.open_
  unfold maxLen at lA
  have l1 := hp.2.1
  have HR := Lib.hid (pr_rng hp)
  have HP := Lib.hid hp
  have HJ := Lib.hid (join_succ xs)
  have HZ := Lib.hid (join_map_size xs)
  clear hm hp
  go_enter Try.func22, Try.ntmps22
  go_wp2_with fail
  refine (l09Ok_any _ xs true (yes_iff HP.out) _ _ h1).mono ?_
  rintro e w' ⟨rfl, rfl⟩
  go_wp2_with fail
  go_loopw [3, 4] (fun t i wr => ∃ k : Nat, k ≤ xs.length ∧ t = .string (joinTo (xs.map decB) k) ∧ i = .int .i64 k ∧ Below w.heap.size w wr) (fun _ i _ => xs.length - (intOf i).toNat)
  case atStart => exact ⟨0, Nat.zero_le _, rfl, rfl, Below.refl _ _⟩
  case round =>
    obtain ⟨k, hk, rfl, rfl, hb⟩ := hrel
    by_cases hlt : k < xs.length
    · obtain ⟨g, rfl, _, hg⟩ := hA (by omega)
      have i1 : (k : Int) < (xs.length : Int) := by omega
      have i0 : (0 : Int) ≤ (k : Int) := by omega
      have c0 := Ints.cell h1 (k := k) hlt
      have c1 : wr.cell? ⟨g, k, none⟩ = some (.int .i64 (gI xs k)) := (hb.cell (p := ⟨g, k, none⟩) hg).trans c0
      have hrk := HR.out k hlt
      have hj := HJ.out k hlt
      have z1 := HZ.out k
      have z2 := decB_size (gI xs k)
      have hb1 := hb.size
      by_cases h0 : 0 < k
      · rw [if_pos h0] at hj
        have z3 := size_app (joinTo (xs.map decB) k) ⟨#[44]⟩
        have z4 : (ByteArray.mk #[44]).size = 1 := rfl
        have a1 := fun u : World => run_string_add_sum (P := Try.prog) u (joinTo (xs.map decB) k) ⟨#[44]⟩ (by omega)
        have a2 := fun u : World => run_string_add_sum (P := Try.prog) u (joinTo (xs.map decB) k ++ ⟨#[44]⟩) (decB (gI xs k)) (by omega)
        have i2 : (0 : Int) < (k : Int) := by omega
        have J := Lib.hid hj
        have HRK := Lib.hid hrk
        generalize hY : decB (gI xs k) = Y at *
        generalize joinTo (xs.map decB) k = X at *
        clear hj z1 z2 z3 z4 hA c0 h0 hrk
        go_wp2_with fail
        refine (l01Dec_any HRK.out.1 HRK.out.2).mono ?_
        rintro e w2 ⟨rfl, hb2⟩
        rw [hY]
        have hb3 := bnext hb hb2
        clear hb hb2 c1 hY
        go_wp2
        go_roundw
        case rel => exact ⟨k + 1, by omega, by rw [J.out], by go_num, hb3⟩
        case measure => simp [intOf]; omega
      · rw [if_neg h0] at hj
        have a2 := fun u : World => run_string_add_sum (P := Try.prog) u (joinTo (xs.map decB) k) (decB (gI xs k)) (by omega)
        have i2 : ¬ (0 : Int) < (k : Int) := by omega
        have J := Lib.hid hj
        have HRK := Lib.hid hrk
        generalize hY : decB (gI xs k) = Y at *
        generalize joinTo (xs.map decB) k = X at *
        clear hj z1 z2 hA c0 h0 hrk
        go_wp2_with fail
        refine (l01Dec_any HRK.out.1 HRK.out.2).mono ?_
        rintro e w2 ⟨rfl, hb2⟩
        rw [hY]
        have hb3 := bnext hb hb2
        clear hb hb2 c1 hY
        go_wp2
        go_roundw
        case rel => exact ⟨k + 1, by omega, by rw [J.out], by go_num, hb3⟩
        case measure => simp [intOf]; omega
    · have e : k = xs.length := by omega
      subst e
      clear hA
      go_wp2
      go_ret
      exact ⟨rfl, hb⟩
end Go.Proofs.Ytnldahadldolpaa
