/-
  The text of a pairing, by the program.
-/
import Derived.Test.YtnldahadldolpaaDec
import Derived.Test.YtnldahadldolpaaAppG
import Derived.Test.YtnldahadldolpaaPair
namespace Go.Proofs.Ytnldahadldolpaa
open Go.RowKit Knot

/-- Texts one after the other, with a comma between. -/
def joinTo (ss : List ByteArray) : Nat → ByteArray
  | 0 => ⟨#[]⟩
  | k + 1 => (if 0 < k then joinTo ss k ++ ⟨#[44]⟩ else joinTo ss k) ++ ss.getD k ⟨#[]⟩
theorem size_app (a b : ByteArray) : (a ++ b).size = a.size + b.size := ByteArray.size_append
theorem joinTo_size (ss : List ByteArray) (h : ∀ s ∈ ss, s.size ≤ 2) : ∀ k, (joinTo ss k).size ≤ 3 * k
  | 0 => by simp [joinTo, ByteArray.size]
  | k + 1 => by
    have ih := joinTo_size ss h k
    have hg : (ss.getD k ⟨#[]⟩).size ≤ 2 := by
      by_cases hk : k < ss.length
      · have : ss.getD k ⟨#[]⟩ = ss[k] := by simp [List.getD, hk]
        rw [this]
        exact h _ (List.getElem_mem _)
      · simp [List.getD, List.getElem?_eq_none (Nat.le_of_not_lt hk), ByteArray.size]
    unfold joinTo
    rw [size_app]
    split
    · rw [size_app]
      have : (ByteArray.mk #[44]).size = 1 := rfl
      omega
    · omega
theorem decB_size (n : Int) : (decB n).size ≤ 2 := by
  unfold decB
  split
  · show 1 ≤ 2; omega
  · show 2 ≤ 2; omega
open Classical in
/-- What PairingText answers. -/
noncomputable def textM (xs : List Int) : ByteArray := if IsPr xs then joinTo (xs.map decB) xs.length else ⟨#[]⟩

/-- A slice of strings. -/
def Strs (w : World) (B : Nat) (v : Value) (ss : List ByteArray) : Prop := Row Value.string 9 w B v ss
theorem info_string : (Try.prog.info? 9).map (fun i => (i.zero, i.size, i.bytes)) = some (some (.string ⟨#[]⟩), 1, 16) := by kernel_rfl
theorem Strs.cell {w : World} {B g c n : Nat} {ss : List ByteArray} (h : Strs w B (.slice (some ⟨g, 0, none⟩) n c) ss) {k : Nat} (hk : k < ss.length) : w.cell? ⟨g, k, none⟩ = some (.string (ss.getD k ⟨#[]⟩)) := by
  have := Row.cell h hk
  rw [this]
  simp [List.getD, hk]
set_option maxHeartbeats 1000000 in
theorem joined_any {w : World} {B : Nat} {v : Value} {ss : List ByteArray} (hx : Strs w B v ss) (hs : ∀ s ∈ ss, s.size ≤ 2) (hl : ss.length ≤ 16) :
    Calls Try.prog 87 #[v, .string ⟨#[44]⟩] w fun e w' => e = .returned (.string (joinTo ss ss.length)) ∧ w = w' := by
  obtain ⟨A, cA, rfl, lA, hA⟩ := hx.open_
  have HS := Lib.hid (joinTo_size ss hs)
  clear hs
  go_enter Try.func87, Try.ntmps87
  go_wp2
  go_loop [5, 10] (fun s i => ∃ k : Nat, k ≤ ss.length ∧ s = .string (joinTo ss k) ∧ i = .int .i64 k) (fun _ i => ss.length - (intOf i).toNat)
  case atStart => exact ⟨0, Nat.zero_le _, rfl, rfl⟩
  case round =>
    obtain ⟨k, hk, rfl, rfl⟩ := hrel
    by_cases hlt : k < ss.length
    · obtain ⟨g, rfl, _, _⟩ := hA (by omega)
      have c1 := Strs.cell hx (k := k) hlt
      have z1 := HS.out k
      have z2 := HS.out (k + 1)
      have i1 : (k : Int) < (ss.length : Int) := by omega
      by_cases h0 : 0 < k
      · have e1 : joinTo ss (k + 1) = (joinTo ss k ++ ⟨#[44]⟩) ++ ss.getD k ⟨#[]⟩ := by
          conv => lhs; unfold joinTo
          rw [if_pos h0]
        have z3 := size_app (joinTo ss k) ⟨#[44]⟩
        have z4 : (ByteArray.mk #[44]).size = 1 := rfl
        have z5 := size_app (joinTo ss k ++ ⟨#[44]⟩) (ss.getD k ⟨#[]⟩)
        rw [e1] at z2
        have a1 := fun u : World => run_string_add_sum (P := Try.prog) u (joinTo ss k) ⟨#[44]⟩ (by omega)
        have a2 := fun u : World => run_string_add_sum (P := Try.prog) u (joinTo ss k ++ ⟨#[44]⟩) (ss.getD k ⟨#[]⟩) (by omega)
        have i2 : (0 : Int) < (k : Int) := by omega
        have E1 := Lib.hid e1
        generalize ss.getD k ⟨#[]⟩ = Y at *
        generalize joinTo ss k = X at *
        clear e1 z1 z2 z3 z4 z5 hx hA h0
        go_wp2
        go_round
        case rel => exact ⟨k + 1, by omega, by rw [E1.out], by go_num⟩
        case measure => simp [intOf]; omega
      · have e1 : joinTo ss (k + 1) = joinTo ss k ++ ss.getD k ⟨#[]⟩ := by
          conv => lhs; unfold joinTo
          rw [if_neg h0]
        have z5 := size_app (joinTo ss k) (ss.getD k ⟨#[]⟩)
        rw [e1] at z2
        have a2 := fun u : World => run_string_add_sum (P := Try.prog) u (joinTo ss k) (ss.getD k ⟨#[]⟩) (by omega)
        have i2 : ¬ (0 : Int) < (k : Int) := by omega
        have E1 := Lib.hid e1
        generalize ss.getD k ⟨#[]⟩ = Y at *
        generalize joinTo ss k = X at *
        clear e1 z1 z2 z5 hx hA h0
        go_wp2
        go_round
        case rel => exact ⟨k + 1, by omega, by rw [E1.out], by go_num⟩
        case measure => simp [intOf]; omega
    · have e : k = ss.length := by omega
      subst e
      clear hA hx
      go_wp2
      go_ret
      exact ⟨rfl, rfl⟩
set_option maxHeartbeats 1000000 in
theorem decimals_any {w : World} {B : Nat} {v : Value} {xs : List Int} (hx : Ints w B v xs) (hr : ∀ k : Nat, k < xs.length → 0 ≤ gI xs k ∧ gI xs k < 16) (hl : xs.length ≤ 16) :
    Calls Try.prog 59 #[v, .string ⟨#[44]⟩] w fun e w' => e = .returned (.string (joinTo (xs.map decB) xs.length)) ∧ Below w.heap.size w w' := by
  obtain ⟨A, cA, rfl, lA, hA⟩ := hx.open_
  have HR := Lib.hid hr
  clear hr
  obtain ⟨ss, hss⟩ : ∃ ss, ss = xs.map decB := ⟨_, rfl⟩
  rw [← hss]
  have hsl : ss.length = xs.length := by rw [hss]; simp
  have hst : Hid (∀ k : Nat, k < xs.length → ss.take (k + 1) = ss.take k ++ [decB (gI xs k)]) := Lib.hid (fun k hk => by
    subst hss
    rw [List.take_add_one]
    simp [gI_nat xs k hk, hk])
  have hsd : Hid (∀ s ∈ ss, s.size ≤ 2) := Lib.hid (fun s hs => by
    subst hss
    obtain ⟨n, _, rfl⟩ := List.mem_map.1 hs
    exact decB_size n)
  clear hss
  have bl := Joins.below_alloc1 w (.cells #[] 9)
  have hL : Strs (w.alloc (.cells #[] 9)) w.heap.size (.slice (some ⟨w.heap.size, 0, none⟩) 0 0) [] := Row.none_ w
  go_enter Try.func59, Try.ntmps59
  go_wp2
  go_loopw [5, 11] (fun t i wr => ∃ (k : Nat) (D : Option Addr) (c : Nat), k ≤ xs.length ∧ t = .slice D k c ∧ i = .int .i64 k ∧ Strs wr w.heap.size (.slice D k c) (ss.take k) ∧ Below w.heap.size w wr) (fun _ i _ => xs.length - (intOf i).toNat)
  case atStart => exact ⟨0, _, 0, Nat.zero_le _, rfl, rfl, by simpa using hL, bl⟩
  case round =>
    obtain ⟨k, D, c, hk, rfl, rfl, hS, hb⟩ := hrel
    have hlen : (ss.take k).length = k := by simp; omega
    have hsz := hb.size
    clear hL
    by_cases hlt : k < xs.length
    · obtain ⟨g, rfl, _, hg⟩ := hA (by omega)
      have i1 : (k : Int) < (xs.length : Int) := by omega
      have c0 := Ints.cell hx (k := k) hlt
      have c1 : wr.cell? ⟨g, k, none⟩ = some (.int .i64 (gI xs k)) := (hb.cell (p := ⟨g, k, none⟩) hg).trans c0
      have hrk := HR.out k hlt
      have HN := Lib.hid (hst.out k hlt)
      clear hA c0
      go_wp2_with fail
      refine (Decimal_any hrk.1 hrk.2).mono ?_
      rintro e w2 ⟨rfl, hb2⟩
      have hS2 := Row.below hS hb2
      have hb3 := bnext hb hb2
      have sz2 := hb2.size
      clear hb2 c1 hrk
      go_wp2_with (at_builtin; refine append_gen Try.underlying95 info_string rfl (by decide) rfl _ _ rfl w.heap.size _ _ (ss.take k) (decB (gI xs k)) rfl hS2 rfl rfl rfl (by omega) (by omega) ?_)
      intro g2 c2 w3 hS3 hg3 _
      rw [← HN.out] at hS3
      have hb4 : Below w.heap.size w w3 := hb3.grown hg3 (by omega) (fun j hj => (Row.lt hS2 hj).1)
      clear hS hS2 hb hb3 hg3
      go_wp2
      go_roundw
      case rel => exact ⟨k + 1, _, c2, by omega, rfl, by go_num, hS3, hb4⟩
      case measure => simp [intOf]; omega
    · have e : k = xs.length := by omega
      subst e
      have hS2 : Strs wr w.heap.size (.slice D xs.length c) ss := by
        have := hS
        rwa [List.take_of_length_le (by omega)] at this
      have HJ : Hid (joinTo ss ss.length = joinTo ss xs.length) := Lib.hid (by rw [hsl])
      have hl2 : ss.length ≤ 16 := by omega
      clear hA hx hsl hlen hS
      go_wp2_with fail
      refine (joined_any hS2 hsd.out hl2).mono ?_
      rintro e w4 ⟨rfl, rfl⟩
      rw [HJ.out]
      go_wp2
      go_ret
      exact ⟨rfl, hb⟩
set_option maxHeartbeats 1000000 in
theorem K_impl_PairingText {w : World} {lo hi : Nat} {v : Value} {xs : List Int} {r : ByteArray} (hx : IntsIn w lo hi v xs) (hm : textM xs = r) :
    Calls Try.prog 23 #[v] w fun e w' => e = .returned (.string r) ∧ Below w.heap.size w w' := by
  by_cases hp : IsPr xs
  · obtain rfl : joinTo (xs.map decB) xs.length = r := by simpa [textM, hp] using hm
    have h1 := hx.1
    have l1 := hp.2.1
    have hr : ∀ k : Nat, k < xs.length → 0 ≤ gI xs k ∧ gI xs k < 16 := fun k hk => by
      have := hp.2.2.2 k hk
      exact ⟨this.1, by have := this.2.1; omega⟩
    have HP := Lib.hid hp
    have HR := Lib.hid hr
    clear hm hp hr
    go_enter Try.func23, Try.ntmps23
    go_wp2_with fail
    refine (IsPairing_any v xs true (yes_iff HP.out) _ _ h1).mono ?_
    rintro e w' ⟨rfl, rfl⟩
    go_wp2_with fail
    refine (decimals_any h1 HR.out l1).mono ?_
    rintro e w2 ⟨rfl, hb⟩
    go_wp2
    go_ret
    exact ⟨rfl, hb⟩
  · obtain rfl : ⟨#[]⟩ = r := by simpa [textM, hp] using hm
    have h1 := hx.1
    have HP := Lib.hid hp
    clear hm hp
    go_enter Try.func23, Try.ntmps23
    go_wp2_with fail
    refine (IsPairing_any v xs false (no_iff HP.out) _ _ h1).mono ?_
    rintro e w' ⟨rfl, rfl⟩
    go_wp2
    go_ret
    exact ⟨rfl, Below.refl _ _⟩
end Go.Proofs.Ytnldahadldolpaa
