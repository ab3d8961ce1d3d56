/-
  Decimal texts of the numbers 0 to 15, by the program and by the reference.
-/
import Derived.Test.YtnldahadldolpaaKind
import Derived.Lib.SlBytesRow
import Derived.Deep.WholeRow
namespace Go.Proofs.Ytnldahadldolpaa
open Go.RowKit Knot

/-- The decimal text of a number from 0 to 15. -/
def decB (n : Int) : ByteArray := if n < 10 then ⟨#[UInt8.ofNat (48 + n.toNat)]⟩ else ⟨#[49, UInt8.ofNat (38 + n.toNat)]⟩
theorem u8_of {k : Nat} (h : k < 256) : ((UInt8.ofNat k).toNat : Int) = k := by simp; omega
theorem dec_one {w : World} {b o : Nat} (c : Nat) {n : Int} (h0 : 0 ≤ n) (h1 : n < 10) (hc : w.cell? ⟨b, o, none⟩ = some (.int .u8 (48 + n))) :
    (convert 29 9 (.slice (some ⟨b, o, none⟩) 1 c)).run Try.prog w = .ok (.string (decB n)) w := by
  have e : decB n = ⟨#[UInt8.ofNat (48 + n.toNat)]⟩ := by simp [decB, h1]
  rw [e]
  generalize hs : (⟨#[UInt8.ofNat (48 + n.toNat)]⟩ : ByteArray) = s
  have hz : s.size = 1 := by rw [← hs]; rfl
  have h := Lib.run_convert_whole (P := Try.prog) w 29 5 9 Try.underlying29 Try.underlying5 Try.underlying9 b o s ?_ c
  · rw [hz] at h; exact h
  subst hs
  intro i hi
  have : i = 0 := by
    have : i < 1 := hi
    omega
  subst this
  rw [Nat.add_zero, hc]
  congr 2
  show 48 + n = ((UInt8.ofNat (48 + n.toNat)).toNat : Int)
  rw [u8_of (by omega)]
  omega
theorem dec_two {w : World} {b o : Nat} (c : Nat) {n : Int} (h0 : 10 ≤ n) (h1 : n < 16) (hc : w.cell? ⟨b, o, none⟩ = some (.int .u8 49)) (hd : w.cell? ⟨b, o + 1, none⟩ = some (.int .u8 (38 + n))) :
    (convert 29 9 (.slice (some ⟨b, o, none⟩) 2 c)).run Try.prog w = .ok (.string (decB n)) w := by
  have e : decB n = ⟨#[49, UInt8.ofNat (38 + n.toNat)]⟩ := by simp [decB]; omega
  rw [e]
  generalize hs : (⟨#[49, UInt8.ofNat (38 + n.toNat)]⟩ : ByteArray) = s
  have hz : s.size = 2 := by rw [← hs]; rfl
  have h := Lib.run_convert_whole (P := Try.prog) w 29 5 9 Try.underlying29 Try.underlying5 Try.underlying9 b o s ?_ c
  · rw [hz] at h; exact h
  subst hs
  intro i hi
  have : i < 2 := hi
  rcases (show i = 0 ∨ i = 1 by omega) with rfl | rfl
  · rw [Nat.add_zero, hc]
    rfl
  · rw [hd]
    congr 2
    show 38 + n = ((UInt8.ofNat (38 + n.toNat)).toNat : Int)
    rw [u8_of (by omega)]
    omega
def zs20 : Array Value := #[.int .u8 0, .int .u8 0, .int .u8 0, .int .u8 0, .int .u8 0, .int .u8 0, .int .u8 0, .int .u8 0, .int .u8 0, .int .u8 0, .int .u8 0, .int .u8 0, .int .u8 0, .int .u8 0, .int .u8 0, .int .u8 0, .int .u8 0, .int .u8 0, .int .u8 0, .int .u8 0]
theorem build20 (w : World) : (Instr.build 114 #[]).run Try.prog w = .ok (.agg zs20) w := run_build w 114 #[] zs20 (by kernel_rfl)
theorem store20 (w : World) : (Instr.storeAt 114 (.pointer (some ⟨w.heap.size, 0, none⟩)) (.agg zs20)).run Try.prog (w.alloc (.cells zs20 114)) = .ok () (w.alloc (.cells zs20 114)) :=
  run_storeAt_new w _ zs20 zs20 (by kernel_rfl) rfl (by kernel_rfl)
theorem storec20 (w : World) : (storeCells ⟨w.heap.size, 0, none⟩ zs20.toList 0).run Try.prog (w.alloc (.cells zs20 114)) = .ok () (w.alloc (.cells zs20 114)) :=
  run_storeCells_new w _ zs20 zs20 (by kernel_rfl) rfl (by kernel_rfl)
theorem zero20 (w : World) : (zeroValue 114).run Try.prog w = .ok (.agg zs20) w := (zero_of_info (P := Try.prog) (t := 114) (v := .agg zs20) (n := 20) (by kernel_rfl)).1 w
theorem slice20 (b k : Nat) (hk : k < 20) (u : World) : (Instr.sliceAt 114 (.pointer (some ⟨b, 0, none⟩)) (some (.int .i64 (k : Int))) none none).run Try.prog u = .ok (.slice (some ⟨b, k, none⟩) (20 - k) (20 - k)) u := by
  have hl : Try.prog.arrayLen 114 = 20 := by kernel_rfl
  have hs : ∀ w, (Go.sizeOf (Try.prog.elem 114)).run Try.prog w = .ok 1 w := fun w => by
    have hi : (Try.prog.info? (Try.prog.elem 114)).map (·.size) = some 1 := by kernel_rfl
    cases hq : Try.prog.info? (Try.prog.elem 114) with
    | none => simp [hq] at hi
    | some i =>
      simp [hq] at hi
      simp [Go.sizeOf, typeInfo, hq, hi]
  rw [run_sliceAt_array_l _ _ _ (by kernel_rfl) _ _ (by omega) (by rw [hl]; omega), hs, hl]
  have hne : ¬ 20 = k := by omega
  have ha : (⟨b, 0, none⟩ : Addr).add k = ⟨b, k, none⟩ := by unfold Addr.add; split <;> simp_all
  simp [Result.andThen, slicedAt, hne, ha]
set_option maxRecDepth 100000 in
set_option maxHeartbeats 4000000 in
theorem Decimal_pos {w : World} {n : Int} (h0 : 1 ≤ n) (h1 : n < 16) :
    Calls Try.prog 86 #[.int .i64 n] w fun e w' => e = .returned (.string (decB n)) ∧ Below w.heap.size w w' := by
  have t1 : (n == 0) = false := by simp; omega
  have hb := build20
  have hz := zero20
  have hs := storec20
  have hn : zs20.size = 20 := rfl
  generalize zs20 = Z at hb hz hs hn
  go_enter Try.func86, Try.ntmps86
  go_wp2
  have ba := Box.new w 114 Z
  have bl := Joins.below_alloc1 w (.cells Z 114)
  generalize (w.alloc (.cells Z 114)) = V at ba bl ⊢
  obtain ⟨o18, hu18⟩ : ∃ u, V.cell? ⟨w.heap.size, 18, none⟩ = some u := ⟨Z[18], by rw [ba.cell 18]; simp [hn]⟩
  obtain ⟨o19, hu19⟩ : ∃ u, V.cell? ⟨w.heap.size, 19, none⟩ = some u := ⟨Z[19], by rw [ba.cell 19]; simp [hn]⟩
  have f18 := ba.free 18
  have f19 := ba.free 19
  clear hb hz hs ba
  go_loopw [4, 5] (fun a r wr => (a = .int .i64 20 ∧ r = .int .u64 n ∧ wr = V) ∨ (a = .int .i64 19 ∧ r = .int .u64 (n / 10) ∧ wr = V.setCell ⟨w.heap.size, 19, none⟩ (.int .u8 (48 + n % 10))) ∨
      (10 ≤ n ∧ a = .int .i64 18 ∧ r = .int .u64 0 ∧ wr = (V.setCell ⟨w.heap.size, 19, none⟩ (.int .u8 (48 + n % 10))).setCell ⟨w.heap.size, 18, none⟩ (.int .u8 49))) (fun _ r _ => (intOf r).toNat)
  case atStart => exact .inl ⟨rfl, rfl, rfl⟩
  case round =>
    rcases hrel with ⟨rfl, rfl, rfl⟩ | ⟨rfl, rfl, rfl⟩ | ⟨hq, rfl, rfl, rfl⟩
    · go_wp2
      go_roundw
      case rel => refine .inr (.inl ⟨rfl, rfl, ?_⟩); first | rfl | trivial
      case measure => simp [intOf]; omega
    · have c19 : (V.setCell ⟨w.heap.size, 19, none⟩ (.int .u8 (48 + n % 10))).cell? ⟨w.heap.size, 19, none⟩ = some (.int .u8 (48 + n % 10)) := by
        exact World.cell?_setCell_same _ _ _ hu19
      have c18 : (V.setCell ⟨w.heap.size, 19, none⟩ (.int .u8 (48 + n % 10))).cell? ⟨w.heap.size, 18, none⟩ = some o18 := by
        rw [World.cell?_setCell_other _ _ _ _ (by simp)]
        exact hu18
      by_cases hlt : n < 10
      · rw [show n / 10 = 0 by omega]
        rw [show n % 10 = n by omega] at c19 ⊢
        have kc := dec_one 1 (by omega) hlt c19
        have hbl : Below w.heap.size w (V.setCell ⟨w.heap.size, 19, none⟩ (.int .u8 (48 + n))) := bl.setCell (p := ⟨w.heap.size, 19, none⟩) (Nat.le_refl _) _
        clear c18 c19 hu18 hu19 f18 f19 bl hn hlt
        have HBL := Lib.hid hbl
        clear hbl
        generalize (V.setCell ⟨w.heap.size, 19, none⟩ (.int .u8 (48 + n))) = U at kc HBL ⊢
        have hsl : ∀ u, (Instr.sliceAt 114 (.pointer (some ⟨w.heap.size, 0, none⟩)) (some (.int .i64 19)) none none).run Try.prog u = .ok (.slice (some ⟨w.heap.size, 19, none⟩) 1 1) u := slice20 w.heap.size 19 (by decide)
        go_wp2
        go_ret
        exact ⟨rfl, HBL.out⟩
      · rw [show n / 10 = 1 by omega]
        go_wp2
        go_roundw
        case rel => refine .inr (.inr ⟨by omega, rfl, rfl, ?_⟩); first | rfl | trivial
        case measure => simp [intOf]
    · have c19 : (V.setCell ⟨w.heap.size, 19, none⟩ (.int .u8 (48 + n % 10))).cell? ⟨w.heap.size, 19, none⟩ = some (.int .u8 (48 + n % 10)) := by
        exact World.cell?_setCell_same _ _ _ hu19
      have c18 : (V.setCell ⟨w.heap.size, 19, none⟩ (.int .u8 (48 + n % 10))).cell? ⟨w.heap.size, 18, none⟩ = some o18 := by
        rw [World.cell?_setCell_other _ _ _ _ (by simp)]
        exact hu18
      have d18 : ((V.setCell ⟨w.heap.size, 19, none⟩ (.int .u8 (48 + n % 10))).setCell ⟨w.heap.size, 18, none⟩ (.int .u8 49)).cell? ⟨w.heap.size, 18, none⟩ = some (.int .u8 49) := by
        exact World.cell?_setCell_same _ _ _ c18
      have d19 : ((V.setCell ⟨w.heap.size, 19, none⟩ (.int .u8 (48 + n % 10))).setCell ⟨w.heap.size, 18, none⟩ (.int .u8 49)).cell? ⟨w.heap.size, 19, none⟩ = some (.int .u8 (38 + n)) := by
        rw [World.cell?_setCell_other _ _ _ _ (by simp), c19, show 48 + n % 10 = 38 + n by omega]
      have kc := dec_two 2 (o := 18) hq h1 d18 d19
      have hbl : Below w.heap.size w ((V.setCell ⟨w.heap.size, 19, none⟩ (.int .u8 (48 + n % 10))).setCell ⟨w.heap.size, 18, none⟩ (.int .u8 49)) := (bl.setCell (p := ⟨w.heap.size, 19, none⟩) (Nat.le_refl _) _).setCell (p := ⟨w.heap.size, 18, none⟩) (Nat.le_refl _) _
      generalize ((V.setCell ⟨w.heap.size, 19, none⟩ (.int .u8 (48 + n % 10))).setCell ⟨w.heap.size, 18, none⟩ (.int .u8 49)) = U at kc hbl ⊢
      clear c18 c19 d18 d19 hu18 hu19
      have hsl : ∀ u, (Instr.sliceAt 114 (.pointer (some ⟨w.heap.size, 0, none⟩)) (some (.int .i64 18)) none none).run Try.prog u = .ok (.slice (some ⟨w.heap.size, 18, none⟩) 2 2) u := slice20 w.heap.size 18 (by decide)
      go_wp2
      go_ret
      exact ⟨rfl, hbl⟩
theorem Decimal_any {w : World} {n : Int} (h0 : 0 ≤ n) (h1 : n < 16) :
    Calls Try.prog 86 #[.int .i64 n] w fun e w' => e = .returned (.string (decB n)) ∧ Below w.heap.size w w' := by
  by_cases hz : n = 0
  · subst hz
    go_enter Try.func86, Try.ntmps86
    go_wp2
    go_ret
    exact ⟨rfl, Below.refl _ _⟩
  · exact Decimal_pos (by omega) h1
end Go.Proofs.Ytnldahadldolpaa
