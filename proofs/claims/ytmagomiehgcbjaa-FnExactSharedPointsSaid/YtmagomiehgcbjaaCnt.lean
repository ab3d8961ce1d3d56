/-
  How many curves a panel has; with another break.
-/
import Derived.Test.YtmagomiehgcbjaaTrI
import Derived.Test.YtmagomiehgcbjaaAllS
import Derived.Test.YtmagomiehgcbjaaOwn
import Derived.Test.YtmagomiehgcbjaaPlEff
namespace Go.Proofs.Ytmagomiehgcbjaa
open Go.RowKit Knot

set_option maxHeartbeats 4000000 in
theorem countCurves_any {w : World} {Bd : Nat} {W H : Int} {v : Value} {B : List Int} (hI : Ints w Bd v B) (hp : Ok ⟨W, H, B⟩) :
    Calls Try.prog 42 #[.agg #[.int .i64 W, .int .i64 H, v]] w fun e w' => e = .returned (.int .i64 (cntP ⟨W, H, B⟩)) ∧ Below w.heap.size w w' := by
  obtain ⟨A, c, rfl, _, _⟩ := hI.open_
  have bl := Joins.below_alloc1 w (.cells #[.int .i64 W, .int .i64 H, .slice A B.length c] 28)
  have ba := Box.new w 28 #[.int .i64 W, .int .i64 H, .slice A B.length c]
  have hI1 := Row.below hI bl
  have q0 := ba.cell 0
  have q1 := ba.cell 1
  have q2 := ba.cell 2
  have qn := ba.lt
  simp only [List.getElem?_toArray, List.getElem?_cons_zero, List.getElem?_cons_succ] at q0 q1 q2
  have HC : Hid (((traceP ⟨W, H, B⟩ (segN ⟨W, H, B⟩)).1.length : Int) = cntP ⟨W, H, B⟩) := Lib.hid rfl
  clear hI ba
  go_enter Try.func42, Try.ntmps42
  go_wp2_with fail
  refine (trace_any hI1 hp).mono ?_
  rintro e w2 ⟨D, d, g, rfl, _, hb⟩
  obtain ⟨m, hm⟩ : ∃ m, (traceP ⟨W, H, B⟩ (segN ⟨W, H, B⟩)).1.length = m := ⟨_, rfl⟩
  rw [hm]
  have HM := Lib.hid hm
  clear hm
  clear q0 q1 q2 qn
  go_wp2
  go_ret
  exact ⟨ret_int (by rw [← HC.out, HM.out]), bnext bl hb⟩
set_option maxHeartbeats 4000000 in
theorem l04Count_any {w : World} {b Bd : Nat} {W H : Int} {v : Value} {B : List Int} (bp : Box w b 28 #[.int .i64 W, .int .i64 H, v]) (hI : Ints w Bd v B) (hp : Ok ⟨W, H, B⟩) :
    Calls Try.prog 39 #[.pointer (some ⟨b, 0, none⟩)] w fun e w' => e = .returned (.int .i64 (cntP ⟨W, H, B⟩)) ∧ Below w.heap.size w w' := by
  have HC : Hid (((traceP ⟨W, H, B⟩ (segN ⟨W, H, B⟩)).1.length : Int) = cntP ⟨W, H, B⟩) := Lib.hid rfl
  go_enter Try.func39, Try.ntmps39
  go_wp2_with fail
  refine (l04All_any bp hI hp).mono ?_
  rintro e w2 ⟨D, d, g, rfl, _, _, hb⟩
  obtain ⟨m, hm⟩ : ∃ m, (traceP ⟨W, H, B⟩ (segN ⟨W, H, B⟩)).1.length = m := ⟨_, rfl⟩
  rw [hm]
  have HM := Lib.hid hm
  clear hm
  go_wp2
  go_ret
  exact ⟨ret_int (by rw [← HC.out, HM.out]), hb⟩
set_option maxHeartbeats 4000000 in
theorem l10With_any {w : World} {b lo hi : Nat} {W H k kd : Int} {v : Value} {B : List Int} (bp : Box w b 28 #[.int .i64 W, .int .i64 H, v]) (hI : IntsIn w lo hi v B) (hp : Ok ⟨W, H, B⟩) (k0 : 0 ≤ k) (k1 : k < B.length) (hkd : 0 ≤ kd ∧ kd ≤ 2) :
    Calls Try.prog 37 #[.pointer (some ⟨b, 0, none⟩), .int .i64 k, .int .i64 kd] w fun e w' => e = .returned (.int .i64 (cntP (withP ⟨W, H, B⟩ k kd))) ∧ Below w.heap.size w w' := by
  have HO := Lib.hid (withP_ok hp (k := k) hkd)
  have HB : Hid (withP ⟨W, H, B⟩ k kd = ⟨W, H, B.set k.toNat kd⟩) := Lib.hid rfl
  clear hp
  go_enter Try.func37, Try.ntmps37
  go_wp2_with fail
  refine (l02Own_any bp hI).mono ?_
  rintro e w2 ⟨D, d, rfl, i1, hb⟩
  obtain ⟨D', d', e1, _, hg⟩ := i1.1.open_
  injection e1 with e1 _ e2
  subst e1 e2
  obtain ⟨g, rfl, g1, g2⟩ := hg (by omega)
  have cc := Ints.cellI i1.1 k0 k1
  have ff := Row.free i1.1 k.toNat
  have i2 := Row.alloc (i1.put k.toNat kd).1 (.cells #[.int .i64 W, .int .i64 H, .slice (some ⟨g, 0, none⟩) B.length d] 28)
  have bn := Box.new (w2.setCell ⟨g, k.toNat, none⟩ (.int .i64 kd)) 28 #[.int .i64 W, .int .i64 H, .slice (some ⟨g, 0, none⟩) B.length d]
  have hsz : (w2.setCell ⟨g, k.toNat, none⟩ (.int .i64 kd)).heap.size = w2.heap.size := by simp [World.setCell]
  rw [hsz] at bn
  have hb2 := (hb.setCell (p := ⟨g, k.toNat, none⟩) g1 (.int .i64 kd)).alloc (by rw [hsz]; exact hb.size) (.cells #[.int .i64 W, .int .i64 H, .slice (some ⟨g, 0, none⟩) B.length d] 28)
  have k3 : (g = w2.heap.size) = False := by simp; omega
  have k5 : (w2.heap.size = g) = False := by simp; omega
  rw [HB.out] at HO
  clear i1 hb hsz bp hI HB
  go_wp2_with fail
  have i3 : Ints ((w2.setCell ⟨g, k.toNat, none⟩ (.int .i64 kd)).alloc (.cells #[.int .i64 W, .int .i64 H, .slice (some ⟨g, 0, none⟩) B.length d] 28)) w.heap.size (.slice (some ⟨g, 0, none⟩) B.length d) (B.set k.toNat kd) := i2
  refine (l04Count_any bn i3 HO.out).mono ?_
  rintro e w3 ⟨rfl, hb3⟩
  go_wp2
  go_ret
  exact ⟨rfl, bnext hb2 hb3⟩
end Go.Proofs.Ytmagomiehgcbjaa
