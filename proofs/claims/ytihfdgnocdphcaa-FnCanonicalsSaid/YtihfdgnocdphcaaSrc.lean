/-
  The reference's source of choices: the next number, a number below a bound.
-/
import Derived.Test.YtihfdgnocdphcaaKind
import Derived.Test.YtihfdgnocdphcaaCut
namespace Go.Proofs.Ytihfdgnocdphcaa
open Go.RowKit Knot

/-- A source of choices in box b; at most m numbers have been read. -/
def Src (w : World) (b m : Nat) : Prop := ∃ (a : Option Addr) (len cap : Nat) (zs : List Int) (at_ sd : Int), Box w b 120 #[.slice a len cap, .int .i64 at_, .int .u64 sd] ∧ IsRow .u8 w a len cap zs ∧ (0 ≤ at_ ∧ at_ ≤ m) ∧ (∀ x, a = some x → 0 < zs.length → x.block < b)
theorem Src.keep {w w' : World} {b m : Nat} (h : Src w b m) (hb : ∀ k, k ≤ b → k < w.heap.size → w'.heap[k]? = w.heap[k]?) : Src w' b m := by
  obtain ⟨a, len, cap, zs, at_, sd, h1, h2, h3, h4⟩ := h
  refine ⟨a, len, cap, zs, at_, sd, (hb b (Nat.le_refl _) h1.lt).trans h1, ?_, h3, h4⟩
  rcases h2 with h2 | ⟨x, rfl, h5, h6, h7, h8, h9⟩
  · exact .inl h2
  · refine .inr ⟨x, rfl, h5, h6, h7, fun i hi => ?_, h9⟩
    have h10 := h8 i hi
    have hl := World.block_lt_of_cell? w _ h10
    rw [← h10]
    have he : (x.add i).block = x.block := by unfold Addr.add; split <;> rfl
    have hk := h4 x rfl (by omega)
    have hq : w'.heap[(x.add i).block]? = w.heap[(x.add i).block]? := hb _ (by rw [he]; omega) hl
    simp only [World.cell?, hq]
theorem Src.below {w w' : World} {b m : Nat} (h : Src w b m) (hb : Below w.heap.size w w') : Src w' b m := by
  obtain ⟨a, len, cap, zs, at_, sd, h1, h2, h3, h4⟩ := h
  exact ⟨a, len, cap, zs, at_, sd, h1.below hb, h2.below hb, h3, h4⟩
theorem Src.more {w : World} {b m m' : Nat} (h : Src w b m) (hm : m ≤ m') : Src w b m' := by
  obtain ⟨a, len, cap, zs, at_, sd, h1, h2, h3, h4⟩ := h
  exact ⟨a, len, cap, zs, at_, sd, h1, h2, by omega, h4⟩
theorem Src.lt {w : World} {b m : Nat} (h : Src w b m) : b < w.heap.size := by
  obtain ⟨a, len, cap, zs, at_, sd, h1, _⟩ := h
  exact h1.lt
theorem row_far {w w' : World} {b : Nat} {a : Option Addr} {len cap : Nat} {zs : List Int} (h : IsRow .u8 w a len cap zs) (hne : ∀ x, a = some x → 0 < zs.length → x.block < b) (hc : Chg b (b + 1) w w') : IsRow .u8 w' a len cap zs := by
  rcases h with h | ⟨x, rfl, h2, h3, h4, h5, h6⟩
  · exact .inl h
  · refine .inr ⟨x, rfl, h2, h3, h4, fun i hi => ?_, h6⟩
    have h7 := h5 i hi
    have hl := World.block_lt_of_cell? w _ h7
    have hs := World.cell?_spot h7
    rw [← h7]
    have hb : (x.add i).block = x.block := by unfold Addr.add; split <;> rfl
    have hk := hne x rfl (by omega)
    have he : w'.heap[(x.add i).block]? = w.heap[(x.add i).block]? := hc.block _ hl (by rw [hb]; omega)
    simp only [World.cell?, he]
theorem u64_rng (z : Int) : 0 ≤ IntKind.u64.wrap z ∧ IntKind.u64.wrap z < 18446744073709551616 := by
  have h : IntKind.u64.wrap z = z % 18446744073709551616 := by simp [IntKind.wrap, IntKind.signed, IntKind.bits]
  rw [h]
  omega
theorem row_byte {w : World} {a : Option Addr} {len cap : Nat} {zs : List Int} {i : Int} (h : IsRow .u8 w a len cap zs) (h0 : 0 ≤ i) (h1 : i < len) :
    ∃ ax, a = some ax ∧ w.cell? (ax.add i.toNat) = some (.int .u8 (zs.getD i.toNat 0)) ∧ 0 ≤ zs.getD i.toNat 0 ∧ zs.getD i.toNat 0 ≤ 255 := by
  rcases h with ⟨_, h2, _⟩ | ⟨x, rfl, h2, h3, h4, h5, h6⟩
  · omega
  · refine ⟨x, rfl, h5 _ (by omega), ?_⟩
    have hl : i.toNat < zs.length := by omega
    have hm : zs.getD i.toNat 0 ∈ zs := by simp [List.getD, hl]
    have hw := h6 _ hm
    have e1 : IntKind.u8.min = 0 := rfl
    have e2 : IntKind.u8.max = 255 := rfl
    simp only [Lit.wf, Bool.and_eq_true, decide_eq_true_eq] at hw
    omega
theorem row_spot {w : World} {x : Addr} {len cap : Nat} {zs : List Int} (h : IsRow .u8 w (some x) len cap zs) (h0 : 0 < len := by omega) : x.spot = none := by
  rcases h with ⟨h, _⟩ | ⟨y, h1, h2, h3, h4, h5, h6⟩
  · cases h
  · cases h1
    have := World.cell?_spot (h5 0 (by omega))
    simpa [Addr.add] using this
theorem u64_low8 {z : Int} (h0 : 0 ≤ z) (h1 : z < 18446744073709551616) : 0 ≤ wrap64 (bits BinOp.and IntKind.u64 z 255) ∧ wrap64 (bits BinOp.and IntKind.u64 z 255) ≤ 255 := by
  rw [u64_and z 255 h0 h1 (by decide) (by decide)]
  have := Nat.and_le_right (n := z.toNat) (m := (255 : Int).toNat)
  have e : (255 : Int).toNat = 255 := rfl
  unfold wrap64
  omega
set_option maxHeartbeats 4000000 in
theorem src_next {w : World} {b m : Nat} (h : Src w b m) (hm : m ≤ 1000000000000) :
    Calls Try.prog 132 #[.pointer (some ⟨b, 0, none⟩)] w fun e w' => ∃ x : Int, e = .returned (.int .i64 x) ∧ (0 ≤ x ∧ x ≤ 255) ∧ Src w' b (m + 1) ∧ Chg b (b + 1) w w' := by
  obtain ⟨a, len, cap, zs, at_, sd, hB, hR, ⟨a0, a1⟩, hne⟩ := h
  have hl := hR.len_le
  have q0 := hB.cell 0
  have q1 := hB.cell 1
  have q2 := hB.cell 2
  have f0 := hB.free 0
  have f1 := hB.free 1
  have f2 := hB.free 2
  simp only [List.getElem?_toArray, List.getElem?_cons_zero, List.getElem?_cons_succ] at q0 q1 q2
  by_cases hlt : at_ < len
  · obtain ⟨ax, rfl, hcz, z0, z1⟩ := row_byte hR a0 hlt
    obtain ⟨ab, ao, rfl⟩ : ∃ ab ao, ax = ⟨ab, ao, none⟩ := by
      obtain ⟨ab, ao, sp⟩ := ax
      have h := row_spot hR
      simp at h
      subst h
      exact ⟨ab, ao, rfl⟩
    rw [add_plain'] at hcz
    generalize zs.getD at_.toNat 0 = z at *
    have i2 : at_ + 1 ≤ (len : Int) := by omega
    go_enter Try.func132, Try.ntmps132
    go_wp2
    go_quiet (fail)
    obtain ⟨nq1, hnq⟩ : ∃ m, m = nq := ⟨nq, rfl⟩
    subst hnq
    go_wp2
    go_quiet (fail)
    obtain ⟨nq2, hnq⟩ : ∃ m, m = nq := ⟨nq, rfl⟩
    subst hnq
    go_wp2
    have hB2 : Box ((((w.drewN nq1).drewN nq2).setCell ⟨b, 1, none⟩ (.int .i64 (at_ + 1))).setCell ⟨b, 2, none⟩ (.int .u64 (IntKind.u64.wrap (IntKind.u64.wrap (IntKind.u64.wrap (sd * 6364136223846793005) + z) + 1442695040888963407)))) b 120 #[.slice (some ⟨ab, ao, none⟩) len cap, .int .i64 (at_ + 1), .int .u64 (IntKind.u64.wrap (IntKind.u64.wrap (IntKind.u64.wrap (sd * 6364136223846793005) + z) + 1442695040888963407))] := by simpa using (((hB.drewN nq1).drewN nq2).set_ 1 (.int .i64 (at_ + 1))).set_ 2 (.int .u64 (IntKind.u64.wrap (IntKind.u64.wrap (IntKind.u64.wrap (sd * 6364136223846793005) + z) + 1442695040888963407)))
    have hc : Chg b (b + 1) w ((((w.drewN nq1).drewN nq2).setCell ⟨b, 1, none⟩ (.int .i64 (at_ + 1))).setCell ⟨b, 2, none⟩ (.int .u64 (IntKind.u64.wrap (IntKind.u64.wrap (IntKind.u64.wrap (sd * 6364136223846793005) + z) + 1442695040888963407)))) := ⟨rfl, rfl, rfl, by simp [World.setCell], fun k hk hd => (Below.heap_setCell _ ⟨b, 2, none⟩ _ k (by show k ≠ b; omega)).trans (Below.heap_setCell _ ⟨b, 1, none⟩ _ k (by show k ≠ b; omega))⟩
    have hR2 : IsRow .u8 ((((w.drewN nq1).drewN nq2).setCell ⟨b, 1, none⟩ (.int .i64 (at_ + 1))).setCell ⟨b, 2, none⟩ (.int .u64 (IntKind.u64.wrap (IntKind.u64.wrap (IntKind.u64.wrap (sd * 6364136223846793005) + z) + 1442695040888963407)))) (some ⟨ab, ao, none⟩) len cap zs := row_far hR hne hc
    simp only [World.drewN_drewN] at *
    generalize hS : IntKind.u64.wrap (IntKind.u64.wrap (IntKind.u64.wrap (sd * 6364136223846793005) + z) + 1442695040888963407) = s2 at *
    generalize (((w.drewN (nq1 + nq2)).setCell ⟨b, 1, none⟩ (.int .i64 (at_ + 1))).setCell ⟨b, 2, none⟩ (.int .u64 s2)) = V at *
    clear hS q0 q1 q2 f0 f1 f2 hcz
    have q0 := hB2.cell 0
    have q1 := hB2.cell 1
    have q2 := hB2.cell 2
    simp only [List.getElem?_toArray, List.getElem?_cons_zero, List.getElem?_cons_succ] at q0 q1 q2
    go_quiet (fail)
    go_wp2
    go_ret
    exact ⟨_, rfl, ⟨z0, z1⟩, ⟨_, len, cap, zs, at_ + 1, s2, (hB2.drewN _), hR2, by omega, hne⟩, ⟨hc.os, hc.tape, hc.output, hc.size, hc.block⟩⟩
  · have i1 : ¬ (at_ < (len : Int)) := by omega
    go_enter Try.func132, Try.ntmps132
    go_wp2
    go_quiet (fail)
    obtain ⟨nq1, hnq⟩ : ∃ m, m = nq := ⟨nq, rfl⟩
    subst hnq
    go_wp2
    have hB2 : Box (((w.drewN nq1).setCell ⟨b, 1, none⟩ (.int .i64 (at_ + 1))).setCell ⟨b, 2, none⟩ (.int .u64 (IntKind.u64.wrap (IntKind.u64.wrap (IntKind.u64.wrap (sd * 6364136223846793005)) + 1442695040888963407)))) b 120 #[.slice a len cap, .int .i64 (at_ + 1), .int .u64 (IntKind.u64.wrap (IntKind.u64.wrap (IntKind.u64.wrap (sd * 6364136223846793005)) + 1442695040888963407))] := by simpa using ((hB.drewN nq1).set_ 1 (.int .i64 (at_ + 1))).set_ 2 (.int .u64 (IntKind.u64.wrap (IntKind.u64.wrap (IntKind.u64.wrap (sd * 6364136223846793005)) + 1442695040888963407)))
    have hc : Chg b (b + 1) w (((w.drewN nq1).setCell ⟨b, 1, none⟩ (.int .i64 (at_ + 1))).setCell ⟨b, 2, none⟩ (.int .u64 (IntKind.u64.wrap (IntKind.u64.wrap (IntKind.u64.wrap (sd * 6364136223846793005)) + 1442695040888963407)))) := ⟨rfl, rfl, rfl, by simp [World.setCell], fun k hk hd => (Below.heap_setCell _ ⟨b, 2, none⟩ _ k (by show k ≠ b; omega)).trans (Below.heap_setCell _ ⟨b, 1, none⟩ _ k (by show k ≠ b; omega))⟩
    have hR2 : IsRow .u8 (((w.drewN nq1).setCell ⟨b, 1, none⟩ (.int .i64 (at_ + 1))).setCell ⟨b, 2, none⟩ (.int .u64 (IntKind.u64.wrap (IntKind.u64.wrap (IntKind.u64.wrap (sd * 6364136223846793005)) + 1442695040888963407)))) a len cap zs := row_far hR hne hc
    have hsd : 0 ≤ IntKind.u64.wrap (IntKind.u64.wrap (IntKind.u64.wrap (sd * 6364136223846793005)) + 1442695040888963407) ∧ IntKind.u64.wrap (IntKind.u64.wrap (IntKind.u64.wrap (sd * 6364136223846793005)) + 1442695040888963407) < 18446744073709551616 := u64_rng _
    generalize hS : IntKind.u64.wrap (IntKind.u64.wrap (IntKind.u64.wrap (sd * 6364136223846793005)) + 1442695040888963407) = s2 at *
    generalize (((w.drewN nq1).setCell ⟨b, 1, none⟩ (.int .i64 (at_ + 1))).setCell ⟨b, 2, none⟩ (.int .u64 s2)) = V at *
    clear hS q0 q1 q2 f0 f1 f2
    obtain ⟨s0, s1⟩ := hsd
    have q0 := hB2.cell 0
    have q1 := hB2.cell 1
    have q2 := hB2.cell 2
    simp only [List.getElem?_toArray, List.getElem?_cons_zero, List.getElem?_cons_succ] at q0 q1 q2
    go_quiet (fail)
    go_wp2
    go_ret
    refine ⟨_, rfl, u64_low8 (by omega) (by omega), ⟨a, len, cap, zs, at_ + 1, s2, (hB2.drewN _), hR2, by omega, hne⟩, ⟨hc.os, hc.tape, hc.output, hc.size, hc.block⟩⟩
end Go.Proofs.Ytihfdgnocdphcaa
