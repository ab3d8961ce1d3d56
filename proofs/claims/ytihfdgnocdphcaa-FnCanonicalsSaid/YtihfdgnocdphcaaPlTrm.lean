/-
  Plain mathematics: Trm. No program is in sight.
-/
import Derived.Test.YtihfdgnocdphcaaPlAllD
namespace Knot

/-! ### While a curve is traced, its next segment is unowned -/

theorem mark_gI (c : Int) (own : List Int) (ss : List Nat) {t : Int} (t0 : 0 ≤ t) (t1 : t < own.length) : gI (mark c own ss) t = if t.toNat ∈ ss then c else gI own t :=
  mark_getD c ss own t.toNat 0 (by omega)

theorem fresh {p : Pan} (hp : Ok p) {k : Nat} (hk : k < segN p) (hu : ¬ 0 ≤ gI (traceP p k).2 k) {T : Nat} (hmin : ∀ i, 1 ≤ i → i < T → it (stepW p) i (startI p k) ≠ startI p k) {i : Nat} (hi : i < T) (c : Int) :
    gI (mark c (traceP p k).2 (segN' p (trk p (startI p k) i))) (segI p (it (stepW p) i (startI p k))) = -1 := by
  have hok := (sys p hp).start_V k hk
  have hV : OkW p (it (stepW p) i (startI p k)) := (sys p hp).itV i _ hok
  have hb := seg_bounds hV
  have hlt : (segI p (it (stepW p) i (startI p k))).toNat < segN p := (sys p hp).seg_lt _ hV
  have hlen := traceP_len p k
  have hN : (sys p hp).N = segN p := rfl
  rw [mark_gI c _ _ hb.1 (by omega)]
  have hnot : ¬ (segI p (it (stepW p) i (startI p k))).toNat ∈ segN' p (trk p (startI p k) i) := by
    intro hm
    obtain ⟨w, hw, he⟩ := List.mem_map.1 hm
    obtain ⟨j, hj, rfl⟩ := List.mem_map.1 hw
    have hj' := List.mem_range.1 hj
    have h2 := (sys p hp).same_seg _ hok j i (by omega) he
    exact hmin (i - j) (by omega) (by omega) h2
  rw [if_neg hnot]
  obtain ⟨reps, ht⟩ := (sys p hp).traced k (by rw [hN]; omega)
  have hkk : ∀ s ∈ reps, ¬ (sys p hp).Rel s k := by
    rcases ht.own k hk with ⟨_, h2⟩ | ⟨j, s, _, _, h2⟩
    · exact h2
    · exfalso
      rw [gI_getD] at hu
      exact hu (by rw [show (traceP p k).2.getD k 0 = (j : Int) from h2]; omega)
  have hrel : (sys p hp).Rel k (segI p (it (stepW p) i (startI p k))).toNat := ⟨i, rfl⟩
  rcases ht.own (segI p (it (stepW p) i (startI p k))).toNat hlt with ⟨h1, _⟩ | ⟨j, s, hs, h1, _⟩
  · exact h1
  · exfalso
    have hsm := List.mem_of_getElem? hs
    have hsl := ht.lt s hsm
    exact hkk s hsm ((sys p hp).rel_trans (by rw [hN]; omega) h1 ((sys p hp).rel_symm hk hrel))

theorem stale {p : Pan} (hp : Ok p) {k : Nat} (hk : k < segN p) {T : Nat} (h1 : 1 ≤ T) (hT : it (stepW p) T (startI p k) = startI p k) (c : Int) :
    gI (mark c (traceP p k).2 (segN' p (trk p (startI p k) T))) (segI p (it (stepW p) T (startI p k))) = c := by
  have hok : OkW p (startI p k) := (sys p hp).start_V k hk
  rw [hT]
  have hb := seg_bounds hok
  have hlt : (segI p (startI p k)).toNat < segN p := (sys p hp).seg_lt _ hok
  have hlen := traceP_len p k
  rw [mark_gI c _ _ hb.1 (by omega), if_pos]
  exact List.mem_map.2 ⟨startI p k, List.mem_map.2 ⟨0, List.mem_range.2 (by omega), rfl⟩, rfl⟩
/-- Marked step by step. -/
theorem mark_step (p : Pan) (a : Wk) (c : Int) (own : List Int) (i : Nat) : mark c own (segN' p (trk p a (i + 1))) = (mark c own (segN' p (trk p a i))).set (segI p (it (stepW p) i a)).toNat c := by
  rw [trk_succ]
  unfold segN' mark
  rw [List.map_append, List.foldl_append]
  rfl
end Knot
