/-
  The library's sort at a row of points.
-/
import Derived.Test.YtihfdgnocdphcaaLayD
import Derived.Test.YtihfdgnocdphcaaSortW
import Derived.Test.YtihfdgnocdphcaaCmp
import Derived.Test.YtihfdgnocdphcaaPts
import Derived.Test.YtihfdgnocdphcaaPlAllD
namespace Go.Proofs.Ytihfdgnocdphcaa
open Go.RowKit Knot Go.Sort

/-- Points by Y, then by X. -/
def cmpPt (a b : Int × Int) : Int := if cmpI a.2 b.2 ≠ 0 then cmpI a.2 b.2 else cmpI a.1 b.1
theorem cmpPt_lt (a b : Int × Int) : ltOf cmpPt a b = true ↔ lt2 a b := by
  unfold ltOf cmpPt lt2 cmpI
  rw [decide_eq_true_iff]
  by_cases h1 : a.2 < b.2
  · simp [h1]
  · by_cases h2 : b.2 < a.2
    · have : ¬ a.2 = b.2 := by omega
      simp [h1, h2, this]
    · have : a.2 = b.2 := by omega
      by_cases h3 : a.1 < b.1
      · simp [this, h3]
      · by_cases h4 : b.1 < a.1
        · simp [this, h3, h4]
        · simp [this, h3, h4]
theorem swoPt : SWO (ltOf cmpPt) where
  irrefl x := by
    cases h : ltOf cmpPt x x
    · rfl
    · exact absurd ((cmpPt_lt _ _).1 h) (lt2_irr _)
  trans x y z h1 h2 := (cmpPt_lt _ _).2 (lt2_trans ((cmpPt_lt _ _).1 h1) ((cmpPt_lt _ _).1 h2))
  ntrans x y z h1 h2 := by
    cases h : ltOf cmpPt x z
    · rfl
    · have h3 := (cmpPt_lt _ _).1 h
      have h1' : ¬ lt2 x y := fun k => by rw [(cmpPt_lt _ _).2 k] at h1; cases h1
      have h2' : ¬ lt2 y z := fun k => by rw [(cmpPt_lt _ _).2 k] at h2; cases h2
      unfold lt2 at *
      omega
set_option maxHeartbeats 1000000 in
theorem comparePoints_any (a b : Int × Int) (w : World) :
    Calls Try.prog 113 #[.agg #[.int .i64 a.1, .int .i64 a.2], .agg #[.int .i64 b.1, .int .i64 b.2]] w fun e w' => e = .returned (.int .i64 (cmpPt a b)) ∧ ∃ q os', w' = grow (w.drewN q) os' := by
  obtain ⟨r, hr⟩ : ∃ r, cmpI a.2 b.2 = r := ⟨_, rfl⟩
  obtain ⟨s, hs⟩ : ∃ s, cmpI a.1 b.1 = s := ⟨_, rfl⟩
  have HR := Lib.hid hr
  have HS := Lib.hid hs
  by_cases hz : r = 0
  · have HC : Hid (cmpPt a b = s) := Lib.hid (by unfold cmpPt; rw [hr, if_neg (by simp [hz]), hs])
    subst hz
    clear hr hs
    go_enter Try.func113, Try.ntmps113
    go_wp2_with fail
    refine (compare_any HR.out).mono ?_
    rintro e w' ⟨rfl, rfl⟩
    go_wp2_with fail
    refine (compare_any HS.out).mono ?_
    rintro e w' ⟨rfl, rfl⟩
    go_wp2
    go_ret
    exact ⟨ret_int HC.out.symm, 0, _, by rw [alloc_eq_grow, alloc_eq_grow, grow_grow]; rfl⟩
  · have HC : Hid (cmpPt a b = r) := Lib.hid (by unfold cmpPt; rw [hr, if_pos hz])
    clear hr hs
    go_enter Try.func113, Try.ntmps113
    go_wp2_with fail
    refine (compare_any HR.out).mono ?_
    rintro e w' ⟨rfl, rfl⟩
    go_wp2
    go_ret
    exact ⟨ret_int HC.out.symm, 0, _, by rw [alloc_eq_grow, alloc_eq_grow, grow_grow]; rfl⟩
theorem extract_all2 {α : Type} (d : Array α) {n : Nat} (h : d.size = n) : d.extract 0 n = d := by
  subst h
  simp
theorem sortPt_any {w : World} {B g c : Nat} {l : List (Int × Int)} (h : PRow w B (.slice (some ⟨g, 0, none⟩) l.length c) l.length (ptF l)) (hm : l.length ≤ 100000) :
    Calls Try.prog 112 #[.slice (some ⟨g, 0, none⟩) l.length c, .func (.func 113) #[] #[]] w fun e w' => e = .returned (.tuple #[]) ∧
      ∃ l' : List (Int × Int), l'.Perm l ∧ l'.Pairwise (fun a b => ¬ lt2 b a) ∧ PRow w' B (.slice (some ⟨g, 0, none⟩) l'.length c) l'.length (ptF l') ∧ w.grownBy w' (some g) := by
  have eg : ∀ args w, (callFunc 113 args).run Try.prog w = .ok (.enter 113 args) w := enters_of Try.func113 (by kernel_rfl) rfl
  have hds : l.toArray.size = l.length := by simp
  have hgl := (PRow.lt h (g := g) rfl).2
  have hH : HoldsK encP 2 w g 0 l.toArray := by
    intro j hj
    have hj' : j < l.length * 2 := by simpa using hj
    have e1 := PRow.cell h (j := j) (by omega)
    refine ⟨?_, PRow.free h _⟩
    rw [Nat.zero_add, e1]
    have e2 := flatK_encP l
    have e3 : (flatK encP 2 l.toArray).toList[j]? = ((ptF l).map (Value.int .i64))[j]? := by rw [e2]
    have hlen := ptF_length l
    rw [Array.getElem?_toList, Array.getElem?_eq_getElem hj, List.getElem?_map, List.getElem?_eq_getElem (by omega)] at e3
    injection e3 with e3
    rw [gI_nat _ _ (by omega)]
    simp only [id]
    rw [getElem!_pos _ j hj, e3]
  have hcmp : CmpLays Try.prog 113 #[] encP 2 cmpPt g 0 l.toArray.size w := fun _ _ _ _ x y => comparePoints_any x y _
  have hcon := AnyQ.slices_SortFunc Try.sortPt 2 Try.isAgg36 Try.sizeOf36 encP (fun _ => rfl) (fun x v hv => by simp [encP] at hv; rcases hv with rfl | rfl <;> rfl) cmpPt swoPt 113 #[] g 0 c l.toArray w eg hcmp hH hgl (by rw [hds]; omega)
  change Calls Try.prog 112 _ _ _ at hcon
  rw [hds] at hcon
  refine hcon.mono ?_
  rintro e w' ⟨rfl, d', n, os, hp, hs, rfl⟩
  refine ⟨rfl, d'.toList, ?_, ?_, ?_, grownBy_sorted2 _⟩
  · obtain ⟨h1, _, h3⟩ := hp
    rw [hds] at h1
    rw [extract_all2 d' h1, extract_all2 l.toArray hds] at h3
    exact h3
  · rw [List.pairwise_iff_getElem]
    intro i j hi hj hij hlt
    have h1 := hp.1
    rw [hds] at h1
    simp only [Array.length_toList] at hi hj
    have := hs i j (Nat.zero_le _) hij (by omega)
    rw [getElem!_pos d' j hj, getElem!_pos d' i hi] at this
    simp only [Array.getElem_toList] at hlt
    rw [(cmpPt_lt _ _).2 hlt] at this
    cases this
  · have h1 := hp.1
    rw [hds] at h1
    have hlen : d'.toList.length = l.length := by simp [h1]
    rcases h.2 with ⟨hv, _⟩ | ⟨g', cap, cur, hv, hg, hh, k1, k2, k3, k4⟩
    · cases hv
    · cases hv
      have hF : (flatK encP 2 d').toList = (ptF d'.toList).map (Value.int .i64) := by
        have := flatK_encP d'.toList
        simpa using this
      have hF2 : flatK encP 2 d' = ((ptF d'.toList).map (Value.int .i64)).toArray := by rw [← hF]
      refine ⟨by rw [List.length_map, ptF_length]; omega, .inr ⟨g, c, _, by rw [hlen], hg, heap_sorted2 _ hh, by omega, k2, by simp [putCells, k3], ?_⟩⟩
      have := take_putCells2 (enc := id) cur ((ptF d'.toList).map (Value.int .i64)) (by rw [List.length_map, ptF_length, k3]; omega)
      rw [List.map_id, List.length_map, ptF_length] at this
      rw [Nat.mul_comm d'.toList.length 2, hF2]
      exact this
end Go.Proofs.Ytihfdgnocdphcaa
