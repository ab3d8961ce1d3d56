/-
  The library's sort at a row of pairs.
-/
import Derived.Test.YtcfdbjjfdddfeaaLayC
import Derived.Test.YtcfdbjjfdddfeaaSortW
import Derived.Test.YtcfdbjjfdddfeaaPut
import Derived.Test.YtcfdbjjfdddfeaaCmp
import Derived.Test.YtcfdbjjfdddfeaaKLists
namespace Go.Proofs.Ytcfdbjjfdddfeaa
open Go.RowKit Knot Go.Sort

theorem cmp_pair (a b c d : Int) : decide (cmpL [a, b] [c, d] < 0) = gtQ (c, d) (a, b) := by
  unfold gtQ cmpL
  by_cases h1 : a < c
  · simp [h1]
  · by_cases h2 : c < a
    · have : ¬ c = a := by omega
      simp [h1, h2, this]
    · have e : c = a := by omega
      subst e
      unfold cmpL
      by_cases h3 : b < d
      · simp [h3]
      · by_cases h4 : d < b
        · have h5 : ¬ b < d := by omega
          simp [h4, h5]
        · have h5 : ¬ b < d := by omega
          unfold cmpL
          simp [h4, h5]
section
variable {l : List Pr}
def cfP (l : List Pr) (i j : Fin l.length) : Int := cmpL [l[i].a, l[i].b] [l[j].a, l[j].b]
theorem ltP (i j : Fin l.length) : ltOf (cfP l) i j = gtQ l[j].val l[i].val := by
  unfold ltOf cfP
  exact cmp_pair _ _ _ _
theorem swoP : SWO (ltOf (cfP l)) where
  irrefl x := by
    rw [ltP]
    exact (gtQ_no _ _).2 (by omega)
  trans x y z h1 h2 := by
    rw [ltP, gtQ_iff] at *
    omega
  ntrans x y z h1 h2 := by
    rw [ltP] at *
    exact gtQ_chain h2 h1
end
theorem extract_all {α : Type} (d : Array α) {n : Nat} (h : d.size = n) : d.extract 0 n = d := by
  subst h
  simp
theorem sortPrs_any {w : World} {B g c : Nat} {l : List Pr} (h : PrsRow w B (.slice (some ⟨g, 0, none⟩) l.length c) l) (h0 : 0 < l.length) (hm : l.length ≤ 100000) :
    Calls Try.prog 92 #[.slice (some ⟨g, 0, none⟩) l.length c, .func (.func 93) #[] #[]] w fun e w' => e = .returned (.tuple #[]) ∧
      ∃ l' : List Pr, l'.Perm l ∧ Srq (l'.map Pr.val) ∧ PrsRow w' B (.slice (some ⟨g, 0, none⟩) l'.length c) l' ∧ w.grownBy w' (some g) := by
  letI : Inhabited (Fin l.length) := ⟨⟨0, h0⟩⟩
  have eg : ∀ args w, (callFunc 93 args).run Try.prog w = .ok (.enter 93 args) w := enters_of Try.func93 (by kernel_rfl) rfl
  have hfr : (List.finRange l.length).map (fun i => l[i]) = l := by
    apply List.ext_getElem
    · simp
    · intro i h1 h2
      simp
  have hds : (List.finRange l.length).toArray.size = l.length := by simp
  have hrow : Row (fun i : Fin l.length => l[i].enc) 22 w B (.slice (some ⟨g, 0, none⟩) l.length c) (List.finRange l.length) := by
    have h1 := h.1
    unfold Row at h1 ⊢
    have e : (List.finRange l.length).map (fun i : Fin l.length => l[i].enc) = l.map Pr.enc := by
      conv => rhs; rw [← hfr]
      rw [List.map_map]
      rfl
    rw [e, List.length_finRange]
    exact h1
  have hH := holds_of_row hrow
  have hgl := (Row.lt h.1 (g := g) rfl).2
  have hcmp : CmpLays1 Try.prog 93 #[] (fun i : Fin l.length => l[i].enc) (cfP l) g 0 (List.finRange l.length).toArray.size w := by
    intro m os dk hs x y
    have hgb : w.grownBy (sortWorld (fun i : Fin l.length => l[i].enc) w g 0 m dk os) (some g) := grownBy_sorted2 dk
    have hx : Ints (sortWorld (fun i : Fin l.length => l[i].enc) w g 0 m dk os) B l[x].enc [l[x].a, l[x].b] := Row.grown (h.2 l[x] (List.getElem_mem _)) hgb fun k hk e => two_rows (h.2 l[x] (List.getElem_mem _)) h.1 (by decide) hk (by rw [ownBlock_slice]; exact e.symm)
    have hy : Ints (sortWorld (fun i : Fin l.length => l[i].enc) w g 0 m dk os) B l[y].enc [l[y].a, l[y].b] := Row.grown (h.2 l[y] (List.getElem_mem _)) hgb fun k hk e => two_rows (h.2 l[y] (List.getElem_mem _)) h.1 (by decide) hk (by rw [ownBlock_slice]; exact e.symm)
    refine (Compare_any hx hy rfl).mono fun e w' ⟨he, hw⟩ => ⟨he, 0, #[], ?_⟩
    rw [← hw, grow_empty]
    rfl
  have hcon := Any.slices_SortFunc Try.sortPrs (fun i : Fin l.length => l[i].enc) (fun _ => rfl) (cfP l) swoP 93 #[] g 0 c (List.finRange l.length).toArray w eg hcmp hH hgl (by rw [hds]; omega)
  change Calls Try.prog 92 _ _ _ at hcon
  rw [hds] at hcon
  refine hcon.mono ?_
  rintro e w' ⟨rfl, d', n, os, hp, hs, rfl⟩
  refine ⟨rfl, d'.toList.map (fun i => l[i]), ?_, ?_, ?_, grownBy_sorted2 d'⟩
  · obtain ⟨h1, _, h3⟩ := hp
    rw [hds] at h1
    have e1 : d'.extract 0 l.length = d' := extract_all d' h1
    have e2 : (List.finRange l.length).toArray.extract 0 l.length = (List.finRange l.length).toArray := extract_all _ hds
    rw [e1, e2] at h3
    have := h3.map (fun i : Fin l.length => l[i])
    rw [List.toList_toArray, hfr] at this
    exact this
  · change List.Pairwise (fun a b => gtQ a b = false) _
    rw [List.map_map, List.pairwise_map, List.pairwise_iff_getElem]
    intro i j hi hj hij
    have h1 := hp.1
    rw [hds] at h1
    simp only [Array.length_toList] at hi hj
    have := hs i j (Nat.zero_le _) hij (by omega)
    rw [getElem!_pos d' j hj, getElem!_pos d' i hi, ltP] at this
    simp only [Array.getElem_toList, Function.comp]
    exact this
  · have h1 := hp.1
    rw [hds] at h1
    have hlen : (d'.toList.map (fun i : Fin l.length => l[i])).length = l.length := by simp [h1]
    have hr := Row.sorted (k := n) (os := os) hrow (ys := d'.toList) (by simp [h1])
    rw [hlen]
    refine ⟨?_, fun x hx => ?_⟩
    · unfold Row at hr ⊢
      rw [List.map_map, List.length_map]
      exact hr
    · obtain ⟨i, _, rfl⟩ := List.mem_map.1 hx
      have hgb : w.grownBy (sortWorld (fun i : Fin l.length => l[i].enc) w g 0 n d' os) (some g) := grownBy_sorted2 d'
      exact Row.grown (h.2 l[i] (List.getElem_mem _)) hgb fun k hk e => two_rows (h.2 l[i] (List.getElem_mem _)) h.1 (by decide) hk (by rw [ownBlock_slice]; exact e.symm)
end Go.Proofs.Ytcfdbjjfdddfeaa
