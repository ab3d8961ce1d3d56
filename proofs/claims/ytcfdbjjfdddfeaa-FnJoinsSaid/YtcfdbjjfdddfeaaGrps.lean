/-
  All groups of a Joined, by the program and by the reference.
-/
import Derived.Test.YtcfdbjjfdddfeaaGrp
import Derived.Test.YtcfdbjjfdddfeaaKLists
import Derived.Test.YtcfdbjjfdddfeaaIMap
import Derived.Test.YtcfdbjjfdddfeaaAppG
import Derived.Test.YtcfdbjjfdddfeaaAppAt
import Derived.Test.YtcfdbjjfdddfeaaPlGrp
import Derived.Deep.RegionLaw
namespace Go.Proofs.Ytcfdbjjfdddfeaa
open Go.RowKit Knot

section
variable {w w' : World} {B g c i gn cn : Nat} {l : List Ll} {y : Int}
theorem LsRow.asId {v : Value} (h : LsRow w B v l) : Row id 22 w B v (l.map Ll.enc) := by
  have := h.1
  unfold Row at this ⊢
  rw [List.map_id, List.length_map]
  exact this
/-- One list has got one element more: its row has grown where it lay, or anew; then its place in the outer row is written. -/
theorem LsRow.put (h : LsRow w B (.slice (some ⟨g, 0, none⟩) l.length c) l) (hd : (l.map Ll.g).Nodup) (hi : i < l.length) (hg : w.grownBy w' (some l[i].g)) (hI : Ints w' B (.slice (some ⟨gn, 0, none⟩) (l[i].ps.length + 1) cn) (l[i].ps ++ [y])) (hat : some l[i].g = some gn ∨ w.heap.size ≤ gn) :
    (w'.cell? ⟨g, i, none⟩ = some (.slice (some ⟨l[i].g, 0, none⟩) l[i].ps.length l[i].c) ∧ w'.frozen? ⟨g, i, none⟩ = false ∧ g < w'.heap.size ∧ B ≤ g) ∧
    LsRow (w'.setCell ⟨g, i, none⟩ (.slice (some ⟨gn, 0, none⟩) (l[i].ps.length + 1) cn)) B (.slice (some ⟨g, 0, none⟩) l.length c) (l.set i ⟨gn, cn, l[i].ps ++ [y]⟩) ∧ ((l.set i ⟨gn, cn, l[i].ps ++ [y]⟩).map Ll.g).Nodup ∧ B ≤ gn ∧ gn < w'.heap.size := by
  have hx : LlOk w B l[i] := h.2 l[i] (List.getElem_mem hi)
  have hne : g ≠ l[i].g := fun e => two_rows hx h.1 (by decide) (g := l[i].g) rfl (by rw [ownBlock_slice, e])
  have hgl := Row.lt h.1 (g := g) rfl
  have hgnl := Row.lt hI (g := gn) rfl
  have hne2 : g ≠ gn := by
    rcases hat with e | e
    · injection e with e; rw [← e]; exact hne
    · omega
  have ho : Row Ll.enc 22 w' B (.slice (some ⟨g, 0, none⟩) l.length c) l := Row.grown h.1 hg fun g' hg' => by
    rw [ownBlock_slice] at hg'
    injection hg' with hg'
    intro e
    injection e with e
    omega
  have hp := List.pairwise_iff_getElem.1 hd
  refine ⟨⟨Row.cell ho hi, Row.free ho i, (Row.lt ho (g := g) rfl).2, hgl.1⟩, ⟨?_, fun x hx' => ?_⟩, ?_, hgnl⟩
  · have e : (⟨gn, cn, l[i].ps ++ [y]⟩ : Ll).enc = .slice (some ⟨gn, 0, none⟩) (l[i].ps.length + 1) cn := by simp [Ll.enc]
    have := Row.set_ ho i (⟨gn, cn, l[i].ps ++ [y]⟩ : Ll)
    rw [e] at this
    exact this
  · obtain ⟨j, hj, e⟩ := List.getElem_of_mem hx'
    rw [List.length_set] at hj
    rw [List.getElem_set] at e
    by_cases hij : i = j
    · rw [if_pos hij] at e
      subst e
      show Ints _ B (.slice (some ⟨gn, 0, none⟩) (l[i].ps ++ [y]).length cn) (l[i].ps ++ [y])
      rw [show (l[i].ps ++ [y]).length = l[i].ps.length + 1 by simp]
      exact Row.setCell hI (p := ⟨g, i, none⟩) (fun g' hg' => by rw [ownBlock_slice] at hg'; injection hg' with hg'; show g' ≠ g; omega) _
    · rw [if_neg hij] at e
      subst e
      have hj2 : LlOk w B l[j] := h.2 l[j] (List.getElem_mem hj)
      have hgj : l[j].g ≠ l[i].g := fun e2 => by
        rcases Nat.lt_or_gt_of_ne hij with hh | hh
        · exact hp i j (by simpa using hi) (by simpa using hj) hh (by simpa using e2.symm)
        · exact hp j i (by simpa using hj) (by simpa using hi) hh (by simpa using e2)
      have hnj : g ≠ l[j].g := fun e => two_rows hj2 h.1 (by decide) (g := l[j].g) rfl (by rw [ownBlock_slice, e])
      exact Row.setCell (p := ⟨g, i, none⟩) (Row.grown hj2 hg fun g' hg' => by
        rw [show l[j].enc.ownBlock = some l[j].g from rfl] at hg'
        injection hg' with hg'
        intro e
        injection e with e
        omega) (fun g' hg' => by
          rw [show l[j].enc.ownBlock = some l[j].g from rfl] at hg'
          injection hg' with hg'
          show g' ≠ g
          omega) _
  · rw [List.nodup_iff_pairwise_ne, List.pairwise_iff_getElem]
    intro a b ha hb hab
    simp only [List.length_map, List.length_set] at ha hb
    simp only [List.getElem_map, List.getElem_set]
    have hab2 := hp a b (by simpa using ha) (by simpa using hb) hab
    simp only [List.getElem_map] at hab2
    have key : ∀ j (hj : j < l.length), i ≠ j → gn ≠ l[j].g := fun j hj hij e => by
      have hjl : l[j].g < w.heap.size := (h.2 l[j] (List.getElem_mem hj)).g_lt.2
      rcases hat with e2 | e2
      · injection e2 with e2
        rcases Nat.lt_or_gt_of_ne hij with hh | hh
        · exact hp i j (by simpa using hi) (by simpa using hj) hh (by simp; omega)
        · exact hp j i (by simpa using hj) (by simpa using hi) hh (by simp; omega)
      · omega
    by_cases h1 : i = a
    · rw [if_pos h1, if_neg (show ¬ i = b by omega)]
      exact key b hb (by omega)
    · rw [if_neg h1]
      by_cases h2 : i = b
      · rw [if_pos h2]
        exact fun e => key a ha h1 e.symm
      · rw [if_neg h2]
        exact hab2
theorem LsRow.snoc {v : Value} {x : Ll} (hr : Row id 22 w B v (l.map Ll.enc ++ [x.enc])) (hl : ∀ y ∈ l, LlOk w B y) (hx : LlOk w B x) : LsRow w B v (l ++ [x]) := by
  refine ⟨?_, fun y hy => ?_⟩
  · unfold Row at hr ⊢
    rw [List.map_id] at hr
    rw [List.map_append, List.length_append]
    simpa using hr
  · rcases List.mem_append.1 hy with h | h
    · exact hl y h
    · rw [List.mem_singleton] at h
      subst h
      exact hx
theorem nodup_more {x : Ll} {N : Nat} (hd : (l.map Ll.g).Nodup) (hl : ∀ y ∈ l, y.g < N) (hx : N ≤ x.g) : ((l ++ [x]).map Ll.g).Nodup := by
  rw [List.map_append, List.nodup_append]
  refine ⟨hd, by simp, fun a ha b hb e => ?_⟩
  obtain ⟨y, hy, rfl⟩ := List.mem_map.1 ha
  simp at hb
  have := hl y hy
  omega
theorem LsRow.grown {v : Value} {row : Option Nat} (h : LsRow w B v l) (hg : w.grownBy w' row) (h1 : ∀ g, v.ownBlock = some g → some g ≠ row) (h2 : ∀ x ∈ l, some x.g ≠ row) : LsRow w' B v l :=
  ⟨Row.grown h.1 hg h1, fun x hx => Row.grown (h.2 x hx) hg (fun g' hg' => by
    rw [show x.enc.ownBlock = some x.g from rfl] at hg'
    rw [← hg']
    exact h2 x hx)⟩
theorem LsRow.inner_grown {v : Value} (h : LsRow w B v l) (hg : w.grownBy w' v.ownBlock) : ∀ x ∈ l, LlOk w' B x := fun x hx => Row.grown (h.2 x hx) hg (fun g' hg' e => two_rows (h.2 x hx) h.1 (by decide) hg' e.symm)
/-- A new list of the row, its place written behind those that were there. -/
theorem LsRow.more {z : Value} (hr : Row id 22 w B (.slice (some ⟨g, 0, none⟩) (l.length + 1) c) (l.map Ll.enc ++ [z])) (hl : ∀ x ∈ l, LlOk w B x) (hd : (l.map Ll.g).Nodup) (hg : w.grownBy w' none) (hI : Ints w' B (.slice (some ⟨gn, 0, none⟩) 1 cn) [y]) (hat : w.heap.size ≤ gn) :
    (w'.cell? ⟨g, l.length, none⟩ = some z ∧ w'.frozen? ⟨g, l.length, none⟩ = false ∧ g < w'.heap.size ∧ B ≤ g) ∧
    LsRow (w'.setCell ⟨g, l.length, none⟩ (.slice (some ⟨gn, 0, none⟩) 1 cn)) B (.slice (some ⟨g, 0, none⟩) (l.length + 1) c) (l ++ [⟨gn, cn, [y]⟩]) ∧ ((l ++ [(⟨gn, cn, [y]⟩ : Ll)]).map Ll.g).Nodup ∧ B ≤ gn ∧ gn < w'.heap.size := by
  have hgl := Row.lt hr (g := g) rfl
  have hgnl := Row.lt hI (g := gn) rfl
  have ho := Row.grown hr hg (fun g' _ => by simp)
  have hc := Row.cell ho (k := l.length) (by simp)
  simp at hc
  refine ⟨⟨hc, Row.free ho l.length, (Row.lt ho (g := g) rfl).2, hgl.1⟩, ?_, nodup_more hd (fun x hx => (hl x hx).g_lt.2) hat, hgnl⟩
  refine LsRow.snoc ?_ (fun x hx => ?_) ?_
  · have := Row.set_ ho l.length (.slice (some ⟨gn, 0, none⟩) 1 cn)
    have e : (l.map Ll.enc ++ [z]).set l.length (.slice (some ⟨gn, 0, none⟩) 1 cn) = l.map Ll.enc ++ [(⟨gn, cn, [y]⟩ : Ll).enc] := by
      rw [List.set_append_right _ _ (by simp)]
      simp [Ll.enc]
    rw [e] at this
    exact this
  · have hxx : LlOk w B x := hl x hx
    have hnx : g ≠ x.g := fun e => two_rows hxx hr (by decide) (g := x.g) rfl (by rw [ownBlock_slice, e])
    exact Row.setCell (p := ⟨g, l.length, none⟩) (Row.grown hxx hg fun g' _ => by simp) (fun g' hg' => by
      rw [show x.enc.ownBlock = some x.g from rfl] at hg'
      injection hg' with hg'
      show g' ≠ g
      omega) _
  · exact Row.setCell hI (p := ⟨g, l.length, none⟩) (fun g' hg' => by rw [ownBlock_slice] at hg'; injection hg' with hg'; show g' ≠ g; omega) _
end
open Classical in
/-- What GroupsOf answers. -/
noncomputable def grpsM (xs ys : List Int) : List (List Int) × Int := if OkJ xs ys then ((grpS xs xs.length).map Prod.snd, 0) else ([], 1)
theorem grp_each (par : List Int) (k : Nat) : ∀ a ∈ grpS par k, a.2.length ≤ k := fun a ha => by
  obtain ⟨e1, _, e3⟩ := (grpS_ok par k).each a ha
  have := nodup_length_le (n := k) (l := a.2) (by rw [List.nodup_iff_pairwise_ne]; exact e1.imp fun h => by omega) (fun x hx => (e3 x hx).1) (fun x hx => (e3 x hx).2)
  exact this
/-- Lists out of their rows. -/
theorem ListsIn.of {w : World} {B hi : Nat} {v : Value} {l : List Ll} {xss : List (List Int)} (h : LsRow w B v l) (hm : l.map Ll.ps = xss) (hd : (l.map Ll.g).Nodup) (h5 : ∀ x ∈ xss, x.length ≤ 1000) (hn : xss.length ≤ 1000) (hh : hi = w.heap.size) : ListsIn w B hi v xss := by
  subst hh
  exact ⟨⟨l, h, hm, fun x hx => (h.2 x hx).g_lt.2, hd, fun x hx => h5 _ (by rw [← hm]; exact List.mem_map.2 ⟨x, hx, rfl⟩)⟩, fun g hg => (Row.lt h.1 hg).2, Nat.le_refl _, hn⟩
theorem wf_small {n : Int} (h0 : 0 ≤ n) (h1 : n < 1000000) : (Lit.int .i64 n).wf = true := by
  simp only [Lit.wf, Bool.and_eq_true, decide_eq_true_eq]
  rw [show IntKind.i64.min = -9223372036854775808 from rfl, show IntKind.i64.max = 9223372036854775807 from rfl]
  omega

section
variable {w : World} {lo hi : Nat} {v1 v2 : Value} {xs ys : List Int} {xss : List (List Int)} {r1 : Int}
set_option maxRecDepth 20000 in
set_option maxHeartbeats 4000000 in
theorem K_impl_GroupsOf (h : JoinedIn w lo hi v1 v2 xs ys) (hm : grpsM xs ys = (xss, r1)) :
    Calls Try.prog 33 #[.agg #[v1, v2]] w fun e w' => ∃ A c, e = .returned (.tuple #[.slice A xss.length c, .int .i64 r1]) ∧ ListsIn w' w.heap.size w'.heap.size (.slice A xss.length c) xss ∧ Below w.heap.size w w' := by
  have bl := Joins.below_alloc1 w (.cells #[v1, v2] 27)
  have j := h.boxed
  obtain ⟨A, cA, rfl, lA, _⟩ := h.1.1.open_
  obtain ⟨D, cD, rfl, lD, _⟩ := h.2.1.1.open_
  unfold maxLen at lA lD
  have q0 := j.1.cell 0
  have q1 := j.1.cell 1
  have n0 := j.1.lt
  clear h
  by_cases ho : codeJ xs ys [] = 0
  rotate_left
  · obtain ⟨h1, h2⟩ := codeJ_nil ho
    obtain ⟨rfl, rfl⟩ : [] = xss ∧ 1 = r1 := by simpa [grpsM, h1] using hm
    have HC := Lib.hid h2
    clear hm h1 h2 ho
    go_enter Try.func33, Try.ntmps33
    go_wp2_with fail
    refine (joinedCode_any j.2.1 j.2.2 (Ints.nil _ _) HC.out).mono ?_
    rintro e w2 ⟨rfl, hb⟩
    clear q0 q1 n0
    go_wp2
    go_ret2
    exact ⟨none, 0, rfl, ListsIn.nil _ _ _ (Nat.le_refl _), bnext bl hb⟩
  have h1 := (codeJ_zero ho).1
  obtain ⟨hx, rfl⟩ : (grpS xs xs.length).map Prod.snd = xss ∧ 0 = r1 := by simpa [grpsM, h1] using hm
  have HX := Lib.hid hx
  have HC := Lib.hid ho
  have HO := Lib.hid h1
  have n256 := h1.n2
  have hmm := @run_makeMap Try.prog
  clear hm h1 ho hx
  go_enter Try.func33, Try.ntmps33
  go_wp2_with fail
  refine (joinedCode_any j.2.1 j.2.2 (Ints.nil _ _) HC.out).mono ?_
  rintro e V ⟨rfl, hb⟩
  replace j := j.below hb
  have bV := bnext bl hb
  clear q0 q1 n0 hb bl
  have hM0 := (IMap.made V).alloc (.cells #[] 22)
  have hL0 : LsRow ((V.alloc (.map #[] 0)).alloc (.cells #[] 22)) V.heap.size (.slice (some ⟨V.heap.size + 1, 0, none⟩) 0 0) [] := by
    have := Row.none_ (enc := Ll.enc) (E := 22) (V.alloc (.map #[] 0))
    rw [World.size_alloc] at this
    exact ⟨Row.le this (by omega), fun x hx => by simp at hx⟩
  have hb0 : Below V.heap.size V ((V.alloc (.map #[] 0)).alloc (.cells #[] 22)) := ((Below.refl _ _).alloc (Nat.le_refl _) _).alloc (by simp) _
  have j2 := j.below hb0
  have q0 := j2.1.cell 0
  have q1 := j2.1.cell 1
  have n0 := j2.1.lt
  go_wp2
  generalize hGV : (V.alloc (.map #[] 0)).alloc (.cells #[] 22) = V1 at *
  clear hGV
  go_loopw [6, 21] (fun s6 s21 wr => ∃ (k g c : Nat) (l : List Ll), k ≤ xs.length ∧ s6 = .slice (some ⟨g, 0, none⟩) l.length c ∧ s21 = .int .i64 k ∧ LsRow wr V.heap.size (.slice (some ⟨g, 0, none⟩) l.length c) l ∧ Hid (l.map Ll.ps = (grpS xs k).map Prod.snd) ∧ Hid ((l.map Ll.g).Nodup) ∧
      IMap wr V.heap.size l.length (idxG (grpS xs k)) ∧ Below V.heap.size V wr) (fun _ s21 _ => xs.length - (intOf s21).toNat)
  case atStart => exact ⟨0, _, 0, [], Nat.zero_le _, rfl, rfl, hL0, Lib.hid rfl, Lib.hid List.nodup_nil, hM0, hb0⟩
  case round =>
    obtain ⟨k, g, c, l, hk, rfl, rfl, hL, hV, hN, hM, hb⟩ := hrel
    clear hM0 hL0 hb0 j2 q0 q1 n0
    have hln : l.length ≤ 256 := by
      have := congrArg List.length hV.out
      rw [List.length_map, List.length_map] at this
      have := (grpS_ok xs k).len
      omega
    have hgl := (Row.lt hL.1 (g := g) rfl)
    by_cases hlt : k < xs.length
    · have hlt2 : (k : Int) < xs.length := by omega
      have j3 := j.below hb
      have q0 := j3.1.cell 0
      have q1 := j3.1.cell 1
      have n0 := j3.1.lt
      go_wp2_with fail
      refine (group_any (k := (k : Int)) j3.2.1 j3.2.2 HO.out (by omega) (by omega)).mono ?_
      rintro e w3 ⟨rfl, hb3⟩
      obtain ⟨r0, r1, _⟩ := root_spec HO.out.forest (k := (k : Int)) (by omega) (by omega)
      obtain ⟨r, hr⟩ : ∃ r, root xs k = r := ⟨_, rfl⟩
      rw [hr] at r0 r1 ⊢
      have HR := Lib.hid hr
      clear hr j3 q0 q1 n0
      replace hL := hL.below hb3
      replace hM := hM.below hb3
      replace hb := bnext hb hb3
      have hV3 := hb.size
      have hgl := (Row.lt hL.1 (g := g) rfl)
      have HWF : Hid ((Lit.int .i64 r).wf = true) := Lib.hid (wf_small r0 (by omega))
      clear hb3
      cases hi : idxG (grpS xs k) r with
      | some i =>
        obtain ⟨hi2, _⟩ := idxG_lt _ _ _ hi
        have HI := Lib.hid hi
        have hil : i < l.length := by
          have := congrArg List.length hV.out
          rw [List.length_map, List.length_map] at this
          omega
        have HPS : Hid (l[i].ps = (grpS xs k)[i].2) := Lib.hid (by
          have e : (l.map Ll.ps)[i]? = ((grpS xs k).map Prod.snd)[i]? := by rw [hV.out]
          rw [List.getElem?_map, List.getElem?_map, List.getElem?_eq_getElem hil, List.getElem?_eq_getElem hi2] at e
          injection e)
        have hpl : l[i].ps.length < 1000 := by
          have := grp_each xs k _ (List.getElem_mem hi2)
          rw [HPS.out]
          omega
        have ci : w3.cell? ⟨g, i, none⟩ = some (.slice (some ⟨l[i].g, 0, none⟩) l[i].ps.length l[i].c) := Row.cell hL.1 (k := i) hil
        have hii : Ints w3 V.heap.size (.slice (some ⟨l[i].g, 0, none⟩) l[i].ps.length l[i].c) l[i].ps := hL.2 l[i] (List.getElem_mem hil)
        have hil2 : (i : Int) < l.length := by omega
        have hib : V.heap.size ≤ w3.heap.size := hV3
        clear hi
        go_wp2_with (first
          | (at_lookup; refine wpList_ihit _ rfl _ _ rfl V.heap.size l.length _ rfl hM _ HWF.out rfl i HI.out ?_)
          | (at_builtin; refine append_one_at rfl _ _ rfl V.heap.size _ _ l[i].ps (k : Int) hii rfl rfl rfl (by omega) hib ?_))
        intro g4 c4 w4 hI4 hg4 hat4
        replace hg4 : w3.grownBy w4 (some l[i].g) := hg4
        replace hat4 : some l[i].g = some g4 ∨ w3.heap.size ≤ g4 := hat4
        obtain ⟨⟨p1, p2, p3, p4⟩, hL5, hN5, _, _⟩ := LsRow.put hL hN.out hil hg4 hI4 hat4
        have hg5 : V.heap.size ≤ l[i].g := (hL.2 l[i] (List.getElem_mem hil)).g_lt.1
        have hb5 := (hb.grown hg4 hV3 (by intro q hq; cases hq; exact hg5)).setCell (p := ⟨g, i, none⟩) p4 (.slice (some ⟨g4, 0, none⟩) (l[i].ps.length + 1) c4)
        have hMa : l[i].g ≠ V.heap.size := hM.apart (r := hL.2 l[i] (List.getElem_mem hil)) (g := l[i].g) rfl
        have hMg : g ≠ V.heap.size := hM.apart hL.1 (g := g) rfl
        have hM5 := (hM.grown hg4 (fun e => hMa (by injection e with e; exact e.symm))).setCell (p := ⟨g, i, none⟩) (Ne.symm hMg) (.slice (some ⟨g4, 0, none⟩) (l[i].ps.length + 1) c4)
        have hGS : grpS xs (k + 1) = (grpS xs k).set i ((grpS xs k)[i].1, (grpS xs k)[i].2 ++ [(k : Int)]) := by
          show putG (grpS xs k) (root xs k) k = _
          rw [HR.out]
          exact putG_known _ _ _ _ hi2 HI.out
        have R9 : Hid (∃ (k2 g2 c2 : Nat) (l2 : List Ll), k2 ≤ xs.length ∧ (.slice (some ⟨g, 0, none⟩) l.length c : Value) = .slice (some ⟨g2, 0, none⟩) l2.length c2 ∧ (.int .i64 ((k : Int) + 1) : Value) = .int .i64 k2 ∧ LsRow (w4.setCell ⟨g, i, none⟩ (.slice (some ⟨g4, 0, none⟩) (l[i].ps.length + 1) c4)) V.heap.size (.slice (some ⟨g2, 0, none⟩) l2.length c2) l2 ∧ Hid (l2.map Ll.ps = (grpS xs k2).map Prod.snd) ∧ Hid ((l2.map Ll.g).Nodup) ∧
            IMap (w4.setCell ⟨g, i, none⟩ (.slice (some ⟨g4, 0, none⟩) (l[i].ps.length + 1) c4)) V.heap.size l2.length (idxG (grpS xs k2)) ∧ Below V.heap.size V (w4.setCell ⟨g, i, none⟩ (.slice (some ⟨g4, 0, none⟩) (l[i].ps.length + 1) c4))) := by
          have e : idxG (grpS xs (k + 1)) = idxG (grpS xs k) := by
            funext x
            rw [hGS]
            exact idxG_set hi2 _ x
          refine Lib.hid ⟨k + 1, g, c, l.set i ⟨g4, c4, l[i].ps ++ [(k : Int)]⟩, by omega, by rw [List.length_set], by go_num, by rw [List.length_set]; exact hL5, ?_, Lib.hid hN5, by rw [List.length_set, e]; exact hM5, hb5⟩
          refine Lib.hid ?_
          rw [hGS, List.map_set, List.map_set, hV.out, HPS.out]
        clear hL hV hN hM hb hI4 hg4 hat4 hL5 hN5 hb5 hM5 hGS ci hii HI HPS hMa hMg
        go_wp2
        go_roundw
        case rel => exact R9.out
        case measure => simp [intOf]; omega
      | none =>
        have HI := Lib.hid hi
        clear hi
        have hlb : l.length < 1000 := by omega
        have hrow := hL.asId
        have hrl : (l.map Ll.enc).length = l.length := List.length_map ..
        have hMg : g ≠ V.heap.size := hM.apart hL.1 (g := g) rfl
        have hlm : l.length < 1000000 := by omega
        clear hrow hrl
        go_wp2_with (first
          | (at_lookup; refine wpList_imiss _ rfl _ _ rfl V.heap.size l.length _ rfl hM _ HWF.out rfl HI.out ?_)
          | (at_mapUpdate; refine wpList_iput _ rfl _ _ _ rfl V.heap.size l.length _ rfl hM hlm r HWF.out rfl l.length hlm rfl ?_))
        intro w4 hM4 hg4
        have hz4 := hg4.size
        have hL4 : LsRow w4 V.heap.size (.slice (some ⟨g, 0, none⟩) l.length c) l := hL.grown hg4 (fun q hq e => by rw [ownBlock_slice] at hq; injection hq with hq; injection e with e; omega) (fun x hx e => hM.apart (r := hL.2 x hx) (g := x.g) rfl (by injection e))
        have hb4 := hb.grown hg4 hV3 (by intro q hq; cases hq; exact Nat.le_refl _)
        have hV4 := hb4.size
        have hrow := hL4.asId
        have hrl : (l.map Ll.enc).length = l.length := List.length_map ..
        have HLE := Lib.hid hrl
        have hal : (l.map Ll.enc).length < 1000000000 := by omega
        clear hL hM hb hV3 hg4 hz4 hgl hrl
        go_wp2_with (at_builtin; refine append_gen (enc := id) Try.underlying41 info_rows rfl (by decide) rfl _ _ rfl V.heap.size _ _ (l.map Ll.enc) (.slice none 0 0) rfl hrow rfl rfl rfl hal hV4 ?_)
        intro g5 c5 w5 hR5 hg5 hat5
        try rw [HLE.out] at hR5
        try rw [HLE.out]
        have hi5 := hL4.inner_grown hg5
        have hMo : some V.heap.size ≠ (Value.slice (some ⟨g, 0, none⟩) l.length c).ownBlock := fun e => hMg (by rw [ownBlock_slice] at e; injection e with e; exact e.symm)
        have hM5 := hM4.grown hg5 hMo
        have hb5 := hb4.grown hg5 hV4 (by intro q hq; exact (Row.lt hL4.1 hq).1)
        have hV5 := hb5.size
        have hc5 := Row.cell hR5 (k := l.length) (by simp)
        simp only [List.getElem_append_right, List.length_map, Nat.le_refl, Nat.sub_self, List.getElem_cons_zero, id] at hc5
        have hM6 : g5 ≠ V.heap.size := hM5.apart hR5 (g := g5) rfl
        have hg5l := (Row.lt hR5 (g := g5) rfl).2
        have hnl := Row.nil (enc := Value.int .i64) (E := 2) w5 V.heap.size
        have hal2 : ([] : List Int).length < 1000000000 := by simp
        have hls : (l.length : Int) < (l.length : Int) + 1 := by omega
        clear hL4 hM4 hrow hg5 hat5 hb4 hMo
        go_wp2_with (at_builtin; refine append_one_at rfl _ _ rfl V.heap.size _ _ [] (k : Int) hnl rfl rfl rfl hal2 hV5 ?_)
        intro g7 c7 w7 hI7 hg7 hat7
        replace hg7 : w5.grownBy w7 none := hg7
        replace hat7 : w5.heap.size ≤ g7 := by
          rcases hat7 with e | e
          · simp [Value.ownBlock] at e
          · exact e
        obtain ⟨⟨p1, p2, p3, p4⟩, hL8, hN8, _, _⟩ := LsRow.more hR5 hi5 hN.out hg7 hI7 hat7
        have hb8 := (hb5.grown hg7 hV5 (by intro q hq; simp at hq)).setCell (p := ⟨g5, l.length, none⟩) p4 (.slice (some ⟨g7, 0, none⟩) 1 c7)
        have hM8 := (hM5.grown hg7 (by simp)).setCell (p := ⟨g5, l.length, none⟩) (Ne.symm hM6) (.slice (some ⟨g7, 0, none⟩) 1 c7)
        have hGS : grpS xs (k + 1) = grpS xs k ++ [(r, [(k : Int)])] := by
          show putG (grpS xs k) (root xs k) k = _
          rw [HR.out]
          exact putG_new _ _ _ HI.out
        have R9 : Hid (∃ (k2 g2 c2 : Nat) (l2 : List Ll), k2 ≤ xs.length ∧ (.slice (some ⟨g5, 0, none⟩) (l.length + 1) c5 : Value) = .slice (some ⟨g2, 0, none⟩) l2.length c2 ∧ (.int .i64 ((k : Int) + 1) : Value) = .int .i64 k2 ∧ LsRow (w7.setCell ⟨g5, l.length, none⟩ (.slice (some ⟨g7, 0, none⟩) 1 c7)) V.heap.size (.slice (some ⟨g2, 0, none⟩) l2.length c2) l2 ∧ Hid (l2.map Ll.ps = (grpS xs k2).map Prod.snd) ∧ Hid ((l2.map Ll.g).Nodup) ∧
            IMap (w7.setCell ⟨g5, l.length, none⟩ (.slice (some ⟨g7, 0, none⟩) 1 c7)) V.heap.size l2.length (idxG (grpS xs k2)) ∧ Below V.heap.size V (w7.setCell ⟨g5, l.length, none⟩ (.slice (some ⟨g7, 0, none⟩) 1 c7))) := by
          have hll : (grpS xs k).length = l.length := by
            have := congrArg List.length hV.out
            rw [List.length_map, List.length_map] at this
            exact this.symm
          have e : idxG (grpS xs (k + 1)) = fun t => if t = r then some l.length else idxG (grpS xs k) t := by
            funext x
            rw [hGS, idxG_snoc]
            by_cases h2 : x = r
            · subst h2
              rw [if_pos rfl, HI.out]
              simp [hll]
            · rw [if_neg h2]
              cases idxG (grpS xs k) x with
              | some i => rfl
              | none => exact if_neg (fun e => h2 e.symm)
          have hl2 : (l ++ [(⟨g7, c7, [(k : Int)]⟩ : Ll)]).length = l.length + 1 := by simp
          refine Lib.hid ⟨k + 1, g5, c5, l ++ [⟨g7, c7, [(k : Int)]⟩], by omega, by rw [hl2], by go_num, by rw [hl2]; exact hL8, Lib.hid ?_, Lib.hid hN8, by rw [hl2, e]; exact hM8, hb8⟩
          rw [hGS, List.map_append, List.map_append, hV.out]
          rfl
        clear hV hN hI7 hg7 hat7 hL8 hN8 hb8 hM8 hGS hc5 HI hM6 hR5 hi5 hM5 hb5 hnl hMg
        go_wp2
        go_roundw
        case rel => exact R9.out
        case measure => simp [intOf]; omega
    · have e : k = xs.length := by omega
      subst e
      have HF : Hid (∀ w', wr = w' → ListsIn w' w.heap.size w'.heap.size (.slice (some ⟨g, 0, none⟩) l.length c) xss ∧ Below w.heap.size w w' ∧ l.length = xss.length) := Lib.hid (by
        rintro w' rfl
        have hm : l.map Ll.ps = xss := by rw [hV.out, HX.out]
        have hlx : l.length = xss.length := by rw [← hm, List.length_map]
        refine ⟨ListsIn.of (hL.le bV.size) hm hN.out (fun x hx => ?_) (by omega) rfl, bnext bV hb, hlx⟩
        rw [← HX.out] at hx
        obtain ⟨a, ha, rfl⟩ := List.mem_map.1 hx
        have := grp_each xs xs.length a ha
        omega)
      have j3 := j.below hb
      have q0 := j3.1.cell 0
      have q1 := j3.1.cell 1
      have n0 := j3.1.lt
      clear hL hV hN hM hb j3 q0 q1 n0
      go_wp2
      go_ret2
      obtain ⟨f1, f2, f3⟩ := HF.out _ rfl
      rw [← f3]
      exact ⟨_, c, rfl, by rw [f3] at f1 ⊢; exact f1, f2⟩
theorem step_append_int {ops : Array Oper} {o : Oper} {a : Act} {K : Act → World → Prop} {Q : Exit → Act → World → Prop} {Ee : Prop} {wr : World} (hgd : o.guard = none) (s x : Operand)
    (ho : o.op = .call { callee := .builtin .append, args := #[s, x], argTypes := #[22, 22] })
    (B H : Nat) (v : Value) (xs : List Int) (y : Int) (hv : Ints wr B v xs) (hs : a.eval s = v) (hx : a.eval x = .slice (some ⟨H, 0, none⟩) 1 1) (hH : wr.heap.size = H)
    (hlen : xs.length < 1000000000) (hB : B ≤ wr.heap.size)
    (h : ∀ g c w', Ints w' B (.slice (some ⟨g, 0, none⟩) (xs.length + 1) c) (xs ++ [y]) → wr.grownBy w' v.ownBlock → (v.ownBlock = some g ∨ wr.heap.size ≤ g) →
      K (a.put o.dst (.slice (some ⟨g, 0, none⟩) (xs.length + 1) c)) w') :
    if Region.wanted o (yielded ops a.tmps) = true then Oper.wp Try.prog o a (wr.alloc (.cells #[.int .i64 y] 2)) K Q else Ee := by
  have hw : Region.wanted o (yielded ops a.tmps) = true := by simp [Region.wanted, hgd]
  rw [if_pos hw]
  subst hH
  obtain ⟨i0, hi, hz0, hz1, hz2⟩ := info_parts info_int
  have hown := World.ownsRow.alloc hv (.cells #[.int .i64 y] 2)
  obtain ⟨v', w', hrun, hown', hgrow, _, hat⟩ := run_append_own_at (P := Try.prog) (w := wr.alloc (.cells #[.int .i64 y] 2)) B 22 o.type 2 i0 (.int .i64 0) 1 8 Try.underlying22 hi hz0 hz1 hz2 rfl (by decide) v xs.length (xs.map (Value.int .i64)) hown ⟨wr.heap.size, 0, none⟩ 1 1 [.int .i64 y] rfl
    (cell_one_new _ _ _) (fun u hu => by simp at hu; subst hu; rfl) (by unfold maxLen; omega) (by omega) (by rw [World.size_alloc]; omega)
  have hI : Ints w' B v' (xs ++ [y]) := by
    unfold Ints Row
    rw [List.length_append, List.map_append]
    exact hown'
  unfold Oper.wp execOp
  simp only [ho, resolve, invoke, builtin, Sem.run_bind, Sem.run_pure, Result.andThen_ok, List.map_toArray, List.map_cons, List.map_nil, hs, hx, hrun]
  rcases hI.form with ⟨_, h2⟩ | ⟨g, c, rfl, _⟩
  · simp at h2
  · have e : (xs ++ [y]).length = xs.length + 1 := by simp
    rw [e] at hI ⊢
    refine h g c w' hI ⟨hgrow.os, hgrow.tape, hgrow.output, by have := hgrow.size; rw [World.size_alloc] at this; omega, fun k hk hne => ?_⟩ ?_
    · exact (hgrow.block k (by rw [World.size_alloc]; omega) hne).trans (Below.heap_alloc _ _ _ hk)
    · rcases hat with e | e
      · exact .inl e.symm
      · rw [World.size_alloc] at e
        simp [Value.ownBlock] at e
        exact .inr (by omega)
/-- Where the groups stand, one more than that, 0 for none. -/
def plc1 (o : Option Nat) : Int := match o with | some i => (i : Int) + 1 | none => 0
def plcG (n : Nat) (gs : List (Int × List Int)) : List Int := (List.range n).map fun r : Nat => plc1 (idxG gs r)
theorem plcG_length (n : Nat) (gs : List (Int × List Int)) : (plcG n gs).length = n := by simp [plcG]
theorem plcG_at {n : Nat} {gs : List (Int × List Int)} {j : Nat} (h : j < n) : (plcG n gs)[j]? = some (plc1 (idxG gs j)) := by simp [plcG, h]
theorem plcG_get {n : Nat} {gs : List (Int × List Int)} {r : Int} (h0 : 0 ≤ r) (h1 : r < n) : gI (plcG n gs) r = plc1 (idxG gs r) := by
  obtain ⟨m, rfl⟩ := Int.eq_ofNat_of_zero_le h0
  have hm : m < n := by omega
  have := plcG_at (gs := gs) hm
  simp [gI, List.getD, this]
theorem plcG_new {n : Nat} {gs : List (Int × List Int)} {r k : Int} (h0 : 0 ≤ r) (h : idxG gs r = none) : (plcG n gs).set r.toNat ((gs.length : Int) + 1) = plcG n (gs ++ [(r, [k])]) := by
  refine List.ext_getElem? fun j => ?_
  rw [List.getElem?_set, plcG_length]
  by_cases hjn : j < n
  · rw [plcG_at hjn, plcG_at hjn, idxG_snoc]
    by_cases hj : r.toNat = j
    · have e : ((j : Nat) : Int) = r := by omega
      rw [if_pos hj, if_pos (by omega), e, h]
      simp [plc1]
    · have e : ¬ r = ((j : Nat) : Int) := by omega
      rw [if_neg hj]
      cases idxG gs (j : Int) with
      | some i => rfl
      | none =>
        show some (plc1 none) = some (plc1 (if r = (j : Int) then some gs.length else none))
        rw [if_neg e]
  · rw [List.getElem?_eq_none (by rw [plcG_length]; omega), List.getElem?_eq_none (by rw [plcG_length]; omega)]
    by_cases hj : r.toNat = j
    · rw [if_pos hj, if_neg (by omega)]
    · rw [if_neg hj]
theorem plcG_known {n : Nat} {gs hs : List (Int × List Int)} (h : idxG gs = idxG hs) : plcG n gs = plcG n hs := by unfold plcG; rw [h]
theorem plcG_zero (n : Nat) : plcG n [] = List.replicate n 0 := by
  refine List.ext_getElem? fun j => ?_
  rw [List.getElem?_replicate]
  by_cases hj : j < n
  · rw [plcG_at hj, if_pos hj]
    rfl
  · rw [List.getElem?_eq_none (by rw [plcG_length]; omega), if_neg hj]
set_option maxRecDepth 20000 in
set_option maxHeartbeats 4000000 in
theorem K_spec_GroupsOf (h : JoinedIn w lo hi v1 v2 xs ys) (hm : grpsM xs ys = (xss, r1)) :
    Calls Try.prog 32 #[.agg #[v1, v2]] w fun e w' => ∃ A c, e = .returned (.tuple #[.slice A xss.length c, .int .i64 r1]) ∧ ListsIn w' w.heap.size w'.heap.size (.slice A xss.length c) xss ∧ Below w.heap.size w w' := by
  obtain ⟨i0, hi, hz0, hz1, hz2⟩ := info_parts info_int
  have bl := Joins.below_alloc1 w (.cells #[v1, v2] 27)
  have j := h.boxed
  obtain ⟨A, cA, rfl, lA, _⟩ := h.1.1.open_
  obtain ⟨D, cD, rfl, lD, _⟩ := h.2.1.1.open_
  unfold maxLen at lA lD
  clear h
  by_cases ho : OkJ xs ys
  rotate_left
  · obtain ⟨rfl, rfl⟩ : [] = xss ∧ 1 = r1 := by simpa [grpsM, ho] using hm
    have HC := Lib.hid ho
    clear hm ho
    go_enter Try.func32, Try.ntmps32
    go_wp2_with fail
    refine (l08Ok_any j (no_iff HC.out)).mono ?_
    rintro e w2 ⟨rfl, hb⟩
    go_wp2
    go_ret2
    exact ⟨none, 0, rfl, ListsIn.nil _ _ _ (Nat.le_refl _), bnext bl hb⟩
  obtain ⟨hx, rfl⟩ : (grpS xs xs.length).map Prod.snd = xss ∧ 0 = r1 := by simpa [grpsM, ho] using hm
  have HX := Lib.hid hx
  have HO := Lib.hid ho
  have n256 := ho.n2
  have HI0 := Lib.hid (And.intro hi (And.intro hz0 (And.intro hz1 hz2)))
  clear hm ho hx hi hz0 hz1 hz2
  go_enter Try.func32, Try.ntmps32
  go_wp2_with fail
  refine (l08Ok_any j (yes_iff HO.out)).mono ?_
  rintro e V ⟨rfl, hb⟩
  replace j := j.below hb
  have bV := bnext bl hb
  clear hb bl
  have hL0 : LsRow (V.alloc (.cells #[] 22)) V.heap.size (.slice (some ⟨V.heap.size, 0, none⟩) 0 0) [] :=
    ⟨Row.none_ (enc := Ll.enc) (E := 22) V, fun x hx => by simp at hx⟩
  have hb0 : Below V.heap.size V (V.alloc (.cells #[] 22)) := (Below.refl _ _).alloc (Nat.le_refl _) _
  have j2 := j.below hb0
  have q0 := j2.1.cell 0
  have n0 := j2.1.lt
  go_wp2_with (at_make; refine wpList_make_full _ rfl _ _ 22 rfl (V.heap.size + 1) 2 i0 (.int .i64 0) 1 Try.underlying22 HI0.out.1 HI0.out.2.1 HI0.out.2.2.1 _ _ _ _ xs.length rfl rfl (by omega) (by omega) (by rw [HI0.out.2.2.2]; omega) (by unfold maxLen; omega) (by rw [World.size_alloc]; omega) ?_)
  intro w1 hown hgrow
  have hP0 : Ints w1 V.heap.size (.slice (some ⟨V.heap.size + 1, 0, none⟩) xs.length xs.length) (plcG xs.length (grpS xs 0)) := by
    show Ints _ _ _ (plcG xs.length [])
    rw [plcG_zero]
    refine Row.le (B := V.heap.size + 1) ?_ (by omega)
    unfold Row
    rw [List.length_replicate, List.map_replicate]
    simpa [Value.cells, toList_madeCells_one] using hown
  have hL1 : LsRow w1 V.heap.size (.slice (some ⟨V.heap.size, 0, none⟩) 0 0) [] := hL0.grown hgrow (fun g hg e => by simp at e) (fun x hx => by simp at hx)
  have hb1 : Below V.heap.size V w1 := hb0.grown hgrow (by rw [World.size_alloc]; omega) (by intro q hq; simp at hq)
  clear hown hgrow hL0 hb0 j2 q0 n0
  go_wp2
  go_loopw [4, 6] (fun s4 s6 wr => ∃ (k g c M : Nat) (l : List Ll), k ≤ xs.length ∧ s4 = .slice (some ⟨g, 0, none⟩) M c ∧ s6 = .int .i64 k ∧ Hid (l.length = M) ∧ LsRow wr V.heap.size (.slice (some ⟨g, 0, none⟩) M c) l ∧ Hid (l.map Ll.ps = (grpS xs k).map Prod.snd) ∧ Hid ((l.map Ll.g).Nodup) ∧
      Ints wr V.heap.size (.slice (some ⟨V.heap.size + 1, 0, none⟩) xs.length xs.length) (plcG xs.length (grpS xs k)) ∧ Hid (∀ x ∈ l, x.g ≠ V.heap.size + 1) ∧ Below V.heap.size V wr) (fun _ s6 _ => xs.length - (intOf s6).toNat)
  case atStart => exact ⟨0, _, 0, 0, [], Nat.zero_le _, rfl, rfl, Lib.hid rfl, hL1, Lib.hid rfl, Lib.hid List.nodup_nil, hP0, Lib.hid (fun x hx => by simp at hx), hb1⟩
  case round =>
    obtain ⟨k, g, c, M, l, hk, rfl, rfl, hlM, hL, hV, hN, hP, hNP, hb⟩ := hrel
    clear hP0 hL1 hb1
    have j3 := j.below hb
    have q0 := j3.1.cell 0
    have n0 := j3.1.lt
    simp only [List.getElem?_toArray, List.getElem?_cons_zero, List.getElem?_cons_succ] at q0
    have hln : M ≤ 256 := by
      have := congrArg List.length hV.out
      rw [List.length_map, List.length_map, hlM.out] at this
      have := (grpS_ok xs k).len
      omega
    by_cases hlt : k < xs.length
    · have hlt2 : (k : Int) < xs.length := by omega
      go_wp2_with fail
      refine (l08Root_any (k := (k : Int)) j3 HO.out (by omega) (by omega)).mono ?_
      rintro e w3 ⟨rfl, rfl⟩
      obtain ⟨r0, r1, _⟩ := root_spec HO.out.forest (k := (k : Int)) (by omega) (by omega)
      obtain ⟨r, hr⟩ : ∃ r, root xs k = r := ⟨_, rfl⟩
      rw [hr] at r0 r1 ⊢
      have HR := Lib.hid hr
      clear hr j3 q0 n0
      have hV3 := hb.size
      have hPc := Ints.cellI hP (i := r) r0 (by rw [plcG_length]; exact r1)
      rw [plcG_get r0 r1] at hPc
      have hPl := (Row.lt hP (g := V.heap.size + 1) rfl).2
      obtain ⟨W9, hW9⟩ : ∃ x, x = wr := ⟨wr, rfl⟩
      have hgk : g ≠ V.heap.size + 1 := fun e => two_rows hP hL.1 (by decide) (g := V.heap.size + 1) rfl (by rw [ownBlock_slice, e])
      cases hi : idxG (grpS xs k) r
      case' some i =>
        obtain ⟨hi2, _⟩ := idxG_lt _ _ _ hi
        have HI := Lib.hid hi
        rw [hi] at hPc
        have HGS : Hid (grpS xs (k + 1) = (grpS xs k).set i ((grpS xs k)[i].1, (grpS xs k)[i].2 ++ [(k : Int)])) := Lib.hid (by
          show putG (grpS xs k) (root xs k) k = _
          rw [HR.out]
          exact putG_known _ _ _ _ hi2 HI.out)
        have hil : i < l.length := by
          have := congrArg List.length hV.out
          rw [List.length_map, List.length_map] at this
          omega
        have HPS : Hid (l[i].ps = (grpS xs k)[i].2) := Lib.hid (by
          have e : (l.map Ll.ps)[i]? = ((grpS xs k).map Prod.snd)[i]? := by rw [hV.out]
          rw [List.getElem?_map, List.getElem?_map, List.getElem?_eq_getElem hil, List.getElem?_eq_getElem hi2] at e
          injection e)
        have HPL : Hid (plcG xs.length (grpS xs (k + 1)) = plcG xs.length (grpS xs k)) := Lib.hid (plcG_known (by
          rw [HGS.out]
          funext x
          exact idxG_set hi2 _ x))
        have HVS : Hid ((l.map Ll.ps).set i (l[i].ps ++ [(k : Int)]) = (grpS xs (k + 1)).map Prod.snd) := Lib.hid (by rw [HGS.out, List.map_set, hV.out, HPS.out])
        have hpl : l[i].ps.length < 1000 := by
          have := grp_each xs k _ (List.getElem_mem hi2)
          rw [HPS.out]
          omega
        have hi5 : i < 1000 := by have := hlM.out; omega
        obtain ⟨L, hLe⟩ : ∃ L, L = l := ⟨l, rfl⟩
        subst hLe
        have hne : (plc1 (some i) == 0) = false := by simp [plc1]; omega
        have hnw : IntKind.i64.wrap (plc1 (some i) - 1) = (i : Int) := by rw [show plc1 (some i) = (i : Int) + 1 from rfl, IntKind.wrap_i64]; omega
        clear hi hV HI HPS hln
        subst hW9
        generalize hq : plc1 (some i) = q at *
        clear hq HGS
        rw [← HPL.out] at hP
        clear HPL
        obtain ⟨M2, hM2⟩ : ∃ M2, M = M2 := ⟨_, rfl⟩
        rw [hM2] at hlM hL ⊢
        obtain ⟨g2, hg2⟩ : ∃ g2, g = g2 := ⟨_, rfl⟩
        obtain ⟨c2, hc2⟩ : ∃ c2, c = c2 := ⟨_, rfl⟩
        rw [hg2, hc2] at hL
        rw [hg2] at hgk
        rw [hg2, hc2]
        clear hM2 hg2 hc2
        obtain ⟨I, hMi⟩ : ∃ I, I = i := ⟨i, rfl⟩
        subst hMi
        go_wp2
      case' none =>
        have HI := Lib.hid hi
        rw [hi] at hPc
        replace hPc : wr.cell? ⟨V.heap.size + 1, r.toNat, none⟩ = some (.int .i64 0) := hPc
        have HGS : Hid (grpS xs (k + 1) = grpS xs k ++ [(r, [(k : Int)])]) := Lib.hid (by
          show putG (grpS xs k) (root xs k) k = _
          rw [HR.out]
          exact putG_new _ _ _ hi)
        have hgl : (grpS xs k).length = M := by
          have := congrArg List.length hV.out
          rw [List.length_map, List.length_map, hlM.out] at this
          exact this.symm
        have HPL : Hid ((plcG xs.length (grpS xs k)).set r.toNat ((M : Int) + 1) = plcG xs.length (grpS xs (k + 1))) := Lib.hid (by rw [HGS.out, ← hgl]; exact plcG_new r0 hi)
        have HLM := Lib.hid hgl
        clear hi hW9 W9 hgl
        have hLa : LsRow (wr.alloc (.cells #[] 2)) V.heap.size (.slice (some ⟨g, 0, none⟩) M c) l := hL.below (Joins.below_alloc1 _ _)
        have hPa : Ints (wr.alloc (.cells #[] 2)) V.heap.size (.slice (some ⟨V.heap.size + 1, 0, none⟩) xs.length xs.length) (plcG xs.length (grpS xs k)) := Row.alloc hP _
        have hxa : LlOk (wr.alloc (.cells #[] 2)) V.heap.size ⟨wr.heap.size, 0, []⟩ := Row.le (Row.none_ wr) hV3
        have hba := hb.alloc hV3 (.cells #[] 2)
        have hrow := hLa.asId
        have hal : (l.map Ll.enc).length < 1000000000 := by rw [List.length_map, hlM.out]; omega
        have hVa := hba.size
        have hrl : (l.map Ll.enc).length = M := by rw [List.length_map, hlM.out]
        have HRL := Lib.hid hrl
        have hs1 : (wr.alloc (.cells #[] 2)).heap.size = wr.heap.size + 1 := World.size_alloc ..
        have HS1 := Lib.hid hs1
        clear hs1
        have hzP : wr.heap.size ≠ V.heap.size + 1 := by omega
        have hlz : ∀ x ∈ l, x.g < wr.heap.size := fun x hx => (hL.2 x hx).g_lt.2
        have HLZ := Lib.hid hlz
        have hMb : (M : Int) + 1 ≤ 1000 := by omega
        clear hrl hL hP hb hlz
        go_wp2_with (at_builtin; refine append_gen (enc := id) Try.underlying41 info_rows rfl (by decide) rfl _ _ rfl V.heap.size _ _ (l.map Ll.enc) (.slice (some ⟨wr.heap.size, 0, none⟩) 0 0) rfl hrow rfl rfl HS1.out hal hVa ?_)
        intro g5 c5 w5 hR5 hg5 hat5
        rw [hlM.out] at hR5 ⊢
        have hx5 : LlOk w5 V.heap.size ⟨wr.heap.size, 0, []⟩ := Row.grown hxa hg5 (fun q hq e => two_rows hxa hLa.1 (by decide) hq e.symm)
        have hL5 := LsRow.snoc (l := l) (x := ⟨wr.heap.size, 0, []⟩) hR5 (hLa.inner_grown hg5) hx5
        have hP5 := Row.grown hPa hg5 (fun q hq e => two_rows hPa hLa.1 (by decide) hq e.symm)
        have hb5 := hba.grown hg5 hVa (by intro q hq; exact (Row.lt hLa.1 hq).1)
        have hV5 := hb5.size
        have hPc5 := Ints.cellI hP5 (i := r) r0 (by rw [plcG_length]; exact r1)
        have hPf5 := Row.free hP5 r.toNat
        have hPl5 := (Row.lt hP5 (g := V.heap.size + 1) rfl).2
        have hP6 : Ints (w5.setCell ⟨V.heap.size + 1, r.toNat, none⟩ (.int .i64 ((M : Int) + 1))) V.heap.size (.slice (some ⟨V.heap.size + 1, 0, none⟩) xs.length xs.length) (plcG xs.length (grpS xs (k + 1))) := by
          rw [← HPL.out]
          exact Row.set_ hP5 r.toNat ((M : Int) + 1)
        have hgP : g5 ≠ V.heap.size + 1 := fun e => two_rows hP5 hR5 (by decide) (g := V.heap.size + 1) rfl (by rw [ownBlock_slice, e])
        have hnp6 : ∀ x ∈ l ++ [(⟨wr.heap.size, 0, []⟩ : Ll)], x.g ≠ V.heap.size + 1 := fun x hx => by
          rcases List.mem_append.1 hx with h | h
          · exact hNP.out x h
          · rw [List.mem_singleton] at h
            subst h
            exact hzP
        have hL6 : LsRow (w5.setCell ⟨V.heap.size + 1, r.toNat, none⟩ (.int .i64 ((M : Int) + 1))) V.heap.size (.slice (some ⟨g5, 0, none⟩) (M + 1) c5) (l ++ [⟨wr.heap.size, 0, []⟩]) :=
          ⟨Row.setCell hL5.1 (p := ⟨V.heap.size + 1, r.toNat, none⟩) (fun q hq => by rw [ownBlock_slice] at hq; injection hq with hq; show q ≠ V.heap.size + 1; omega) _,
           fun x hx => Row.setCell (hL5.2 x hx) (p := ⟨V.heap.size + 1, r.toNat, none⟩) (fun q hq => by rw [show x.enc.ownBlock = some x.g from rfl] at hq; injection hq with hq; rw [← hq]; exact hnp6 x hx) _⟩
        have hb6 := hb5.setCell (p := ⟨V.heap.size + 1, r.toNat, none⟩) (by show V.heap.size ≤ V.heap.size + 1; omega) (.int .i64 ((M : Int) + 1))
        have hN6 := nodup_more (x := ⟨wr.heap.size, 0, []⟩) hN.out HLZ.out (Nat.le_refl _)
        clear hN
        have hN := Lib.hid hN6
        clear hNP
        have hNP := Lib.hid hnp6
        have hM6 : (l ++ [(⟨wr.heap.size, 0, []⟩ : Ll)]).length = M + 1 := by simp [hlM.out]
        have hPSS : ((l ++ [(⟨wr.heap.size, 0, []⟩ : Ll)]).map Ll.ps).set M ([] ++ [(k : Int)]) = (grpS xs (k + 1)).map Prod.snd := by
          rw [HGS.out, List.map_append, List.map_append, ← hV.out, List.set_append_right _ _ (by simp [hlM.out])]
          simp [hlM.out]
        have hLi : ((l ++ [(⟨wr.heap.size, 0, []⟩ : Ll)])[M]'(by omega)).ps = [] := by
          have : (l ++ [(⟨wr.heap.size, 0, []⟩ : Ll)])[M]? = some ⟨wr.heap.size, 0, []⟩ := by
            rw [← hlM.out]
            simp
          rw [List.getElem?_eq_getElem (by omega)] at this
          injection this with this
          rw [this]
        have HPSS := Lib.hid (And.intro hM6 (And.intro hPSS hLi))
        have hnw : IntKind.i64.wrap ((M : Int) + 1 - 1) = (M : Int) := by rw [IntKind.wrap_i64]; omega
        have hPq := Ints.cellI hP6 (i := r) r0 (by rw [plcG_length]; exact r1)
        clear hR5 hg5 hat5 hx5 hP5 hL5 hb5 hxa hLa hPa hba hrow hal hN6 hnp6 hPc
        have hPc : (w5.setCell ⟨V.heap.size + 1, r.toNat, none⟩ (.int .i64 ((M : Int) + 1))).cell? ⟨V.heap.size + 1, r.toNat, none⟩ = some (.int .i64 ((M : Int) + 1)) := by
          rw [hPq, plcG_get r0 r1, HGS.out, idxG_snoc, HI.out]
          simp [plc1, HLM.out]
        clear hPq
        go_wp2
        generalize hW : w5.setCell ⟨V.heap.size + 1, r.toNat, none⟩ (.int .i64 ((M : Int) + 1)) = W9 at *
        clear hW hV HI HGS HPL HLM HRL HS1 hzP HLZ hPc5 hPf5 hPl5 hgk
        have hgk := hgP
        clear hgP
        have hLo := hL6
        have hP := hP6
        have hb := hb6
        clear hL6 hP6 hb6
        obtain ⟨L, hM6, hil, hLi, hPSS, hL, hN7, hNP7⟩ : ∃ (L : List Ll) (_ : L.length = M + 1) (hil : M < L.length), L[M].ps = [] ∧ (L.map Ll.ps).set M ([] ++ [(k : Int)]) = (grpS xs (k + 1)).map Prod.snd ∧ LsRow W9 V.heap.size (.slice (some ⟨g5, 0, none⟩) (M + 1) c5) L ∧ (L.map Ll.g).Nodup ∧ (∀ x ∈ L, x.g ≠ V.heap.size + 1) :=
          ⟨_, HPSS.out.1, by have := HPSS.out.1; omega, HPSS.out.2.2, HPSS.out.2.1, hLo, hN.out, hNP.out⟩
        clear HPSS hN hNP hlM hLo
        have hN := Lib.hid hN7
        have hNP := Lib.hid hNP7
        have hpl : (L[M]'hil).ps.length < 1000 := by rw [hLi]; simp
        have HVS : Hid ((L.map Ll.ps).set M ((L[M]'hil).ps ++ [(k : Int)]) = (grpS xs (k + 1)).map Prod.snd) := Lib.hid (by rw [hLi]; exact hPSS)
        clear hLi hPSS hN7 hNP7 hln hMb
        generalize hq : (M : Int) + 1 = q at *
        clear hq
        obtain ⟨M2, hM2⟩ : ∃ M2, M + 1 = M2 := ⟨_, rfl⟩
        rw [hM2] at hM6 hL ⊢
        have hlM := Lib.hid hM6
        clear hM6 hM2
        obtain ⟨g2, hg2⟩ : ∃ g2, g5 = g2 := ⟨_, rfl⟩
        obtain ⟨c2, hc2⟩ : ∃ c2, c5 = c2 := ⟨_, rfl⟩
        rw [hg2, hc2] at hL
        rw [hg2] at hgk
        rw [hg2, hc2]
        clear hg2 hc2
        obtain ⟨I, hMi⟩ : ∃ I, I = M := ⟨M, rfl⟩
        subst hMi
      all_goals
        have hV3 := hb.size
        have hgl := Row.lt hL.1 (g := g2) rfl
        have hii : Ints W9.drew V.heap.size (.slice (some ⟨L[I].g, 0, none⟩) L[I].ps.length L[I].c) L[I].ps := hL.2 L[I] (List.getElem_mem hil)
        have hci : W9.cell? ⟨g2, I, none⟩ = some (.slice (some ⟨L[I].g, 0, none⟩) L[I].ps.length L[I].c) := Row.cell hL.1 (k := I) hil
        have hLg : L[I].g < W9.heap.size := (hL.2 L[I] (List.getElem_mem hil)).g_lt.2
        have hPl := (Row.lt hP (g := V.heap.size + 1) rfl).2
        have hM5 : (I : Int) < M2 := by have := hlM.out; omega
        have hg2l := hgl.2
        have hal : L[I].ps.length < 1000000000 := by omega
        have hVd : V.heap.size ≤ W9.drew.heap.size := hV3
        have hLd : LsRow W9.drew V.heap.size (.slice (some ⟨g2, 0, none⟩) L.length c2) L := by rw [hlM.out]; exact hL
        have hPI : L[I].g ≠ V.heap.size + 1 := hNP.out _ (List.getElem_mem hil)
        have hBI : V.heap.size ≤ L[I].g := (hL.2 L[I] (List.getElem_mem hil)).g_lt.1
        have HQ : Hid (gI (plcG xs.length (grpS xs (k + 1))) r = q) := Lib.hid (by
          have h1 := Ints.cellI hP (i := r) r0 (by rw [plcG_length]; exact r1)
          rw [hPc] at h1
          injection h1 with h1
          injection h1 with _ h1
          exact h1.symm)
        have HLd := Lib.hid hLd
        have HPd := Lib.hid hP
        have HBd : Hid (Below V.heap.size V W9.drew) := Lib.hid (hb.trans (below_drewN _ _ 1))
        clear hLd hP hb hL
        go_region_law (refine step_append_int rfl _ _ rfl V.heap.size _ _ L[I].ps (k : Int) hii rfl rfl rfl hal hVd ?_; intro g4 c4 w4 hI4 hg4 hat4; have hg5 : W9.drew.grownBy w4 (some L[I].g) := hg4; have hat5 : some L[I].g = some g4 ∨ W9.drew.heap.size ≤ g4 := hat4; obtain ⟨⟨p1, p2, p3, p4⟩, hL5, hN5, _, _⟩ := LsRow.put HLd.out hN.out hil hg5 hI4 hat5; have hP5 := Row.grown (HPd.out.drew) hg5 (fun q hq e => hPI (by rw [ownBlock_slice] at hq; injection hq with hq; injection e with e; omega)); have hPc5 := Ints.cellI hP5 (i := r) r0 (by rw [plcG_length]; exact r1); rw [HQ.out] at hPc5; have hPl5 := (Row.lt hP5 (g := V.heap.size + 1) rfl).2)
        all_goals
          have hb5 := (HBd.out.grown hg5 hVd (by intro p hp; cases hp; exact hBI)).setCell (p := ⟨g2, I, none⟩) p4 (.slice (some ⟨g4, 0, none⟩) (L[I].ps.length + 1) c4)
          have hP6 := Row.setCell hP5 (p := ⟨g2, I, none⟩) (fun p hp => by rw [ownBlock_slice] at hp; injection hp with hp; show p ≠ g2; omega) (.slice (some ⟨g4, 0, none⟩) (L[I].ps.length + 1) c4)
          have R9 : Hid (∃ (k2 g3 c3 M3 : Nat) (l2 : List Ll), k2 ≤ xs.length ∧ (.slice (some ⟨g2, 0, none⟩) M2 c2 : Value) = .slice (some ⟨g3, 0, none⟩) M3 c3 ∧ (.int .i64 ((k : Int) + 1) : Value) = .int .i64 k2 ∧ Hid (l2.length = M3) ∧ LsRow (w4.setCell ⟨g2, I, none⟩ (.slice (some ⟨g4, 0, none⟩) (L[I].ps.length + 1) c4)) V.heap.size (.slice (some ⟨g3, 0, none⟩) M3 c3) l2 ∧ Hid (l2.map Ll.ps = (grpS xs k2).map Prod.snd) ∧ Hid ((l2.map Ll.g).Nodup) ∧
              Ints (w4.setCell ⟨g2, I, none⟩ (.slice (some ⟨g4, 0, none⟩) (L[I].ps.length + 1) c4)) V.heap.size (.slice (some ⟨V.heap.size + 1, 0, none⟩) xs.length xs.length) (plcG xs.length (grpS xs k2)) ∧ Hid (∀ x ∈ l2, x.g ≠ V.heap.size + 1) ∧ Below V.heap.size V (w4.setCell ⟨g2, I, none⟩ (.slice (some ⟨g4, 0, none⟩) (L[I].ps.length + 1) c4))) := by
            refine Lib.hid ⟨k + 1, g2, c2, M2, L.set I ⟨g4, c4, L[I].ps ++ [(k : Int)]⟩, by omega, rfl, by go_num, Lib.hid (by rw [List.length_set]; exact hlM.out), ?_, Lib.hid ?_, Lib.hid hN5, hP6, Lib.hid ?_, hb5⟩
            · rw [hlM.out] at hL5
              exact hL5
            · rw [List.map_set]
              exact HVS.out
            · intro x hx
              rcases List.mem_or_eq_of_mem_set hx with h | h
              · exact hNP.out x h
              · subst h
                show g4 ≠ V.heap.size + 1
                rcases hat5 with e | e
                · injection e with e
                  omega
                · have : W9.drew.heap.size = W9.heap.size := rfl
                  omega
          clear hb5 hP6 hL5 hN5 hI4 hg4 hat4 hg5 hat5 hP5 hPc5 hPl5 hii hci hPc HQ HLd HPd HBd HVS hN hNP hlM hnw hgk hPI hgl hLg
          go_wp2
          go_roundw
          case rel => exact R9.out
          case measure => simp [intOf]; omega
    · have e : k = xs.length := by omega
      subst e
      have HF : Hid (∀ w', wr = w' → ListsIn w' w.heap.size w'.heap.size (.slice (some ⟨g, 0, none⟩) M c) xss ∧ Below w.heap.size w w' ∧ M = xss.length) := Lib.hid (by
        rintro w' rfl
        have hm : l.map Ll.ps = xss := by rw [hV.out, HX.out]
        have hlx : M = xss.length := by rw [← hm, List.length_map, hlM.out]
        refine ⟨ListsIn.of (hL.le bV.size) hm hN.out (fun x hx => ?_) (by omega) rfl, bnext bV hb, hlx⟩
        rw [← HX.out] at hx
        obtain ⟨a, ha, rfl⟩ := List.mem_map.1 hx
        have := grp_each xs xs.length a ha
        omega)
      clear hL hV hN hb hP hNP j3
      go_wp2
      go_ret2
      obtain ⟨f1, f2, f3⟩ := HF.out _ rfl
      rw [← f3]
      exact ⟨_, c, rfl, f1, f2⟩
end
end Go.Proofs.Ytcfdbjjfdddfeaa
