/-
  What is known at all columns, by the program and by the reference.
-/
import Derived.Test.YtnldahadldolpaaColB
import Derived.Test.YtnldahadldolpaaAppC
import Derived.Test.YtnldahadldolpaaPlAllB
import Derived.Laws.OwnMore
import Derived.StillTailTactics
import Derived.Deep.RegionLaw
namespace Go.Proofs.Ytnldahadldolpaa
open Go.RowKit Knot

theorem apart_rows {w : World} {B1 B2 : Nat} {E T : TypeId} {s1 s2 n1 n2 : Nat} {v u : Value} {xs ys : List Value} (h : w.ownsRow B1 E s1 v n1 xs) (k : w.ownsRow B2 T s2 u n2 ys) (hne : E ≠ T) {g : Nat} (hg : v.ownBlock = some g) : u.ownBlock ≠ some g := by
  intro hu
  rcases h.2 with ⟨rfl, _⟩ | ⟨g1, cap, cur, rfl, _, hh, _⟩
  · simp [Value.ownBlock] at hg
  · rcases k.2 with ⟨rfl, _⟩ | ⟨g2, cap2, cur2, rfl, _, hh2, _⟩
    · simp [Value.ownBlock] at hu
    · simp [Value.ownBlock] at hg hu
      subst hg hu
      rw [hh] at hh2
      injection hh2 with hh2
      injection hh2 with h1 h2 h3
      exact hne h2
/-- A column in memory. -/
structure Cl where
  g : Nat
  c : Nat
  ps : List Int
  cl : Int
def Cl.val (x : Cl) : List Int × Int := (x.ps, x.cl)
def Cl.cells (n : Nat) (x : Cl) : List Value := [.slice (some ⟨x.g, 0, none⟩) n x.c, .int .i64 x.cl]
def ClOk (n : Nat) (w : World) (B : Nat) (x : Cl) : Prop := Ints w B (.slice (some ⟨x.g, 0, none⟩) n x.c) x.ps ∧ x.ps.length = n
/-- A row of columns of n numbers each. -/
def CsRow (n : Nat) (w : World) (B : Nat) (v : Value) (m : Nat) (l : List Cl) : Prop := w.ownsRow B 38 2 v m (l.flatMap (Cl.cells n)) ∧ l.length = m ∧ ∀ x ∈ l, ClOk n w B x
theorem ownsRow_keep {w w' : World} {B : Nat} {E : TypeId} {s n : Nat} {v : Value} {xs : List Value} (h : w.ownsRow B E s v n xs) (hb : ∀ g, v.ownBlock = some g → g < w.heap.size → w'.heap[g]? = w.heap[g]?) : w'.ownsRow B E s v n xs := by
  obtain ⟨h1, h2⟩ := h
  refine ⟨h1, ?_⟩
  rcases h2 with h2 | ⟨g, cap, cur, hv, hg, hh, r⟩
  · exact .inl h2
  · have hgl : g < w.heap.size := (Array.getElem?_eq_some_iff.1 hh).1
    refine .inr ⟨g, cap, cur, hv, hg, ?_, r⟩
    rw [hb g (by rw [hv]; rfl) hgl]
    exact hh
theorem CsRow.below {n : Nat} {w w' : World} {B m : Nat} {v : Value} {l : List Cl} (h : CsRow n w B v m l) (hb : Below w.heap.size w w') : CsRow n w' B v m l :=
  ⟨ownsRow_keep h.1 fun g _ hg => hb.block g hg, h.2.1, fun x hx => ⟨Row.below (h.2.2 x hx).1 hb, (h.2.2 x hx).2⟩⟩
theorem flatC_len (n : Nat) (l : List Cl) : (l.flatMap (Cl.cells n)).length = l.length * 2 := by
  induction l with
  | nil => rfl
  | cons x l ih => simp only [List.flatMap_cons, List.length_append, ih, List.length_cons, Cl.cells, List.length_nil]; omega
theorem flatC_get (n : Nat) (l : List Cl) : ∀ k (h : k < l.length), (l.flatMap (Cl.cells n))[k * 2]? = some (.slice (some ⟨l[k].g, 0, none⟩) n l[k].c) ∧ (l.flatMap (Cl.cells n))[k * 2 + 1]? = some (.int .i64 l[k].cl) := by
  induction l with
  | nil => intro k h; simp at h
  | cons x l ih =>
    intro k h
    cases k with
    | zero => exact ⟨rfl, rfl⟩
    | succ k =>
      have := ih k (by simpa using h)
      have e : (x :: l).flatMap (Cl.cells n) = Value.slice (some ⟨x.g, 0, none⟩) n x.c :: Value.int .i64 x.cl :: l.flatMap (Cl.cells n) := rfl
      rw [e, show (k + 1) * 2 = k * 2 + 1 + 1 by omega, List.getElem?_cons_succ, List.getElem?_cons_succ, show k * 2 + 1 + 1 + 1 = (k * 2 + 1) + 1 + 1 by omega, List.getElem?_cons_succ, List.getElem?_cons_succ]
      simpa using this
theorem CsRow.cell {n : Nat} {w : World} {B g c m : Nat} {l : List Cl} (h : CsRow n w B (.slice (some ⟨g, 0, none⟩) m c) m l) {k : Nat} (hk : k < l.length) : w.cell? ⟨g, k * 2, none⟩ = some (.slice (some ⟨l[k].g, 0, none⟩) n l[k].c) ∧ w.cell? ⟨g, k * 2 + 1, none⟩ = some (.int .i64 l[k].cl) := by
  have h2 := h.2.1
  have h3 := flatC_get n l k hk
  rw [World.ownsRow.cellAt h.1 (k * 2) (by omega), World.ownsRow.cellAt h.1 (k * 2 + 1) (by omega)]
  exact h3
theorem CsRow.snoc {n : Nat} {w w' : World} {B m : Nat} {v v' : Value} {l : List Cl} {x : Cl} (h : CsRow n w B v m l) (hx : ClOk n w B x) (hr : w'.ownsRow B 38 2 v' (m + 1) (l.flatMap (Cl.cells n) ++ Cl.cells n x)) (hg : w.grownBy w' v.ownBlock) : CsRow n w' B v' (m + 1) (l ++ [x]) := by
  refine ⟨?_, by rw [List.length_append, h.2.1]; rfl, fun y hy => ?_⟩
  · rw [List.flatMap_append]
    simpa using hr
  · have hy' : ClOk n w B y := by
      rcases List.mem_append.1 hy with hy | hy
      · exact h.2.2 y hy
      · rw [List.mem_singleton] at hy; rw [hy]; exact hx
    exact ⟨Row.keep hy'.1 fun g hgg hgl => hg.block g hgl (fun e => apart_rows hy'.1 h.1 (by decide) hgg e.symm), hy'.2⟩
theorem info_column : (Try.prog.info? 38).map (fun i => (i.zero, i.size, i.bytes)) = some (some (.agg #[.slice none 0 0, .int .i64 0]), 2, 32) := by kernel_rfl
def colsL (p : Pan) (k : Nat) : List (List Int × Int) := (List.range k).map (colL p)
theorem colsL_succ (p : Pan) (k : Nat) : colsL p (k + 1) = colsL p k ++ [colL p k] := by simp [colsL, List.range_succ]
theorem row_one {n : Nat} {w : World} {x : Cl} {B : Nat} (hx : ClOk n w B x) (hB : B ≤ w.heap.size) : CsRow n (w.alloc (.cells #[.slice (some ⟨x.g, 0, none⟩) n x.c, .int .i64 x.cl] 38)) B (.slice (some ⟨w.heap.size, 0, none⟩) 1 1) 1 [x] := by
  refine ⟨⟨by simp [Cl.cells], .inr ⟨w.heap.size, 1, #[.slice (some ⟨x.g, 0, none⟩) n x.c, .int .i64 x.cl], rfl, hB, heap_alloc_new w _, Nat.le_refl _, by unfold maxLen; omega, rfl, by simp [Cl.cells]⟩⟩, rfl, fun y hy => ?_⟩
  rw [List.mem_singleton] at hy
  rw [hy]
  exact ⟨Row.alloc hx.1 _, hx.2⟩
theorem CsRow.le {n : Nat} {w : World} {B C m : Nat} {v : Value} {l : List Cl} (h : CsRow n w B v m l) (hc : C ≤ B) : CsRow n w C v m l := by
  refine ⟨⟨h.1.1, ?_⟩, h.2.1, fun x hx => ⟨Row.le (h.2.2 x hx).1 hc, (h.2.2 x hx).2⟩⟩
  rcases h.1.2 with h2 | ⟨g, cap, cur, hv, hg, r⟩
  · exact .inl h2
  · exact .inr ⟨g, cap, cur, hv, by omega, r⟩
theorem two_cells (v : Value) (x : Int) (hv : v.oneCell' = true := by rfl) : ∀ u ∈ [v, .int .i64 x], u.oneCell' = true := by
  intro u hu
  simp at hu
  rcases hu with rfl | rfl
  · exact hv
  · rfl
theorem step_append_cells {T E : TypeId} {z : Value} {sz bytes : Nat} (hT : Try.prog.underlying T = some (.slice E)) (hinfo : (Try.prog.info? E).map (fun i => (i.zero, i.size, i.bytes)) = some (some z, sz, bytes)) (hzs : z.cells.size = sz) (hsz : 0 < sz) (hby : bytes ≤ 64)
    {ops : Array Oper} {o : Oper} {a : Act} {K : Act → World → Prop} {Q : Exit → Act → World → Prop} {Ee : Prop} {wr : World} (hgd : o.guard = none) (s x : Operand)
    (ho : o.op = .call { callee := .builtin .append, args := #[s, x], argTypes := #[T, T] })
    (B H n : Nat) (v : Value) (xs : List Value) (news : List Value) (hnl : news.length = sz) (h1 : ∀ u ∈ news, u.oneCell' = true) (hv : wr.ownsRow B E sz v n xs) (hs : a.eval s = v) (hx : a.eval x = .slice (some ⟨H, 0, none⟩) 1 1) (hH : wr.heap.size = H)
    (hlen : n < 1000000000) (hB : B ≤ wr.heap.size)
    (h : ∀ g c w', w'.ownsRow B E sz (.slice (some ⟨g, 0, none⟩) (n + 1) c) (n + 1) (xs ++ news) → wr.grownBy w' v.ownBlock → (v.ownBlock = some g ∨ wr.heap.size ≤ g) →
      K (a.put o.dst (.slice (some ⟨g, 0, none⟩) (n + 1) c)) w') :
    if Region.wanted o (yielded ops a.tmps) = true then Oper.wp Try.prog o a (wr.alloc (.cells news.toArray E)) K Q else Ee := by
  have hw : Region.wanted o (yielded ops a.tmps) = true := by simp [Region.wanted, hgd]
  rw [if_pos hw]
  subst hH
  obtain ⟨i0, hi, hz0, hz1, hz2⟩ := info_parts hinfo
  have hown := World.ownsRow.alloc hv (.cells news.toArray E)
  obtain ⟨v', w', hrun, hown', hgrow, _, hat⟩ := run_append_own_at (P := Try.prog) (w := wr.alloc (.cells news.toArray E)) B T o.type E i0 z sz bytes hT hi hz0 hz1 hz2 hzs hsz v n xs hown ⟨wr.heap.size, 0, none⟩ 1 1 news (by omega)
    (fun j u hu => by
      have hb := Box.new wr E news.toArray
      have hadd : (⟨wr.heap.size, 0, none⟩ : Addr).add j = ⟨wr.heap.size, j, none⟩ := by unfold Addr.add; split <;> simp_all
      rw [hadd, hb.cell j]
      simpa using hu) h1 (by unfold maxLen; omega) (by
      have : (n + 1) * bytes ≤ 1000000000 * 64 := Nat.mul_le_mul (by omega) hby
      omega) (by rw [World.size_alloc]; omega)
  unfold Oper.wp execOp
  simp only [ho, resolve, invoke, builtin, Sem.run_bind, Sem.run_pure, Result.andThen_ok, List.map_toArray, List.map_cons, List.map_nil, hs, hx, hrun]
  rcases hown'.2 with ⟨_, h2⟩ | ⟨g, c, cur, rfl, hg, r⟩
  · omega
  · refine h g c w' hown' ⟨hgrow.os, hgrow.tape, hgrow.output, by have := hgrow.size; rw [World.size_alloc] at this; omega, fun k hk hne => ?_⟩ ?_
    · exact (hgrow.block k (by rw [World.size_alloc]; omega) hne).trans (Below.heap_alloc _ _ _ hk)
    · rcases hat with e | e
      · exact .inl e.symm
      · rw [World.size_alloc] at e
        simp [Value.ownBlock] at e
        exact .inr (by omega)
theorem row_ne_box {α : Type} {enc : α → Value} {E t : TypeId} {w : World} {B k : Nat} {v : Value} {xs : List α} {cs : Array Value} (h : Row enc E w B v xs) (hb : Box w k t cs) (hne : E ≠ t) : ∀ g, v.ownBlock = some g → g ≠ k := by
  intro g hg e
  subst e
  rcases h.2 with ⟨h1, _⟩ | ⟨g', cap, cur, h1, _, hh, _⟩
  · rw [h1] at hg; simp [Value.ownBlock] at hg
  · rw [h1, ownBlock_slice] at hg
    injection hg with hg
    subst hg
    have hb' : w.heap[g']? = some (.cells cs t) := hb
    rw [hb'] at hh
    injection hh with hh
    injection hh with h1 h2
    exact hne h2.symm
theorem CsRow.setBox {n : Nat} {w : World} {B m k i : Nat} {v : Value} {l : List Cl} {cs : Array Value} (h : CsRow n w B v m l) (hb : Box w k 38 cs) (hv : ∀ g, v.ownBlock = some g → g ≠ k) (u : Value) : CsRow n (w.setCell ⟨k, i, none⟩ u) B v m l := by
  refine ⟨ownsRow_keep h.1 fun g hg _ => Below.heap_setCell _ _ _ _ (hv g hg), h.2.1, fun x hx => ⟨Row.setCell (p := ⟨k, i, none⟩) (h.2.2 x hx).1 (row_ne_box (h.2.2 x hx).1 hb (by decide)) u, (h.2.2 x hx).2⟩⟩
set_option maxRecDepth 20000 in
set_option maxHeartbeats 8000000 in
theorem columns_any {w : World} {Bd : Nat} {W : Int} {h : Nat} {v : Value} {B : List Int} (hI : Ints w Bd v B) (hp : Ok ⟨W, (h : Int), B⟩) {K : Nat} (hK : (K : Int) = 2 * W - 1) :
    Calls Try.prog 72 #[.agg #[.int .i64 W, .int .i64 (h : Int), v]] w fun e w' => ∃ g c l, e = .returned (.slice (some ⟨g, 0, none⟩) (K + 1) c) ∧ CsRow (2 * h) w' w.heap.size (.slice (some ⟨g, 0, none⟩) (K + 1) c) (K + 1) l ∧
      l.map Cl.val = colsL ⟨W, (h : Int), B⟩ (K + 1) ∧ Below w.heap.size w w' := by
  obtain ⟨A, cA, rfl, _, _⟩ := hI.open_
  have hcn : colN ⟨W, (h : Int), B⟩ = 2 * h := by unfold colN; simp only []; omega
  have h8 : 1 ≤ h ∧ h ≤ 8 := by have h1 := hp.h1; have h8 := hp.h8; simp only [] at h1 h8; omega
  have hW : 1 ≤ W ∧ W ≤ 8 := ⟨hp.w1, hp.w8⟩
  have HO := Lib.hid hp
  have HCN := Lib.hid hcn
  have HCP : Hid (∀ k, Pairing (2 * h) (colL ⟨W, (h : Int), B⟩ k).1) := Lib.hid (fun k => by rw [← hcn]; exact colL_pair hp k)
  have HCB : Hid (∀ k : Nat, 0 ≤ (colL ⟨W, (h : Int), B⟩ k).2 ∧ (colL ⟨W, (h : Int), B⟩ k).2 ≤ 16 * k) := Lib.hid (fun k => colL_bd hp k)
  have HCS : Hid (∀ k : Nat, colL ⟨W, (h : Int), B⟩ (k + 1) = ((pass (colL ⟨W, (h : Int), B⟩ k).1 (links ⟨W, (h : Int), B⟩ ((k : Int) + 1)) (2 * h)).1, (colL ⟨W, (h : Int), B⟩ k).2 + (pass (colL ⟨W, (h : Int), B⟩ k).1 (links ⟨W, (h : Int), B⟩ ((k : Int) + 1)) (2 * h)).2)) := Lib.hid (fun k => by rw [← hcn]; rfl)
  have HC0 : Hid (colL ⟨W, (h : Int), B⟩ 0 = (nbrsK (2 * h), 0)) := Lib.hid (by rw [← hcn]; rfl)
  have HKK := Lib.hid hK
  have bl := Joins.below_alloc1 w (.cells #[.int .i64 W, .int .i64 (h : Int), .slice A B.length cA] 41)
  have ba := Box.new w 41 #[.int .i64 W, .int .i64 (h : Int), .slice A B.length cA]
  have bl1 := Lib.hid bl
  have HI0 := Lib.hid hI
  have hI1 := Row.below hI bl
  have q0 := ba.cell 0
  have q1 := ba.cell 1
  have q2 := ba.cell 2
  have qn := ba.lt
  simp only [List.getElem?_toArray, List.getElem?_cons_zero, List.getElem?_cons_succ] at q0 q1 q2
  clear hp hcn hI hK
  go_enter Try.func72, Try.ntmps72
  go_wp2_with fail
  refine (neighbours_any (n := 2 * h) (by omega)).mono ?_
  rintro e w2 ⟨D, cD, rfl, hD, hb⟩
  replace ba := ba.below hb
  replace hI1 := Row.below hI1 hb
  replace bl := bnext bl hb
  have s2 := hb.size
  rw [World.size_alloc] at s2
  have hnl : (nbrsK (2 * h)).length = 2 * h := by simp [nbrsK]
  obtain ⟨gd, rfl⟩ : ∃ gd, D = some ⟨gd, 0, none⟩ := by
    rcases hD.1.form with ⟨h1, h2⟩ | ⟨g', c', h1, _⟩
    · have h3 : (nbrsK (2 * h)) = [] := h2
      rw [h3] at hnl
      simp at hnl
      omega
    · injection h1 with h1
      exact ⟨g', h1⟩
  have hx0 : ClOk (2 * h) w2 (w.heap.size + 1) ⟨gd, cD, nbrsK (2 * h), 0⟩ := ⟨Row.le hD.1 (by simp), hnl⟩
  have hl0 := row_one hx0 (by omega)
  have HL0 := Lib.hid hl0
  have hz := Joins.below_alloc1 w2 (.cells #[.slice (some ⟨gd, 0, none⟩) (2 * h) cD, .int .i64 0] 38)
  have HZ : Hid (Below (w.heap.size + 1) (w.alloc (.cells #[.int .i64 W, .int .i64 (h : Int), .slice A B.length cA] 41)) (w2.alloc (.cells #[.slice (some ⟨gd, 0, none⟩) (2 * h) cD, .int .i64 0] 38))) := Lib.hid (by
    have hbb := hb
    rw [World.size_alloc] at hbb
    exact hbb.trans (hz.mono (by omega)))
  have HV0 : Hid ([(⟨gd, cD, nbrsK (2 * h), 0⟩ : Cl)].map Cl.val = colsL ⟨W, (h : Int), B⟩ 1) := Lib.hid (by
    show [(nbrsK (2 * h), (0 : Int))] = [colL ⟨W, (h : Int), B⟩ 0]
    rw [HC0.out])
  have KX : Hid (∀ wr, Below (w.heap.size + 1) (w.alloc (.cells #[.int .i64 W, .int .i64 (h : Int), .slice A B.length cA] 41)) wr → Box wr w.heap.size 41 #[.int .i64 W, .int .i64 (h : Int), .slice A B.length cA] ∧ Ints wr Bd (.slice A B.length cA) B ∧ Below w.heap.size w wr) := Lib.hid (fun wr hb => by
    have hb' : Below (w.alloc (.cells #[.int .i64 W, .int .i64 (h : Int), .slice A B.length cA] 41)).heap.size (w.alloc (.cells #[.int .i64 W, .int .i64 (h : Int), .slice A B.length cA] 41)) wr := by rw [World.size_alloc]; exact hb
    exact ⟨(Box.new w 41 #[.int .i64 W, .int .i64 (h : Int), .slice A B.length cA]).below hb', Row.below (Row.below HI0.out bl1.out) hb', bnext bl1.out hb'⟩)
  have ba3 := ba.below hz
  clear q0 q1 q2 qn
  have q0 := ba3.cell 0
  have q1 := ba3.cell 1
  have q2 := ba3.cell 2
  have qn := ba3.lt
  simp only [List.getElem?_toArray, List.getElem?_cons_zero, List.getElem?_cons_succ] at q0 q1 q2
  clear hb hx0 hl0 hz ba ba3 hI1 bl hD hnl
  go_wp2
  clear q0 q1 q2 qn
  go_loopw [3, 15] (fun s3 s15 wr => ∃ (k g c : Nat) (l : List Cl), k ≤ K ∧ s3 = .slice (some ⟨g, 0, none⟩) (k + 1) c ∧ s15 = .int .i64 k ∧ CsRow (2 * h) wr (w.heap.size + 1) (.slice (some ⟨g, 0, none⟩) (k + 1) c) (k + 1) l ∧ Hid (l.map Cl.val = colsL ⟨W, (h : Int), B⟩ (k + 1)) ∧ Below (w.heap.size + 1) (w.alloc (.cells #[.int .i64 W, .int .i64 (h : Int), .slice A B.length cA] 41)) wr) (fun _ s15 _ => K + 1 - (intOf s15).toNat)
  case atStart => exact ⟨0, _, _, _, Nat.zero_le _, rfl, rfl, HL0.out, HV0, HZ.out⟩
  case round =>
    obtain ⟨k, g, c, l, hk, rfl, rfl, hl, hv, hb⟩ := hrel
    obtain ⟨ba, hI1, bl⟩ := KX.out _ hb
    have hKv := HKK.out
    obtain ⟨m, hm⟩ : ∃ m, k + 1 = m := ⟨_, rfl⟩
    have HM := Lib.hid hm
    have hkm : (k : Int) < (m : Int) := by omega
    have hkm2 : k < m := by omega
    rw [hm] at hl
    rw [hm]
    by_cases hlt : k < K
    · have hi1 : (k : Int) < 2 * W - 1 := by omega
      have hll := hl.2.1
      have hkl : k < l.length := by omega
      have hcell := hl.cell (k := k) hkl
      have hxk := hl.2.2 l[k] (List.getElem_mem hkl)
      have hvk : l[k].val = colL ⟨W, (h : Int), B⟩ k := by
        have e1 : (l.map Cl.val)[k]? = (colsL ⟨W, (h : Int), B⟩ (k + 1))[k]? := by rw [hv.out]
        rw [List.getElem?_map, List.getElem?_eq_getElem (show k < l.length by have := hl.2.1; omega)] at e1
        simp [colsL, List.getElem?_range] at e1
        exact e1
      obtain ⟨x, hx⟩ : ∃ x, l[k] = x := ⟨_, rfl⟩
      rw [hx] at hcell hxk hvk
      have hps : x.ps = (colL ⟨W, (h : Int), B⟩ k).1 := congrArg Prod.fst hvk
      have hcl : x.cl = (colL ⟨W, (h : Int), B⟩ k).2 := congrArg Prod.snd hvk
      have HPX : Hid (Pairing (colN ⟨W, (h : Int), B⟩) x.ps) := Lib.hid (by rw [HCN.out, hps]; exact HCP.out k)
      have HXX : Hid (0 < (k : Int) + 1 ∧ (k : Int) + 1 < 2 * W) := Lib.hid (by omega)
      have HCC : Hid (0 ≤ x.cl ∧ x.cl ≤ 100000) := Lib.hid (by rw [hcl]; have := HCB.out k; omega)
      obtain ⟨R, hR⟩ : ∃ R, pass x.ps (links ⟨W, (h : Int), B⟩ ((k : Int) + 1)) (colN ⟨W, (h : Int), B⟩) = R := ⟨_, rfl⟩
      have HNX : Hid (colL ⟨W, (h : Int), B⟩ (k + 1) = (R.1, x.cl + R.2)) := Lib.hid (by rw [HCS.out, ← hps, ← hcl, ← hR, HCN.out])
      have HR := Lib.hid hR
      obtain ⟨c0, c1⟩ := hcell
      have gl := (World.ownsRow.lt hl.1 g rfl).2
      have q0 := ba.cell 0
      have q1 := ba.cell 1
      have q2 := ba.cell 2
      have qn := ba.lt
      simp only [List.getElem?_toArray, List.getElem?_cons_zero, List.getElem?_cons_succ] at q0 q1 q2
      have hxi := hxk.1
      clear hvk hps hcl hR hx hll hm hkl
      have hrow := hl.1
      have HL := Lib.hid hl
      generalize hVV : wr = V at *
      clear hVV
      have KB : Hid (∀ w', Below V.heap.size V w' → Ints w' Bd (.slice A B.length cA) B ∧ Ints w' (w.heap.size + 1) (.slice (some ⟨x.g, 0, none⟩) (2 * h) x.c) x.ps) := Lib.hid (fun w' hb => ⟨Row.below hI1 hb, Row.below hxi hb⟩)
      have HBB := Lib.hid hb
      have hVs : w.heap.size + 1 ≤ V.heap.size := by have := hb.size; rw [World.size_alloc] at this; omega
      have hg1 := (World.ownsRow.lt hrow g rfl).1
      have q0' : V.drew.cell? ⟨w.heap.size, 0, none⟩ = some (.int .i64 W) := q0
      have q1' : V.drew.cell? ⟨w.heap.size, 1, none⟩ = some (.int .i64 (h : Int)) := q1
      have q2' : V.drew.cell? ⟨w.heap.size, 2, none⟩ = some (.slice A B.length cA) := q2
      have c0' : V.drew.cell? ⟨g, k * 2, none⟩ = some (.slice (some ⟨x.g, 0, none⟩) (2 * h) x.c) := c0
      have c1' : V.drew.cell? ⟨g, k * 2 + 1, none⟩ = some (.int .i64 x.cl) := c1
      have qn' : w.heap.size < V.drew.heap.size := qn
      have gl' : g < V.drew.heap.size := gl
      have hmb : m < 1000000000 := by have := hv.out; have h1 := congrArg List.length this; simp [colsL] at h1; have := HM.out; omega
      clear hI1 hxi hl hrow ba hb bl
      go_wp2
      go_region_law (first
        | (refine step_append_cells Try.underlying51 info_column (by decide) (by decide) (by decide) rfl _ _ rfl (w.heap.size + 1) w5.heap.size m _ (l.flatMap (Cl.cells (2 * h))) _ rfl (two_cells _ _) hl6.1 rfl rfl rfl hmb hs5 ?_; intro g6 c6 w6 hr6 hgr6 hat6; have hB6 := (HBB.out.trans (hBn.mono hVs)).grown hgr6 hs5 (fun i hi => (World.ownsRow.lt hl6.1 i hi).1); have hl7 := CsRow.snoc hl6 hx6 hr6 hgr6)
        | (go_simp; go_at_call 81; (with_reducible refine (nextColumn_any (KB.out _ cut_drew).1 HO.out HXX.out (KB.out _ cut_drew).2 HPX.out HCN.out HCC.out HR.out).mono ?_); rintro e w5 ⟨g5, c5, rfl, hg5, hl5, hb5⟩; have hBn := bnext (w := V) cut_drew hb5; have hl6 := HL.out.below hBn; have hs5 : w.heap.size + 1 ≤ w5.heap.size := Nat.le_trans hVs hBn.size; have hx6 : ClOk (2 * h) w5 (w.heap.size + 1) ⟨g5, c5, R.1, x.cl + R.2⟩ := ⟨Row.le hg5 hVs, hl5⟩))
      all_goals
        have HV2 : Hid ((l ++ [(⟨g5, c5, R.1, x.cl + R.2⟩ : Cl)]).map Cl.val = colsL ⟨W, (h : Int), B⟩ (k + 1 + 1)) := Lib.hid (by
          rw [List.map_append, hv.out, colsL_succ ⟨W, (h : Int), B⟩ (k + 1), HNX.out]
          rfl)
        have R9 : Hid (∃ (k2 g c : Nat) (l2 : List Cl), k2 ≤ K ∧ (.slice (some ⟨g6, 0, none⟩) (m + 1) c6 : Value) = .slice (some ⟨g, 0, none⟩) (k2 + 1) c ∧ (.int .i64 ((k : Int) + 1) : Value) = .int .i64 k2 ∧ CsRow (2 * h) w6 (w.heap.size + 1) (.slice (some ⟨g, 0, none⟩) (k2 + 1) c) (k2 + 1) l2 ∧ Hid (l2.map Cl.val = colsL ⟨W, (h : Int), B⟩ (k2 + 1)) ∧ Below (w.heap.size + 1) (w.alloc (.cells #[.int .i64 W, .int .i64 (h : Int), .slice A B.length cA] 41)) w6) :=
          Lib.hid ⟨k + 1, g6, c6, l ++ [⟨g5, c5, R.1, x.cl + R.2⟩], by omega, by rw [HM.out], by go_num, by rw [HM.out]; exact hl7, HV2, hB6⟩
        clear hl7 hB6 hr6 hgr6 hat6 hl6 hx6 hg5 hb5 hBn
        go_wp2
        go_roundw
        case rel => exact R9.out
        case measure => simp [intOf]; omega
    · have e : k = K := by omega
      subst e
      have hfin : CsRow (2 * h) wr w.heap.size (.slice (some ⟨g, 0, none⟩) (k + 1) c) (k + 1) l := by rw [← hm] at hl; exact hl.le (by omega)
      have hi1 : ¬ (k : Int) < 2 * W - 1 := by omega
      have HF := Lib.hid hfin
      clear hl hfin hI1 ba
      rw [← hm]
      clear hm HM hkm hkm2
      go_wp2
      go_ret
      first
        | exact ⟨g, c, l, rfl, HF.out, hv.out, bl⟩
        | exact ⟨g, c, rfl, l, HF.out, hv.out, bl⟩
set_option maxRecDepth 20000 in
set_option maxHeartbeats 8000000 in
theorem l09All_any {w : World} {b Bd : Nat} {W : Int} {h : Nat} {v : Value} {B : List Int} (ba : Box w b 41 #[.int .i64 W, .int .i64 (h : Int), v]) (hI : Ints w Bd v B) (hp : Ok ⟨W, (h : Int), B⟩) {K : Nat} (hK : (K : Int) = 2 * W - 1) :
    Calls Try.prog 70 #[.pointer (some ⟨b, 0, none⟩)] w fun e w' => ∃ g c l, e = .returned (.slice (some ⟨g, 0, none⟩) (K + 1) c) ∧ CsRow (2 * h) w' w.heap.size (.slice (some ⟨g, 0, none⟩) (K + 1) c) (K + 1) l ∧
      l.map Cl.val = colsL ⟨W, (h : Int), B⟩ (K + 1) ∧ Below w.heap.size w w' := by
  have hcn : colN ⟨W, (h : Int), B⟩ = 2 * h := by unfold colN; simp only []; omega
  have h8 : 1 ≤ h ∧ h ≤ 8 := by have h1 := hp.h1; have h8 := hp.h8; simp only [] at h1 h8; omega
  have hW : 1 ≤ W ∧ W ≤ 8 := ⟨hp.w1, hp.w8⟩
  have HO := Lib.hid hp
  have HCN := Lib.hid hcn
  have HCP : Hid (∀ k, Pairing (2 * h) (colL ⟨W, (h : Int), B⟩ k).1) := Lib.hid (fun k => by rw [← hcn]; exact colL_pair hp k)
  have HCB : Hid (∀ k : Nat, 0 ≤ (colL ⟨W, (h : Int), B⟩ k).2 ∧ (colL ⟨W, (h : Int), B⟩ k).2 ≤ 16 * k) := Lib.hid (fun k => colL_bd hp k)
  have HCS : Hid (∀ k : Nat, colL ⟨W, (h : Int), B⟩ (k + 1) = ((pass (colL ⟨W, (h : Int), B⟩ k).1 (links ⟨W, (h : Int), B⟩ ((k : Int) + 1)) (2 * h)).1, (colL ⟨W, (h : Int), B⟩ k).2 + (pass (colL ⟨W, (h : Int), B⟩ k).1 (links ⟨W, (h : Int), B⟩ ((k : Int) + 1)) (2 * h)).2)) := Lib.hid (fun k => by rw [← hcn]; rfl)
  have HC0 : Hid (colL ⟨W, (h : Int), B⟩ 0 = (nbrsK (2 * h), 0)) := Lib.hid (by rw [← hcn]; rfl)
  have HKK := Lib.hid hK
  have hbl := ba.lt
  have KX : Hid (∀ wr, Below w.heap.size w wr → Box wr b 41 #[.int .i64 W, .int .i64 (h : Int), v] ∧ Ints wr Bd v B) := Lib.hid (fun wr hb => ⟨ba.below hb, Row.below hI hb⟩)
  have q0 := ba.cell 0
  have q1 := ba.cell 1
  have qn := ba.lt
  simp only [List.getElem?_toArray, List.getElem?_cons_zero, List.getElem?_cons_succ] at q0 q1
  have hh8 : (h : Int) ≤ 8 := by omega
  clear hp hcn hI hK ba
  go_enter Try.func70, Try.ntmps70
  go_wp2_with fail
  refine (l09First_any (h := h) (by omega)).mono ?_
  rintro e w2 ⟨D, cD, rfl, hD, hb⟩
  have s2 := hb.size
  have hnl : (nbrsK (2 * h)).length = 2 * h := by simp [nbrsK]
  obtain ⟨gd, rfl⟩ : ∃ gd, D = some ⟨gd, 0, none⟩ := by
    rcases hD.1.form with ⟨h1, h2⟩ | ⟨g', c', h1, _⟩
    · have h3 : (nbrsK (2 * h)) = [] := h2
      rw [h3] at hnl
      simp at hnl
      omega
    · injection h1 with h1
      exact ⟨g', h1⟩
  have hx0 : ClOk (2 * h) w2 w.heap.size ⟨gd, cD, nbrsK (2 * h), 0⟩ := ⟨hD.1, hnl⟩
  have hx1 : ClOk (2 * h) (w2.alloc (.cells #[.slice (some ⟨gd, 0, none⟩) (2 * h) cD, .int .i64 0] 38)) w.heap.size ⟨gd, cD, nbrsK (2 * h), 0⟩ := ⟨Row.alloc hx0.1 _, hx0.2⟩
  have bo := Box.new w2 38 #[.slice (some ⟨gd, 0, none⟩) (2 * h) cD, .int .i64 0]
  have hz := Joins.below_alloc1 w2 (.cells #[.slice (some ⟨gd, 0, none⟩) (2 * h) cD, .int .i64 0] 38)
  have hb1 := bnext hb hz
  have HB1 := Lib.hid hb1
  obtain ⟨pb, hpb⟩ : ∃ pb, w2.heap.size = pb := ⟨_, rfl⟩
  rw [hpb] at bo
  clear q0 q1 qn hD hb hz hx0
  go_wp2
  try rw [hpb]
  generalize hV : w2.alloc (.cells #[.slice (some ⟨gd, 0, none⟩) (2 * h) cD, .int .i64 0] 38) = V at *
  have hVs : V.heap.size = pb + 1 := by rw [← hV, World.size_alloc, hpb]
  clear hV
  have hl0 := row_one hx1 (show w.heap.size ≤ V.heap.size by omega)
  rw [hVs] at hl0
  have bo1 := bo.alloc (.cells #[.slice (some ⟨gd, 0, none⟩) (2 * h) cD, .int .i64 0] 38)
  have hz1 := Joins.below_alloc1 V (.cells #[.slice (some ⟨gd, 0, none⟩) (2 * h) cD, .int .i64 0] 38)
  have hb2 := bnext hb1 hz1
  have hx2 : ClOk (2 * h) (V.alloc (.cells #[.slice (some ⟨gd, 0, none⟩) (2 * h) cD, .int .i64 0] 38)) w.heap.size ⟨gd, cD, nbrsK (2 * h), 0⟩ := ⟨Row.alloc hx1.1 _, hx1.2⟩
  have HV0 : Hid ([(⟨gd, cD, nbrsK (2 * h), 0⟩ : Cl)].map Cl.val = colsL ⟨W, (h : Int), B⟩ 1) := Lib.hid (by
    show [(nbrsK (2 * h), (0 : Int))] = [colL ⟨W, (h : Int), B⟩ 0]
    rw [HC0.out])
  have HV1 : Hid ((⟨gd, cD, nbrsK (2 * h), 0⟩ : Cl).val = colL ⟨W, (h : Int), B⟩ ((0 : Nat) : Int).toNat) := Lib.hid (by
    show (nbrsK (2 * h), (0 : Int)) = colL ⟨W, (h : Int), B⟩ 0
    rw [HC0.out])
  have HVN : Hid (pb + 1 ≠ pb ∧ w.heap.size ≤ pb) := Lib.hid (by omega)
  have HST := Lib.hid (And.intro hl0 (And.intro bo1 (And.intro hb2 hx2)))
  clear hl0 bo1 hz1 hb2 hx2 hx1 bo hb1 hpb
  go_loopw [4, 5] (fun s4 s5 wr => ∃ (k g c : Nat) (l : List Cl) (x : Cl), k ≤ K ∧ s4 = .slice (some ⟨g, 0, none⟩) (k + 1) c ∧ s5 = .int .i64 k ∧ CsRow (2 * h) wr w.heap.size (.slice (some ⟨g, 0, none⟩) (k + 1) c) (k + 1) l ∧ Hid (l.map Cl.val = colsL ⟨W, (h : Int), B⟩ (k + 1)) ∧ ClOk (2 * h) wr w.heap.size x ∧ Hid (x.val = colL ⟨W, (h : Int), B⟩ k) ∧
      Box wr pb 38 #[.slice (some ⟨x.g, 0, none⟩) (2 * h) x.c, .int .i64 x.cl] ∧ g ≠ pb ∧ Below w.heap.size w wr) (fun _ s5 _ => K + 1 - (intOf s5).toNat)
  case atStart => exact ⟨0, pb + 1, 1, _, ⟨gd, cD, nbrsK (2 * h), 0⟩, Nat.zero_le _, rfl, rfl, HST.out.1, HV0, HST.out.2.2.2, HV1, HST.out.2.1, HVN.out.1, HST.out.2.2.1⟩
  case round =>
    obtain ⟨k, g, c, l, x, hk, rfl, rfl, hl, hv, hxk, hvk, bo, hgp, hb⟩ := hrel
    obtain ⟨ba, hI1⟩ := KX.out _ hb
    have hKv := HKK.out
    have hpbw := HVN.out.2
    by_cases hlt : k < K
    · have hi1 : (k : Int) < 2 * W - 1 := by omega
      have hps : x.ps = (colL ⟨W, (h : Int), B⟩ k).1 := congrArg Prod.fst hvk.out
      have hcl : x.cl = (colL ⟨W, (h : Int), B⟩ k).2 := congrArg Prod.snd hvk.out
      have HPX : Hid (Pairing (colN ⟨W, (h : Int), B⟩) x.ps) := Lib.hid (by rw [HCN.out, hps]; exact HCP.out k)
      have HXX : Hid (0 < (k : Int) + 1 ∧ (k : Int) + 1 < 2 * W) := Lib.hid (by omega)
      have HCC : Hid (0 ≤ x.cl ∧ x.cl ≤ 100000) := Lib.hid (by rw [hcl]; have := HCB.out k; omega)
      obtain ⟨R, hR⟩ : ∃ R, pass x.ps (links ⟨W, (h : Int), B⟩ ((k : Int) + 1)) (colN ⟨W, (h : Int), B⟩) = R := ⟨_, rfl⟩
      have HNX : Hid (colL ⟨W, (h : Int), B⟩ (k + 1) = (R.1, x.cl + R.2)) := Lib.hid (by rw [HCS.out, ← hps, ← hcl, ← hR, HCN.out])
      have HR := Lib.hid hR
      have hxi := hxk.1
      have q0 := ba.cell 0
      have q1 := ba.cell 1
      have qn := ba.lt
      have o0 := bo.cell 0
      have o1 := bo.cell 1
      have on := bo.lt
      simp only [List.getElem?_toArray, List.getElem?_cons_zero, List.getElem?_cons_succ] at q0 q1 o0 o1
      clear hps hcl hR hxk
      go_wp2_with fail
      refine (l09Next_any ba hI1 HO.out HXX.out hxi HPX.out HCN.out HCC.out HR.out).mono ?_
      rintro e w5 ⟨g5, rfl, hg5, hl5, hb5⟩
      have hs5 := hb5.size
      have hws := hb.size
      replace bo := bo.below hb5
      replace hl := hl.below hb5
      replace hb := bnext hb hb5
      clear hb5 q0 q1 qn o0 o1 on hxi ba hI1
      have o0 := bo.cell 0
      have o1 := bo.cell 1
      have of0 := bo.free 0
      have of1 := bo.free 1
      have on := bo.lt
      simp only [List.getElem?_toArray, List.getElem?_cons_zero, List.getElem?_cons_succ] at o0 o1
      have hx5 : ClOk (2 * h) w5 w.heap.size ⟨g5, 2 * h, R.1, x.cl + R.2⟩ := ⟨Row.le hg5 (by omega), hl5⟩
      have hgo : ∀ g' : Nat, (Value.slice (some ⟨g, 0, none⟩) (k + 1) c).ownBlock = some g' → g' ≠ pb := fun g' hg' => by rw [ownBlock_slice] at hg'; injection hg' with hg'; rw [← hg']; exact hgp
      have b1 := bo.set_ 0 (.slice (some ⟨g5, 0, none⟩) (2 * h) (2 * h))
      have hl6 := (hl.setBox (i := 0) bo hgo (.slice (some ⟨g5, 0, none⟩) (2 * h) (2 * h))).setBox (i := 1) b1 hgo (.int .i64 (x.cl + R.2))
      have hxr : Ints ((w5.setCell ⟨pb, 0, none⟩ (.slice (some ⟨g5, 0, none⟩) (2 * h) (2 * h))).setCell ⟨pb, 1, none⟩ (.int .i64 (x.cl + R.2))) w.heap.size (.slice (some ⟨g5, 0, none⟩) (2 * h) (2 * h)) R.1 :=
        Row.setCell (p := ⟨pb, 1, none⟩) (Row.setCell (p := ⟨pb, 0, none⟩) hx5.1 (row_ne_box hx5.1 bo (by decide)) _) (row_ne_box hx5.1 bo (by decide)) _
      have bo6 : Box ((w5.setCell ⟨pb, 0, none⟩ (.slice (some ⟨g5, 0, none⟩) (2 * h) (2 * h))).setCell ⟨pb, 1, none⟩ (.int .i64 (x.cl + R.2))) pb 38 #[.slice (some ⟨g5, 0, none⟩) (2 * h) (2 * h), .int .i64 (x.cl + R.2)] := by simpa using b1.set_ 1 (.int .i64 (x.cl + R.2))
      have hb6 := (hb.setCell (p := ⟨pb, 0, none⟩) hpbw (.slice (some ⟨g5, 0, none⟩) (2 * h) (2 * h))).setCell (p := ⟨pb, 1, none⟩) hpbw (.int .i64 (x.cl + R.2))
      have hlk := hl.2.1
      have hl5' := hl5
      clear hl hb bo b1 hg5 hl5 hx5
      have hmb : k + 1 < 1000000000 := by omega
      have hB6 : w.heap.size ≤ ((w5.setCell ⟨pb, 0, none⟩ (.slice (some ⟨g5, 0, none⟩) (2 * h) (2 * h))).setCell ⟨pb, 1, none⟩ (.int .i64 (x.cl + R.2))).heap.size := by rw [World.size_setCell, World.size_setCell]; omega
      have hxc : ClOk (2 * h) ((w5.setCell ⟨pb, 0, none⟩ (.slice (some ⟨g5, 0, none⟩) (2 * h) (2 * h))).setCell ⟨pb, 1, none⟩ (.int .i64 (x.cl + R.2))) w.heap.size ⟨g5, 2 * h, R.1, x.cl + R.2⟩ := ⟨hxr, hl5'⟩
      go_wp2_with (at_builtin; refine append_cells Try.underlying51 info_column (by decide) (by decide) (by decide) rfl _ _ rfl w.heap.size w5.heap.size (k + 1) _ (l.flatMap (Cl.cells (2 * h))) _ rfl (two_cells _ _) hl6.1 rfl rfl (by simp) hmb hB6 ?_)
      intro g7 c7 w7 hr7 hgr7 hat7
      have hl7 := CsRow.snoc hl6 hxc hr7 hgr7
      have hb7 : Below w.heap.size w w7 := hb6.grown hgr7 hB6 (fun i hi => (World.ownsRow.lt hl6.1 i hi).1)
      have bo7 := bo6.grown hgr7 (fun e => hgp (by rw [ownBlock_slice] at e; injection e with e; exact e.symm))
      have hx7 : ClOk (2 * h) w7 w.heap.size ⟨g5, 2 * h, R.1, x.cl + R.2⟩ := ⟨Row.keep hxr fun q hq hql => hgr7.block q hql (fun e => apart_rows hxr hl6.1 (by decide) hq e.symm), hxc.2⟩
      have hg7 : g7 ≠ pb := by
        rcases hat7 with e | e
        · rw [ownBlock_slice] at e; injection e with e; rw [← e]; exact hgp
        · try rw [World.size_setCell, World.size_setCell] at e
          omega
      have HV2 : Hid ((l ++ [(⟨g5, 2 * h, R.1, x.cl + R.2⟩ : Cl)]).map Cl.val = colsL ⟨W, (h : Int), B⟩ (k + 1 + 1)) := Lib.hid (by
        rw [List.map_append, hv.out, colsL_succ ⟨W, (h : Int), B⟩ (k + 1), HNX.out]
        rfl)
      have HV3 : Hid ((⟨g5, 2 * h, R.1, x.cl + R.2⟩ : Cl).val = colL ⟨W, (h : Int), B⟩ (k + 1)) := Lib.hid (by rw [HNX.out]; rfl)
      have R9 : Hid (∃ (k2 g c : Nat) (l2 : List Cl) (x2 : Cl), k2 ≤ K ∧ (.slice (some ⟨g7, 0, none⟩) (k + 1 + 1) c7 : Value) = .slice (some ⟨g, 0, none⟩) (k2 + 1) c ∧ (.int .i64 ((k : Int) + 1) : Value) = .int .i64 k2 ∧ CsRow (2 * h) w7 w.heap.size (.slice (some ⟨g, 0, none⟩) (k2 + 1) c) (k2 + 1) l2 ∧ Hid (l2.map Cl.val = colsL ⟨W, (h : Int), B⟩ (k2 + 1)) ∧ ClOk (2 * h) w7 w.heap.size x2 ∧ Hid (x2.val = colL ⟨W, (h : Int), B⟩ k2) ∧
          Box w7 pb 38 #[.slice (some ⟨x2.g, 0, none⟩) (2 * h) x2.c, .int .i64 x2.cl] ∧ g ≠ pb ∧ Below w.heap.size w w7) :=
        Lib.hid ⟨k + 1, g7, c7, l ++ [⟨g5, 2 * h, R.1, x.cl + R.2⟩], ⟨g5, 2 * h, R.1, x.cl + R.2⟩, by omega, rfl, by go_num, hl7, HV2, hx7, HV3, bo7, hg7, hb7⟩
      clear hl7 hb7 bo7 hx7 hg7 hr7 hgr7 hat7 hl6 hxr bo6 hb6 hxc hB6 o0 o1 of0 of1 on
      go_wp2
      go_roundw
      case rel => exact R9.out
      case measure => simp [intOf]; omega
    · have e : k = K := by omega
      subst e
      have hi1 : ¬ (k : Int) < 2 * W - 1 := by omega
      have q0 := ba.cell 0
      have qn := ba.lt
      simp only [List.getElem?_toArray, List.getElem?_cons_zero, List.getElem?_cons_succ] at q0
      have HF := Lib.hid hl
      clear hl hI1 ba bo hxk
      go_wp2
      go_ret
      first
        | exact ⟨g, c, l, rfl, HF.out, hv.out, hb⟩
        | exact ⟨g, c, rfl, l, HF.out, hv.out, hb⟩
end Go.Proofs.Ytnldahadldolpaa
