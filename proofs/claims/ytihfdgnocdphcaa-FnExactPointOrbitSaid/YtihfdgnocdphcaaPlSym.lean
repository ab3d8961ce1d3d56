/-
  Plain mathematics: Sym. No program is in sight.
-/
import Derived.Test.YtihfdgnocdphcaaPlCls
import Derived.Test.YtihfdgnocdphcaaPlMapb
namespace Knot

/-! ### Symmetries move panels as they are composed; they keep the number of curves -/

theorem sym_cases {s : Int} (s0 : 0 ≤ s) (s7 : s ≤ 7) : s = 0 ∨ s = 1 ∨ s = 2 ∨ s = 3 ∨ s = 4 ∨ s = 5 ∨ s = 6 ∨ s = 7 := by omega
def exchK (a b : Int) : Int := if b < 4 then a else a / 4 * 4 + a % 2 * 2 + a / 2 % 2
def compK (a b : Int) : Int := (((exchK a b).toNat ^^^ b.toNat : Nat) : Int)
theorem compK_bd {a b : Int} (a0 : 0 ≤ a) (a7 : a ≤ 7) (b0 : 0 ≤ b) (b7 : b ≤ 7) : 0 ≤ compK a b ∧ compK a b ≤ 7 := by
  rcases sym_cases a0 a7 with rfl | rfl | rfl | rfl | rfl | rfl | rfl | rfl <;> rcases sym_cases b0 b7 with rfl | rfl | rfl | rfl | rfl | rfl | rfl | rfl <;> decide
/-- The symmetry that leads back. -/
def invK (a : Int) : Int := exchK a a
theorem invK_bd {a : Int} (a0 : 0 ≤ a) (a7 : a ≤ 7) : (0 ≤ invK a ∧ invK a ≤ 7) ∧ compK a (invK a) = 0 ∧ compK (invK a) a = 0 := by
  rcases sym_cases a0 a7 with rfl | rfl | rfl | rfl | rfl | rfl | rfl | rfl <;> decide

theorem mapX_comp (W H x y : Int) {a b : Int} (a0 : 0 ≤ a) (a7 : a ≤ 7) (b0 : 0 ≤ b) (b7 : b ≤ 7) :
    mapX (mapW W H a) (mapH W H a) (mapX W H x y a).1 (mapX W H x y a).2 b = mapX W H x y (compK a b) ∧ mapW (mapW W H a) (mapH W H a) b = mapW W H (compK a b) ∧ mapH (mapW W H a) (mapH W H a) b = mapH W H (compK a b) := by
  rcases sym_cases a0 a7 with rfl | rfl | rfl | rfl | rfl | rfl | rfl | rfl <;> rcases sym_cases b0 b7 with rfl | rfl | rfl | rfl | rfl | rfl | rfl | rfl <;>
    simp [mapX, mapW, mapH, compK, exchK] <;> omega
theorem kindX_comp {k : Int} {a b : Int} (a0 : 0 ≤ a) (a7 : a ≤ 7) (b0 : 0 ≤ b) (b7 : b ≤ 7) (hk : 0 ≤ k ∧ k ≤ 2) : kindX (kindX k a) b = kindX k (compK a b) := by
  rcases (show k = 0 ∨ k = 1 ∨ k = 2 by omega) with rfl | rfl | rfl <;>
  rcases sym_cases a0 a7 with rfl | rfl | rfl | rfl | rfl | rfl | rfl | rfl <;> rcases sym_cases b0 b7 with rfl | rfl | rfl | rfl | rfl | rfl | rfl | rfl <;> decide
theorem mapX_zero (W H x y : Int) : mapX W H x y 0 = (x, y) := by simp [mapX]

/-- Points are moved into the moved panel; edges to edges. -/
theorem mapX_has {p q : Pan} {s : Int} (hW : q.W = mapW p.W p.H s) (hH : q.H = mapH p.W p.H s) (s0 : 0 ≤ s) (s7 : s ≤ 7) {x y : Int} : (Has p x y ↔ Has q (mapX p.W p.H x y s).1 (mapX p.W p.H x y s).2) ∧ (Edge p x y ↔ Edge q (mapX p.W p.H x y s).1 (mapX p.W p.H x y s).2) := by
  unfold Has Edge
  rw [hW, hH]
  rcases sym_cases s0 s7 with rfl | rfl | rfl | rfl | rfl | rfl | rfl | rfl <;> simp [mapX, mapW, mapH] <;> omega
theorem mapX_inj {W H x y x' y' s : Int} (s0 : 0 ≤ s) (s7 : s ≤ 7) (h : mapX W H x y s = mapX W H x' y' s) : x = x' ∧ y = y' := by
  rcases sym_cases s0 s7 with rfl | rfl | rfl | rfl | rfl | rfl | rfl | rfl <;> simp [mapX] at h <;> omega

section
variable {p : Pan} (hp : Ok p) {s : Int} (s0 : 0 ≤ s) (s7 : s ≤ 7)
include hp s0 s7

theorem mapN_pt {k : Int} (k0 : 0 ≤ k) (k1 : k < p.B.length) :
    (0 ≤ mapN p.W p.H s k ∧ mapN p.W p.H s k < p.B.length) ∧ ptX (mapW p.W p.H s) (mapN p.W p.H s k) = (mapX p.W p.H (ptX p.W k) (ptY p.W k) s).1 ∧ ptY (mapW p.W p.H s) (mapN p.W p.H s k) = (mapX p.W p.H (ptX p.W k) (ptY p.W k) s).2 := by
  have hl := hp.len
  have hk : k < inner p.W p.H := by omega
  obtain ⟨a, b, c, d, e⟩ := pt_in hp.w1 hp.w8 k0 hk
  obtain ⟨a', b', c', d', e'⟩ := mapX_in a b c d e s0 s7
  have hb := mapW_bd (s := s) ⟨hp.w1, hp.w8⟩ ⟨hp.h1, hp.h8⟩
  obtain ⟨r1, r2, r3, r4⟩ := num_pt (H := mapH p.W p.H s) hb.1.1 hb.1.2 c' d' a' b' e'
  have hin := mapN_in ⟨hp.w1, hp.w8⟩ ⟨hp.h1, hp.h8⟩ s0 s7 k0 hk
  exact ⟨⟨hin.1, by omega⟩, r3, r4⟩
theorem mapN_inj {j k : Int} (j0 : 0 ≤ j) (j1 : j < p.B.length) (k0 : 0 ≤ k) (k1 : k < p.B.length) (h : mapN p.W p.H s j = mapN p.W p.H s k) : j = k := by
  obtain ⟨_, a1, a2⟩ := mapN_pt hp s0 s7 j0 j1
  obtain ⟨_, b1, b2⟩ := mapN_pt hp s0 s7 k0 k1
  rw [h] at a1 a2
  have e := mapX_inj s0 s7 (W := p.W) (H := p.H) (x := ptX p.W j) (y := ptY p.W j) (x' := ptX p.W k) (y' := ptY p.W k) (Prod.ext (a1.symm.trans b1) (a2.symm.trans b2))
  rw [← pt_num hp.w1 hp.w8 j0, ← pt_num hp.w1 hp.w8 k0, e.1, e.2]
theorem mapTo_get : ∀ m, m ≤ p.B.length → ∀ k : Nat, k < m → gI (mapTo p.W p.H s p.B p.B.length m) (mapN p.W p.H s k) = kindX (gI p.B k) s
  | 0, _, k, hk => absurd hk (by omega)
  | m + 1, hm, k, hk => by
    obtain ⟨⟨n0, n1⟩, _⟩ := mapN_pt hp s0 s7 (k := (k : Int)) (by omega) (by omega)
    obtain ⟨⟨m0, m1⟩, _⟩ := mapN_pt hp s0 s7 (k := (m : Int)) (by omega) (by omega)
    have hl := mapTo_length p.W p.H s p.B p.B.length m
    rw [mapTo]
    by_cases e : k = m
    · subst e
      conv => lhs; unfold gI
      rw [List.getD, List.getElem?_set_self (by omega)]
      rfl
    · have hne : mapN p.W p.H s k ≠ mapN p.W p.H s m := fun h => by
        have := mapN_inj hp s0 s7 (by omega) (by omega) (by omega) (by omega) h
        omega
      have := mapTo_get m (by omega) k (by omega)
      conv => lhs; unfold gI
      rw [List.getD, List.getElem?_set_ne (by omega)]
      exact this
/-- The breaks of the moved panel. -/
theorem map_get {k : Int} (k0 : 0 ≤ k) (k1 : k < p.B.length) : gI (mapP p s).B (mapN p.W p.H s k) = kindX (gI p.B k) s := by
  obtain ⟨k, rfl⟩ := Int.eq_ofNat_of_zero_le k0
  exact mapTo_get hp s0 s7 p.B.length (Nat.le_refl _) k (by omega)
theorem brk_map {x y : Int} (h : Has p x y) : brk (mapP p s) (mapX p.W p.H x y s).1 (mapX p.W p.H x y s).2 = kindX (brk p x y) s := by
  have hm := mapX_has (p := p) (q := mapP p s) rfl rfl s0 s7 (x := x) (y := y)
  unfold brk
  by_cases he : Edge p x y
  · rw [if_pos he, if_pos (hm.2.1 he)]
    unfold kindX
    rw [if_neg (by omega)]
  · rw [if_neg he, if_neg (fun h => he (hm.2.2 h))]
    obtain ⟨a, b, c, d⟩ := not_edge h he
    obtain ⟨n1, n2, n3, n4⟩ := num_pt (H := p.H) hp.w1 hp.w8 a b c d h.2.2.2.2
    have hl := hp.len
    have hnum : num p x y = rowOf p.W y + (x - 1) / 2 := rfl
    have hg := map_get hp s0 s7 (k := num p x y) (by omega) (by omega)
    have e : mapN p.W p.H s (num p x y) = num (mapP p s) (mapX p.W p.H x y s).1 (mapX p.W p.H x y s).2 := by
      unfold mapN
      rw [hnum, n3, n4]
      rfl
    rw [e] at hg
    exact hg
omit s0 s7 in
theorem brk_bd {x y : Int} (h : Has p x y) : 0 ≤ brk p x y ∧ brk p x y ≤ 2 := by
  unfold brk
  by_cases he : Edge p x y
  · rw [if_pos he]; omega
  · rw [if_neg he]
    obtain ⟨n0, n1, _⟩ := num_in hp h he
    have hlt : (num p x y).toNat < p.B.length := by omega
    simp only [List.getD, List.getElem?_eq_getElem hlt, Option.getD_some]
    exact hp.kind _ (List.getElem_mem hlt)
omit hp in
/-- Each point of the moved panel is one to which a point is moved. -/
theorem mapX_onto {x y : Int} (h : Has (mapP p s) x y) : ∃ u v, Has p u v ∧ mapX p.W p.H u v s = (x, y) := by
  obtain ⟨⟨i0, i7⟩, i1, i2⟩ := invK_bd s0 s7
  obtain ⟨e1, e2, e3⟩ := mapX_comp (mapW p.W p.H s) (mapH p.W p.H s) x y i0 i7 s0 s7
  rw [i2, mapX_zero] at e1
  obtain ⟨f1, f2, f3⟩ := mapX_comp p.W p.H x y s0 s7 i0 i7
  rw [i1] at f2 f3
  have g2 : mapW (mapW p.W p.H s) (mapH p.W p.H s) (invK s) = p.W := by rw [f2]; simp [mapW]
  have g3 : mapH (mapW p.W p.H s) (mapH p.W p.H s) (invK s) = p.H := by rw [f3]; simp [mapH]
  rw [g2, g3] at e1
  refine ⟨_, _, ?_, e1⟩
  have hm := mapX_has (p := p) (q := mapP p s) rfl rfl s0 s7 (x := (mapX (mapW p.W p.H s) (mapH p.W p.H s) x y (invK s)).1) (y := (mapX (mapW p.W p.H s) (mapH p.W p.H s) x y (invK s)).2)
  refine hm.1.2 ?_
  rw [e1]
  exact h
theorem mapP_ok : Ok (mapP p s) := by
  have hb := mapW_bd (s := s) ⟨hp.w1, hp.w8⟩ ⟨hp.h1, hp.h8⟩
  have hlen : ((mapP p s).B.length : Int) = inner (mapP p s).W (mapP p s).H := by
    rw [mapP_len, hp.len]
    show inner p.W p.H = inner (mapW p.W p.H s) (mapH p.W p.H s)
    unfold mapW mapH
    split
    · exact (inner_comm p.W p.H).symm
    · rfl
  refine ⟨hb.1.1, hb.1.2, hb.2.1, hb.2.2, hlen, ?_⟩
  intro k hk
  obtain ⟨i, hi, rfl⟩ := List.getElem_of_mem hk
  have hin := pt_in (W := (mapP p s).W) (H := (mapP p s).H) hb.1.1 hb.1.2 (k := (i : Int)) (by omega) (by omega)
  have hnum := pt_num (W := (mapP p s).W) hb.1.1 hb.1.2 (k := (i : Int)) (by omega)
  have hH : Has (mapP p s) (ptX (mapP p s).W i) (ptY (mapP p s).W i) := ⟨by omega, by omega, by omega, by omega, by omega⟩
  obtain ⟨u, v, huv, he⟩ := mapX_onto s0 s7 hH
  have hbr := brk_map hp s0 s7 huv
  rw [he] at hbr
  have hE : ¬ Edge (mapP p s) (ptX (mapP p s).W i) (ptY (mapP p s).W i) := by unfold Edge; omega
  have hval : brk (mapP p s) (ptX (mapP p s).W i) (ptY (mapP p s).W i) = (mapP p s).B[i] := by
    unfold brk
    rw [if_neg hE]
    have : num (mapP p s) (ptX (mapP p s).W i) (ptY (mapP p s).W i) = i := hnum
    rw [this]
    simp [List.getD, hi]
  rw [← hval]
  rw [hbr]
  exact kindX_bd (brk_bd hp huv)
end

/-- A panel is known by its size and its breaks. -/
theorem pan_ext {p q : Pan} (hp : Ok p) (hq : Ok q) (hW : p.W = q.W) (hH : p.H = q.H) (h : ∀ x y, Has p x y → brk p x y = brk q x y) : p = q := by
  have hl : p.B.length = q.B.length := by
    have h1 := hp.len
    have h2 := hq.len
    rw [hW, hH] at h1
    omega
  have hB : p.B = q.B := by
    refine List.ext_getElem hl fun i h1 h2 => ?_
    have hpl := hp.len
    have hin := pt_in (W := p.W) (H := p.H) hp.w1 hp.w8 (k := (i : Int)) (by omega) (by omega)
    have hnum := pt_num (W := p.W) hp.w1 hp.w8 (k := (i : Int)) (by omega)
    have hHs : Has p (ptX p.W i) (ptY p.W i) := ⟨by omega, by omega, by omega, by omega, by omega⟩
    have := h _ _ hHs
    unfold brk at this
    rw [if_neg (show ¬ Edge p (ptX p.W i) (ptY p.W i) by unfold Edge; omega), if_neg (show ¬ Edge q (ptX p.W i) (ptY p.W i) by unfold Edge; omega)] at this
    have e1 : num p (ptX p.W i) (ptY p.W i) = i := hnum
    have e2 : num q (ptX p.W i) (ptY p.W i) = i := by
      have : num q (ptX p.W i) (ptY p.W i) = num p (ptX p.W i) (ptY p.W i) := by unfold num; rw [hW]
      rw [this, e1]
    rw [e1, e2] at this
    simpa [List.getD, h1, h2] using this
  cases p; cases q
  simp_all

theorem map_comp {p : Pan} (hp : Ok p) {a b : Int} (a0 : 0 ≤ a) (a7 : a ≤ 7) (b0 : 0 ≤ b) (b7 : b ≤ 7) : mapP (mapP p a) b = mapP p (compK a b) := by
  obtain ⟨c0, c7⟩ := compK_bd a0 a7 b0 b7
  have ha := mapP_ok hp a0 a7
  have hab := mapP_ok ha b0 b7
  have hc := mapP_ok hp c0 c7
  have hm := fun x y => mapX_comp p.W p.H x y a0 a7 b0 b7
  refine pan_ext hab hc (hm 0 0).2.1 (hm 0 0).2.2 fun x y hxy => ?_
  obtain ⟨u, v, huv, e1⟩ := mapX_onto b0 b7 hxy
  obtain ⟨s, t, hst, e2⟩ := mapX_onto a0 a7 huv
  have h1 := brk_map ha b0 b7 huv
  rw [e1] at h1
  have h2 := brk_map hp a0 a7 hst
  rw [e2] at h2
  have h3 := brk_map hp c0 c7 hst
  have e3 := (hm s t).1
  rw [e2] at e3
  have e4 : mapX (mapP p a).W (mapP p a).H u v b = mapX p.W p.H s t (compK a b) := e3
  rw [← e4, e1] at h3
  have h1' : brk (mapP (mapP p a) b) x y = kindX (brk (mapP p a) u v) b := h1
  have h2' : brk (mapP p a) u v = kindX (brk p s t) a := h2
  have h3' : brk (mapP p (compK a b)) x y = kindX (brk p s t) (compK a b) := h3
  rw [h1', h2', h3', kindX_comp a0 a7 b0 b7 (brk_bd hp hst)]

/-! ### Walkers are moved with their panel -/
/-- Where a symmetry moves a direction. -/
def mapD (dx dy s : Int) : Int × Int :=
  if 4 ≤ s then (if s % 2 = 1 then -dy else dy, if s / 2 % 2 = 1 then -dx else dx) else (if s % 2 = 1 then -dx else dx, if s / 2 % 2 = 1 then -dy else dy)
def mapK (p : Pan) (s : Int) (w : Wk) : Wk := ⟨(mapX p.W p.H w.X w.Y s).1, (mapX p.W p.H w.X w.Y s).2, (mapD w.dx w.dy s).1, (mapD w.dx w.dy s).2⟩
theorem mapX_add (W H x y dx dy : Int) {s : Int} (s0 : 0 ≤ s) (s7 : s ≤ 7) : mapX W H (x + dx) (y + dy) s = ((mapX W H x y s).1 + (mapD dx dy s).1, (mapX W H x y s).2 + (mapD dx dy s).2) := by
  rcases sym_cases s0 s7 with rfl | rfl | rfl | rfl | rfl | rfl | rfl | rfl <;> simp [mapX, mapD] <;> omega
theorem mapD_sign {dx dy s : Int} (s0 : 0 ≤ s) (s7 : s ≤ 7) (h1 : dx = 1 ∨ dx = -1) (h2 : dy = 1 ∨ dy = -1) : ((mapD dx dy s).1 = 1 ∨ (mapD dx dy s).1 = -1) ∧ ((mapD dx dy s).2 = 1 ∨ (mapD dx dy s).2 = -1) := by
  rcases sym_cases s0 s7 with rfl | rfl | rfl | rfl | rfl | rfl | rfl | rfl <;> simp [mapD] <;> omega

section
variable {p : Pan} (hp : Ok p) {s : Int} (s0 : 0 ≤ s) (s7 : s ≤ 7)
include s0 s7
theorem mapK_ok {w : Wk} (h : OkW p w) : OkW (mapP p s) (mapK p s w) := by
  obtain ⟨h1, h2, h3, h4⟩ := h
  obtain ⟨d1, d2⟩ := mapD_sign s0 s7 h1 h2
  have hm := fun x y => (mapX_has (p := p) (q := mapP p s) rfl rfl s0 s7 (x := x) (y := y)).1
  refine ⟨d1, d2, (hm _ _).1 h3, ?_⟩
  have := (hm _ _).1 h4
  rw [mapX_add p.W p.H w.X w.Y w.dx w.dy s0 s7] at this
  exact this
include hp
theorem mapK_step {w : Wk} (h : OkW p w) : stepW (mapP p s) (mapK p s w) = mapK p s (stepW p w) := by
  have hb := brk_map hp s0 s7 h.there
  have ha := mapX_add p.W p.H w.X w.Y w.dx w.dy s0 s7
  have hbd := brk_bd hp h.there
  obtain ⟨X, Y, dx, dy⟩ := w
  obtain ⟨h1, h2, h3, h4⟩ := h
  simp only [] at *
  unfold stepW mapK
  simp only []
  rw [ha] at hb
  simp only [] at hb
  rw [hb, ha]
  generalize brk p (X + dx) (Y + dy) = k at *
  obtain ⟨a1, a2, a3, a4, a5⟩ := h4
  clear hb ha
  rcases (show k = 0 ∨ k = 1 ∨ k = 2 by omega) with rfl | rfl | rfl <;>
  rcases sym_cases s0 s7 with rfl | rfl | rfl | rfl | rfl | rfl | rfl | rfl <;> simp [mapX, mapD, mapP, mapW, mapH, kindX] <;> (try refine And.intro ?_ ?_) <;> (try split) <;> (try split) <;> omega
omit hp
theorem mapK_back (w : Wk) : mapK p s (backW w) = backW (mapK p s w) := by
  have ha := mapX_add p.W p.H w.X w.Y w.dx w.dy s0 s7
  unfold backW mapK
  simp only []
  rw [ha]
  congr 1
  · rcases sym_cases s0 s7 with rfl | rfl | rfl | rfl | rfl | rfl | rfl | rfl <;> simp [mapD]
  · rcases sym_cases s0 s7 with rfl | rfl | rfl | rfl | rfl | rfl | rfl | rfl <;> simp [mapD]
/-- Where a segment is moved. -/
def mapG (p : Pan) (s : Int) (a : Nat) : Nat := (segI (mapP p s) (mapK p s (startI p a))).toNat
include hp
theorem mapG_seg {w : Wk} (h : OkW p w) : mapG p s (segI p w).toNat = (segI (mapP p s) (mapK p s w)).toNat := by
  have hn := seg_bounds h
  have hs := start_ok hp (k := segI p w) hn.1 hn.2
  unfold mapG
  rw [show (((segI p w).toNat : Nat) : Int) = segI p w by omega]
  rcases seg_same hs.1 h hs.2 with e | e
  · rw [e]
  · rw [e, mapK_back s0 s7, seg_back]
theorem mapG_on {a b : Nat} (h : On p hp a b) : On (mapP p s) (mapP_ok hp s0 s7) (mapG p s a) (mapG p s b) := by
  have hq := mapP_ok hp s0 s7
  have ha := (h.lt hp).1
  have hst := (sys p hp).start_V a ha
  have hsg : (segI p (startI p a)).toNat = a := (sys p hp).seg_start a ha
  refine h.min hp (Q := fun b => On (mapP p s) hq (mapG p s a) (mapG p s b)) (fun w hw hr => ?_) ?_
  · refine hr.trans hq ?_
    have := On.step hq (mapK_ok s0 s7 hw)
    rw [mapK_step hp s0 s7 hw, ← mapG_seg hp s0 s7 hw, ← mapG_seg hp s0 s7 (hw.step hp)] at this
    exact this
  · exact On.refl hq (seg_lt hq (mapK_ok s0 s7 hst))
end

theorem mapK_comp {p : Pan} {a b : Int} (a0 : 0 ≤ a) (a7 : a ≤ 7) (b0 : 0 ≤ b) (b7 : b ≤ 7) (w : Wk) : mapK (mapP p a) b (mapK p a w) = mapK p (compK a b) w := by
  have h1 := (mapX_comp p.W p.H w.X w.Y a0 a7 b0 b7).1
  unfold mapK
  have h1' : mapX (mapP p a).W (mapP p a).H (mapX p.W p.H w.X w.Y a).1 (mapX p.W p.H w.X w.Y a).2 b = mapX p.W p.H w.X w.Y (compK a b) := h1
  simp only []
  rw [h1']
  congr 1
  · rcases sym_cases a0 a7 with rfl | rfl | rfl | rfl | rfl | rfl | rfl | rfl <;> rcases sym_cases b0 b7 with rfl | rfl | rfl | rfl | rfl | rfl | rfl | rfl <;> simp [mapD, compK, exchK]
  · rcases sym_cases a0 a7 with rfl | rfl | rfl | rfl | rfl | rfl | rfl | rfl <;> rcases sym_cases b0 b7 with rfl | rfl | rfl | rfl | rfl | rfl | rfl | rfl <;> simp [mapD, compK, exchK]
theorem mapK_zero (p : Pan) (w : Wk) : mapK p 0 w = w := by
  unfold mapK
  rw [mapX_zero]
  simp [mapD]
theorem segN_map (p : Pan) (s : Int) : segN (mapP p s) = segN p := by
  unfold segN
  congr 1
  show 4 * mapW p.W p.H s * mapH p.W p.H s = 4 * p.W * p.H
  unfold mapW mapH
  split
  · rw [Int.mul_assoc, Int.mul_comm p.H, ← Int.mul_assoc]
  · rfl
theorem mapG_back {p : Pan} (hp : Ok p) {s : Int} (s0 : 0 ≤ s) (s7 : s ≤ 7) {a : Nat} (ha : a < segN p) : mapG (mapP p s) (invK s) (mapG p s a) = a := by
  obtain ⟨⟨i0, i7⟩, i1, i2⟩ := invK_bd s0 s7
  have hst : OkW p (startI p a) := (sys p hp).start_V a ha
  have hsg : (segI p (startI p a)).toNat = a := (sys p hp).seg_start a ha
  have hq := mapP_ok hp s0 s7
  have h1 : mapG p s a = (segI (mapP p s) (mapK p s (startI p a))).toNat := rfl
  rw [h1, mapG_seg hq i0 i7 (mapK_ok s0 s7 hst), mapK_comp s0 s7 i0 i7, map_comp hp s0 s7 i0 i7, i1, mapK_zero, mapP_zero ⟨hp.w1, hp.w8⟩]
  exact hsg
theorem on_cast {p q : Pan} (e : q = p) (hq : Ok q) (hp : Ok p) {a b : Nat} (h : On q hq a b) : On p hp a b := by
  subst e
  exact h
/-- No symmetry changes the number of curves. -/
theorem map_cnt {p : Pan} (hp : Ok p) {s : Int} (s0 : 0 ≤ s) (s7 : s ≤ 7) : cntP (mapP p s) = cntP p := by
  obtain ⟨⟨i0, i7⟩, i1, i2⟩ := invK_bd s0 s7
  have hq := mapP_ok hp s0 s7
  obtain ⟨reps, hr⟩ := (sys p hp).traced (segN p) (Nat.le_refl _)
  have h1 := (sys p hp).traced_reps hr
  have h2 : Reps (On p hp) (· < segN p) reps := ⟨h1.mem, h1.apart.imp fun h k => h k.2, fun a ha => by
    obtain ⟨b, hb, k⟩ := h1.all a ha
    exact ⟨b, hb, ha, k⟩⟩
  have hN := segN_map p s
  have hback : mapP (mapP p s) (invK s) = p := by rw [map_comp hp s0 s7 i0 i7, i1, mapP_zero ⟨hp.w1, hp.w8⟩]
  have lt1 : ∀ a, a < segN p → mapG p s a < segN (mapP p s) := fun a ha => seg_lt hq (mapK_ok s0 s7 ((sys p hp).start_V a ha))
  have onto : ∀ b, b < segN (mapP p s) → ∃ a, a < segN p ∧ mapG p s a = b := by
    intro b hb
    have hl := seg_lt (mapP_ok hq i0 i7) (mapK_ok i0 i7 ((sys _ hq).start_V b hb))
    have hl2 : mapG (mapP p s) (invK s) b < segN p := by
      have : segN (mapP (mapP p s) (invK s)) = segN p := by rw [hback]
      rw [← this]
      exact hl
    refine ⟨_, hl2, ?_⟩
    have hst : OkW (mapP p s) (startI (mapP p s) b) := (sys _ hq).start_V b hb
    have hsg : (segI (mapP p s) (startI (mapP p s) b)).toNat = b := (sys _ hq).seg_start b hb
    have hok := mapK_ok i0 i7 hst
    have h5 : mapG (mapP p s) (invK s) b = (segI (mapP (mapP p s) (invK s)) (mapK (mapP p s) (invK s) (startI (mapP p s) b))).toNat := rfl
    have h6 := mapG_seg (mapP_ok hq i0 i7) s0 s7 hok
    rw [← h5, mapK_comp i0 i7 s0 s7, i2, mapK_zero, map_comp hq i0 i7 s0 s7, i2, mapP_zero ⟨hq.w1, hq.w8⟩, hback] at h6
    rw [h6]
    exact hsg
  have h3 := reps_map (S := On (mapP p s) hq) (E := (· < segN (mapP p s))) (mapG p s) lt1 (fun b hb => by
    obtain ⟨a, ha, e⟩ := onto b hb
    exact ⟨a, ha, by rw [e]; exact On.refl hq hb⟩) (fun a b c h k => h.trans hq k) (fun a b ha hb => ⟨fun h => mapG_on hp s0 s7 h, fun h => by
      have h4 := mapG_on hq i0 i7 h
      rw [mapG_back hp s0 s7 ha, mapG_back hp s0 s7 hb] at h4
      exact on_cast hback _ _ h4⟩) h2
  rw [cnt_reps hq h3, cnt_reps hp h2]
  simp
end Knot
