/-
  The frame of the statements' proofs: the arguments of the laws, opened.
-/
import Derived.Test.YtihfdgnocdphcaaRows
import Derived.Test.YtihfdgnocdphcaaMem
import Derived.WalkKit
import Derived.ProofKit
import Derived.OpenShut
import Derived.ShutString
import Derived.ChangeOld
import Derived.Below
import Derived.Lib.SmallJoins
namespace Go.Proofs.Ytihfdgnocdphcaa
open Go.ChangeShapes Go.WideShapes Go.ChangeAt Go.RowKit Go.Joins

theorem own : ownKnob Try.prog.godebug = none := by kernel_rfl
theorem laidOut : laidOutB Try.prog = true := by kernel_rfl

section
variable {H : Type} {enc : TypeId × Value → H} {W : World}

theorem row_of {t e : TypeId} {k : IntKind} {fuel : Nat} {c : Value} {y : DataW H × List MemPlace} (ht : Try.prog.underlying t = some (.slice e)) (he : Try.prog.underlying e = some (.int k)) (hc : Try.prog.cellsOf e = 1)
    (hf : DataW.trod enc Try.prog W 0 (fun _ => true) true fuel t [c] = some y) : ∃ a len cap zs, c = .slice a len cap ∧ IsRow k W a len cap zs := by
  rcases open_ints ht he hc hf with ⟨hcs, _⟩ | ⟨x, l, cp, zs, hcs, _, hl, hm, hz, hy, hcell, hwz⟩
  · simp at hcs
    exact ⟨none, 0, 0, [], hcs, .inl ⟨rfl, rfl, rfl, rfl⟩⟩
  · simp at hcs
    exact ⟨some x, l, cp, zs, hcs, .inr ⟨x, rfl, hl, hm, by simpa using hz, hcell, hwz⟩⟩

theorem int_of {t : TypeId} {k : IntKind} {fuel : Nat} {c : Value} {y : DataW H × List MemPlace} (ht : Try.prog.underlying t = some (.int k))
    (hf : DataW.trod enc Try.prog W 0 (fun _ => true) true fuel t [c] = some y) : ∃ n, c = .int k n ∧ (Lit.int k n).wf = true := by
  obtain ⟨n, e, _, wn⟩ := DataW.trod_int ht hf
  simp at e
  exact ⟨n, e, wn⟩

set_option maxRecDepth 100000 in
/-- A struct's value: its cells; each field's reading. -/
theorem fields_of {t : TypeId} {fs : Array Field} {base : Nat} {v : Value} {d : DataW H} {p : List MemPlace} (ht : Try.prog.underlying t = some (.struct fs)) (hv : Value.okWide Try.prog W .any base t v) (h : DataW.Trod enc Try.prog W 0 (fun _ => true) true t v d p) :
    ∃ (cs : Array Value) (n : Nat) (xs : List (DataW H × List MemPlace)), v = .agg cs ∧ cs.size = Try.prog.cellsOf t ∧ xs.length = fs.size ∧
      ∀ (i : Nat) (f : Field), fs[i]? = some f → DataW.trod enc Try.prog W 0 (fun _ => true) true n f.type ((cs.toList.drop f.offset).take (Try.prog.cellsOf f.type)) = xs[i]? := by
  obtain ⟨cs, rfl, hsz⟩ := okWide_struct ht hv
  obtain ⟨fuel, hf⟩ := h
  obtain ⟨xs, n, _, _, _, hlen, hg⟩ := DataW.trod_struct ht hf
  exact ⟨cs, n, xs, rfl, hsz, hlen, by simpa [Value.cells] using hg⟩

theorem cells_int : Try.prog.cellsOf 2 = 1 := by kernel_rfl
theorem cells_ints : Try.prog.cellsOf 25 = 1 := by kernel_rfl
set_option maxRecDepth 100000 in
theorem open_ints64 {base : Nat} {v : Value} {d : DataW H} {p : List MemPlace} (hv : Value.okWide Try.prog W .any base 25 v) (h : DataW.Trod enc Try.prog W 0 (fun _ => true) true 25 v d p) :
    ∃ a len cap zs, v = .slice a len cap ∧ IsRow .i64 W a len cap zs := by
  obtain ⟨a, l, c, rfl⟩ := okWide_slice Try.underlying25 hv
  obtain ⟨fuel, hf⟩ := h
  exact row_of Try.underlying25 Try.underlying2 cells_int (by simpa [Value.cells] using hf)
set_option maxRecDepth 100000 in
theorem open_bytes {base : Nat} {v : Value} {d : DataW H} {p : List MemPlace} (hv : Value.okWide Try.prog W .any base 52 v) (h : DataW.Trod enc Try.prog W 0 (fun _ => true) true 52 v d p) :
    ∃ a len cap zs, v = .slice a len cap ∧ IsRow .u8 W a len cap zs := by
  obtain ⟨a, l, c, rfl⟩ := okWide_slice Try.underlying52 hv
  obtain ⟨fuel, hf⟩ := h
  exact row_of Try.underlying52 Try.underlying5 (by kernel_rfl) (by simpa [Value.cells] using hf)
set_option maxRecDepth 100000 in
theorem open_panel {base : Nat} {v : Value} {d : DataW H} {p : List MemPlace} (hv : Value.okWide Try.prog W .any base 27 v) (h : DataW.Trod enc Try.prog W 0 (fun _ => true) true 27 v d p) :
    ∃ w0 h0 a len cap zs, v = .agg #[.int .i64 w0, .int .i64 h0, .slice a len cap] ∧ (Lit.int .i64 w0).wf = true ∧ (Lit.int .i64 h0).wf = true ∧ IsRow .i64 W a len cap zs := by
  obtain ⟨cs, n, xs, rfl, hsz, hlen, hg⟩ := fields_of Try.underlying27 hv h
  obtain ⟨c0, c1, c2, rfl⟩ := array3 (hsz.trans (by kernel_rfl))
  obtain ⟨x0, h0⟩ : ∃ x, xs[0]? = some x := ⟨xs[0]'(by rw [hlen]; decide), List.getElem?_eq_getElem _⟩
  obtain ⟨x1, h1⟩ : ∃ x, xs[1]? = some x := ⟨xs[1]'(by rw [hlen]; decide), List.getElem?_eq_getElem _⟩
  obtain ⟨x2, h2⟩ : ∃ x, xs[2]? = some x := ⟨xs[2]'(by rw [hlen]; decide), List.getElem?_eq_getElem _⟩
  have g0 := (hg 0 _ rfl).trans h0
  have g1 := (hg 1 _ rfl).trans h1
  have g2 := (hg 2 _ rfl).trans h2
  simp only [cells_int, cells_ints] at g0 g1 g2
  obtain ⟨w0, rfl, e0⟩ := int_of Try.underlying2 g0
  obtain ⟨hh, rfl, e1⟩ := int_of Try.underlying2 g1
  obtain ⟨a, l, c, zs, rfl, hr⟩ := row_of Try.underlying25 Try.underlying2 cells_int g2
  exact ⟨w0, hh, a, l, c, zs, rfl, e0, e1, hr⟩
set_option maxRecDepth 100000 in
theorem open_point {base : Nat} {v : Value} {d : DataW H} {p : List MemPlace} (hv : Value.okWide Try.prog W .any base 35 v) (h : DataW.Trod enc Try.prog W 0 (fun _ => true) true 35 v d p) :
    ∃ x y, v = .agg #[.int .i64 x, .int .i64 y] ∧ (Lit.int .i64 x).wf = true ∧ (Lit.int .i64 y).wf = true := by
  obtain ⟨cs, n, xs, rfl, hsz, hlen, hg⟩ := fields_of Try.underlying35 hv h
  obtain ⟨c0, c1, rfl⟩ := array2 (hsz.trans (by kernel_rfl))
  obtain ⟨x0, h0⟩ : ∃ x, xs[0]? = some x := ⟨xs[0]'(by rw [hlen]; decide), List.getElem?_eq_getElem _⟩
  obtain ⟨x1, h1⟩ : ∃ x, xs[1]? = some x := ⟨xs[1]'(by rw [hlen]; decide), List.getElem?_eq_getElem _⟩
  have g0 := (hg 0 _ rfl).trans h0
  have g1 := (hg 1 _ rfl).trans h1
  simp only [cells_int] at g0 g1
  obtain ⟨x, rfl, e0⟩ := int_of Try.underlying2 g0
  obtain ⟨y, rfl, e1⟩ := int_of Try.underlying2 g1
  exact ⟨x, y, rfl, e0, e1⟩
end
end Go.Proofs.Ytihfdgnocdphcaa
