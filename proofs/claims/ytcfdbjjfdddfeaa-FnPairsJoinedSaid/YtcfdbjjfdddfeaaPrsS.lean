/-
  All pairs of joined segments, by the reference.
-/
import Derived.Test.YtcfdbjjfdddfeaaAt2
import Derived.Test.YtcfdbjjfdddfeaaKLists
import Derived.Test.YtcfdbjjfdddfeaaPlAllC
import Derived.Test.YtcfdbjjfdddfeaaVal
namespace Go.Proofs.Ytcfdbjjfdddfeaa
open Go.RowKit Knot

set_option maxHeartbeats 8000000 in
theorem l08Pairs_any {w : World} {b D : Nat} {W H : Int} {v : Value} {Bs : List Int} (ba : Box w b 56 #[.int .i64 W, .int .i64 H, v]) (hI : Ints w D v Bs) (hp : Ok ⟨W, H, Bs⟩) :
    Calls Try.prog 75 #[.pointer (some ⟨b, 0, none⟩)] w fun e w' => ∃ g c l, e = .returned (.slice (some ⟨g, 0, none⟩) l.length c) ∧ PrsRow w' w.heap.size (.slice (some ⟨g, 0, none⟩) l.length c) l ∧ l.map Pr.val = putAll [] (allQ ⟨W, H, Bs⟩) ∧
      (l.map Pr.g).Nodup ∧ Below w.heap.size w w' := by
  obtain ⟨W1, W8⟩ : 1 ≤ W ∧ W ≤ 8 := ⟨hp.w1, hp.w8⟩
  obtain ⟨H1, H8⟩ : 1 ≤ H ∧ H ≤ 8 := ⟨hp.h1, hp.h8⟩
  obtain ⟨W, rfl⟩ := Int.eq_ofNat_of_zero_le (show 0 ≤ W by omega)
  obtain ⟨H, rfl⟩ := Int.eq_ofNat_of_zero_le (show 0 ≤ H by omega)
  have bl := Joins.below_alloc1 w (.cells #[] 22)
  have h0 : Row Pr.enc 22 (w.alloc (.cells #[] 22)) w.heap.size (.slice (some ⟨w.heap.size, 0, none⟩) 0 0) [] := Row.none_ w
  have HP := Lib.hid hp
  have HB : Hid (∀ w', Below w.heap.size w w' → Box w' b 56 #[.int .i64 W, .int .i64 H, v] ∧ Ints w' D v Bs) := Lib.hid (fun w' hb => ⟨ba.below hb, Row.below hI hb⟩)
  clear ba hI hp
  go_enter Try.func75, Try.ntmps75
  go_wp2
  go_loopw [3, 4] (fun s t wr => ∃ (m g c : Nat) (l : List Pr), m ≤ 2 * H + 1 ∧ s = .slice (some ⟨g, 0, none⟩) l.length c ∧ t = .int .i64 m ∧ PrsRow wr w.heap.size (.slice (some ⟨g, 0, none⟩) l.length c) l ∧ l.map Pr.val = putAll [] ((allPt W m).flatMap (prsAt ⟨W, H, Bs⟩)) ∧ (l.map Pr.g).Nodup ∧ Below w.heap.size w wr) (fun _ t _ => 2 * H + 1 - (intOf t).toNat)
  case atStart => exact ⟨0, _, 0, [], Nat.zero_le _, rfl, rfl, ⟨h0, fun x hx => by simp at hx⟩, rfl, by simp, bl⟩
  case round =>
    obtain ⟨m, g, c, l, hm, rfl, rfl, hr, hv, hn, hb⟩ := hrel
    clear h0 bl
    obtain ⟨ba, hI⟩ := HB.out _ hb
    have q0 := ba.cell 0
    have q1 := ba.cell 1
    have qn := ba.lt
    simp only [List.getElem?_toArray, List.getElem?_cons_zero, List.getElem?_cons_succ] at q0 q1
    by_cases hlt : m < 2 * H + 1
    · have i1 : (m : Int) ≤ 2 * (H : Int) := by omega
      have HR := Lib.hid hr
      have HV := Lib.hid hv
      have HN := Lib.hid hn
      have HBB := Lib.hid hb
      clear ba hI hr hv hn hb
      go_wp2
      obtain ⟨W1', hW1'⟩ : ∃ x, x = wr := ⟨wr, rfl⟩
      subst hW1'
      go_loopw [3, 5] (fun s t wr => ∃ (k g c : Nat) (l : List Pr), k ≤ 2 * W + 1 ∧ s = .slice (some ⟨g, 0, none⟩) l.length c ∧ t = .int .i64 k ∧ PrsRow wr w.heap.size (.slice (some ⟨g, 0, none⟩) l.length c) l ∧ l.map Pr.val = putAll [] ((allPt W m ++ rowPt m k).flatMap (prsAt ⟨W, H, Bs⟩)) ∧ (l.map Pr.g).Nodup ∧ Below w.heap.size w wr) (fun _ t _ => 2 * W + 1 - (intOf t).toNat)
      case atStart => exact ⟨0, g, c, l, Nat.zero_le _, rfl, rfl, HR.out, by rw [HV.out]; simp [rowPt], HN.out, HBB.out⟩
      case round =>
        obtain ⟨k, g2, c2, l2, hk, rfl, rfl, hr2, hv2, hn2, hb2⟩ := hrel
        obtain ⟨ba, hI⟩ := HB.out _ hb2
        have q0 := ba.cell 0
        have q1 := ba.cell 1
        have qn := ba.lt
        simp only [List.getElem?_toArray, List.getElem?_cons_zero, List.getElem?_cons_succ] at q0 q1
        by_cases hlk : k < 2 * W + 1
        · have i2 : (k : Int) ≤ 2 * (W : Int) := by omega
          by_cases ho : ((k : Int) + m) % 2 = 1
          · have hr2' := rowPt_yes ho
            have hll : l2.length ≤ 900 := by
              have e := congrArg List.length hv2
              rw [List.length_map, putAll_len0] at e
              have h1 := flatQ_len ⟨W, H, Bs⟩ (allPt W m ++ rowPt m k)
              have h2 := allPt_len (W := (W : Int)) (by omega) m
              have h3 := rowPt_len (m : Int) k
              rw [List.length_append] at h1
              omega
            have HH : Hid (Has ⟨W, H, Bs⟩ (k : Int) (m : Int)) := Lib.hid ⟨by omega, by simp only []; omega, by omega, by simp only []; omega, ho⟩
            have HV2 : Hid (∀ z, z = putAll (l2.map Pr.val) (pairsP ⟨W, H, Bs⟩ k m) → z = putAll [] ((allPt W m ++ rowPt m (k + 1)).flatMap (prsAt ⟨W, H, Bs⟩))) := Lib.hid (fun z hz => by
              have e : (allPt W m ++ rowPt m k ++ [((k : Int), (m : Int))]).flatMap (prsAt ⟨W, H, Bs⟩) = (allPt W m ++ rowPt m k).flatMap (prsAt ⟨W, H, Bs⟩) ++ pairsP ⟨W, H, Bs⟩ k m := by
                rw [List.flatMap_append]
                simp [prsAt]
              rw [hz, hv2, ← putAll_append, hr2', ← List.append_assoc, e])
            have HN2 := Lib.hid hn2
            have hrm : ((k : Int) + m).tmod 2 = ((k : Int) + m) % 2 := Int.tmod_eq_emod_of_nonneg (by omega)
            have HB2 := Lib.hid hb2
            have HR2 := Lib.hid hr2
            have HLT : Hid (∀ x ∈ l2, x.g < wr.heap.size) := Lib.hid (fun x hx => (hr2.2 x hx).cells.2.2.1)
            clear hr2' hv2 hn2 hb2 hr2
            go_wp2_with fail
            refine (l08At2_any ba hI HP.out HH.out HR2.out hll).mono ?_
            rintro e w3 ⟨g3, c3, l3, rfl, hr3, hv3, hf3, hb3⟩
            have HR3 := Lib.hid hr3
            have HV3 := Lib.hid (HV2.out _ hv3)
            have HN3 := Lib.hid (hf3.2 HLT.out HN2.out)
            have HB3 := Lib.hid (bnext HB2.out hb3)
            clear hr3 hv3 hf3 hb3 ba hI
            go_wp2
            go_roundw
            case rel => exact ⟨k + 1, g3, c3, l3, by omega, rfl, by go_num, HR3.out, HV3.out, HN3.out, HB3.out⟩
            case measure => simp [intOf]; omega
          · have hr2' := rowPt_no ho
            have hrm : ((k : Int) + m).tmod 2 = ((k : Int) + m) % 2 := Int.tmod_eq_emod_of_nonneg (by omega)
            have HV3 : Hid (l2.map Pr.val = putAll [] ((allPt W m ++ rowPt m (k + 1)).flatMap (prsAt ⟨W, H, Bs⟩))) := Lib.hid (by rw [hr2']; exact hv2)
            have HR3 := Lib.hid hr2
            have HN3 := Lib.hid hn2
            have HB3 := Lib.hid hb2
            clear hr2' hv2 hn2 hb2 hr2 ba hI
            go_wp2
            go_roundw
            case rel => exact ⟨k + 1, g2, c2, l2, by omega, rfl, by go_num, HR3.out, HV3.out, HN3.out, HB3.out⟩
            case measure => simp [intOf]; omega
        · have e : k = 2 * W + 1 := by omega
          have i2 : ¬ (k : Int) ≤ 2 * (W : Int) := by omega
          have HV3 : Hid (l2.map Pr.val = putAll [] ((allPt W ((m + 1 : Nat))).flatMap (prsAt ⟨W, H, Bs⟩))) := Lib.hid (by
            rw [hv2, e]
            have : (2 * (W : Int) + 1).toNat = 2 * W + 1 := by omega
            rw [allPt, this])
          have HR3 := Lib.hid hr2
          have HN3 := Lib.hid hn2
          have HB3 := Lib.hid hb2
          clear hv2 hn2 hb2 hr2 ba hI
          go_wp2
          go_roundw
          case rel => exact ⟨m + 1, g2, c2, l2, by omega, rfl, by go_num, HR3.out, HV3.out, HN3.out, HB3.out⟩
          case measure => simp [intOf]; omega
    · have e : m = 2 * H + 1 := by omega
      have i1 : ¬ (m : Int) ≤ 2 * (H : Int) := by omega
      have HV : Hid (l.map Pr.val = putAll [] (allQ ⟨W, H, Bs⟩)) := Lib.hid (by
        rw [hv, e]
        have : (2 * (H : Int) + 1).toNat = 2 * H + 1 := by omega
        unfold allQ
        simp only []
        rw [this])
      clear ba hI hv
      go_wp2
      go_ret
      exact ⟨g, c, l, rfl, hr, HV.out, hn, hb⟩
/-- Pairs in memory are lists in memory. -/
def Pr.ll (x : Pr) : Ll := ⟨x.g, x.c, [x.a, x.b]⟩
theorem prs_lists {w : World} {B g c : Nat} {l : List Pr} (h : PrsRow w B (.slice (some ⟨g, 0, none⟩) l.length c) l) (hn : (l.map Pr.g).Nodup) (hl : l.length ≤ 1000) :
    ListsIn w B w.heap.size (.slice (some ⟨g, 0, none⟩) l.length c) ((l.map Pr.val).map fun q => [q.1, q.2]) := by
  refine ⟨⟨l.map Pr.ll, ⟨?_, ?_⟩, ?_, ?_, ?_, ?_⟩, ?_, Nat.le_refl _, ?_⟩
  · have := h.1
    unfold Row at this ⊢
    rw [List.map_map, List.length_map]
    exact this
  · intro y hy
    obtain ⟨x, hx, rfl⟩ := List.mem_map.1 hy
    exact h.2 x hx
  · rw [List.map_map, List.map_map]
    rfl
  · intro y hy
    obtain ⟨x, hx, rfl⟩ := List.mem_map.1 hy
    exact (h.2 x hx).cells.2.2.1
  · rw [List.map_map]
    exact hn
  · intro y hy
    obtain ⟨x, hx, rfl⟩ := List.mem_map.1 hy
    simp [Pr.ll]
  · intro j hj
    exact (Row.lt h.1 hj).2
  · simp
    exact hl
theorem allQ_len {p : Pan} (hp : Ok p) : (putAll [] (allQ p)).length ≤ 1000 := by
  rw [putAll_len0]
  have h1 := flatQ_len p (allPt p.W (2 * p.H + 1).toNat)
  have h2 := allPt_len hp.w8 (2 * p.H + 1).toNat
  have h3 := hp.h8
  unfold allQ
  omega
open Classical in
noncomputable def pairsM (p : Pan) : List (List Int) × Int := if Ok p then ((putAll [] (allQ p)).map (fun q => [q.1, q.2]), 0) else ([], 1)
set_option maxHeartbeats 4000000 in
theorem K_spec_PairsOf {w : World} {lo hi : Nat} {W H r1 : Int} {v : Value} {Bs : List Int} {xss : List (List Int)} (hI : IntsIn w lo hi v Bs) (hm : pairsM ⟨W, H, Bs⟩ = (xss, r1)) :
    Calls Try.prog 43 #[.agg #[.int .i64 W, .int .i64 H, v]] w fun e w' => ∃ A c, e = .returned (.tuple #[.slice A xss.length c, .int .i64 r1]) ∧ ListsIn w' w.heap.size w'.heap.size (.slice A xss.length c) xss ∧ Below w.heap.size w w' := by
  obtain ⟨A, c, rfl, _, _⟩ := hI.1.open_
  have bl := Joins.below_alloc1 w (.cells #[.int .i64 W, .int .i64 H, .slice A Bs.length c] 56)
  have ba := Box.new w 56 #[.int .i64 W, .int .i64 H, .slice A Bs.length c]
  have hv := hI.below bl
  have sz := bl.size
  by_cases ho : Ok ⟨W, H, Bs⟩
  · have HP := Lib.hid ho
    unfold pairsM at hm
    rw [if_pos ho] at hm
    injection hm with h1 h2
    have HX := Lib.hid h1
    have HR := Lib.hid h2
    clear hI ho h1 h2
    go_enter Try.func43, Try.ntmps43
    go_wp2_with fail
    refine (l02Ok_any _ W H _ Bs true (yes_iff HP.out) _ ⟨ba, hv.ints⟩).mono ?_
    rintro e w2 ⟨rfl, hd⟩
    have hb := bdrawn hd
    replace ba := ba.below hb
    replace hv := hv.below hb
    replace bl := bnext bl hb
    have sz2 := bl.size
    clear hb hd
    go_wp2_with fail
    refine (l08Pairs_any ba hv.1 HP.out).mono ?_
    rintro e w3 ⟨g, d, l, rfl, hr, hvl, hn, hb3⟩
    have hll : l.length = xss.length := by
      have e := congrArg List.length hvl
      rw [List.length_map] at e
      rw [e, ← HX.out, List.length_map]
    have hL := prs_lists hr hn (by have e := congrArg List.length hvl; rw [List.length_map] at e; rw [e]; exact allQ_len HP.out)
    rw [hvl, HX.out, hll] at hL
    have HL := Lib.hid (hL.wider (lo' := w.heap.size) sz2 (Nat.le_refl _) (Nat.le_refl _))
    have hr0 : r1 = 0 := HR.out.symm
    subst hr0
    rw [hll]
    have bl3 := bnext bl hb3
    clear hL hr hvl hn hll hb3 bl ba hv
    go_wp2
    go_ret2
    exact ⟨_, d, rfl, HL.out, bl3⟩
  · have HP := Lib.hid ho
    unfold pairsM at hm
    rw [if_neg ho] at hm
    injection hm with h1 h2
    subst h1 h2
    clear hI ho
    go_enter Try.func43, Try.ntmps43
    go_wp2_with fail
    refine (l02Ok_any _ W H _ Bs false (no_iff HP.out) _ ⟨ba, hv.ints⟩).mono ?_
    rintro e w2 ⟨rfl, hd⟩
    have bl2 := bnext bl (bdrawn hd)
    have hN := ListsIn.nil w2 w.heap.size w2.heap.size (Nat.le_refl _)
    go_wp2
    go_ret2
    exact ⟨none, 0, rfl, hN, bl2⟩
end Go.Proofs.Ytcfdbjjfdddfeaa
