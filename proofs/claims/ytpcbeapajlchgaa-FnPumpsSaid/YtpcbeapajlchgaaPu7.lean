/-
  Texts of this claim, joined: CurveLs, CurveLp.
-/
import Derived.Test.YtpcbeapajlchgaaPu5
import Derived.Test.YtpcbeapajlchgaaPu6
/-
  Lists of curves: which are valid; sums of fractions; SeriesHead.
-/
set_option linter.unusedVariables false
set_option linter.unusedSimpArgs false
namespace Go.Proofs.Ytpcbeapajlchgaa
open Go.RowKit

theorem row_two {w : World} {b : Nat} {x y : Value} {t : TypeId} (h : w.heap[b]? = some (.cells #[x, y] t (0, 0))) : w.cell? ⟨b, 0, none⟩ = some x ∧ w.cell? ⟨b, 1, none⟩ = some y := ⟨by rw [cell_of_row w _ _ _ _ (0, 0) h]; rfl, by rw [cell_of_row w _ _ _ _ (0, 0) h]; rfl⟩
theorem new_at (W : World) (o : Obj) (g : Nat) (hg : g = W.heap.size) : (W.alloc o).heap[g]? = some o := by subst hg; exact heap_alloc_new _ _
/-- The lengths of a list of curves are not too great. -/
abbrev lens (n : Nat) (L : List (List Pt)) : Prop := n ≤ 1048576 ∧ ∀ k, k < n → (lk L k).length ≤ 1048576
def goodList (L : List (List Pt)) : Bool := L.all goodCurve && inR (L.length : Int) 1 4
theorem goodList_iff {L : List (List Pt)} (h : goodList L = true) : (1 ≤ L.length ∧ L.length ≤ 4) ∧ ∀ k, k < L.length → goodCurve (lk L k) = true := by
  obtain ⟨h1, h2⟩ := (Bool.and_eq_true _ _).mp h
  have := inR_iff.1 h2
  exact ⟨by omega, fun k hk => all_get h1 hk⟩

set_option maxHeartbeats 2000000 in
theorem i_areCurves (a : Option Addr) (n c : Nat) (L : List (List Pt)) (w : World) (h : LAt w a n L) (hn : lens n L) :
    Calls Try.prog 72 #[.slice a n c] w fun e w' => e = .returned (.bool (goodList L)) ∧ Below w.heap.size w w' := by
  have H := hid h
  have HL := hid h.1
  have HN := hid hn
  have hn1 := hn.1
  clear h hn
  go_enter Try.func72, Try.ntmps72
  go_wp2
  go_loopg [7] n (fun g i wr => ∃ k : Nat, k ≤ n ∧ g = n - k ∧ i = .int .i64 k ∧ Hid (Below w.heap.size w wr) ∧ Hid (∀ j, j < k → goodCurve (lk L j) = true))
  case atStart => exact ⟨0, Nat.zero_le _, rfl, rfl, hid (Below.refl _ _), hid (fun j hj => by omega)⟩
  case round =>
    obtain ⟨k, hk, rfl, rfl, hB, hh⟩ := hrel
    by_cases hlt : k < n
    · obtain ⟨b, off, pa, pn, pc, rfl, hbw, x0, hp⟩ := LAt.get (H.out.below hB.out) k hlt
      have hpn : pn ≤ 1048576 := by rw [← hp.1]; exact HN.out.2 k hlt
      have HP := hid hp
      clear hp
      cases hg : goodCurve (lk L k)
      · have HG := hid hg
        have E := hid (show false = goodList L by unfold goodList; rw [all_bad (by rw [HL.out]; exact hlt) hg]; rfl)
        clear hg
        go_wp2_with fail
        refine (i_IsValidCurve _ _ _ (lk L k) _ HP.out hpn).mono ?_
        rintro e w1 ⟨rfl, hb⟩
        rw [HG.out]
        go_wp2
        go_ret
        exact ⟨ret_bool E.out, bstep hB.out hb⟩
      · have HG := hid hg
        clear hg
        go_wp2_with fail
        refine (i_IsValidCurve _ _ _ (lk L k) _ HP.out hpn).mono ?_
        rintro e w1 ⟨rfl, hb⟩
        rw [HG.out]
        have HB1 := hid (bstep hB.out hb)
        clear hb
        go_wp2
        go_roundg (n - (k + 1))
        case rel =>
          refine ⟨k + 1, by omega, rfl, by go_num, HB1, hid (fun j hj => ?_)⟩
          by_cases e : j = k
          · subst e; exact HG.out
          · exact hh.out j (by omega)
        case measure => omega
    · obtain rfl : n = k := by omega
      have E := hid (show inR (n : Int) 1 4 = goodList L by unfold goodList; rw [all_good (fun j hj => hh.out j (by rw [← HL.out]; exact hj)), HL.out]; rfl)
      go_wp2_with fail
      refine (i_inside _ _ _ _).mono ?_
      rintro e _ ⟨rfl, rfl⟩
      go_wp2
      go_ret
      exact ⟨ret_bool E.out, hB.out⟩

theorem s_l7Add (a b c d : Int) (w : World) (h : addOk (a, b) (c, d)) :
    Calls Try.prog 71 #[.int .i64 a, .int .i64 b, .int .i64 c, .int .i64 d] w fun e w' => e = .returned (.tuple #[.int .i64 (addP (a, b) (c, d)).1, .int .i64 (addP (a, b) (c, d)).2]) ∧ Below w.heap.size w w' := by
  obtain ⟨h1, h2, h3, h4, h5⟩ := h
  dsimp only at h1 h2 h3 h4 h5
  have hw1 := IntWalk.i64_in (a * d) (by omega)
  have hw2 := IntWalk.i64_in (c * b) (by omega)
  have hw3 := IntWalk.i64_in (a * d + c * b) (by omega)
  have hw4 := IntWalk.i64_in (b * d) (by omega)
  unfold addP
  dsimp only
  go_enter Try.func71, Try.ntmps71
  go_wp2_with fail
  refine (s_l3Reduce _ _ _ h3 h4 h5).mono ?_
  rintro e _ ⟨rfl, m, rfl⟩
  go_wp2
  go_ret2
  exact ⟨rfl, bdraws _⟩

set_option maxHeartbeats 1000000 in
theorem i_plus (a b c d : Int) (w : World) (h : addOk (a, b) (c, d)) :
    Calls Try.prog 73 #[.agg #[.int .i64 a, .int .i64 b], .agg #[.int .i64 c, .int .i64 d]] w fun e w' => e = .returned (.agg #[.int .i64 (addP (a, b) (c, d)).1, .int .i64 (addP (a, b) (c, d)).2]) ∧ Below w.heap.size w w' := by
  obtain ⟨h1, h2, h3, h4, h5⟩ := h
  dsimp only at h1 h2 h3 h4 h5
  have hw1 := IntWalk.i64_in (a * d) (by omega)
  have hw2 := IntWalk.i64_in (c * b) (by omega)
  have hw3 := IntWalk.i64_in (a * d + c * b) (by omega)
  have hw4 := IntWalk.i64_in (b * d) (by omega)
  have EE := hid (show addP (a, b) (c, d) = (lowN (a * d + c * b) (b * d), lowD (a * d + c * b) (b * d)) from rfl)
  rw [EE.out]
  dsimp only
  go_enter Try.func73, Try.ntmps73
  go_wp2_with fail
  refine (i_asPart _ _ _ h3 h4 h5).mono ?_
  rintro e w1 ⟨rfl, hb⟩
  have T2 := hid ((hb.block (w.heap.size + 1 + 1) (by simp <;> omega)).trans (new_at _ _ _ (by simp)) : w1.heap[w.heap.size + 1 + 1]? = some (.cells #[.int .i64 0, .int .i64 0] 74 (0, 0)))
  have n0 : w1.cell? ⟨w.heap.size + 1 + 1, 0, none⟩ = some (.int .i64 0) := by rw [cell_of_row w1 _ _ _ _ (0, 0) T2.out]; rfl
  have n1 : w1.cell? ⟨w.heap.size + 1 + 1, 1, none⟩ = some (.int .i64 0) := by rw [cell_of_row w1 _ _ _ _ (0, 0) T2.out]; rfl
  have f0 := frozen_of_row w1 _ 0 _ _ T2.out
  have f1 := frozen_of_row w1 _ 1 _ _ T2.out
  have hz3 : w.heap.size + 1 + 1 < w1.heap.size := (Array.getElem?_eq_some_iff.1 T2.out).1
  have HB := hid (bstep (by go_grown) hb : Below w.heap.size w w1)
  clear hb
  go_wp2
  have e7 := heap_setCell_same _ _ 1 _ _ (.int .i64 (lowD (a * d + c * b) (b * d))) (heap_setCell_same w1 _ 0 _ _ (.int .i64 (lowN (a * d + c * b) (b * d))) T2.out)
  have u0 := cell_of_row _ _ 0 _ _ (0, 0) e7
  have u1 := cell_of_row _ _ 1 _ _ (0, 0) e7
  simp only [List.setIfInBounds_toArray, List.set_cons_zero, List.set_cons_succ, List.getElem?_toArray, List.getElem?_cons_zero, List.getElem?_cons_succ] at u0 u1
  refine bodyPost_ret (v := .agg #[.int .i64 (lowN (a * d + c * b) (b * d)), .int .i64 (lowD (a * d + c * b) (b * d))]) (by simp [results, Try.results73, go_sem, *]) rfl ⟨rfl, (HB.out.setCell (by show _ ≤ w.heap.size + 1 + 1; omega) _).setCell (by show _ ≤ w.heap.size + 1 + 1; omega) _⟩

set_option maxHeartbeats 2000000 in
theorem s_SeriesHead (a : Option Addr) (n c : Nat) (q : Int) (L : List (List Pt)) (w : World) (h : LAt w a n L) (hn : lens n L) (x y : Int) (z : Bool) (hR : seriesR L q = (x, y, z)) :
    Calls Try.prog 35 #[.slice a n c, .int .i64 q] w fun e w' => e = .returned (.tuple #[.int .i64 x, .int .i64 y, .bool z]) ∧ Below w.heap.size w w' := by
  have H := hid h
  have HL := hid h.1
  have HN := hid hn
  have hn1 := hn.1
  clear h hn
  cases h1 : inR (n : Int) 1 4
  · have e : seriesR L q = (0, 0, false) := by unfold seriesR; rw [HL.out, h1]; rfl
    rw [e] at hR
    simp only [Prod.mk.injEq] at hR
    obtain ⟨rfl, rfl, rfl⟩ := hR
    have H1 := hid h1
    clear h1 e
    go_enter Try.func35, Try.ntmps35
    go_wp2_with fail
    refine (s_l1In _ _ _ _).mono ?_
    rintro e _ ⟨rfl, rfl⟩
    rw [H1.out]
    go_wp2
    go_ret3
    exact ⟨rfl, by go_grown⟩
  · have hn4 := inR_iff.1 h1
    have H1 := hid h1
    have HR := hid hR
    clear h1 hR
    go_enter Try.func35, Try.ntmps35
    go_wp2_with fail
    refine (s_l1In _ _ _ _).mono ?_
    rintro e _ ⟨rfl, rfl⟩
    rw [H1.out]
    go_wp2
    go_loopg [7, 8, 9] n (fun g s t i wr => ∃ k : Nat, k ≤ n ∧ g = n - k ∧ i = .int .i64 k ∧ s = .int .i64 (sumK (fun k => headP (lk L k) q) k).1 ∧ t = .int .i64 (sumK (fun k => headP (lk L k) q) k).2 ∧ Hid (Below w.heap.size w wr) ∧ Hid (∀ j, j < k → goodCurve (lk L j) = true ∧ hasQ (lk L j) (lk L j).length q = true))
    case atStart => exact ⟨0, Nat.zero_le _, rfl, rfl, rfl, rfl, hid (Below.refl _ _), hid (fun j hj => by omega)⟩
    case round =>
      obtain ⟨k, hk, rfl, rfl, rfl, rfl, hB, hh⟩ := hrel
      by_cases hlt : k < n
      · obtain ⟨b, off, pa, pn, pc, rfl, hbw, x0, hp⟩ := LAt.get (H.out.below hB.out) k hlt
        have hpn : pn ≤ 1048576 := by rw [← hp.1]; exact HN.out.2 k hlt
        have HP := hid hp
        clear hp
        by_cases hok : goodCurve (lk L k) = true ∧ hasQ (lk L k) (lk L k).length q = true
        · obtain ⟨e1, sm⟩ := headR_ok hok.1 hok.2
          have hs := sumK_fit (v := fun k => headP (lk L k) q) (n := k) (by omega) (fun j hj => (headR_ok (hh.out j hj).1 (hh.out j hj).2).2) k (Nat.le_refl _)
          have AO := hid (add_fits (by omega) hs sm).1
          have HE := hid (show sumK (fun k => headP (lk L k) q) (k + 1) = addP (sumK (fun k => headP (lk L k) q) k) (headP (lk L k) q) from rfl)
          have E1 := hid e1
          have HOK := hid hok
          clear e1 sm hs hok
          go_wp2_with fail
          refine (s_HeadAt_is _ _ _ q (lk L k) _ HP.out hpn _ _ _ E1.out).mono ?_
          rintro e w1 ⟨rfl, hb⟩
          have HB1 := hid (bstep hB.out hb)
          clear hb
          generalize headP (lk L k) q = hp at *
          generalize sumK (fun k => headP (lk L k) q) k = sk at *
          obtain ⟨p1, p2⟩ := hp
          obtain ⟨s1, s2⟩ := sk
          dsimp only
          go_wp2_with fail
          refine (s_l7Add _ _ _ _ _ AO.out).mono ?_
          rintro e w2 ⟨rfl, hb⟩
          go_wp2
          go_roundg (n - (k + 1))
          case rel =>
            refine ⟨k + 1, by omega, rfl, by go_num, by rw [HE.out], by rw [HE.out], hid (bstep HB1.out hb), hid (fun j hj => ?_)⟩
            by_cases e : j = k
            · subst e; exact HOK.out
            · exact hh.out j (by omega)
          case measure => omega
        · have e1 : headR (lk L k) q = (0, 0, false) := headR_bad (by
            cases e1 : goodCurve (lk L k)
            · exact .inl rfl
            · cases e2 : hasQ (lk L k) (lk L k).length q
              · exact .inr rfl
              · exact absurd ⟨e1, e2⟩ hok)
          have e2 : seriesR L q = (0, 0, false) := by
            unfold seriesR
            rw [all_bad (L := L) (p := fun l => goodCurve l && hasQ l l.length q) (by rw [HL.out]; exact hlt) (by simpa using hok)]
            simp
          have hr := HR.out
          rw [e2] at hr
          simp only [Prod.mk.injEq] at hr
          obtain ⟨rfl, rfl, rfl⟩ := hr
          have E1 := hid e1
          clear e1 e2 hok
          go_wp2_with fail
          refine (s_HeadAt_is _ _ _ q (lk L k) _ HP.out hpn _ _ _ E1.out).mono ?_
          rintro e w1 ⟨rfl, hb⟩
          go_wp2
          go_ret3
          exact ⟨rfl, bstep hB.out hb⟩
      · obtain rfl : n = k := by omega
        have e2 : seriesR L q = ((sumK (fun k => headP (lk L k) q) n).1, (sumK (fun k => headP (lk L k) q) n).2, true) := by
          unfold seriesR
          rw [all_good (L := L) (p := fun l => goodCurve l && hasQ l l.length q) (fun j hj => by have := hh.out j (by rw [← HL.out]; exact hj); simp [this]), HL.out, H1.out]
          rfl
        have hr := HR.out
        rw [e2] at hr
        simp only [Prod.mk.injEq] at hr
        obtain ⟨rfl, rfl, rfl⟩ := hr
        clear e2
        go_wp2
        go_ret3
        exact ⟨rfl, hB.out⟩

theorem i_headAtP (a : Option Addr) (n c : Nat) (q : Int) (l : List Pt) (w : World) (h : PAt w a n l) (hg : goodCurve l = true) (hq : hasQ l l.length q = true) :
    Calls Try.prog 63 #[.slice a n c, .int .i64 q] w fun e w' => e = .returned (.agg #[.int .i64 (headP l q).1, .int .i64 (headP l q).2]) ∧ Below w.heap.size w w' := by
  have hl := h.1
  subst hl
  have e : headR l q = (hN l l.length q, hD l l.length q, true) := by unfold headR; rw [if_pos (by rw [hg, hq]; rfl)]
  unfold headP
  rw [e]
  exact i_headAt a _ c _ q l w h hg (segK_is (seg_flow hg rfl hq)) (h_fit hg rfl hq).1

set_option maxRecDepth 100000 in
set_option maxHeartbeats 4000000 in
theorem i_SeriesHead (a : Option Addr) (n c : Nat) (q : Int) (L : List (List Pt)) (w : World) (h : LAt w a n L) (hn : lens n L) (x y : Int) (z : Bool) (hR : seriesR L q = (x, y, z)) :
    Calls Try.prog 37 #[.slice a n c, .int .i64 q] w fun e w' => e = .returned (.tuple #[.int .i64 x, .int .i64 y, .bool z]) ∧ Below w.heap.size w w' := by
  have H := hid h
  have HL := hid h.1
  have HN := hid hn
  have hn1 := hn.1
  have HR := hid hR
  clear h hn hR
  cases h1 : goodList L
  · have H1 := hid h1
    have e : seriesR L q = (0, 0, false) := by
      unfold seriesR
      rw [if_neg]
      intro hc
      obtain ⟨c1, c2⟩ := (Bool.and_eq_true _ _).mp hc
      have : goodList L = true := by
        unfold goodList
        rw [c1, all_good (p := goodCurve) (fun j hj => ((Bool.and_eq_true _ _).mp (all_get (p := fun l => goodCurve l && hasQ l l.length q) c2 hj)).1)]
        rfl
      rw [this] at h1; cases h1
    have hr := HR.out
    rw [e] at hr
    simp only [Prod.mk.injEq] at hr
    obtain ⟨rfl, rfl, rfl⟩ := hr
    clear h1 e
    go_enter Try.func37, Try.ntmps37
    go_wp2_with fail
    refine (i_areCurves _ _ _ L _ H.out HN.out).mono ?_
    rintro e w1 ⟨rfl, hb⟩
    rw [H1.out]
    go_wp2
    go_ret3
    exact ⟨rfl, hb⟩
  · obtain ⟨hn4, hgood⟩ := goodList_iff h1
    rw [HL.out] at hn4 hgood
    have H1 := hid h1
    have HG := hid hgood
    clear h1 hgood
    go_enter Try.func37, Try.ntmps37
    go_wp2_with fail
    refine (i_areCurves _ _ _ L _ H.out HN.out).mono ?_
    rintro e w1 ⟨rfl, hb⟩
    rw [H1.out]
    have HB1 := hid hb
    have hz1 := hb.size
    clear hb
    go_wp2
    go_loopg [16] n (fun gm i wr => ∃ k : Nat, k ≤ n ∧ gm = n - k ∧ i = .int .i64 k ∧ Hid (Below w.heap.size w wr) ∧ Hid (wr.heap[w1.heap.size]? = some (.cells #[.int .i64 (sumK (fun k => headP (lk L k) q) k).1, .int .i64 (sumK (fun k => headP (lk L k) q) k).2] 74 (0, 0))) ∧ Hid (∀ j, j < k → hasQ (lk L j) (lk L j).length q = true))
    case atStart => exact ⟨0, Nat.zero_le _, rfl, rfl, hid (bstep HB1.out (by go_grown)), hid (new_at _ _ _ rfl), hid (fun j hj => by omega)⟩
    case round =>
      obtain ⟨k, hk, rfl, rfl, hB, hT, hh⟩ := hrel
      have hs := sumK_fit (v := fun k => headP (lk L k) q) (n := k) (by omega) (fun j hj => (headR_ok (HG.out j (by omega)) (hh.out j hj)).2) k (Nat.le_refl _)
      have HSF := hid hs
      clear hs
      obtain ⟨m0, m1⟩ := row_two hT.out
      have hzr : w1.heap.size < wr.heap.size := (Array.getElem?_eq_some_iff.1 hT.out).1
      by_cases hlt : k < n
      · obtain ⟨b, off, pa, pn, pc, rfl, hbw, x0, hp⟩ := LAt.get (H.out.below hB.out) k hlt
        have hpn : pn = (lk L k).length := hp.1.symm
        have hpl := good_lens (HG.out k hlt)
        have HP := hid hp
        have hpn1 : 1 ≤ pn ∧ pn ≤ 1048576 := by omega
        have HPN := hid hpn
        clear hp hpn hpl
        cases hq : hasQ (lk L k) (lk L k).length q
        · have HQ := hid (show inR q 0 (pt (lk L k) (pn - 1)).1 = false by rw [HPN.out]; exact hq)
          have e2 : seriesR L q = (0, 0, false) := by
            unfold seriesR
            rw [all_bad (L := L) (p := fun l => goodCurve l && hasQ l l.length q) (by rw [HL.out]; exact hlt) (by simp [hq])]
            simp
          have hr := HR.out
          rw [e2] at hr
          simp only [Prod.mk.injEq] at hr
          obtain ⟨rfl, rfl, rfl⟩ := hr
          clear e2 hq
          go_wp2_with fail
          refine (i_hasFlow _ _ _ _ (lk L k) _ HP.out (by omega)).mono ?_
          rintro e _ ⟨rfl, rfl⟩
          rw [HQ.out]
          clear m0 m1
          go_wp2
          go_ret3
          exact ⟨rfl, hB.out⟩
        · have HQ := hid (show inR q 0 (pt (lk L k) (pn - 1)).1 = true by rw [HPN.out]; exact hq)
          have HQ2 := hid hq
          have HE := hid (show sumK (fun k => headP (lk L k) q) (k + 1) = addP (sumK (fun k => headP (lk L k) q) k) (headP (lk L k) q) from rfl)
          have AO := hid (add_fits (by omega) HSF.out (headR_ok (HG.out k hlt) hq).2).1
          clear hq
          go_wp2_with fail
          refine (i_hasFlow _ _ _ _ (lk L k) _ HP.out (by omega)).mono ?_
          rintro e _ ⟨rfl, rfl⟩
          rw [HQ.out]
          obtain ⟨hd, hhd⟩ : ∃ hd, headP (lk L k) q = hd := ⟨_, rfl⟩
          obtain ⟨sk, hsk⟩ : ∃ sk, sumK (fun k => headP (lk L k) q) k = sk := ⟨_, rfl⟩
          have HHD := hid hhd
          have HSK := hid hsk
          rw [hhd, hsk] at HE AO
          rw [hsk] at m0 m1
          have hT2 := hid (show wr.heap[w1.heap.size]? = some (.cells #[.int .i64 sk.1, .int .i64 sk.2] 74 (0, 0)) by rw [← hsk]; exact hT.out)
          clear hhd hsk hT
          obtain ⟨p1, p2⟩ := hd
          obtain ⟨s1, s2⟩ := sk
          dsimp only at m0 m1 hT2
          go_upto_region 9 with fail
          refine wp_region_noPanic ?_
          refine wp_region_to (fun w' => w'.cell? ⟨w1.heap.size, 0, none⟩ = some (.int .i64 s1) ∧ w'.cell? ⟨w1.heap.size, 1, none⟩ = some (.int .i64 s2)) 5 (by kernel_rfl) (by exact ⟨m0, m1⟩) (fun hHeld => ?_)
          refine AnyTo.take (i := 0) (v := ?_) rfl (by kernel_rfl) (by kernel_rfl) (by kernel_rfl) (by kernel_rfl) (fun _ _ _ h => h) (Or.inl ⟨by rfl, ?_⟩) (by assumption) ?_
          rotate_left
          · (intro w' hSw; (try dsimp only at hSw); go_simp; all_goals with_reducible rfl)
          try simp only [Act.put, List.setIfInBounds_toArray, List.set_cons_zero, List.set_cons_succ]
          refine AnyTo.take (i := 1) (v := ?_) rfl (by kernel_rfl) (by kernel_rfl) (by kernel_rfl) (by kernel_rfl) (fun _ _ _ h => h) (Or.inl ⟨by rfl, ?_⟩) (by assumption) ?_
          rotate_left
          · (intro w' hSw; (try dsimp only at hSw); go_simp; all_goals with_reducible rfl)
          try simp only [Act.put, List.setIfInBounds_toArray, List.set_cons_zero, List.set_cons_succ]
          refine AnyTo.take (i := 2) (v := ?_) rfl (by kernel_rfl) (by kernel_rfl) (by kernel_rfl) (by kernel_rfl) (fun _ _ _ h => h) (Or.inl ⟨by rfl, ?_⟩) (by assumption) ?_
          rotate_left
          · (intro w' hSw; (try dsimp only at hSw); go_simp; all_goals with_reducible rfl)
          try simp only [Act.put, List.setIfInBounds_toArray, List.set_cons_zero, List.set_cons_succ]
          refine AnyTo.one (i := 3) rfl (by kernel_rfl) (fun Kn hKn => ?_)
          go_simp
          go_at_call 63
          refine (i_headAtP _ _ _ q (lk L k) _ (HP.out.below (by go_grown)) (HG.out k hlt) HQ2.out).mono ?_
          rintro e w5 ⟨rfl, hb5⟩
          rw [HHD.out]
          have HB5 := hid (bstep (Below.refl _ _).drew hb5 : Below wr.heap.size wr w5)
          have T5 := hid ((HB5.out.block _ hzr).trans hT2.out)
          clear hb5 hHeld
          refine hKn.out _ _ (row_two T5.out) (fun hHeld => ?_)
          clear hKn Kn
          try simp only [Act.put, List.setIfInBounds_toArray, List.set_cons_zero, List.set_cons_succ]
          refine AnyTo.one (i := 4) rfl (by kernel_rfl) (fun Kn hKn => ?_)
          go_simp
          go_at_call 73
          refine (i_plus _ _ _ _ _ AO.out).mono ?_
          rintro e w6 ⟨rfl, hb6⟩
          have HB6 := hid (bstep HB5.out hb6)
          have T6 := hid ((HB6.out.block _ hzr).trans hT2.out)
          clear hb6 hHeld
          refine hKn.out _ _ (row_two T6.out) (fun hHeld => ?_)
          clear hKn Kn
          try simp only [Act.put, List.setIfInBounds_toArray, List.set_cons_zero, List.set_cons_succ]
          obtain ⟨y0, y1⟩ := row_two T6.out
          have f0 := frozen_of_row w6 _ 0 _ _ T6.out
          have f1 := frozen_of_row w6 _ 1 _ _ T6.out
          have hz6 : w1.heap.size < w6.heap.size := (Array.getElem?_eq_some_iff.1 T6.out).1
          refine AnyTo.last rfl (by kernel_rfl) (by kernel_rfl) (fun Kn hKn => ?_)
          go_simp
          refine hKn.out _ _ ?_
          clear hKn Kn
          try simp only [Act.put, List.setIfInBounds_toArray, List.set_cons_zero, List.set_cons_succ]
          refine NoPanic.normal ?_
          clear hHeld m0 m1
          have e7 := heap_setCell_same _ _ 1 _ _ (.int .i64 (addP (s1, s2) (p1, p2)).2) (heap_setCell_same w6 _ 0 _ _ (.int .i64 (addP (s1, s2) (p1, p2)).1) T6.out)
          simp only [List.setIfInBounds_toArray, List.set_cons_zero, List.set_cons_succ] at e7
          have E7 := hid e7
          have BW := hid (((bstep hB.out HB6.out).setCell (p := ⟨w1.heap.size, 0, none⟩) HB1.out.size (.int .i64 (addP (s1, s2) (p1, p2)).1)).setCell (p := ⟨w1.heap.size, 1, none⟩) HB1.out.size (.int .i64 (addP (s1, s2) (p1, p2)).2))
          clear e7 y0 y1 f0 f1
          go_wp2
          go_roundg (n - (k + 1))
          case rel =>
            refine ⟨k + 1, by omega, rfl, by go_num, BW, hid (by rw [HE.out]; exact E7.out), hid (fun j hj => ?_)⟩
            by_cases e : j = k
            · subst e; exact HQ2.out
            · exact hh.out j (by omega)
          case measure => omega
      · obtain rfl : n = k := by omega
        have e2 : seriesR L q = ((sumK (fun k => headP (lk L k) q) n).1, (sumK (fun k => headP (lk L k) q) n).2, true) := by
          unfold seriesR
          rw [all_good (L := L) (p := fun l => goodCurve l && hasQ l l.length q) (fun j hj => by rw [HL.out] at hj; rw [HG.out j hj, hh.out j hj]; rfl), HL.out, inR_iff.2 (show (1 : Int) ≤ n ∧ (n : Int) ≤ 4 by omega)]
          rfl
        have hr := HR.out
        rw [e2] at hr
        simp only [Prod.mk.injEq] at hr
        obtain ⟨rfl, rfl, rfl⟩ := hr
        clear e2
        go_wp2_with fail
        go_quiet (fail)
        go_wp2
        go_ret3
        exact ⟨rfl, below_drewN hB.out _⟩

end Go.Proofs.Ytpcbeapajlchgaa

/-
  ParallelFlow, in the reference and in the program.
-/
set_option linter.unusedVariables false
set_option linter.unusedSimpArgs false
namespace Go.Proofs.Ytpcbeapajlchgaa
open Go.RowKit

theorem i_flowAtP (a : Option Addr) (n c : Nat) (q : Int) (l : List Pt) (w : World) (h : PAt w a n l) (hg : goodCurve l = true) (hq : hasH l l.length q = true) :
    Calls Try.prog 60 #[.slice a n c, .int .i64 q] w fun e w' => e = .returned (.agg #[.int .i64 (flowR l q).1, .int .i64 (flowR l q).2.1]) ∧ Below w.heap.size w w' := by
  have hl := h.1
  subst hl
  have e : flowR l q = (lowN (flN l (segH l q) q) (flD l (segH l q)), lowD (flN l (segH l q) q) (flD l (segH l q)), true) := by unfold flowR; rw [if_pos (by rw [hg, hq]; rfl)]
  rw [e]
  have hl := good_len hg rfl
  have hp := pt_flow hg rfl (k := l.length - 1) (by omega)
  have hp0 := pt_flow hg rfl (k := 0) (by omega)
  have h9 := inR_iff.1 hq
  exact i_flowAt a _ c _ q l w h hg (segH_is (seg_head hg rfl hq)) (by omega)
theorem s_l7FlowP (a : Option Addr) (n c : Nat) (q : Int) (l : List Pt) (w : World) (h : PAt w a n l) (hg : goodCurve l = true) (hq : hasH l l.length q = true) :
    Calls Try.prog 59 #[.slice a n c, .int .i64 q] w fun e w' => e = .returned (.tuple #[.int .i64 (flowR l q).1, .int .i64 (flowR l q).2.1]) ∧ Below w.heap.size w w' := by
  have hl := h.1
  subst hl
  have e : flowR l q = (lowN (flN l (segH l q) q) (flD l (segH l q)), lowD (flN l (segH l q) q) (flD l (segH l q)), true) := by unfold flowR; rw [if_pos (by rw [hg, hq]; rfl)]
  rw [e]
  have hl := good_len hg rfl
  have hp := pt_flow hg rfl (k := l.length - 1) (by omega)
  have hp0 := pt_flow hg rfl (k := 0) (by omega)
  have h9 := inR_iff.1 hq
  exact s_l7Flow a _ c _ q l w h hg (segH_is (seg_head hg rfl hq)) (by omega)

theorem flowP_hi {l : List Pt} {q : Int} (h : (pt l 0).2 < q) : flowP l q = (0, 1) := by unfold flowP; rw [if_pos h]
theorem flowP_lo {l : List Pt} {q : Int} (h : ¬ (pt l 0).2 < q) (h2 : q < (pt l (l.length - 1)).2) : flowP l q = ((pt l (l.length - 1)).1, 1) := by unfold flowP; rw [if_neg h, if_pos h2]
theorem flowP_mid {l : List Pt} {q : Int} (h : ¬ (pt l 0).2 < q) (h2 : ¬ q < (pt l (l.length - 1)).2) : flowP l q = ((flowR l q).1, (flowR l q).2.1) ∧ hasH l l.length q = true := by unfold flowP; rw [if_neg h, if_neg h2]; exact ⟨rfl, inR_iff.2 ⟨by omega, by omega⟩⟩

/-- What ParallelFlow is asked. -/
noncomputable abbrev PK (L : List (List Pt)) (q : Int) (k : Nat) : Int × Int := sumK (fun k => flowP (lk L k) q) k
theorem pk_ok {L : List (List Pt)} {q : Int} {n k : Nat} (hL : L.length = n) (hn : n ≤ 4) (hg : ∀ j, j < k → goodCurve (lk L j) = true) (hk : k < n) (hgk : goodCurve (lk L k) = true) : addOk (PK L q k) (flowP (lk L k) q) :=
  (add_fits (by omega) (sumK_fit (v := fun k => flowP (lk L k) q) (n := k) (by omega) (fun j hj => flowP_small q (hg j hj)) k (Nat.le_refl _)) (flowP_small q hgk)).1
theorem pk_same {L : List (List Pt)} {q : Int} {k : Nat} (hg : ∀ j, j < k → goodCurve (lk L j) = true) (h : flowP (lk L k) q = (0, 1)) : PK L q (k + 1) = PK L q k := by
  show addP (PK L q k) (flowP (lk L k) q) = PK L q k
  rw [h]
  exact add_zero (sum_low (fun k => flowP (lk L k) q) (n := k) (fun j hj => (flowP_small q (hg j hj)).1.1) k (Nat.le_refl _)).1

set_option maxRecDepth 100000 in
set_option maxHeartbeats 8000000 in
theorem i_ParallelFlow (a : Option Addr) (n c : Nat) (q : Int) (L : List (List Pt)) (w : World) (h : LAt w a n L) (hn : lens n L) (x y : Int) (z : Bool) (hR : parR L q = (x, y, z)) :
    Calls Try.prog 40 #[.slice a n c, .int .i64 q] w fun e w' => e = .returned (.tuple #[.int .i64 x, .int .i64 y, .bool z]) ∧ Below w.heap.size w w' := by
  have H := hid h
  have HL := hid h.1
  have HN := hid hn
  have hn1 := hn.1
  have HR := hid hR
  clear h hn hR
  cases h1 : goodList L
  · have H1 := hid h1
    have e : parR L q = (0, 0, false) := by
      unfold parR
      rw [if_neg]
      intro hc
      have c1 := ((Bool.and_eq_true _ _).mp hc).1
      rw [Bool.and_comm] at c1
      rw [show goodList L = true from c1] at h1; cases h1
    have hr := HR.out
    rw [e] at hr
    simp only [Prod.mk.injEq] at hr
    obtain ⟨rfl, rfl, rfl⟩ := hr
    clear h1 e
    go_enter Try.func40, Try.ntmps40
    go_wp2_with fail
    refine (i_areCurves _ _ _ L _ H.out HN.out).mono ?_
    rintro e w1 ⟨rfl, hb⟩
    rw [H1.out]
    go_wp2
    go_ret3
    exact ⟨rfl, hb⟩
  · cases h2 : inR q 0 1000
    · have H1 := hid h1
      have H2 := hid h2
      have e : parR L q = (0, 0, false) := by unfold parR; rw [h2]; simp
      have hr := HR.out
      rw [e] at hr
      simp only [Prod.mk.injEq] at hr
      obtain ⟨rfl, rfl, rfl⟩ := hr
      clear h1 h2 e
      go_enter Try.func40, Try.ntmps40
      go_wp2_with fail
      refine (i_areCurves _ _ _ L _ H.out HN.out).mono ?_
      rintro e w1 ⟨rfl, hb⟩
      rw [H1.out]
      go_wp2_with fail
      refine (i_isCurveValue _ _).mono ?_
      rintro e _ ⟨rfl, rfl⟩
      rw [H2.out]
      go_wp2
      go_ret3
      exact ⟨rfl, hb⟩
    · obtain ⟨hn4, hgood⟩ := goodList_iff h1
      rw [HL.out] at hn4 hgood
      have H1 := hid h1
      have H2 := hid h2
      have HG := hid hgood
      clear h1 h2 hgood
      go_enter Try.func40, Try.ntmps40
      go_wp2_with fail
      refine (i_areCurves _ _ _ L _ H.out HN.out).mono ?_
      rintro e w1 ⟨rfl, hb⟩
      rw [H1.out]
      have HB1 := hid hb
      have hz1 := hb.size
      clear hb
      go_wp2_with fail
      refine (i_isCurveValue _ _).mono ?_
      rintro e _ ⟨rfl, rfl⟩
      rw [H2.out]
      go_wp2
      go_loopg [22] n (fun gm i wr => ∃ k : Nat, k ≤ n ∧ gm = n - k ∧ i = .int .i64 k ∧ Hid (Below w.heap.size w wr) ∧ Hid (wr.heap[w1.heap.size]? = some (.cells #[.int .i64 (PK L q k).1, .int .i64 (PK L q k).2] 74 (0, 0))))
      case atStart => exact ⟨0, Nat.zero_le _, rfl, rfl, hid (bstep HB1.out (by go_grown)), hid (new_at _ _ _ rfl)⟩
      case round =>
        obtain ⟨k, hk, rfl, rfl, hB, hT⟩ := hrel
        obtain ⟨m0, m1⟩ := row_two hT.out
        have hzr : w1.heap.size < wr.heap.size := (Array.getElem?_eq_some_iff.1 hT.out).1
        by_cases hlt : k < n
        · obtain ⟨b, off, pa, pn, pc, rfl, hbw, x0, hp⟩ := LAt.get (H.out.below hB.out) k hlt
          have hpn : pn = (lk L k).length := hp.1.symm
          have hpl := good_lens (HG.out k hlt)
          have hpn1 : 2 ≤ pn ∧ pn ≤ 6 := by omega
          have HP := hid hp
          have AO := hid (pk_ok (q := q) HL.out hn4.2 (fun j hj => HG.out j (by omega)) hlt (HG.out k hlt))
          have hwn : IntKind.i64.wrap ((pn : Int) - 1) = ((pn - 1 : Nat) : Int) := by rw [IntWalk.i64_in _ (by omega)]; omega
          have hn2 : pn - 1 < pn := by omega
          have hn0 : 0 < pn := by omega
          obtain ⟨pb, po, e1, hpb, y0, y1⟩ := PAt.get hp (pn - 1) hn2
          obtain ⟨_, _, e2, _, z0, z1⟩ := PAt.get hp 0 hn0
          subst e1
          simp only [Option.some.injEq, Addr.mk.injEq, and_true] at e2
          obtain ⟨rfl, rfl⟩ := e2
          simp only [Nat.zero_mul, Nat.add_zero] at z0 z1
          have HPN := hid hpn
          obtain ⟨lf, hlf⟩ : ∃ lf, pt (lk L k) (pn - 1) = lf := ⟨_, rfl⟩
          obtain ⟨hd, hhd⟩ : ∃ hd, (pt (lk L k) 0).2 = hd := ⟨_, rfl⟩
          have HLF := hid (show pt (lk L k) ((lk L k).length - 1) = lf by rw [← hpn]; exact hlf)
          have HHD := hid hhd
          rw [hlf] at y0 y1
          rw [hhd] at z1
          obtain ⟨lf1, lf2⟩ := lf
          obtain ⟨sk, hsk⟩ : ∃ sk, PK L q k = sk := ⟨_, rfl⟩
          have HSK := hid hsk
          rw [hsk] at m0 m1 AO
          have hT2 := hid (show wr.heap[w1.heap.size]? = some (.cells #[.int .i64 sk.1, .int .i64 sk.2] 74 (0, 0)) by rw [← hsk]; exact hT.out)
          obtain ⟨s1, s2⟩ := sk
          dsimp only at m0 m1 hT2 y0 y1
          clear hp hpn hpl hlf hhd hsk hT z0
          have hc7 : ¬ wr.heap.size = w1.heap.size := by omega
          by_cases hhi : hd < q
          · have HE := hid (show PK L q (k + 1) = (s1, s2) by rw [pk_same (fun j hj => HG.out j (by omega)) (flowP_hi (by rw [HHD.out]; exact hhi)), HSK.out])
            go_wp2
            go_roundg (n - (k + 1))
            case rel =>
              refine ⟨k + 1, by omega, rfl, by go_num, hid (bstep hB.out (by go_grown)), hid ?_⟩
              rw [HE.out, Below.heap_alloc _ _ _ (by omega)]
              exact hT2.out
            case measure => omega
          · by_cases hlo : q < lf2
            · have HF := flowP_lo (l := lk L k) (q := q) (by rw [HHD.out]; exact hhi) (by rw [HLF.out]; exact hlo)
              rw [HLF.out] at HF
              have HE := hid (show PK L q (k + 1) = addP (s1, s2) (lf1, 1) by show addP (PK L q k) (flowP (lk L k) q) = _; rw [HF, HSK.out])
              rw [HF] at AO
              clear HF
              go_wp2_with fail
              refine (i_plus _ _ _ _ _ AO.out).mono ?_
              rintro e w6 ⟨rfl, hb6⟩
              have HB6 := hid (bstep (by go_grown) hb6 : Below wr.heap.size wr w6)
              have T6 := hid ((HB6.out.block _ hzr).trans hT2.out)
              clear hb6 m0 m1
              obtain ⟨m0, m1⟩ := row_two T6.out
              have f0 := frozen_of_row w6 _ 0 _ _ T6.out
              have f1 := frozen_of_row w6 _ 1 _ _ T6.out
              have hz6 : w1.heap.size < w6.heap.size := (Array.getElem?_eq_some_iff.1 T6.out).1
              have e7 := heap_setCell_same _ _ 1 _ _ (.int .i64 (addP (s1, s2) (lf1, 1)).2) (heap_setCell_same w6 _ 0 _ _ (.int .i64 (addP (s1, s2) (lf1, 1)).1) T6.out)
              simp only [List.setIfInBounds_toArray, List.set_cons_zero, List.set_cons_succ] at e7
              have E7 := hid e7
              have BW := hid (((bstep hB.out HB6.out).setCell (p := ⟨w1.heap.size, 0, none⟩) HB1.out.size (.int .i64 (addP (s1, s2) (lf1, 1)).1)).setCell (p := ⟨w1.heap.size, 1, none⟩) HB1.out.size (.int .i64 (addP (s1, s2) (lf1, 1)).2))
              clear e7
              go_wp2
              go_roundg (n - (k + 1))
              case rel => exact ⟨k + 1, by omega, rfl, by go_num, BW, hid (by rw [HE.out]; exact E7.out)⟩
              case measure => omega
            · have hfm := flowP_mid (l := lk L k) (q := q) (by rw [HHD.out]; exact hhi) (by rw [HLF.out]; exact hlo)
              have HF := hid hfm.1
              have HQ := hid hfm.2
              obtain ⟨p1, hp1⟩ : ∃ p1, (flowR (lk L k) q).1 = p1 := ⟨_, rfl⟩
              obtain ⟨p2, hp2⟩ : ∃ p2, (flowR (lk L k) q).2.1 = p2 := ⟨_, rfl⟩
              rw [hp1, hp2] at HF
              rw [HF.out] at AO
              have HE := hid (show PK L q (k + 1) = addP (s1, s2) (p1, p2) by show addP (PK L q k) (flowP (lk L k) q) = _; rw [HF.out, HSK.out])
              have HC := hid (fun (W : World) (hW : PAt W (some ⟨pb, po, none⟩) pn (lk L k)) => i_flowAtP (some ⟨pb, po, none⟩) pn pc q (lk L k) W hW (HG.out k hlt) HQ.out)
              rw [hp1, hp2] at HC
              clear hfm hp1 hp2
              go_upto_region 8 with fail
              obtain ⟨wq, hwq⟩ : ∃ wq, wr.alloc (.cells #[.int .i64 lf1, .int .i64 lf2] 52) = wq := ⟨_, rfl⟩
              have HWQ := hid (show Below wr.heap.size wr wq by rw [← hwq]; go_grown)
              rw [hwq]
              clear hwq m0 m1 y0 y1 z1 x0
              have TQ := hid ((HWQ.out.block _ hzr).trans hT2.out)
              obtain ⟨m0, m1⟩ := row_two TQ.out
              have hzq : w1.heap.size < wq.heap.size := (Array.getElem?_eq_some_iff.1 TQ.out).1
              refine wp_region_noPanic ?_
              refine wp_region_to (fun w' => w'.cell? ⟨w1.heap.size, 0, none⟩ = some (.int .i64 s1) ∧ w'.cell? ⟨w1.heap.size, 1, none⟩ = some (.int .i64 s2)) 5 (by kernel_rfl) (by exact ⟨m0, m1⟩) (fun hHeld => ?_)
              refine AnyTo.take (i := 0) (v := ?_) rfl (by kernel_rfl) (by kernel_rfl) (by kernel_rfl) (by kernel_rfl) (fun _ _ _ h => h) (Or.inl ⟨by rfl, ?_⟩) (by assumption) ?_
              rotate_left
              · (intro w' hSw; (try dsimp only at hSw); go_simp; all_goals with_reducible rfl)
              try simp only [Act.put, List.setIfInBounds_toArray, List.set_cons_zero, List.set_cons_succ]
              refine AnyTo.take (i := 1) (v := ?_) rfl (by kernel_rfl) (by kernel_rfl) (by kernel_rfl) (by kernel_rfl) (fun _ _ _ h => h) (Or.inl ⟨by rfl, ?_⟩) (by assumption) ?_
              rotate_left
              · (intro w' hSw; (try dsimp only at hSw); go_simp; all_goals with_reducible rfl)
              try simp only [Act.put, List.setIfInBounds_toArray, List.set_cons_zero, List.set_cons_succ]
              refine AnyTo.take (i := 2) (v := ?_) rfl (by kernel_rfl) (by kernel_rfl) (by kernel_rfl) (by kernel_rfl) (fun _ _ _ h => h) (Or.inl ⟨by rfl, ?_⟩) (by assumption) ?_
              rotate_left
              · (intro w' hSw; (try dsimp only at hSw); go_simp; all_goals with_reducible rfl)
              try simp only [Act.put, List.setIfInBounds_toArray, List.set_cons_zero, List.set_cons_succ]
              refine AnyTo.one (i := 3) rfl (by kernel_rfl) (fun Kn hKn => ?_)
              go_simp
              go_at_call 60
              refine (HC.out _ (HP.out.below (bstep HWQ.out (by go_grown)))).mono ?_
              rintro e w5 ⟨rfl, hb5⟩
              have HB5 := hid (bstep HWQ.out (bstep (Below.refl _ _).drew hb5) : Below wr.heap.size wr w5)
              have T5 := hid ((HB5.out.block _ hzr).trans hT2.out)
              clear hb5 hHeld
              refine hKn.out _ _ (row_two T5.out) (fun hHeld => ?_)
              clear hKn Kn
              try simp only [Act.put, List.setIfInBounds_toArray, List.set_cons_zero, List.set_cons_succ]
              refine AnyTo.one (i := 4) rfl (by kernel_rfl) (fun Kn hKn => ?_)
              go_simp
              go_at_call 73
              refine (i_plus _ _ _ _ _ AO.out).mono ?_
              rintro e w6 ⟨rfl, hb6⟩
              have HB6 := hid (bstep HB5.out hb6)
              have T6 := hid ((HB6.out.block _ hzr).trans hT2.out)
              clear hb6 hHeld
              refine hKn.out _ _ (row_two T6.out) (fun hHeld => ?_)
              clear hKn Kn
              try simp only [Act.put, List.setIfInBounds_toArray, List.set_cons_zero, List.set_cons_succ]
              obtain ⟨y0, y1⟩ := row_two T6.out
              have f0 := frozen_of_row w6 _ 0 _ _ T6.out
              have f1 := frozen_of_row w6 _ 1 _ _ T6.out
              have hz6 : w1.heap.size < w6.heap.size := (Array.getElem?_eq_some_iff.1 T6.out).1
              refine AnyTo.last rfl (by kernel_rfl) (by kernel_rfl) (fun Kn hKn => ?_)
              go_simp
              refine hKn.out _ _ ?_
              clear hKn Kn
              try simp only [Act.put, List.setIfInBounds_toArray, List.set_cons_zero, List.set_cons_succ]
              refine NoPanic.normal ?_
              clear hHeld m0 m1
              have e7 := heap_setCell_same _ _ 1 _ _ (.int .i64 (addP (s1, s2) (p1, p2)).2) (heap_setCell_same w6 _ 0 _ _ (.int .i64 (addP (s1, s2) (p1, p2)).1) T6.out)
              simp only [List.setIfInBounds_toArray, List.set_cons_zero, List.set_cons_succ] at e7
              have E7 := hid e7
              have BW := hid (((bstep hB.out HB6.out).setCell (p := ⟨w1.heap.size, 0, none⟩) HB1.out.size (.int .i64 (addP (s1, s2) (p1, p2)).1)).setCell (p := ⟨w1.heap.size, 1, none⟩) HB1.out.size (.int .i64 (addP (s1, s2) (p1, p2)).2))
              clear e7 y0 y1 f0 f1
              go_wp2
              go_roundg (n - (k + 1))
              case rel => exact ⟨k + 1, by omega, rfl, by go_num, BW, hid (by rw [HE.out]; exact E7.out)⟩
              case measure => omega
        · obtain rfl : n = k := by omega
          have e2 : parR L q = ((PK L q n).1, (PK L q n).2, true) := by
            unfold parR
            rw [show L.all goodCurve = true from ((Bool.and_eq_true _ _).mp H1.out).1, HL.out, H2.out, inR_iff.2 (show (1 : Int) ≤ n ∧ (n : Int) ≤ 4 by omega)]
            rfl
          have hr := HR.out
          rw [e2] at hr
          simp only [Prod.mk.injEq] at hr
          obtain ⟨rfl, rfl, rfl⟩ := hr
          clear e2
          go_wp2_with fail
          go_quiet (fail)
          go_wp2
          go_ret3
          exact ⟨rfl, below_drewN hB.out _⟩

set_option maxRecDepth 100000 in
set_option maxHeartbeats 8000000 in
theorem s_ParallelFlow (a : Option Addr) (n c : Nat) (q : Int) (L : List (List Pt)) (w : World) (h : LAt w a n L) (hn : lens n L) (x y : Int) (z : Bool) (hR : parR L q = (x, y, z)) :
    Calls Try.prog 39 #[.slice a n c, .int .i64 q] w fun e w' => e = .returned (.tuple #[.int .i64 x, .int .i64 y, .bool z]) ∧ Below w.heap.size w w' := by
  have H := hid h
  have HL := hid h.1
  have HN := hid hn
  have hn1 := hn.1
  have HR := hid hR
  clear h hn hR
  cases h1 : inR (n : Int) 1 4
  · have H1 := hid h1
    have e : parR L q = (0, 0, false) := by unfold parR; rw [HL.out, h1]; rfl
    have hr := HR.out
    rw [e] at hr
    simp only [Prod.mk.injEq] at hr
    obtain ⟨rfl, rfl, rfl⟩ := hr
    clear h1 e
    go_enter Try.func39, Try.ntmps39
    go_wp2_with fail
    refine (s_l1In _ _ _ _).mono ?_
    rintro e _ ⟨rfl, rfl⟩
    rw [H1.out]
    go_wp2
    go_ret3
    exact ⟨rfl, by go_grown⟩
  · cases h2 : inR q 0 1000
    · have H1 := hid h1
      have H2 := hid h2
      have e : parR L q = (0, 0, false) := by unfold parR; rw [h2]; simp
      have hr := HR.out
      rw [e] at hr
      simp only [Prod.mk.injEq] at hr
      obtain ⟨rfl, rfl, rfl⟩ := hr
      clear h1 h2 e
      go_enter Try.func39, Try.ntmps39
      go_wp2_with fail
      refine (s_l1In _ _ _ _).mono ?_
      rintro e _ ⟨rfl, rfl⟩
      rw [H1.out]
      go_wp2_with fail
      refine (s_l7Value _ _).mono ?_
      rintro e _ ⟨rfl, rfl⟩
      rw [H2.out]
      go_wp2
      go_ret3
      exact ⟨rfl, by go_grown⟩
    · have hn4 := inR_iff.1 h1
      have H1 := hid h1
      have H2 := hid h2
      clear h1 h2
      go_enter Try.func39, Try.ntmps39
      go_wp2_with fail
      refine (s_l1In _ _ _ _).mono ?_
      rintro e _ ⟨rfl, rfl⟩
      rw [H1.out]
      go_wp2_with fail
      refine (s_l7Value _ _).mono ?_
      rintro e _ ⟨rfl, rfl⟩
      rw [H2.out]
      go_wp2
      go_loopg [7, 8, 9] n (fun gm s t i wr => ∃ k : Nat, k ≤ n ∧ gm = n - k ∧ i = .int .i64 k ∧ s = .int .i64 (PK L q k).1 ∧ t = .int .i64 (PK L q k).2 ∧ Hid (Below w.heap.size w wr) ∧ Hid (∀ j, j < k → goodCurve (lk L j) = true))
      case atStart => exact ⟨0, Nat.zero_le _, rfl, rfl, rfl, rfl, hid (Below.refl _ _), hid (fun j hj => by omega)⟩
      case round =>
        obtain ⟨k, hk, rfl, rfl, rfl, rfl, hB, hh⟩ := hrel
        by_cases hlt : k < n
        · obtain ⟨b, off, pa, pn, pc, rfl, hbw, x0, hp⟩ := LAt.get (H.out.below hB.out) k hlt
          have hpn0 : pn ≤ 1048576 := by rw [← hp.1]; exact HN.out.2 k hlt
          have HP := hid hp
          cases hg : goodCurve (lk L k)
          · have e2 : parR L q = (0, 0, false) := by
              unfold parR
              rw [all_bad (L := L) (p := goodCurve) (by rw [HL.out]; exact hlt) hg]
              simp
            have hr := HR.out
            rw [e2] at hr
            simp only [Prod.mk.injEq] at hr
            obtain ⟨rfl, rfl, rfl⟩ := hr
            have HGK := hid hg
            clear e2 hg hp
            go_wp2_with fail
            refine (s_l7Good _ _ _ (lk L k) _ HP.out hpn0).mono ?_
            rintro e w1 ⟨rfl, hb⟩
            rw [HGK.out]
            go_wp2
            go_ret3
            exact ⟨rfl, bstep hB.out hb⟩
          · have HGK := hid hg
            have hpn : pn = (lk L k).length := hp.1.symm
            have hpl := good_lens hg
            have hpn1 : 2 ≤ pn ∧ pn ≤ 6 := by omega
            have HPN := hid hpn
            have AO := hid (pk_ok (q := q) HL.out (by omega) hh.out hlt hg)
            clear hg hp hpn hpl hpn0
            go_wp2_with fail
            refine (s_l7Good _ _ _ (lk L k) _ HP.out (by omega)).mono ?_
            rintro e w1 ⟨rfl, hb⟩
            rw [HGK.out]
            have HB1 := hid (bstep hB.out hb)
            have HBR := hid hb
            clear hb
            have HP1 := hid (HP.out.below HBR.out)
            have x1 : w1.cell? ⟨b, off + k, none⟩ = some (.slice pa pn pc) := ((bcell HBR.out).1 _ _ hbw).trans x0
            have hbw1 : b < w1.heap.size := by have := HBR.out.size; omega
            have hwn : IntKind.i64.wrap ((pn : Int) - 1) = ((pn - 1 : Nat) : Int) := by rw [IntWalk.i64_in _ (by omega)]; omega
            have hn2 : pn - 1 < pn := by omega
            have hn0 : 0 < pn := by omega
            obtain ⟨pb, po, e1, hpb, y0, y1⟩ := PAt.get HP1.out (pn - 1) hn2
            obtain ⟨_, _, e2, _, z0, z1⟩ := PAt.get HP1.out 0 hn0
            subst e1
            simp only [Option.some.injEq, Addr.mk.injEq, and_true] at e2
            obtain ⟨rfl, rfl⟩ := e2
            simp only [Nat.zero_mul, Nat.add_zero] at z0 z1
            obtain ⟨lf, hlf⟩ : ∃ lf, pt (lk L k) (pn - 1) = lf := ⟨_, rfl⟩
            obtain ⟨hd, hhd⟩ : ∃ hd, (pt (lk L k) 0).2 = hd := ⟨_, rfl⟩
            have HLF := hid (show pt (lk L k) ((lk L k).length - 1) = lf by rw [← HPN.out]; exact hlf)
            have HHD := hid hhd
            rw [hlf] at y0 y1
            rw [hhd] at z1
            obtain ⟨lf1, lf2⟩ := lf
            obtain ⟨sk, hsk⟩ : ∃ sk, PK L q k = sk := ⟨_, rfl⟩
            have HSK := hid hsk
            rw [hsk] at AO
            obtain ⟨s1, s2⟩ := sk
            dsimp only at y0 y1
            rw [hsk]
            dsimp only
            clear hlf hhd hsk z0 x0 hbw
            go_upto_region 10 with fail
            refine wp_region_noPanic ?_
            refine wp_region_held_drew (S := (fun w' => w'.cell? ⟨b, off + k, none⟩ = some (.slice (some ⟨pb, po, none⟩) pn pc) ∧ w'.cell? ⟨pb, po + (pn - 1) * 2, none⟩ = some (.int .i64 lf1) ∧ w'.cell? ⟨pb, po + (pn - 1) * 2 + 1, none⟩ = some (.int .i64 lf2))) (by kernel_rfl) (by exact ⟨x1, y0, y1⟩) (fun hHeld => ?_)
            refine wpAnyH_take' (i := 0) (v := ?_) rfl (by kernel_rfl) (by kernel_rfl) (by kernel_rfl) (fun _ _ _ h => h) (Or.inl ⟨by rfl, ?_⟩) (by assumption) ?_
            rotate_left
            · (intro w' hSw; (try dsimp only at hSw); go_simp; all_goals with_reducible rfl)
            try simp only [Act.put, List.setIfInBounds_toArray, List.set_cons_zero, List.set_cons_succ]
            refine wpAnyH_take' (i := 1) (v := ?_) rfl (by kernel_rfl) (by kernel_rfl) (by kernel_rfl) (fun _ _ _ h => h) (Or.inl ⟨by rfl, ?_⟩) (by assumption) ?_
            rotate_left
            · (intro w' hSw; (try dsimp only at hSw); go_simp; all_goals with_reducible rfl)
            try simp only [Act.put, List.setIfInBounds_toArray, List.set_cons_zero, List.set_cons_succ]
            refine wpAnyH_take' (i := 2) (v := ?_) rfl (by kernel_rfl) (by kernel_rfl) (by kernel_rfl) (fun _ _ _ h => h) (Or.inl ⟨by rfl, ?_⟩) (by assumption) ?_
            rotate_left
            · (intro w' hSw; (try dsimp only at hSw); go_simp; all_goals with_reducible rfl)
            try simp only [Act.put, List.setIfInBounds_toArray, List.set_cons_zero, List.set_cons_succ]
            refine wpAnyH_take' (i := 3) (v := ?_) rfl (by kernel_rfl) (by kernel_rfl) (by kernel_rfl) (fun _ _ _ h => h) (Or.inl ⟨by rfl, ?_⟩) (by assumption) ?_
            rotate_left
            · (intro w' hSw; (try dsimp only at hSw); go_simp; all_goals with_reducible rfl)
            try simp only [Act.put, List.setIfInBounds_toArray, List.set_cons_zero, List.set_cons_succ]
            refine wpAnyH_take' (i := 4) (v := ?_) rfl (by kernel_rfl) (by kernel_rfl) (by kernel_rfl) (fun _ _ _ h => h) (Or.inl ⟨by rfl, ?_⟩) (by assumption) ?_
            rotate_left
            · (intro w' hSw; (try dsimp only at hSw); go_simp; all_goals with_reducible rfl)
            try simp only [Act.put, List.setIfInBounds_toArray, List.set_cons_zero, List.set_cons_succ]
            refine wpAnyH_take' (i := 5) (v := ?_) rfl (by kernel_rfl) (by kernel_rfl) (by kernel_rfl) (fun _ _ _ h => h) (Or.inl ⟨by rfl, ?_⟩) (by assumption) ?_
            rotate_left
            · (intro w' hSw; (try dsimp only at hSw); go_simp; all_goals with_reducible rfl)
            try simp only [Act.put, List.setIfInBounds_toArray, List.set_cons_zero, List.set_cons_succ]
            refine wpAnyH_take' (i := 6) (v := ?_) rfl (by kernel_rfl) (by kernel_rfl) (by kernel_rfl) (fun _ _ _ h => h) (Or.inl ⟨by rfl, ?_⟩) (by assumption) ?_
            rotate_left
            · (intro w' hSw; (try dsimp only at hSw); go_simp; all_goals with_reducible rfl)
            try simp only [Act.put, List.setIfInBounds_toArray, List.set_cons_zero, List.set_cons_succ]
            refine wpAnyH_take' (i := 7) (v := ?_) rfl (by kernel_rfl) (by kernel_rfl) (by kernel_rfl) (fun _ _ _ h => h) (Or.inl ⟨by rfl, ?_⟩) (by assumption) ?_
            rotate_left
            · (intro w' hSw; (try dsimp only at hSw); go_simp; all_goals with_reducible rfl)
            try simp only [Act.put, List.setIfInBounds_toArray, List.set_cons_zero, List.set_cons_succ]
            refine wpAnyH_take' (i := 8) (v := ?_) rfl (by kernel_rfl) (by kernel_rfl) (by kernel_rfl) (fun _ _ _ h => h) (Or.inl ⟨by rfl, ?_⟩) (by assumption) ?_
            rotate_left
            · (intro w' hSw; (try dsimp only at hSw); go_simp; all_goals with_reducible rfl)
            try simp only [Act.put, List.setIfInBounds_toArray, List.set_cons_zero, List.set_cons_succ]
            refine wpAnyH_take' (i := 9) (v := ?_) rfl (by kernel_rfl) (by kernel_rfl) (by kernel_rfl) (fun _ _ _ h => h) (Or.inl ⟨by rfl, ?_⟩) (by assumption) ?_
            rotate_left
            · (intro w' hSw; (try dsimp only at hSw); go_simp; all_goals with_reducible rfl)
            try simp only [Act.put, List.setIfInBounds_toArray, List.set_cons_zero, List.set_cons_succ]
            refine wpAnyH_take' (i := 10) (v := ?_) rfl (by kernel_rfl) (by kernel_rfl) (by kernel_rfl) (fun _ _ _ h => h) (Or.inl ⟨by rfl, ?_⟩) (by assumption) ?_
            rotate_left
            · (intro w' hSw; (try dsimp only at hSw); go_simp; all_goals with_reducible rfl)
            try simp only [Act.put, List.setIfInBounds_toArray, List.set_cons_zero, List.set_cons_succ]
            refine wpAnyH_take' (i := 11) (v := ?_) rfl (by kernel_rfl) (by kernel_rfl) (by kernel_rfl) (fun _ _ _ h => h) (Or.inl ⟨by rfl, ?_⟩) (by assumption) ?_
            rotate_left
            · (intro w' hSw; (try dsimp only at hSw); go_simp; all_goals with_reducible rfl)
            try simp only [Act.put, List.setIfInBounds_toArray, List.set_cons_zero, List.set_cons_succ]
            refine wpAnyH_ready (rs := [12]) (by kernel_rfl) (by simp) ?_
            refine allReadyH_cons' rfl (fun Kn hKn => ?_) AllReadyH.nil
            go_simp
            have T12 := hid (show ((w1.alloc (.cells #[.int .i64 0, .int .i64 0] 52)).drew).heap[w1.heap.size]? = some (.cells #[.int .i64 0, .int .i64 0] 52 (0, 0)) from new_at _ _ _ rfl)
            have B12 := hid (by go_grown : Below w1.heap.size w1 ((w1.alloc (.cells #[.int .i64 0, .int .i64 0] 52)).drew))
            refine hKn.out _ _ ⟨((bcell B12.out).1 _ _ hbw1).trans x1, ((bcell B12.out).1 _ _ hpb).trans y0, ((bcell B12.out).1 _ _ hpb).trans y1⟩ (fun hHeldN => ?_)
            clear hKn Kn hHeld
            have hHeld := hHeldN
            clear hHeldN
            try simp only [Act.put, List.setIfInBounds_toArray, List.set_cons_zero, List.set_cons_succ]
            generalize (w1.alloc (.cells #[.int .i64 0, .int .i64 0] 52)).drew = W12 at *
            obtain ⟨u0, u1⟩ := row_two T12.out
            have f0 := frozen_of_row W12 _ 0 _ _ T12.out
            have f1 := frozen_of_row W12 _ 1 _ _ T12.out
            have hz12 : w1.heap.size < W12.heap.size := (Array.getElem?_eq_some_iff.1 T12.out).1
            have e7 := heap_setCell_same _ _ 1 _ _ (.int .i64 lf2) (heap_setCell_same W12 _ 0 _ _ (.int .i64 lf1) T12.out)
            simp only [List.setIfInBounds_toArray, List.set_cons_zero, List.set_cons_succ] at e7
            have T14 := hid e7
            have B14 := hid ((B12.out.setCell (p := ⟨w1.heap.size, 0, none⟩) (Nat.le_refl _) (.int .i64 lf1)).setCell (p := ⟨w1.heap.size, 1, none⟩) (Nat.le_refl _) (.int .i64 lf2))
            clear e7
            refine wpAnyH_ready (rs := [13]) (by kernel_rfl) (by simp) ?_
            refine allReadyH_cons' rfl (fun Kn hKn => ?_) AllReadyH.nil
            go_simp
            refine hKn.out _ _ ⟨((bcell B14.out).1 _ _ hbw1).trans x1, ((bcell B14.out).1 _ _ hpb).trans y0, ((bcell B14.out).1 _ _ hpb).trans y1⟩ (fun hHeldN => ?_)
            clear hKn Kn hHeld
            have hHeld := hHeldN
            clear hHeldN
            try simp only [Act.put, List.setIfInBounds_toArray, List.set_cons_zero, List.set_cons_succ]
            generalize (W12.setCell ⟨w1.heap.size, 0, none⟩ (.int .i64 lf1)).setCell ⟨w1.heap.size, 1, none⟩ (.int .i64 lf2) = W14 at *
            refine wpAnyH_done (by kernel_rfl) ?_ _
            refine NoPanic.normal ?_
            clear hHeld
            have x2 := ((bcell B14.out).1 _ _ hbw1).trans x1
            have z2 := ((bcell B14.out).1 _ _ hpb).trans z1
            obtain ⟨v0, v1⟩ := row_two T14.out
            have hz14 : w1.heap.size < W14.heap.size := (Array.getElem?_eq_some_iff.1 T14.out).1
            have BX := hid (bstep HB1.out B14.out)
            have HP4 := hid (HP1.out.below B14.out)
            clear x1 y0 y1 z1 u0 u1 f0 f1 hz12
            have hbw4 : b < W14.heap.size := by omega
            have hpb4 : pb < W14.heap.size := by omega
            by_cases hhi : hd < q
            · have HF := flowP_hi (l := lk L k) (q := q) (by rw [HHD.out]; exact hhi)
              have HE := hid (show PK L q (k + 1) = addP (s1, s2) (0, 1) by show addP (PK L q k) (flowP (lk L k) q) = _; rw [HF, HSK.out])
              rw [HF] at AO
              clear HF
              go_wp2_with fail
              refine (s_l7Add _ _ _ _ _ AO.out).mono ?_
              rintro e w6 ⟨rfl, hb6⟩
              have BW := hid (bstep BX.out hb6)
              clear hb6
              go_wp2
              go_roundg (n - (k + 1))
              case rel =>
                refine ⟨k + 1, by omega, rfl, by go_num, by rw [HE.out], by rw [HE.out], BW, hid (fun j hj => ?_)⟩
                by_cases e : j = k
                · subst e; exact HGK.out
                · exact hh.out j (by omega)
              case measure => omega
            · by_cases hlo : q < lf2
              · have HF := flowP_lo (l := lk L k) (q := q) (by rw [HHD.out]; exact hhi) (by rw [HLF.out]; exact hlo)
                rw [HLF.out] at HF
                have HE := hid (show PK L q (k + 1) = addP (s1, s2) (lf1, 1) by show addP (PK L q k) (flowP (lk L k) q) = _; rw [HF, HSK.out])
                rw [HF] at AO
                clear HF
                go_wp2_with fail
                refine (s_l7Add _ _ _ _ _ AO.out).mono ?_
                rintro e w6 ⟨rfl, hb6⟩
                have BW := hid (bstep BX.out hb6)
                clear hb6
                go_wp2
                go_roundg (n - (k + 1))
                case rel =>
                  refine ⟨k + 1, by omega, rfl, by go_num, by rw [HE.out], by rw [HE.out], BW, hid (fun j hj => ?_)⟩
                  by_cases e : j = k
                  · subst e; exact HGK.out
                  · exact hh.out j (by omega)
                case measure => omega
              · have hfm := flowP_mid (l := lk L k) (q := q) (by rw [HHD.out]; exact hhi) (by rw [HLF.out]; exact hlo)
                have HF := hid hfm.1
                have HQ := hid hfm.2
                obtain ⟨p1, hp1⟩ : ∃ p1, (flowR (lk L k) q).1 = p1 := ⟨_, rfl⟩
                obtain ⟨p2, hp2⟩ : ∃ p2, (flowR (lk L k) q).2.1 = p2 := ⟨_, rfl⟩
                rw [hp1, hp2] at HF
                rw [HF.out] at AO
                have HE := hid (show PK L q (k + 1) = addP (s1, s2) (p1, p2) by show addP (PK L q k) (flowP (lk L k) q) = _; rw [HF.out, HSK.out])
                have HC := hid (fun (W : World) (hW : PAt W (some ⟨pb, po, none⟩) pn (lk L k)) => s_l7FlowP (some ⟨pb, po, none⟩) pn pc q (lk L k) W hW HGK.out HQ.out)
                rw [hp1, hp2] at HC
                clear hfm hp1 hp2
                go_wp2_with fail
                refine (HC.out _ HP4.out).mono ?_
                rintro e w5 ⟨rfl, hb5⟩
                replace BX := hid (bstep BX.out hb5)
                clear hb5 v0 v1 x2 z2
                go_wp2_with fail
                refine (s_l7Add _ _ _ _ _ AO.out).mono ?_
                rintro e w6 ⟨rfl, hb6⟩
                have BW := hid (bstep BX.out hb6)
                clear hb6
                go_wp2
                go_roundg (n - (k + 1))
                case rel =>
                  refine ⟨k + 1, by omega, rfl, by go_num, by rw [HE.out], by rw [HE.out], BW, hid (fun j hj => ?_)⟩
                  by_cases e : j = k
                  · subst e; exact HGK.out
                  · exact hh.out j (by omega)
                case measure => omega
        · obtain rfl : n = k := by omega
          have e2 : parR L q = ((PK L q n).1, (PK L q n).2, true) := by
            unfold parR
            rw [all_good (L := L) (p := goodCurve) (fun j hj => hh.out j (by rw [← HL.out]; exact hj)), HL.out, H2.out, inR_iff.2 (show (1 : Int) ≤ n ∧ (n : Int) ≤ 4 by omega)]
            rfl
          have hr := HR.out
          rw [e2] at hr
          simp only [Prod.mk.injEq] at hr
          obtain ⟨rfl, rfl, rfl⟩ := hr
          clear e2
          go_wp2
          go_ret3
          exact ⟨rfl, hB.out⟩

end Go.Proofs.Ytpcbeapajlchgaa

