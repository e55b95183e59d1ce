/-
  Curves: whether one is above another, in the reference.
-/
import Derived.Test.YtpcbeapajlchgaaCurveB2
set_option linter.unusedVariables false
set_option linter.unusedSimpArgs false
namespace Go.Proofs.Ytpcbeapajlchgaa
open Go.RowKit

/-- The flows of some points. -/
def fl (l : List Pt) : List Int := l.map (·.1)
theorem fl_len (l : List Pt) : (fl l).length = l.length := by simp [fl]
theorem fl_succ (l : List Pt) (k : Nat) (hk : k < l.length) : fl (l.take (k + 1)) = fl (l.take k) ++ [(pt l k).1] := by
  rw [takeS k hk, fl, List.map_append]
  rfl
theorem fl_app (a b : List Pt) : fl (a ++ b) = fl a ++ fl b := by simp [fl]
theorem fl_get (l : List Pt) (k : Nat) (hk : k < l.length) : (fl l)[k]?.getD 0 = (pt l k).1 := by simp [fl, pt, hk]
theorem pt_app {a b : List Pt} {n k : Nat} (hn : a.length = n) : pt (a ++ b) k = if k < n then pt a k else pt b (k - n) := by
  subst hn
  unfold pt
  split
  · rename_i h; rw [List.getElem?_append_left h]
  · rename_i h; rw [List.getElem?_append_right (by omega)]

set_option maxRecDepth 100000 in
set_option maxHeartbeats 8000000 in
theorem s_IsAbove_yes (pa pb : Option Addr) (n c m d : Nat) (a b : List Pt) (w : World) (h : PAt w pa n a) (h' : PAt w pb m b) (h1 : goodCurve a = true) (h2 : goodCurve b = true) :
    Calls Try.prog 32 #[.slice pa n c, .slice pb m d] w fun e w' => e = .returned (.tuple #[.bool (!((a ++ b).any fun p => under a n b m p.1)), .bool true]) ∧ Below w.heap.size w w' := by
  have hna := good_len h1 h.1
  have hnb := good_len h2 h'.1
  have HA := hid h
  have HB := hid h'
  have LA := hid h.1
  have LB := hid h'.1
  have GA := hid h1
  have GB := hid h2
  obtain ⟨ba, oa, rfl, hba, -, -⟩ := PAt.get h 0 (by omega)
  obtain ⟨bb, ob, rfl, hbb, -, -⟩ := PAt.get h' 0 (by omega)
  clear h h' h1 h2
  go_enter Try.func32, Try.ntmps32
  go_wp2_with fail
  refine (s_l7Good _ _ _ a _ (HA.out.below (by go_grown)) (by omega)).mono ?_
  rintro e w1 ⟨rfl, hb1⟩
  rw [GA.out]
  go_wp2_with fail
  refine (s_l7Good _ _ _ b _ (HB.out.below (by first | exact hb1 | go_grown)) (by omega)).mono ?_
  rintro e w2 ⟨rfl, hb2⟩
  rw [GB.out]
  have B2 := hid (bstep hb1 hb2)
  clear hb1 hb2
  go_wp2
  go_loopg [6, 7] n (fun g o i wr => ∃ (k : Nat) (a' : Option Addr) (c' : Nat), k ≤ n ∧ g = n - k ∧ i = .int .i64 k ∧ o = .slice a' k c' ∧ Hid (OwnI wr w2.heap.size (.slice a' k c') (fl (a.take k)) ∧ Below w2.heap.size w2 wr))
  case atStart => exact ⟨0, _, _, Nat.zero_le _, rfl, rfl, rfl, hid ⟨OwnI.lit0 w2, (Below.refl _ _).alloc (Nat.le_refl _) _⟩⟩
  case round =>
    obtain ⟨k, a', c', hk, rfl, rfl, rfl, hh⟩ := hrel
    by_cases hlt : k < n
    · obtain ⟨_, _, e1, hbw, x0, x1⟩ := PAt.get ((HA.out.below B2.out).below hh.out.2) k hlt
      cases e1
      have hl1 := hid (show (fl (a.take k)).length = k by rw [fl_len, List.length_take]; have := LA.out; omega)
      go_wp2_with (at_builtin; refine wp_append_ints _ rfl _ _ rfl w2.heap.size _ (fl (a.take k)) rfl (hh.out.1.alloc _) _ 1 1 [(pt a k).1] rfl (IntsAt.single _ _) (k + 1) (by rw [hl1.out]) (by omega) (by have := hh.out.2.size; simp; omega) ?_)
      intro a'' c'' w3 hown hgrow hblk
      have HO := hid (show OwnI w3 w2.heap.size (.slice a'' (k + 1) c'') (fl (a.take (k + 1))) by rw [fl_succ _ _ (by have := LA.out; omega)]; exact hown)
      have HW := hid ((bstep hh.out.2 (by go_grown)).grown hgrow (by have := hh.out.2.size; simp; omega) (fun q hq => (hh.out.1.lt q hq).1))
      clear hown hgrow hblk hh
      go_wp2
      go_roundg (n - (k + 1))
      case rel => exact ⟨k + 1, _, _, by omega, rfl, by go_num, rfl, hid ⟨HO.out, HW.out⟩⟩
      case measure => omega
    · obtain rfl : k = n := by omega
      have H1 := hid (show OwnI wr w2.heap.size (.slice a' k c') (fl a) by have e := hh.out.1; rwa [List.take_of_length_le (by have := LA.out; omega)] at e)
      have B3 := hid hh.out.2
      clear hh
      go_wp2
      go_loopg [6, 8] m (fun g o i wr => ∃ (j : Nat) (a' : Option Addr) (c' : Nat), j ≤ m ∧ g = m - j ∧ i = .int .i64 j ∧ o = .slice a' (k + j) c' ∧ Hid (OwnI wr w2.heap.size (.slice a' (k + j) c') (fl a ++ fl (b.take j)) ∧ Below w2.heap.size w2 wr))
      case atStart => exact ⟨0, _, _, Nat.zero_le _, rfl, rfl, rfl, hid ⟨by simpa [fl] using H1.out, B3.out⟩⟩
      case round =>
        obtain ⟨j, a2, c2, hj, rfl, rfl, rfl, hh⟩ := hrel
        by_cases hlt2 : j < m
        · obtain ⟨_, _, e1, hbw, x0, x1⟩ := PAt.get ((HB.out.below B2.out).below hh.out.2) j hlt2
          cases e1
          have hl1 := hid (show (fl a ++ fl (b.take j)).length = k + j by rw [List.length_append, fl_len, fl_len, List.length_take]; have := LA.out; have := LB.out; omega)
          go_wp2_with (at_builtin; refine wp_append_ints _ rfl _ _ rfl w2.heap.size _ (fl a ++ fl (b.take j)) rfl (hh.out.1.alloc _) _ 1 1 [(pt b j).1] rfl (IntsAt.single _ _) (k + j + 1) (by rw [hl1.out]) (by omega) (by have := hh.out.2.size; simp; omega) ?_)
          intro a'' c'' w3 hown hgrow hblk
          have HO := hid (show OwnI w3 w2.heap.size (.slice a'' (k + (j + 1)) c'') (fl a ++ fl (b.take (j + 1))) by rw [fl_succ _ _ (by have := LB.out; omega)]; first | exact hown | (rw [← List.append_assoc]; exact hown))
          have HW := hid ((bstep hh.out.2 (by go_grown)).grown hgrow (by have := hh.out.2.size; simp; omega) (fun q hq => (hh.out.1.lt q hq).1))
          clear hown hgrow hblk hh
          go_wp2
          go_roundg (m - (j + 1))
          case rel => exact ⟨j + 1, _, _, by omega, rfl, by go_num, rfl, hid ⟨HO.out, HW.out⟩⟩
          case measure => omega
        · obtain rfl : j = m := by omega
          have H2 := hid (show OwnI wr w2.heap.size (.slice a2 (k + j) c2) (fl (a ++ b)) by have e := hh.out.1; rw [List.take_of_length_le (by have := LB.out; omega)] at e; rw [fl_app]; exact e)
          have B4 := hid hh.out.2
          have A4 := hid ((HA.out.below B2.out).below B4.out)
          have A5 := hid ((HB.out.below B2.out).below B4.out)
          have BW := hid (bstep B2.out B4.out)
          have LL := hid (show (fl (a ++ b)).length = k + j by rw [fl_len, List.length_append]; have := LA.out; have := LB.out; omega)
          obtain ⟨_, _, e1, hbw1, x0, -⟩ := PAt.get A4.out (k - 1) (by omega)
          cases e1
          obtain ⟨_, _, e2, hbw2, y0, -⟩ := PAt.get A5.out (j - 1) (by omega)
          cases e2
          have hk1 : k - 1 < k := by omega
          have hj1 : j - 1 < j := by omega
          have hwk : IntKind.i64.wrap ((k : Int) - 1) = ((k - 1 : Nat) : Int) := (IntWalk.i64_in _ (by omega)).trans (by omega)
          have hwj : IntKind.i64.wrap ((j : Int) - 1) = ((j - 1 : Nat) : Int) := (IntWalk.i64_in _ (by omega)).trans (by omega)
          have X := hid (show Below wr.heap.size wr wr.drew ∧ wr.drew.cell? ⟨ba, oa + (k - 1) * 2, none⟩ = some (.int .i64 (pt a (k - 1)).1) ∧ wr.drew.cell? ⟨bb, ob + (j - 1) * 2, none⟩ = some (.int .i64 (pt b (j - 1)).1) from ⟨(Below.refl _ _).drew, x0, y0⟩)
          clear hh x0 y0
          go_upto_region 12 with fail
          refine wp_region_calm (C := (fun w' => Below wr.heap.size wr w' ∧ w'.cell? ⟨ba, oa + (k - 1) * 2, none⟩ = some (.int .i64 (pt a (k - 1)).1) ∧ w'.cell? ⟨bb, ob + (j - 1) * 2, none⟩ = some (.int .i64 (pt b (j - 1)).1))) (by kernel_rfl) (by kernel_rfl) (X.out) ?_
          repeat
            first
              | go_big_quiet_skip
              | (go_big_quiet_want
                 first
                   | (unfold Oper.quiet
                      apply Exists.intro
                      refine ⟨fun wq hq => ?_, ?_⟩
                      · (try dsimp only at hq
                         simp [go_sem, Oper.quietAt, Oper.quietUpon, BigFrame.eval_const, BigFrame.eval_global, BigFrame.eval_func, ↓IntWalk.iteOmega, *]
                         first | done | rfl | (refine calm_same hq (s_l1Least _ _ _) rfl))
                      simp only [Act.put, List.setIfInBounds_toArray, List.set_cons_succ, List.set_cons_zero]
                      go_big_quiet_on))
          refine wpQuiet_nil ?_
          intro wc hcalm
          try dsimp only at hcalm
          have H3 := hid (H2.out.below hcalm.1)
          have A6 := hid (A4.out.below hcalm.1)
          have A7 := hid (A5.out.below hcalm.1)
          have BX := hid (bstep BW.out hcalm.1)
          clear hcalm hwk hwj hk1 hj1 X
          generalize hmost : min (pt a (k - 1)).1 (pt b (j - 1)).1 = most
          have MO := hid hmost
          clear hmost
          go_wp2
          go_loopg [10] (k + j) (fun g i wr => ∃ r : Nat, r ≤ k + j ∧ g = k + j - r ∧ i = .int .i64 r ∧ Hid (Below wc.heap.size wc wr) ∧ Hid (∀ i, i < r → under a k b j (pt (a ++ b) i).1 = false))
          case atStart => exact ⟨0, Nat.zero_le _, rfl, rfl, hid (Below.refl _ _), hid (fun i hi => absurd hi (by omega))⟩
          case round =>
            obtain ⟨r, hr, rfl, rfl, hB, hh⟩ := hrel
            by_cases hlt3 : r < k + j
            · obtain ⟨b0, off0, rfl, hbw, x0⟩ := (H3.out.at.below hB.out).2 r hlt3
              rw [fl_get _ _ (by have := LL.out; rw [fl_len] at this; omega)] at x0
              have Q0 : Hid (0 ≤ (pt (a ++ b) r).1) := hid (by
                rw [pt_app LA.out]
                split
                · exact (pt_flow GA.out LA.out (by omega)).1.1
                · exact (pt_flow GB.out LB.out (by omega)).1.1)
              by_cases hmo : most < (pt (a ++ b) r).1
              · have U : Hid (under a k b j (pt (a ++ b) r).1 = false) := hid (by
                  have := MO.out
                  have : hasQ a k (pt (a ++ b) r).1 = false ∨ hasQ b j (pt (a ++ b) r).1 = false := by
                    by_cases h : (pt a (k - 1)).1 < (pt (a ++ b) r).1
                    · exact .inl (by unfold hasQ; rw [inR_no]; omega)
                    · exact .inr (by unfold hasQ; rw [inR_no]; omega)
                  rcases this with h | h <;> simp [under, h])
                go_wp2
                go_roundg (k + j - (r + 1))
                case rel =>
                  refine ⟨r + 1, by omega, rfl, by go_num, hB, hid (fun i hi => ?_)⟩
                  by_cases e : i = r
                  · subst e; exact U.out
                  · exact hh.out i (by omega)
                case measure => omega
              · have qa : hasQ a k (pt (a ++ b) r).1 = true := inR_iff.2 (by have := MO.out; have := Q0.out; omega)
                have qb : hasQ b j (pt (a ++ b) r).1 = true := inR_iff.2 (by have := MO.out; have := Q0.out; omega)
                obtain ⟨f1, f2, f3⟩ := h_fit GA.out LA.out qa
                obtain ⟨-, g2, g3⟩ := h_fit GB.out LB.out qb
                have p1 := mul_in (x := hN a k (pt (a ++ b) r).1) (y := hD b j (pt (a ++ b) r).1) (A := 4000000) (B := 1000) (by omega) (by omega)
                have p2 := mul_in (x := hN b j (pt (a ++ b) r).1) (y := hD a k (pt (a ++ b) r).1) (A := 4000000) (B := 1000) (by omega) (by omega)
                simp only [Int.reduceMul] at p1 p2
                have SA := hid (segK_is (seg_flow GA.out LA.out qa))
                have SB := hid (segK_is (seg_flow GB.out LB.out qb))
                have QA := hid qa
                have QB := hid qb
                clear qa qb
                go_wp2_with fail
                refine (s_l7Head _ _ _ _ _ a _ (A6.out.below hB.out) GA.out SA.out f1).mono ?_
                rintro e w5 ⟨rfl, hb5⟩
                have B5 := hid (bstep hB.out hb5)
                have x5 := ((bcell hb5).1 _ _ hbw).trans x0
                have hz5 := World.block_lt_of_cell? w5 _ x5
                clear hb5
                go_wp2_with fail
                refine (s_l7Head _ _ _ _ _ b _ (A7.out.below B5.out) GB.out SB.out f1).mono ?_
                rintro e w6 ⟨rfl, hb6⟩
                have B6 := hid (bstep B5.out hb6)
                clear hb6
                have e1 : lowN (hdN a (segK a k (pt (a ++ b) r).1) (pt (a ++ b) r).1) (hdD a (segK a k (pt (a ++ b) r).1)) = hN a k (pt (a ++ b) r).1 := rfl
                have e2 : lowD (hdN a (segK a k (pt (a ++ b) r).1) (pt (a ++ b) r).1) (hdD a (segK a k (pt (a ++ b) r).1)) = hD a k (pt (a ++ b) r).1 := rfl
                have e3 : lowN (hdN b (segK b j (pt (a ++ b) r).1) (pt (a ++ b) r).1) (hdD b (segK b j (pt (a ++ b) r).1)) = hN b j (pt (a ++ b) r).1 := rfl
                have e4 : lowD (hdN b (segK b j (pt (a ++ b) r).1) (pt (a ++ b) r).1) (hdD b (segK b j (pt (a ++ b) r).1)) = hD b j (pt (a ++ b) r).1 := rfl
                rw [e1, e2, e3, e4]
                clear e1 e2 e3 e4
                by_cases hu : hN a k (pt (a ++ b) r).1 * hD b j (pt (a ++ b) r).1 < hN b j (pt (a ++ b) r).1 * hD a k (pt (a ++ b) r).1
                · have E := hid (show ((a ++ b).any fun p => under a k b j p.1) = true from any_at (k := r) (by have := LA.out; have := LB.out; rw [List.length_append]; omega) (by show under a k b j (pt (a ++ b) r).1 = true; simp [under, QA.out, QB.out, hu]))
                  go_wp2
                  go_ret2
                  rw [E.out]
                  exact ⟨rfl, bstep BX.out B6.out⟩
                · have U : Hid (under a k b j (pt (a ++ b) r).1 = false) := hid (by simp [under, hu])
                  go_wp2
                  go_roundg (k + j - (r + 1))
                  case rel =>
                    refine ⟨r + 1, by omega, rfl, by go_num, B6, hid (fun i hi => ?_)⟩
                    by_cases e : i = r
                    · subst e; exact U.out
                    · exact hh.out i (by omega)
                  case measure => omega
            · obtain rfl : r = k + j := by omega
              have E := hid (show ((a ++ b).any fun p => under a k b j p.1) = false from any_none (fun i hi => hh.out i (by have := LA.out; have := LB.out; rw [List.length_append] at hi; omega)))
              go_wp2
              go_ret2
              rw [E.out]
              exact ⟨rfl, bstep BX.out hB.out⟩

end Go.Proofs.Ytpcbeapajlchgaa
