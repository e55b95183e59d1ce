/-
  Curves: whether one is above another, in the program.
-/
import Derived.Test.YtpcbeapajlchgaaCurveB
import Derived.Test.YtpcbeapajlchgaaCurveC
import Derived.Test.YtpcbeapajlchgaaSOne
set_option linter.unusedVariables false
set_option linter.unusedSimpArgs false
namespace Go.Proofs.Ytpcbeapajlchgaa
open Go.RowKit

theorem aboveR_no {a b : List Pt} (h : goodCurve a = false ∨ goodCurve b = false) : aboveR a b = (false, false) := by
  unfold aboveR
  rw [if_neg]
  rintro ⟨h1, h2⟩
  rcases h with h | h
  · rw [h1] at h; cases h
  · rw [h2] at h; cases h

theorem i_IsAbove_no (pa pb : Option Addr) (n c m d : Nat) (a b : List Pt) (w : World) (h : PAt w pa n a) (h' : PAt w pb m b) (hn : n ≤ 1048576) (hm : m ≤ 1048576) (hv : goodCurve a = false ∨ goodCurve b = false) :
    Calls Try.prog 33 #[.slice pa n c, .slice pb m d] w fun e w' => e = .returned (.tuple #[.bool false, .bool false]) ∧ Below w.heap.size w w' := by
  have HA := hid h
  have HB := hid h'
  clear h h'
  cases h1 : goodCurve a
  · have GA := hid h1
    clear h1 hv
    go_enter Try.func33, Try.ntmps33
    go_wp2_with fail
    refine (i_IsValidCurve _ _ _ a _ (HA.out.below (by go_grown)) (by omega)).mono ?_
    rintro e w1 ⟨rfl, hb1⟩
    rw [GA.out]
    go_wp2
    go_ret2
    exact ⟨rfl, hb1⟩
  · have GA := hid h1
    have GB : Hid (goodCurve b = false) := hid (by rcases hv with h | h; (rw [h1] at h; cases h); exact h)
    clear h1 hv
    go_enter Try.func33, Try.ntmps33
    go_wp2_with fail
    refine (i_IsValidCurve _ _ _ a _ (HA.out.below (by go_grown)) (by omega)).mono ?_
    rintro e w1 ⟨rfl, hb1⟩
    rw [GA.out]
    go_wp2_with fail
    refine (i_IsValidCurve _ _ _ b _ (HB.out.below hb1) (by omega)).mono ?_
    rintro e w2 ⟨rfl, hb2⟩
    rw [GB.out]
    go_wp2
    go_ret2
    exact ⟨rfl, bstep hb1 hb2⟩
theorem s_IsAbove_no (pa pb : Option Addr) (n c m d : Nat) (a b : List Pt) (w : World) (h : PAt w pa n a) (h' : PAt w pb m b) (hn : n ≤ 1048576) (hm : m ≤ 1048576) (hv : goodCurve a = false ∨ goodCurve b = false) :
    Calls Try.prog 32 #[.slice pa n c, .slice pb m d] w fun e w' => e = .returned (.tuple #[.bool false, .bool false]) ∧ Below w.heap.size w w' := by
  have HA := hid h
  have HB := hid h'
  clear h h'
  cases h1 : goodCurve a
  · have GA := hid h1
    clear h1 hv
    go_enter Try.func32, Try.ntmps32
    go_wp2_with fail
    refine (s_l7Good _ _ _ a _ (HA.out.below (by go_grown)) (by omega)).mono ?_
    rintro e w1 ⟨rfl, hb1⟩
    rw [GA.out]
    go_wp2
    go_ret2
    exact ⟨rfl, hb1⟩
  · have GA := hid h1
    have GB : Hid (goodCurve b = false) := hid (by rcases hv with h | h; (rw [h1] at h; cases h); exact h)
    clear h1 hv
    go_enter Try.func32, Try.ntmps32
    go_wp2_with fail
    refine (s_l7Good _ _ _ a _ (HA.out.below (by go_grown)) (by omega)).mono ?_
    rintro e w1 ⟨rfl, hb1⟩
    rw [GA.out]
    go_wp2_with fail
    refine (s_l7Good _ _ _ b _ (HB.out.below hb1) (by omega)).mono ?_
    rintro e w2 ⟨rfl, hb2⟩
    rw [GB.out]
    go_wp2
    go_ret2
    exact ⟨rfl, bstep hb1 hb2⟩

set_option maxRecDepth 100000 in
set_option maxHeartbeats 8000000 in
theorem i_IsAbove_yes (pa pb : Option Addr) (n c m d : Nat) (a b : List Pt) (w : World) (h : PAt w pa n a) (h' : PAt w pb m b) (h1 : goodCurve a = true) (h2 : goodCurve b = true) :
    Calls Try.prog 33 #[.slice pa n c, .slice pb m d] w fun e w' => e = .returned (.tuple #[.bool (!((a ++ b).any fun p => under a n b m p.1)), .bool true]) ∧ Below w.heap.size w w' := by
  obtain ⟨i0, hi, hz0, hz1, hz2⟩ := info_parts Try.infoCurvePoint
  have hna := good_len h1 h.1
  have hnb := good_len h2 h'.1
  have HA := hid h
  have HB := hid h'
  have LA := hid h.1
  have LB := hid h'.1
  have GA := hid h1
  have GB := hid h2
  have HI := hid hi
  have HZ := hid hz0
  have HZ1 := hid hz1
  have HZ2 := hid hz2
  clear h h' h1 h2 hi hz0 hz1 hz2
  go_enter Try.func33, Try.ntmps33
  go_wp2_with fail
  refine (i_IsValidCurve _ _ _ a _ (HA.out.below (by go_grown)) (by omega)).mono ?_
  rintro e w1 ⟨rfl, hb1⟩
  rw [GA.out]
  go_wp2_with fail
  refine (i_IsValidCurve _ _ _ b _ (HB.out.below (by first | exact hb1 | go_grown)) (by omega)).mono ?_
  rintro e w2 ⟨rfl, hb2⟩
  rw [GB.out]
  have B2 := hid (bstep hb1 hb2)
  clear hb1 hb2
  go_wp2_with (at_builtin; refine wp_append_s _ rfl _ _ 25 rfl 52 i0 (.agg #[.int .i64 0, .int .i64 0]) 16 Try.underlying25 HI.out HZ.out HZ1.out HZ2.out rfl (by decide) pf_len pf_one w2.heap.size _ [] rfl (OwnS.lit0 w2) pa n c a rfl ((HA.out.below B2.out).below (by go_grown)) n (by simp) (by omega) (by decide) (by simp) ?_)
  intro a3 c3 w3 hown3 hgrow3 _
  have O3 := hid (show OwnP w3 w2.heap.size (.slice a3 n c3) a by simpa using hown3)
  have B3 := hid (((Below.refl w2.heap.size w2).alloc (Nat.le_refl _) _).grown hgrow3 (by simp) (fun k hk => by simp [Value.ownBlock] at hk; omega))
  clear hown3 hgrow3
  go_wp2_with (at_builtin; refine wp_append_s _ rfl _ _ 25 rfl 52 i0 (.agg #[.int .i64 0, .int .i64 0]) 16 Try.underlying25 HI.out HZ.out HZ1.out HZ2.out rfl (by decide) pf_len pf_one w2.heap.size _ a rfl O3.out pb m d b rfl ((HB.out.below B2.out).below B3.out) (n + m) (by rw [LA.out]) (by omega) (by decide) B3.out.size ?_)
  intro a4 c4 w4 hown4 hgrow4 _
  have B4 := hid (B3.out.grown hgrow4 B3.out.size (fun k hk => (O3.out.lt k hk).1))
  have O4 := hid (OwnS.at pf_len hown4)
  have A4 := hid ((HA.out.below B2.out).below B4.out)
  have A5 := hid ((HB.out.below B2.out).below B4.out)
  have BW := hid (bstep B2.out B4.out)
  clear hown4 hgrow4 O3 B3
  go_wp2
  go_loopg [22] (n + m) (fun g i wr => ∃ k : Nat, k ≤ n + m ∧ g = n + m - k ∧ i = .int .i64 k ∧ Hid (Below w4.heap.size w4 wr) ∧ Hid (∀ j, j < k → under a n b m (pt (a ++ b) j).1 = false))
  case atStart => exact ⟨0, Nat.zero_le _, by omega, rfl, hid (Below.refl _ _), hid (fun j hj => absurd hj (by omega))⟩
  case round =>
    obtain ⟨k, hk, rfl, rfl, hB, hh⟩ := hrel
    by_cases hlt : k < n + m
    · obtain ⟨b0, off0, rfl, hbw, x0, x1⟩ := PAt.get (O4.out.below hB.out) k hlt
      generalize hq0 : (pt (a ++ b) k).1 = q at x0
      generalize hq1 : (pt (a ++ b) k).2 = q1 at x1
      have HQ0 := hid hq0
      clear hq0 hq1
      go_upto_region 6 with fail
      have X := hid (show Below w4.heap.size w4 (wr.alloc (.cells #[.int .i64 q, .int .i64 q1] 52)).drew ∧ (wr.alloc (.cells #[.int .i64 q, .int .i64 q1] 52)).drew.cell? ⟨wr.heap.size, 0, none⟩ = some (.int .i64 q) from ⟨(hB.out.alloc hB.out.size _).drew, cell_of_row _ _ 0 _ _ (0, 0) (heap_alloc_new _ _)⟩)
      have KEEP : Hid (∀ wy wz : World, (Below w4.heap.size w4 wy ∧ wy.cell? ⟨wr.heap.size, 0, none⟩ = some (.int .i64 q)) → Below wy.heap.size wy wz → (Below w4.heap.size w4 wz ∧ wz.cell? ⟨wr.heap.size, 0, none⟩ = some (.int .i64 q))) :=
        hid (fun wy wz ⟨h0, z0⟩ hb => ⟨bstep h0 hb, (hb.cell (World.block_lt_of_cell? wy _ z0)).trans z0⟩)
      clear x0 x1
      cases qa : hasQ a n q
      · have QA : Hid (inR q 0 (pt a (n - 1)).1 = false) := hid qa
        have U : Hid (under a n b m (pt (a ++ b) k).1 = false) := hid (by rw [HQ0.out]; simp [under, qa])
        clear qa
        refine wp_region_calm (C := (fun w' => Below w4.heap.size w4 w' ∧ w'.cell? ⟨wr.heap.size, 0, none⟩ = some (.int .i64 q))) (by kernel_rfl) (by kernel_rfl) (X.out) ?_
        repeat
          first
            | go_big_quiet_skip
            | (go_big_quiet_want
               first
                 | (unfold Oper.quiet
                    apply Exists.intro
                    refine ⟨fun wq hq => ?_, ?_⟩
                    · (try dsimp only at hq
                       simp [go_sem, Oper.quietAt, Oper.quietUpon, BigFrame.eval_const, BigFrame.eval_global, BigFrame.eval_func, ↓IntWalk.iteOmega, *]
                       first | done | rfl | (first | (refine calm_same hq (i_hasFlow _ _ _ _ a _ (A4.out.below hq.1) (by omega)) (by rw [QA.out]))))
                    simp only [Act.put, List.setIfInBounds_toArray, List.set_cons_succ, List.set_cons_zero]
                    go_big_quiet_on))
        refine wpQuiet_nil ?_
        intro wc hcalm
        try dsimp only at hcalm
        have HC := hid hcalm.1
        clear hcalm
        go_wp2
        go_roundg (n + m - (k + 1))
        case rel =>
          refine ⟨k + 1, by omega, rfl, by go_num, HC, hid (fun j hj => ?_)⟩
          by_cases e : j = k
          · subst e; exact U.out
          · exact hh.out j (by omega)
        case measure => omega
      · have QA : Hid (inR q 0 (pt a (n - 1)).1 = true) := hid qa
        cases qb : hasQ b m q
        · have QB : Hid (inR q 0 (pt b (m - 1)).1 = false) := hid qb
          have U : Hid (under a n b m (pt (a ++ b) k).1 = false) := hid (by rw [HQ0.out]; simp [under, qb])
          clear qa qb
          refine wp_region_calm (C := (fun w' => Below w4.heap.size w4 w' ∧ w'.cell? ⟨wr.heap.size, 0, none⟩ = some (.int .i64 q))) (by kernel_rfl) (by kernel_rfl) (X.out) ?_
          repeat
            first
              | go_big_quiet_skip
              | (go_big_quiet_want
                 first
                   | (unfold Oper.quiet
                      apply Exists.intro
                      refine ⟨fun wq hq => ?_, ?_⟩
                      · (try dsimp only at hq
                         simp [go_sem, Oper.quietAt, Oper.quietUpon, BigFrame.eval_const, BigFrame.eval_global, BigFrame.eval_func, ↓IntWalk.iteOmega, *]
                         first | done | rfl | (first | (refine calm_same hq (i_hasFlow _ _ _ _ a _ (A4.out.below hq.1) (by omega)) (by rw [QA.out])) | (refine calm_same hq (i_hasFlow _ _ _ _ b _ (A5.out.below hq.1) (by omega)) (by rw [QB.out]))))
                      simp only [Act.put, List.setIfInBounds_toArray, List.set_cons_succ, List.set_cons_zero]
                      go_big_quiet_on))
          refine wpQuiet_nil ?_
          intro wc hcalm
          try dsimp only at hcalm
          have HC := hid hcalm.1
          clear hcalm
          go_wp2
          go_roundg (n + m - (k + 1))
          case rel =>
            refine ⟨k + 1, by omega, rfl, by go_num, HC, hid (fun j hj => ?_)⟩
            by_cases e : j = k
            · subst e; exact U.out
            · exact hh.out j (by omega)
          case measure => omega
        · have QB : Hid (inR q 0 (pt b (m - 1)).1 = true) := hid qb
          obtain ⟨f1, f2, f3⟩ := h_fit GA.out LA.out qa
          obtain ⟨-, g2, g3⟩ := h_fit GB.out LB.out qb
          have p1 := mul_in (x := hN a n q) (y := hD b m q) (A := 4000000) (B := 1000) (by omega) (by omega)
          have p2 := mul_in (x := hN b m q) (y := hD a n q) (A := 4000000) (B := 1000) (by omega) (by omega)
          simp only [Int.reduceMul] at p1 p2
          have SA := hid (segK_is (seg_flow GA.out LA.out qa))
          have SB := hid (segK_is (seg_flow GB.out LB.out qb))
          by_cases hu : hN a n q * hD b m q < hN b m q * hD a n q
          · have hneg : cmpI (hN a n q * hD b m q) (hN b m q * hD a n q) < 0 := cmpI_neg.2 hu
            have E := hid (show ((a ++ b).any fun p => under a n b m p.1) = true from any_at (k := k) (by have := LA.out; have := LB.out; rw [List.length_append]; omega) (by show under a n b m (pt (a ++ b) k).1 = true; rw [HQ0.out]; simp [under, qa, qb, hu]))
            clear qa qb hu
            refine wp_region_calm (C := (fun w' => Below w4.heap.size w4 w' ∧ w'.cell? ⟨wr.heap.size, 0, none⟩ = some (.int .i64 q))) (by kernel_rfl) (by kernel_rfl) (X.out) ?_
            repeat
              first
                | go_big_quiet_skip
                | (go_big_quiet_want
                   first
                     | (unfold Oper.quiet
                        apply Exists.intro
                        refine ⟨fun wq hq => ?_, ?_⟩
                        · (try dsimp only at hq
                           simp [go_sem, Oper.quietAt, Oper.quietUpon, BigFrame.eval_const, BigFrame.eval_global, BigFrame.eval_func, ↓IntWalk.iteOmega, *]
                           first | done | rfl | (first | (refine calm_same hq (i_hasFlow _ _ _ _ a _ (A4.out.below hq.1) (by omega)) (by rw [QA.out])) | (refine calm_same hq (i_hasFlow _ _ _ _ b _ (A5.out.below hq.1) (by omega)) (by rw [QB.out])) | (refine calm_call hq KEEP.out (i_headAt _ _ _ _ q a _ (A4.out.below hq.1) GA.out SA.out f1) rfl) | (refine calm_call hq KEEP.out (i_headAt _ _ _ _ q b _ (A5.out.below hq.1) GB.out SB.out f1) rfl) | (refine calm_call hq KEEP.out (i_compare (hN a n q) (hD a n q) (hN b m q) (hD b m q) _ (by omega) (by omega)) rfl)))
                        simp only [Act.put, List.setIfInBounds_toArray, List.set_cons_succ, List.set_cons_zero]
                        go_big_quiet_on))
            refine wpQuiet_nil ?_
            intro wc hcalm
            try dsimp only at hcalm
            have HC := hid hcalm.1
            clear hcalm
            go_wp2
            go_ret2
            rw [E.out]
            exact ⟨rfl, bstep BW.out HC.out⟩
          · have hneg : ¬ cmpI (hN a n q * hD b m q) (hN b m q * hD a n q) < 0 := fun e => hu (cmpI_neg.1 e)
            have U : Hid (under a n b m (pt (a ++ b) k).1 = false) := hid (by rw [HQ0.out]; simp [under, hu])
            clear qa qb hu
            refine wp_region_calm (C := (fun w' => Below w4.heap.size w4 w' ∧ w'.cell? ⟨wr.heap.size, 0, none⟩ = some (.int .i64 q))) (by kernel_rfl) (by kernel_rfl) (X.out) ?_
            repeat
              first
                | go_big_quiet_skip
                | (go_big_quiet_want
                   first
                     | (unfold Oper.quiet
                        apply Exists.intro
                        refine ⟨fun wq hq => ?_, ?_⟩
                        · (try dsimp only at hq
                           simp [go_sem, Oper.quietAt, Oper.quietUpon, BigFrame.eval_const, BigFrame.eval_global, BigFrame.eval_func, ↓IntWalk.iteOmega, *]
                           first | done | rfl | (first | (refine calm_same hq (i_hasFlow _ _ _ _ a _ (A4.out.below hq.1) (by omega)) (by rw [QA.out])) | (refine calm_same hq (i_hasFlow _ _ _ _ b _ (A5.out.below hq.1) (by omega)) (by rw [QB.out])) | (refine calm_call hq KEEP.out (i_headAt _ _ _ _ q a _ (A4.out.below hq.1) GA.out SA.out f1) rfl) | (refine calm_call hq KEEP.out (i_headAt _ _ _ _ q b _ (A5.out.below hq.1) GB.out SB.out f1) rfl) | (refine calm_call hq KEEP.out (i_compare (hN a n q) (hD a n q) (hN b m q) (hD b m q) _ (by omega) (by omega)) rfl)))
                        simp only [Act.put, List.setIfInBounds_toArray, List.set_cons_succ, List.set_cons_zero]
                        go_big_quiet_on))
            refine wpQuiet_nil ?_
            intro wc hcalm
            try dsimp only at hcalm
            have HC := hid hcalm.1
            clear hcalm
            go_wp2
            go_roundg (n + m - (k + 1))
            case rel =>
              refine ⟨k + 1, by omega, rfl, by go_num, HC, hid (fun j hj => ?_)⟩
              by_cases e : j = k
              · subst e; exact U.out
              · exact hh.out j (by omega)
            case measure => omega
    · obtain rfl : k = n + m := by omega
      have E := hid (show ((a ++ b).any fun p => under a n b m p.1) = false from any_none (fun j hj => hh.out j (by have := LA.out; have := LB.out; rw [List.length_append] at hj; omega)))
      go_wp2
      go_ret2
      rw [E.out]
      exact ⟨rfl, bstep BW.out hB.out⟩

end Go.Proofs.Ytpcbeapajlchgaa
