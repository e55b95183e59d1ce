/-
  SplitFlow in the reference: unit by unit; and what SplitFlow returns, in both.
-/
import Derived.Test.YtpmffboojkfpdaaSplitT
set_option linter.unusedVariables false
set_option linter.unusedSimpArgs false
namespace Go.Proofs.Ytpmffboojkfpdaa
open Go.RowKit

theorem sz_fit' {S : List Int} {n : Nat} (hl : S.length = n) (hS : ∀ x ∈ S, 1 ≤ x ∧ x ≤ 9) {i : Nat} (hi : i < n) : 1 ≤ sz S i ∧ sz S i ≤ 9 := hS _ (getD_mem' (l := S) (k := i) (by omega))

set_option maxRecDepth 100000 in
set_option maxHeartbeats 16000000 in
theorem s_SplitFlow_yes (a : Option Addr) (n c t : Nat) (S : List Int) (w : World) (h : IntsAt w a n S) (hg : goodSizes S = true) (ht : t ≤ 60) :
    Calls Try.prog 51 #[.slice a n c, .int .i64 (t : Int)] w fun e w' => ∃ a' c', e = .returned (.tuple #[.slice a' n c', .bool true]) ∧ OwnI w' w.heap.size (.slice a' n c') (liftN (greedy S t)) ∧ Below w.heap.size w w' := by
  obtain ⟨j0, hj, hy0, hy1, hy2⟩ := info_parts Try.infoInt
  obtain ⟨⟨hn1, hn5⟩, hS⟩ := goodSizes_iff.1 hg
  have hl := h.1
  have H := hid h
  have HG := hid hg
  have HS := hid hS
  have HL := hid hl
  have HJ := hid hj
  have HY := hid hy0
  have HY1 := hid hy1
  have HY2 := hid hy2
  have H60 := hid (show inR (t : Int) 0 60 = true from inR_iff.2 ⟨by omega, by omega⟩)
  rw [hl] at hn1 hn5
  clear h hg hS hl hj hy0 hy1 hy2
  go_enter Try.func51, Try.ntmps51
  go_wp2_with fail
  refine (s_l10Sizes _ _ _ S _ H.out (by omega)).mono ?_
  rintro e _ ⟨rfl, rfl⟩
  rw [HG.out]
  go_wp2_with fail
  refine (s_l1In _ _ _ _).mono ?_
  rintro e _ ⟨rfl, rfl⟩
  rw [H60.out]
  go_wp2_with (at_make; refine wpList_make_full _ rfl _ _ 22 rfl w.heap.size 3 j0 (.int .i64 0) 1 Try.underlying22 HJ.out HY.out HY1.out _ _ _ _ n rfl rfl rfl rfl ?b2 ?b3 ?b4 ?_)
  case b2 => rw [HY2.out]; omega
  case b3 => unfold maxLen; omega
  case b4 => exact Nat.le_refl _
  intro w1 hown hgrow
  have B1 := hid (below_of_grown hgrow (Nat.le_refl _) (fun k hk => by simp at hk) : Below w.heap.size w w1)
  have O1 := hid (show OwnI w1 w.heap.size (.slice (some ⟨w.heap.size, 0, none⟩) n n) (liftN (greedy S 0)) by rw [show liftN (greedy S 0) = List.replicate n 0 by unfold greedy; rw [liftN_zero, HL.out]]; exact OwnI.made hown)
  clear hown hgrow
  obtain ⟨g, hgg⟩ : ∃ g, w.heap.size = g := ⟨_, rfl⟩
  have HGG := hid hgg
  rw [hgg] at O1 ⊢
  clear hgg
  go_wp2
  go_loopg [7] t (fun gm s wr => ∃ k : Nat, k ≤ t ∧ gm = t - k ∧ s = .int .i64 k ∧ Hid (OwnI wr g (.slice (some ⟨g, 0, none⟩) n n) (liftN (greedy S k))) ∧ Hid (Below w.heap.size w wr))
  case atStart => exact ⟨0, Nat.zero_le _, rfl, rfl, O1, B1⟩
  case round =>
    obtain ⟨k, hk, rfl, rfl, hO, hB⟩ := hrel
    clear O1 B1
    by_cases hlt : k < t
    · obtain ⟨G, hG⟩ : ∃ G, greedy S k = G := ⟨_, rfl⟩
      have HGL := hid (show G.length = n by rw [← hG, greedy_len]; exact HL.out)
      have hgs : G.sum = k := by rw [← hG, greedy_sum (by have := HL.out; omega)]
      have HQ := hid (show ∀ i, qt G i < 60 from fun i => by have := qt_le_sum G i; omega)
      have HNX := hid (show greedy S (k + 1) = G.set (bestK S G (n - 1)) (qt G (bestK S G (n - 1)) + 1) by rw [← hG, ← HL.out]; rfl)
      rw [hG] at hO
      clear hG hgs
      obtain ⟨W0, hW0⟩ : ∃ W, W = wr := ⟨_, rfl⟩
      subst hW0
      go_wp2
      go_loopg [8, 9] (n - 1) (fun gm s8 s9 wx => ∃ m : Nat, m + 1 ≤ n ∧ gm = n - 1 - m ∧ s8 = .int .i64 ((bestK S G m : Nat) : Int) ∧ s9 = .int .i64 ((m : Int) + 1) ∧ Hid (Below W0.heap.size W0 wx))
      case atStart => exact ⟨0, by omega, rfl, rfl, rfl, hid (Below.refl _ _)⟩
      case round =>
        obtain ⟨m, hm, rfl, rfl, rfl, hx⟩ := hrel
        have O2 := hid (hO.out.below hx.out)
        have B2 := hid (bstep hB.out hx.out)
        have hbk := bestK_le S G m
        obtain ⟨b, hb⟩ : ∃ b, bestK S G m = b := ⟨_, rfl⟩
        by_cases hmn : m + 1 < n
        · obtain ⟨m1, hm1⟩ : ∃ m1, m + 1 = m1 := ⟨_, rfl⟩
          have em1 : (m : Int) + 1 = (m1 : Int) := by omega
          have hbn : b < n := by omega
          have hm1n : m1 < n := by omega
          obtain ⟨b0, off0, rfl, hbw, hc1⟩ := (H.out.below B2.out).2 m1 hm1n
          obtain ⟨_, _, e2, _, hc2⟩ := (H.out.below B2.out).2 b hbn
          simp only [Option.some.injEq, Addr.mk.injEq, and_true] at e2
          obtain ⟨rfl, rfl⟩ := e2
          have hc3 := O2.out.cell (k := m1) hm1n
          have hc4 := O2.out.cell (k := b) hbn
          rw [liftN_get] at hc3 hc4
          have hs1 := sz_fit' HL.out HS.out hm1n
          have hs2 := sz_fit' HL.out HS.out hbn
          have hq1 := HQ.out m1
          have hq2 := HQ.out b
          have f1 := marg_fit hs1 hq1
          have f2 := marg_fit hs2 hq2
          have HM := hid (show bestK S G m1 = if marg (sz S m1) (qt G m1) < marg (sz S b) (qt G b) then m1 else b by rw [← hm1, ← hb]; rfl)
          have hc1' : wr.cell? ⟨b0, off0 + m1, none⟩ = some (.int .i64 (sz S m1)) := hc1
          have hc2' : wr.cell? ⟨b0, off0 + b, none⟩ = some (.int .i64 (sz S b)) := hc2
          unfold marg at HM
          unfold cube at HM f1 f2
          obtain ⟨x1, hx1⟩ : ∃ v, sz S m1 = v := ⟨_, rfl⟩
          obtain ⟨x2, hx2⟩ : ∃ v, sz S b = v := ⟨_, rfl⟩
          obtain ⟨y1, hy1⟩ : ∃ v, qt G m1 = v := ⟨_, rfl⟩
          obtain ⟨y2, hy2⟩ : ∃ v, qt G b = v := ⟨_, rfl⟩
          rw [hx1] at hc1' f1 HM hs1
          rw [hx2] at hc2' f2 HM hs2
          rw [hy1] at hc3 f1 HM hq1
          rw [hy2] at hc4 f2 HM hq2
          rw [em1, hb]
          have HM1 := hid hm1
          clear hx1 hx2 hy1 hy2 hc1 hc2 hb hbk em1 hm1
          have hw1 : IntKind.i64.wrap ((y1 : Int) + 1) = (y1 : Int) + 1 := IntWalk.i64_in _ (by omega)
          have hw2 : IntKind.i64.wrap ((y2 : Int) + 1) = (y2 : Int) + 1 := IntWalk.i64_in _ (by omega)
          have hw3 := IntWalk.i64_in (x1 * ((y1 : Int) + 1) * ((y1 : Int) + 1) * ((y1 : Int) + 1) - x1 * y1 * y1 * y1) (by omega)
          have hw4 := IntWalk.i64_in (x2 * ((y2 : Int) + 1) * ((y2 : Int) + 1) * ((y2 : Int) + 1) - x2 * y2 * y2 * y2) (by omega)
          by_cases hcond : x1 * ((y1 : Int) + 1) * ((y1 : Int) + 1) * ((y1 : Int) + 1) - x1 * y1 * y1 * y1 < x2 * ((y2 : Int) + 1) * ((y2 : Int) + 1) * ((y2 : Int) + 1) - x2 * y2 * y2 * y2
          · rw [if_pos hcond] at HM
            go_upto_region 11 with fail
            go_quiet (first | (go_at_call 96; exact quiet_eq (s_l10Cube _ _ _ (by omega) (by omega))))
            go_wp2
            go_roundg (n - 1 - m1)
            case rel => exact ⟨m1, by omega, rfl, by rw [HM.out], by go_num, hid (below_drewN hx.out _)⟩
            case measure => have := HM1.out; omega
          · rw [if_neg hcond] at HM
            go_upto_region 11 with fail
            go_quiet (first | (go_at_call 96; exact quiet_eq (s_l10Cube _ _ _ (by omega) (by omega))))
            go_wp2
            go_roundg (n - 1 - m1)
            case rel => exact ⟨m1, by omega, rfl, by rw [HM.out], by go_num, hid (below_drewN hx.out _)⟩
            case measure => have := HM1.out; omega
        · have hmn2 : ¬ (m : Int) + 1 < (n : Int) := by omega
          obtain rfl : m = n - 1 := by omega
          have hbn : b < n := by omega
          have hc4 := O2.out.cell (k := b) hbn
          rw [liftN_get] at hc4
          have hf4 := O2.out.frozen (k := b)
          have hq2 := HQ.out b
          have SS := hid (O2.out.set (k := b) ((qt G b : Int) + 1))
          have HE := hid (show liftN (greedy S (k + 1)) = (liftN G).set b ((qt G b : Int) + 1) by rw [HNX.out, hb, liftN_set]; rfl)
          have hw2 : IntKind.i64.wrap ((qt G b : Int) + 1) = (qt G b : Int) + 1 := IntWalk.i64_in _ (by omega)
          rw [hb]
          clear hb hbk
          go_wp2
          go_roundg (t - (k + 1))
          case rel => exact ⟨k + 1, by omega, rfl, by go_num, hid (by rw [HE.out]; exact SS.out.1), hid (B2.out.grown SS.out.2 B2.out.size (fun q e => by have := HGG.out; simp only [Option.some.injEq] at e; omega))⟩
          case measure => omega
    · obtain rfl : t = k := by omega
      go_wp2
      go_ret2
      exact ⟨_, _, rfl, by rw [HGG.out]; exact hO.out, hB.out⟩

end Go.Proofs.Ytpmffboojkfpdaa
