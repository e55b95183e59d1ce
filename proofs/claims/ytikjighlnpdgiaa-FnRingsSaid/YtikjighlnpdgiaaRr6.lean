/-
  Texts of this claim, joined: NetS, Ring, Last.
-/
import Derived.Test.YtikjighlnpdgiaaRr2
import Derived.Test.YtikjighlnpdgiaaRr5
/-
  Networks: which are valid, in the reference.
-/
set_option linter.unusedVariables false
set_option linter.unusedSimpArgs false
namespace Go.Proofs.Ytikjighlnpdgiaa
open Go.RowKit

set_option maxRecDepth 100000 in
set_option maxHeartbeats 8000000 in
theorem s_l2Good (N : Int) (a : Option Addr) (n c : Nat) (l : List Pip) (w : World) (h : QAt w a n l) (hn : n ≤ 1048576) :
    Calls Try.prog 66 #[.agg #[.int .i64 N, .slice a n c]] w fun e w' => e = .returned (.bool (goodNet N l)) ∧ Below w.heap.size w w' := by
  have hl := h.1
  have H := hid h
  clear h
  have HL := hid hl
  clear hl
  go_enter Try.func66, Try.ntmps66
  go_wp2
  go_loopg [3] (min n 11) (fun g i wr => ∃ k : Nat, k ≤ n ∧ k ≤ 11 ∧ g = min n 11 - k ∧ i = .int .i64 k ∧ Hid (Below w.heap.size w wr ∧ wr.cell? ⟨w.heap.size, 0, none⟩ = some (.int .i64 N) ∧ wr.cell? ⟨w.heap.size, 1, none⟩ = some (.slice a n c)) ∧ Hid (∀ j, j < k → okQ N l j = true))
  case atStart => exact ⟨0, Nat.zero_le _, by omega, rfl, rfl, hid ⟨(Below.refl _ _).alloc (Nat.le_refl _) _, cell_of_row _ _ 0 _ _ (0, 0) (heap_alloc_new _ _), cell_of_row _ _ 1 _ _ (0, 0) (heap_alloc_new _ _)⟩, hid (fun j hj => absurd hj (by omega))⟩
  case round =>
    obtain ⟨k, hk, hk11, rfl, rfl, hB, hh⟩ := hrel
    by_cases hlt : k < n
    · by_cases hle : k ≤ 10
      · obtain ⟨b0, off0, rfl, hbw, x0, x1, x2, x3⟩ := QAt.get (H.out.below hB.out.1) k hlt
        obtain ⟨_, _, e1, _, y0, -⟩ := QAt.get (H.out.below hB.out.1) (k - 1) (by omega)
        cases e1
        obtain ⟨-, n0, n1⟩ := hB.out
        have hz0 : w.heap.size < wr.heap.size := World.block_lt_of_cell? wr _ n0
        go_upto_region 4 with fail
        have X := hid (show NetS w N b0 off0 n c k l wr.drew from ⟨hB.out.1.drew, n0, n1, x0, x1, x2, x3, y0⟩)
        clear x0 x1 x2 x3 y0 n0 n1
        by_cases hok : okQ N l k = true
        · have hq0 := hok
          simp only [okQ, Bool.and_eq_true, Bool.or_eq_true, decide_eq_true_eq] at hq0
          obtain ⟨c1, c6⟩ := hq0
          have HP : Hid (okPipe N (pp l k) = true) := hid c1
          clear c1
          by_cases hk0 : k = 0
          · have hkp : ¬ 0 < k := by omega
            clear c6 hk0
            refine wp_region_calm (C := (fun w' => Below w.heap.size w w' ∧ w'.cell? ⟨w.heap.size, 0, none⟩ = some (.int .i64 N) ∧ w'.cell? ⟨w.heap.size, 1, none⟩ = some (.slice (some ⟨b0, off0, none⟩) n c) ∧ w'.cell? ⟨b0, off0 + k * 4, none⟩ = some (.int .i64 (pp l k).1) ∧ w'.cell? ⟨b0, off0 + k * 4 + 1, none⟩ = some (.int .i64 (pp l k).2.1) ∧ w'.cell? ⟨b0, off0 + k * 4 + 2, none⟩ = some (.int .i64 (pp l k).2.2.1) ∧ w'.cell? ⟨b0, off0 + k * 4 + 3, none⟩ = some (.int .i64 (pp l k).2.2.2) ∧ w'.cell? ⟨b0, off0 + (k - 1) * 4, none⟩ = some (.int .i64 (pp l (k - 1)).1))) (by kernel_rfl) (by kernel_rfl) (X.out) ?_
            repeat
              first
                | go_big_quiet_skip
                | (go_big_quiet_want
                   first
                     | (unfold Oper.quiet
                        apply Exists.intro
                        refine ⟨fun wq hq => ?_, ?_⟩
                        · (try dsimp only at hq
                           simp [go_sem, Oper.quietAt, Oper.quietUpon, BigFrame.eval_const, BigFrame.eval_global, BigFrame.eval_func, ↓IntWalk.iteOmega, *]
                           first | done | rfl | (first | (refine calm_call hq (NetS.keep w N b0 off0 n c k l) (s_l2Pipe _ _ _ _ _ _) (by rw [show okPipe N ((pp l k).1, (pp l k).2.1, (pp l k).2.2.1, (pp l k).2.2.2) = true from HP.out]))))
                        simp only [Act.put, List.setIfInBounds_toArray, List.set_cons_succ, List.set_cons_zero]
                        go_big_quiet_on))
            refine wpQuiet_nil ?_
            intro wc hcalm
            try dsimp only at hcalm
            have HC := hid (⟨hcalm.1, hcalm.2.1, hcalm.2.2.1⟩ : Below w.heap.size w wc ∧ wc.cell? ⟨w.heap.size, 0, none⟩ = some (.int .i64 N) ∧ wc.cell? ⟨w.heap.size, 1, none⟩ = some (.slice (some ⟨b0, off0, none⟩) n c))
            clear hcalm
            go_wp2
            go_roundg (min n 11 - (k + 1))
            case rel => exact ⟨k + 1, by omega, by omega, rfl, by go_num, HC, hid (all_nextN hh.out hok)⟩
            case measure => omega
          · have hlt6 : (pp l (k - 1)).1 < (pp l k).1 := by rcases c6 with h | h; (exact absurd h hk0); exact h
            have hle6 : ¬ (pp l k).1 ≤ (pp l (k - 1)).1 := by omega
            clear c6
            have hkp : 0 < k := by omega
            have hk1 : k - 1 < n := by omega
            have hw : IntKind.i64.wrap ((k : Int) - 1) = ((k - 1 : Nat) : Int) := (IntWalk.i64_in _ (by omega)).trans (by omega)
            refine wp_region_calm (C := (fun w' => Below w.heap.size w w' ∧ w'.cell? ⟨w.heap.size, 0, none⟩ = some (.int .i64 N) ∧ w'.cell? ⟨w.heap.size, 1, none⟩ = some (.slice (some ⟨b0, off0, none⟩) n c) ∧ w'.cell? ⟨b0, off0 + k * 4, none⟩ = some (.int .i64 (pp l k).1) ∧ w'.cell? ⟨b0, off0 + k * 4 + 1, none⟩ = some (.int .i64 (pp l k).2.1) ∧ w'.cell? ⟨b0, off0 + k * 4 + 2, none⟩ = some (.int .i64 (pp l k).2.2.1) ∧ w'.cell? ⟨b0, off0 + k * 4 + 3, none⟩ = some (.int .i64 (pp l k).2.2.2) ∧ w'.cell? ⟨b0, off0 + (k - 1) * 4, none⟩ = some (.int .i64 (pp l (k - 1)).1))) (by kernel_rfl) (by kernel_rfl) (X.out) ?_
            repeat
              first
                | go_big_quiet_skip
                | (go_big_quiet_want
                   first
                     | (unfold Oper.quiet
                        apply Exists.intro
                        refine ⟨fun wq hq => ?_, ?_⟩
                        · (try dsimp only at hq
                           simp [go_sem, Oper.quietAt, Oper.quietUpon, BigFrame.eval_const, BigFrame.eval_global, BigFrame.eval_func, ↓IntWalk.iteOmega, *]
                           first | done | rfl | (first | (refine calm_call hq (NetS.keep w N b0 off0 n c k l) (s_l2Pipe _ _ _ _ _ _) (by rw [show okPipe N ((pp l k).1, (pp l k).2.1, (pp l k).2.2.1, (pp l k).2.2.2) = true from HP.out]))))
                        simp only [Act.put, List.setIfInBounds_toArray, List.set_cons_succ, List.set_cons_zero]
                        go_big_quiet_on))
            refine wpQuiet_nil ?_
            intro wc hcalm
            try dsimp only at hcalm
            have HC := hid (⟨hcalm.1, hcalm.2.1, hcalm.2.2.1⟩ : Below w.heap.size w wc ∧ wc.cell? ⟨w.heap.size, 0, none⟩ = some (.int .i64 N) ∧ wc.cell? ⟨w.heap.size, 1, none⟩ = some (.slice (some ⟨b0, off0, none⟩) n c))
            clear hcalm
            go_wp2
            go_roundg (min n 11 - (k + 1))
            case rel => exact ⟨k + 1, by omega, by omega, rfl, by go_num, HC, hid (all_nextN hh.out hok)⟩
            case measure => omega
        · have E := hid (goodNet_bad (k := k) (by have := HL.out; omega) (by simpa using hok) : goodNet N l = false).symm
          cases c1 : okPipe N (pp l k)
          · have HP : Hid (okPipe N (pp l k) = false) := hid c1
            clear c1 hok
            refine wp_region_calm (C := (fun w' => Below w.heap.size w w' ∧ w'.cell? ⟨w.heap.size, 0, none⟩ = some (.int .i64 N) ∧ w'.cell? ⟨w.heap.size, 1, none⟩ = some (.slice (some ⟨b0, off0, none⟩) n c) ∧ w'.cell? ⟨b0, off0 + k * 4, none⟩ = some (.int .i64 (pp l k).1) ∧ w'.cell? ⟨b0, off0 + k * 4 + 1, none⟩ = some (.int .i64 (pp l k).2.1) ∧ w'.cell? ⟨b0, off0 + k * 4 + 2, none⟩ = some (.int .i64 (pp l k).2.2.1) ∧ w'.cell? ⟨b0, off0 + k * 4 + 3, none⟩ = some (.int .i64 (pp l k).2.2.2) ∧ w'.cell? ⟨b0, off0 + (k - 1) * 4, none⟩ = some (.int .i64 (pp l (k - 1)).1))) (by kernel_rfl) (by kernel_rfl) (X.out) ?_
            repeat
              first
                | go_big_quiet_skip
                | (go_big_quiet_want
                   first
                     | (unfold Oper.quiet
                        apply Exists.intro
                        refine ⟨fun wq hq => ?_, ?_⟩
                        · (try dsimp only at hq
                           simp [go_sem, Oper.quietAt, Oper.quietUpon, BigFrame.eval_const, BigFrame.eval_global, BigFrame.eval_func, ↓IntWalk.iteOmega, *]
                           first | done | rfl | (first | (refine calm_call hq (NetS.keep w N b0 off0 n c k l) (s_l2Pipe _ _ _ _ _ _) (by rw [show okPipe N ((pp l k).1, (pp l k).2.1, (pp l k).2.2.1, (pp l k).2.2.2) = false from HP.out]))))
                        simp only [Act.put, List.setIfInBounds_toArray, List.set_cons_succ, List.set_cons_zero]
                        go_big_quiet_on))
            refine wpQuiet_nil ?_
            intro wc hcalm
            try dsimp only at hcalm
            have HC := hid (⟨hcalm.1, hcalm.2.1, hcalm.2.2.1⟩ : Below w.heap.size w wc ∧ wc.cell? ⟨w.heap.size, 0, none⟩ = some (.int .i64 N) ∧ wc.cell? ⟨w.heap.size, 1, none⟩ = some (.slice (some ⟨b0, off0, none⟩) n c))
            clear hcalm
            go_wp2
            go_ret
            exact ⟨ret_bool E.out, HC.out.1⟩
          · have HP : Hid (okPipe N (pp l k) = true) := hid c1
            have hq0 : ¬ (k = 0 ∨ (pp l (k - 1)).1 < (pp l k).1) := fun h => hok (by simp only [okQ, Bool.and_eq_true, Bool.or_eq_true, decide_eq_true_eq]; exact ⟨c1, h⟩)
            have hle6 : (pp l k).1 ≤ (pp l (k - 1)).1 := by omega
            clear c1 hok
            have hkp : 0 < k := by omega
            have hk1 : k - 1 < n := by omega
            clear hq0
            have hw : IntKind.i64.wrap ((k : Int) - 1) = ((k - 1 : Nat) : Int) := (IntWalk.i64_in _ (by omega)).trans (by omega)
            refine wp_region_calm (C := (fun w' => Below w.heap.size w w' ∧ w'.cell? ⟨w.heap.size, 0, none⟩ = some (.int .i64 N) ∧ w'.cell? ⟨w.heap.size, 1, none⟩ = some (.slice (some ⟨b0, off0, none⟩) n c) ∧ w'.cell? ⟨b0, off0 + k * 4, none⟩ = some (.int .i64 (pp l k).1) ∧ w'.cell? ⟨b0, off0 + k * 4 + 1, none⟩ = some (.int .i64 (pp l k).2.1) ∧ w'.cell? ⟨b0, off0 + k * 4 + 2, none⟩ = some (.int .i64 (pp l k).2.2.1) ∧ w'.cell? ⟨b0, off0 + k * 4 + 3, none⟩ = some (.int .i64 (pp l k).2.2.2) ∧ w'.cell? ⟨b0, off0 + (k - 1) * 4, none⟩ = some (.int .i64 (pp l (k - 1)).1))) (by kernel_rfl) (by kernel_rfl) (X.out) ?_
            repeat
              first
                | go_big_quiet_skip
                | (go_big_quiet_want
                   first
                     | (unfold Oper.quiet
                        apply Exists.intro
                        refine ⟨fun wq hq => ?_, ?_⟩
                        · (try dsimp only at hq
                           simp [go_sem, Oper.quietAt, Oper.quietUpon, BigFrame.eval_const, BigFrame.eval_global, BigFrame.eval_func, ↓IntWalk.iteOmega, *]
                           first | done | rfl | (first | (refine calm_call hq (NetS.keep w N b0 off0 n c k l) (s_l2Pipe _ _ _ _ _ _) (by rw [show okPipe N ((pp l k).1, (pp l k).2.1, (pp l k).2.2.1, (pp l k).2.2.2) = true from HP.out]))))
                        simp only [Act.put, List.setIfInBounds_toArray, List.set_cons_succ, List.set_cons_zero]
                        go_big_quiet_on))
            refine wpQuiet_nil ?_
            intro wc hcalm
            try dsimp only at hcalm
            have HC := hid (⟨hcalm.1, hcalm.2.1, hcalm.2.2.1⟩ : Below w.heap.size w wc ∧ wc.cell? ⟨w.heap.size, 0, none⟩ = some (.int .i64 N) ∧ wc.cell? ⟨w.heap.size, 1, none⟩ = some (.slice (some ⟨b0, off0, none⟩) n c))
            clear hcalm
            go_wp2
            go_ret
            exact ⟨ret_bool E.out, HC.out.1⟩
      · have hx : ¬ l.length ≤ 10 := by have := HL.out; omega
        have E := hid (show false = goodNet N l by simp [goodNet, hx])
        clear hx
        obtain ⟨-, n0, n1⟩ := hB.out
        have hz0 : w.heap.size < wr.heap.size := World.block_lt_of_cell? wr _ n0
        cases h1 : inR N 1 8
        · have H1 := hid h1
          clear h1
          go_wp2_with fail
          refine (s_l1In _ _ _ _).mono ?_
          rintro e _ ⟨rfl, rfl⟩
          rw [H1.out]
          go_wp2
          go_ret
          exact ⟨ret_bool (by first | exact E.out | (rw [← E.out]; simp; omega)), hB.out.1⟩
        · have H1 := hid h1
          clear h1
          go_wp2_with fail
          refine (s_l1In _ _ _ _).mono ?_
          rintro e _ ⟨rfl, rfl⟩
          rw [H1.out]
          go_wp2
          go_ret
          exact ⟨ret_bool (by first | exact E.out | (rw [← E.out]; simp; omega)), hB.out.1⟩
    · obtain rfl : k = n := by omega
      obtain ⟨-, n0, n1⟩ := hB.out
      have hz0 : w.heap.size < wr.heap.size := World.block_lt_of_cell? wr _ n0
      cases h1 : inR N 1 8
      · have E := hid (show false = goodNet N l by simp [goodNet, h1])
        have H1 := hid h1
        clear h1
        go_wp2_with fail
        refine (s_l1In _ _ _ _).mono ?_
        rintro e _ ⟨rfl, rfl⟩
        rw [H1.out]
        go_wp2
        go_ret
        exact ⟨ret_bool (by first | exact E.out | (rw [← E.out]; simp; omega)), hB.out.1⟩
      · by_cases h10 : k ≤ 10
        · have E := hid (goodNet_all h1 (by have := HL.out; omega) (fun j hj => hh.out j (by have := HL.out; omega)) : goodNet N l = true).symm
          have H1 := hid h1
          clear h1
          go_wp2_with fail
          refine (s_l1In _ _ _ _).mono ?_
          rintro e _ ⟨rfl, rfl⟩
          rw [H1.out]
          go_wp2
          go_ret
          exact ⟨ret_bool (by first | exact E.out | (rw [← E.out]; simp; omega)), hB.out.1⟩
        · have hx : ¬ l.length ≤ 10 := by have := HL.out; omega
          have E := hid (show false = goodNet N l by simp [goodNet, hx])
          have H1 := hid h1
          clear h1 hx
          go_wp2_with fail
          refine (s_l1In _ _ _ _).mono ?_
          rintro e _ ⟨rfl, rfl⟩
          rw [H1.out]
          go_wp2
          go_ret
          exact ⟨ret_bool (by first | exact E.out | (rw [← E.out]; simp; omega)), hB.out.1⟩

end Go.Proofs.Ytikjighlnpdgiaa

/-
  Rings and trees: in the program and in the reference.
-/
set_option linter.unusedVariables false
set_option linter.unusedSimpArgs false
namespace Go.Proofs.Ytikjighlnpdgiaa
open Go.RowKit

/-- As many pipes as nodes, and all nodes connected. -/
noncomputable def ringB (N : Int) (l : List Pip) : Bool := decide ((l.length : Int) = N) && decide (((reachL N l 0 1).length : Int) = N)
/-- One pipe less than nodes, and all nodes connected. -/
noncomputable def treeB (N : Int) (l : List Pip) : Bool := decide ((l.length : Int) = N - 1) && decide (((reachL N l 0 1).length : Int) = N)
theorem parts_one' {M : Nat} {l : List Pip} (hg : goodNet M l = true) : cnt M l M = 1 ↔ ((reachL M l 0 1).length : Int) = M := by
  have := parts_one hg
  simpa using this

set_option maxHeartbeats 1000000 in
theorem i_isRing (M : Nat) (a : Option Addr) (n c : Nat) (l : List Pip) (w : World) (h : QAt w a n l) (hg : goodNet M l = true) :
    Calls Try.prog 69 #[.agg #[.int .i64 M, .slice a n c]] w fun e w' => e = .returned (.bool (ringB M l)) ∧ Below w.heap.size w w' := by
  have hM : M ≤ 8 := by have := (goodNet_get hg).1; omega
  have hw : IntKind.i64.wrap ((M : Int) - 1) = (M : Int) - 1 := IntWalk.i64_in _ (by omega)
  have hp := parts_one' hg
  have hL := h.1
  have H := hid h
  have HG := hid hg
  clear h hg
  by_cases hn : (n : Int) = (M : Int)
  · have e1 : ((n : Int) == (M : Int)) = true := by simp [hn]
    by_cases hq : cnt M l M = 1
    · have E := hid (show true = ringB M l by simp [ringB, hL, hn, hp.1 hq])
      have HQ := hid hq
      clear hq hL hp hn
      go_enter Try.func69, Try.ntmps69
      go_wp2_with fail
      refine (i_networkParts M _ _ _ l _ (H.out.below (by go_grown)) HG.out).mono ?_
      rintro e w1 ⟨a1, c1, rfl, hb1⟩
      rw [HQ.out]
      have HB1 := hid (bstep (by go_grown) hb1 : Below w.heap.size w w1)
      clear hb1
      go_wp2
      go_ret
      exact ⟨ret_bool E.out, HB1.out⟩
    · obtain ⟨q, hQ⟩ : ∃ q, cnt M l M = q := ⟨_, rfl⟩
      have E := hid (show false = ringB M l by simp [ringB, hL, hn]; exact fun h => hq (hp.2 (by omega)))
      rw [hQ] at hq
      have e2 : ((q : Int) == 1) = false := by simp; omega
      have HQ := hid hQ
      clear hQ hq hL hp hn
      go_enter Try.func69, Try.ntmps69
      go_wp2_with fail
      refine (i_networkParts M _ _ _ l _ (H.out.below (by go_grown)) HG.out).mono ?_
      rintro e w1 ⟨a1, c1, rfl, hb1⟩
      rw [HQ.out]
      have HB1 := hid (bstep (by go_grown) hb1 : Below w.heap.size w w1)
      clear hb1
      go_wp2
      go_ret
      exact ⟨ret_bool E.out, HB1.out⟩
  · have e1 : ((n : Int) == (M : Int)) = false := by simp [hn]
    have E := hid (show false = ringB M l by simp [ringB, hL, hn])
    clear hL hp hn
    go_enter Try.func69, Try.ntmps69
    go_wp2
    go_ret
    exact ⟨ret_bool E.out, by go_grown⟩
set_option maxHeartbeats 1000000 in
theorem i_isTree (M : Nat) (a : Option Addr) (n c : Nat) (l : List Pip) (w : World) (h : QAt w a n l) (hg : goodNet M l = true) :
    Calls Try.prog 72 #[.agg #[.int .i64 M, .slice a n c]] w fun e w' => e = .returned (.bool (treeB M l)) ∧ Below w.heap.size w w' := by
  have hM : M ≤ 8 := by have := (goodNet_get hg).1; omega
  have hw : IntKind.i64.wrap ((M : Int) - 1) = (M : Int) - 1 := IntWalk.i64_in _ (by omega)
  have hp := parts_one' hg
  have hL := h.1
  have H := hid h
  have HG := hid hg
  clear h hg
  by_cases hn : (n : Int) = (M : Int) - 1
  · have e1 : ((n : Int) == (M : Int) - 1) = true := by simp [hn]
    by_cases hq : cnt M l M = 1
    · have E := hid (show true = treeB M l by simp [treeB, hL, hn, hp.1 hq])
      have HQ := hid hq
      clear hq hL hp hn
      go_enter Try.func72, Try.ntmps72
      go_wp2_with fail
      refine (i_networkParts M _ _ _ l _ (H.out.below (by go_grown)) HG.out).mono ?_
      rintro e w1 ⟨a1, c1, rfl, hb1⟩
      rw [HQ.out]
      have HB1 := hid (bstep (by go_grown) hb1 : Below w.heap.size w w1)
      clear hb1
      go_wp2
      go_ret
      exact ⟨ret_bool E.out, HB1.out⟩
    · obtain ⟨q, hQ⟩ : ∃ q, cnt M l M = q := ⟨_, rfl⟩
      have E := hid (show false = treeB M l by simp [treeB, hL, hn]; exact fun h => hq (hp.2 (by omega)))
      rw [hQ] at hq
      have e2 : ((q : Int) == 1) = false := by simp; omega
      have HQ := hid hQ
      clear hQ hq hL hp hn
      go_enter Try.func72, Try.ntmps72
      go_wp2_with fail
      refine (i_networkParts M _ _ _ l _ (H.out.below (by go_grown)) HG.out).mono ?_
      rintro e w1 ⟨a1, c1, rfl, hb1⟩
      rw [HQ.out]
      have HB1 := hid (bstep (by go_grown) hb1 : Below w.heap.size w w1)
      clear hb1
      go_wp2
      go_ret
      exact ⟨ret_bool E.out, HB1.out⟩
  · have e1 : ((n : Int) == (M : Int) - 1) = false := by simp [hn]
    have E := hid (show false = treeB M l by simp [treeB, hL, hn])
    clear hL hp hn
    go_enter Try.func72, Try.ntmps72
    go_wp2
    go_ret
    exact ⟨ret_bool E.out, by go_grown⟩
set_option maxHeartbeats 4000000 in
theorem s_l10Ring (M : Nat) (a : Option Addr) (n c : Nat) (l : List Pip) (w : World) (h : QAt w a n l) (hg : goodNet M l = true) :
    Calls Try.prog 31 #[.agg #[.int .i64 M, .slice a n c]] w fun e w' => e = .returned (.bool (ringB M l)) ∧ Below w.heap.size w w' := by
  have hM : M ≤ 8 := by have := (goodNet_get hg).1; omega
  have hM1 : 1 ≤ M := by have := (goodNet_get hg).1; omega
  have hw : IntKind.i64.wrap ((M : Int) - 1) = (M : Int) - 1 := IntWalk.i64_in _ (by omega)
  have hL := h.1
  have H := hid h
  have HG := hid hg
  clear h hg
  by_cases hq : (reachL M l 0 1).length = M
  · have HQ := hid hq
    by_cases hn : (n : Int) = (M : Int)
    · have e1 : ((n : Int) == (M : Int)) = true := by simp [hn]
      have E := hid (show true = ringB M l by simp [ringB, hL, hn, hq])
      clear hq hL hn
      go_enter Try.func31, Try.ntmps31
      go_upto_region 1 with fail
      have n0 : (w.alloc (.cells #[.int .i64 M, .slice a n c] 31)).cell? ⟨w.heap.size, 0, none⟩ = some (.int .i64 M) := by rw [cell_of_row _ _ _ _ _ (0, 0) (heap_alloc_new _ _)]; rfl
      have n1 : (w.alloc (.cells #[.int .i64 M, .slice a n c] 31)).cell? ⟨w.heap.size, 1, none⟩ = some (.slice a n c) := by rw [cell_of_row _ _ _ _ _ (0, 0) (heap_alloc_new _ _)]; rfl
      have HA := hid (H.out.below (by go_grown : Below w.heap.size w (w.alloc (.cells #[.int .i64 M, .slice a n c] 31))))
      have BA := hid (by go_grown : Below w.heap.size w (w.alloc (.cells #[.int .i64 M, .slice a n c] 31)))
      have hzA : w.heap.size < (w.alloc (.cells #[.int .i64 M, .slice a n c] 31)).heap.size := by simp
      generalize w.alloc (.cells #[.int .i64 M, .slice a n c] 31) = wA at *
      have q0 : ∀ wy w5 : World, Below wy.heap.size wy w5 → (wy.cell? ⟨w.heap.size, 0, none⟩ = some (.int .i64 M) ∧ wy.cell? ⟨w.heap.size, 1, none⟩ = some (.slice a n c)) → (w5.cell? ⟨w.heap.size, 0, none⟩ = some (.int .i64 M) ∧ w5.cell? ⟨w.heap.size, 1, none⟩ = some (.slice a n c)) :=
        fun wy w5 hb ⟨z1, z2⟩ => ⟨(hb.cell (World.block_lt_of_cell? wy _ z1)).trans z1, (hb.cell (World.block_lt_of_cell? wy _ z2)).trans z2⟩
      have Q0 := hid q0
      clear q0
      go_region_held3 (fun w' => (w'.cell? ⟨w.heap.size, 0, none⟩ = some (.int .i64 M) ∧ w'.cell? ⟨w.heap.size, 1, none⟩ = some (.slice a n c))) (first | go_keep | exact Q0.out _ _ (by assumption) (by first | assumption | (refine ⟨?_, ?_⟩ <;> assumption) | simp [*]))
        (first | (go_at_call 74; refine (s_l2Reached M 1 _ _ _ l _ (HA.out.below (by go_grown)) HG.out ⟨by omega, by omega⟩).mono ?_; rintro e w5 ⟨g5, c5, rfl, -, hb5⟩; rw [HQ.out]; obtain ⟨hc5, hf5⟩ := bcell hb5))
      all_goals
        have HB := hid (bstep BA.out (bstep (by go_grown) hb5 : Below wA.heap.size wA w5))
        clear hb5
        go_wp2
        go_ret
        exact ⟨ret_bool E.out, HB.out⟩
    · have e1 : ((n : Int) == (M : Int)) = false := by simp [hn]
      have E := hid (show false = ringB M l by simp [ringB, hL, hn])
      clear hq hL hn
      go_enter Try.func31, Try.ntmps31
      go_upto_region 1 with fail
      have n0 : (w.alloc (.cells #[.int .i64 M, .slice a n c] 31)).cell? ⟨w.heap.size, 0, none⟩ = some (.int .i64 M) := by rw [cell_of_row _ _ _ _ _ (0, 0) (heap_alloc_new _ _)]; rfl
      have n1 : (w.alloc (.cells #[.int .i64 M, .slice a n c] 31)).cell? ⟨w.heap.size, 1, none⟩ = some (.slice a n c) := by rw [cell_of_row _ _ _ _ _ (0, 0) (heap_alloc_new _ _)]; rfl
      have HA := hid (H.out.below (by go_grown : Below w.heap.size w (w.alloc (.cells #[.int .i64 M, .slice a n c] 31))))
      have BA := hid (by go_grown : Below w.heap.size w (w.alloc (.cells #[.int .i64 M, .slice a n c] 31)))
      have hzA : w.heap.size < (w.alloc (.cells #[.int .i64 M, .slice a n c] 31)).heap.size := by simp
      generalize w.alloc (.cells #[.int .i64 M, .slice a n c] 31) = wA at *
      have q0 : ∀ wy w5 : World, Below wy.heap.size wy w5 → (wy.cell? ⟨w.heap.size, 0, none⟩ = some (.int .i64 M) ∧ wy.cell? ⟨w.heap.size, 1, none⟩ = some (.slice a n c)) → (w5.cell? ⟨w.heap.size, 0, none⟩ = some (.int .i64 M) ∧ w5.cell? ⟨w.heap.size, 1, none⟩ = some (.slice a n c)) :=
        fun wy w5 hb ⟨z1, z2⟩ => ⟨(hb.cell (World.block_lt_of_cell? wy _ z1)).trans z1, (hb.cell (World.block_lt_of_cell? wy _ z2)).trans z2⟩
      have Q0 := hid q0
      clear q0
      go_region_held3 (fun w' => (w'.cell? ⟨w.heap.size, 0, none⟩ = some (.int .i64 M) ∧ w'.cell? ⟨w.heap.size, 1, none⟩ = some (.slice a n c))) (first | go_keep | exact Q0.out _ _ (by assumption) (by first | assumption | (refine ⟨?_, ?_⟩ <;> assumption) | simp [*]))
        (first | (go_at_call 74; refine (s_l2Reached M 1 _ _ _ l _ (HA.out.below (by go_grown)) HG.out ⟨by omega, by omega⟩).mono ?_; rintro e w5 ⟨g5, c5, rfl, -, hb5⟩; rw [HQ.out]; obtain ⟨hc5, hf5⟩ := bcell hb5))
      all_goals
        have HB := hid (bstep BA.out (bstep (by go_grown) hb5 : Below wA.heap.size wA w5))
        clear hb5
        go_wp2
        go_ret
        exact ⟨ret_bool E.out, HB.out⟩
  · obtain ⟨q, hQ⟩ : ∃ q, (reachL M l 0 1).length = q := ⟨_, rfl⟩
    have E := hid (show false = ringB M l by simp [ringB]; intro _; omega)
    rw [hQ] at hq
    have e2 : ((q : Int) == (M : Int)) = false := by simp; omega
    have HQ := hid hQ
    clear hq hL hQ
    go_enter Try.func31, Try.ntmps31
    go_upto_region 1 with fail
    have n0 : (w.alloc (.cells #[.int .i64 M, .slice a n c] 31)).cell? ⟨w.heap.size, 0, none⟩ = some (.int .i64 M) := by rw [cell_of_row _ _ _ _ _ (0, 0) (heap_alloc_new _ _)]; rfl
    have n1 : (w.alloc (.cells #[.int .i64 M, .slice a n c] 31)).cell? ⟨w.heap.size, 1, none⟩ = some (.slice a n c) := by rw [cell_of_row _ _ _ _ _ (0, 0) (heap_alloc_new _ _)]; rfl
    have HA := hid (H.out.below (by go_grown : Below w.heap.size w (w.alloc (.cells #[.int .i64 M, .slice a n c] 31))))
    have BA := hid (by go_grown : Below w.heap.size w (w.alloc (.cells #[.int .i64 M, .slice a n c] 31)))
    have hzA : w.heap.size < (w.alloc (.cells #[.int .i64 M, .slice a n c] 31)).heap.size := by simp
    generalize w.alloc (.cells #[.int .i64 M, .slice a n c] 31) = wA at *
    refine wp_region_noPanic ?_
    refine wp_region_held_drew (S := fun w' => (w'.cell? ⟨w.heap.size, 0, none⟩ = some (.int .i64 M) ∧ w'.cell? ⟨w.heap.size, 1, none⟩ = some (.slice a n c))) (by kernel_rfl) (by exact ⟨n0, n1⟩) (fun hHeld => ?_)
    refine wpAnyH_take' (i := 0) (v := ?_) rfl (by kernel_rfl) (by kernel_rfl) (by kernel_rfl) (fun _ _ _ h => h) (Or.inl ⟨by rfl, ?_⟩) (by assumption) ?_
    rotate_left
    · (intro w' hSw; (try dsimp only at hSw); go_simp; all_goals with_reducible rfl)
    try simp only [Act.put, List.setIfInBounds_toArray, List.set_cons_zero, List.set_cons_succ]
    refine wpAnyH_take' (i := 3) (v := ?_) rfl (by kernel_rfl) (by kernel_rfl) (by kernel_rfl) (fun _ _ _ h => h) (Or.inl ⟨by rfl, ?_⟩) (by assumption) ?_
    rotate_left
    · (intro w' hSw; (try dsimp only at hSw); go_simp; all_goals with_reducible rfl)
    try simp only [Act.put, List.setIfInBounds_toArray, List.set_cons_zero, List.set_cons_succ]
    refine wpAnyH_take' (i := 4) (v := ?_) rfl (by kernel_rfl) (by kernel_rfl) (by kernel_rfl) (fun _ _ _ h => h) (Or.inl ⟨by rfl, ?_⟩) (by assumption) ?_
    rotate_left
    · (intro w' hSw; (try dsimp only at hSw); go_simp; all_goals with_reducible rfl)
    try simp only [Act.put, List.setIfInBounds_toArray, List.set_cons_zero, List.set_cons_succ]
    refine wpAnyH_ready (rs := [1]) (by kernel_rfl) (by simp) ?_
    refine allReadyH_cons' rfl (fun K hK => ?_) AllReadyH.nil
    go_simp
    go_at_call 74
    refine (s_l2Reached M 1 _ _ _ l _ (HA.out.below (by go_grown)) HG.out ⟨by omega, by omega⟩).mono ?_
    rintro e w5 ⟨g5, c5, rfl, -, hb5⟩
    rw [HQ.out]
    refine hK.out _ _ ⟨(hb5.cell (p := ⟨w.heap.size, 0, none⟩) hzA).trans n0, (hb5.cell (p := ⟨w.heap.size, 1, none⟩) hzA).trans n1⟩ (fun hHeld5 => ?_)
    clear hK K
    try simp only [Act.put, List.setIfInBounds_toArray, List.set_cons_zero, List.set_cons_succ]
    refine wpAnyH_take' (i := 2) (v := ?_) rfl (by kernel_rfl) (by kernel_rfl) (by kernel_rfl) (fun _ _ _ h => h) (Or.inl ⟨by rfl, ?_⟩) (by assumption) ?_
    rotate_left
    · (intro w' hSw; (try dsimp only at hSw); go_simp; all_goals with_reducible rfl)
    try simp only [Act.put, List.setIfInBounds_toArray, List.set_cons_zero, List.set_cons_succ]
    refine wpAnyH_take' (i := 5) (v := ?_) rfl (by kernel_rfl) (by kernel_rfl) (by kernel_rfl) (fun _ _ _ h => h) (Or.inl ⟨by rfl, ?_⟩) (by assumption) ?_
    rotate_left
    · (intro w' hSw; (try dsimp only at hSw); go_simp; all_goals with_reducible rfl)
    try simp only [Act.put, List.setIfInBounds_toArray, List.set_cons_zero, List.set_cons_succ]
    refine wpAnyH_take' (i := 6) (v := ?_) rfl (by kernel_rfl) (by kernel_rfl) (by kernel_rfl) (fun _ _ _ h => h) (Or.inl ⟨by rfl, ?_⟩) (by assumption) ?_
    rotate_left
    · (intro w' hSw; (try dsimp only at hSw); go_simp; all_goals with_reducible rfl)
    try simp only [Act.put, List.setIfInBounds_toArray, List.set_cons_zero, List.set_cons_succ]
    refine wpAnyH_take' (i := 7) (v := undef) rfl (by kernel_rfl) (by kernel_rfl) (by kernel_rfl) (fun _ _ _ h => h) (Or.inr ⟨by rfl, rfl⟩) (by assumption) ?_
    try simp only [Act.put, List.setIfInBounds_toArray, List.set_cons_zero, List.set_cons_succ]
    refine wpAnyH_take' (i := 8) (v := undef) rfl (by kernel_rfl) (by kernel_rfl) (by kernel_rfl) (fun _ _ _ h => h) (Or.inr ⟨by rfl, rfl⟩) (by assumption) ?_
    try simp only [Act.put, List.setIfInBounds_toArray, List.set_cons_zero, List.set_cons_succ]
    refine wpAnyH_take' (i := 9) (v := undef) rfl (by kernel_rfl) (by kernel_rfl) (by kernel_rfl) (fun _ _ _ h => h) (Or.inr ⟨by rfl, rfl⟩) (by assumption) ?_
    try simp only [Act.put, List.setIfInBounds_toArray, List.set_cons_zero, List.set_cons_succ]
    refine wpAnyH_take' (i := 10) (v := undef) rfl (by kernel_rfl) (by kernel_rfl) (by kernel_rfl) (fun _ _ _ h => h) (Or.inr ⟨by rfl, rfl⟩) (by assumption) ?_
    try simp only [Act.put, List.setIfInBounds_toArray, List.set_cons_zero, List.set_cons_succ]
    refine wpAnyH_take' (i := 11) (v := undef) rfl (by kernel_rfl) (by kernel_rfl) (by kernel_rfl) (fun _ _ _ h => h) (Or.inr ⟨by rfl, rfl⟩) (by assumption) ?_
    try simp only [Act.put, List.setIfInBounds_toArray, List.set_cons_zero, List.set_cons_succ]
    refine wpAnyH_take' (i := 12) (v := undef) rfl (by kernel_rfl) (by kernel_rfl) (by kernel_rfl) (fun _ _ _ h => h) (Or.inr ⟨by rfl, rfl⟩) (by assumption) ?_
    try simp only [Act.put, List.setIfInBounds_toArray, List.set_cons_zero, List.set_cons_succ]
    refine wpAnyH_take' (i := 13) (v := ?_) rfl (by kernel_rfl) (by kernel_rfl) (by kernel_rfl) (fun _ _ _ h => h) (Or.inl ⟨by rfl, ?_⟩) (by assumption) ?_
    rotate_left
    · (intro w' hSw; (try dsimp only at hSw); go_simp; all_goals with_reducible rfl)
    try simp only [Act.put, List.setIfInBounds_toArray, List.set_cons_zero, List.set_cons_succ]
    refine wpAnyH_take' (i := 14) (v := ?_) rfl (by kernel_rfl) (by kernel_rfl) (by kernel_rfl) (fun _ _ _ h => h) (Or.inl ⟨by rfl, ?_⟩) (by assumption) ?_
    rotate_left
    · (intro w' hSw; (try dsimp only at hSw); go_simp; all_goals with_reducible rfl)
    try simp only [Act.put, List.setIfInBounds_toArray, List.set_cons_zero, List.set_cons_succ]
    refine wpAnyH_done (by kernel_rfl) ?_ _
    refine NoPanic.normal ?_
    have HB := hid (bstep BA.out (bstep (by go_grown) hb5 : Below wA.heap.size wA w5))
    clear hb5
    go_wp2
    go_ret
    exact ⟨ret_bool E.out, HB.out⟩

/-- What IsRing, IsTreeNetwork return. -/
noncomputable def ringR (N : Int) (l : List Pip) : Bool × Bool := if goodNet N l = true then (ringB N l, true) else (false, false)
noncomputable def treeR (N : Int) (l : List Pip) : Bool × Bool := if goodNet N l = true then (treeB N l, true) else (false, false)
theorem i_IsRing (N : Int) (a : Option Addr) (n c : Nat) (l : List Pip) (w : World) (h : QAt w a n l) (hn : n ≤ 1048576) (x y : Bool) (hR : ringR N l = (x, y)) :
    Calls Try.prog 25 #[.agg #[.int .i64 N, .slice a n c]] w fun e w' => e = .returned (.tuple #[.bool x, .bool y]) ∧ Below w.heap.size w w' := by
  have H := hid h
  clear h
  cases h1 : goodNet N l
  · have HG := hid h1
    have e0 : ringR N l = (false, false) := by simp [ringR, h1]
    rw [e0] at hR
    cases hR
    clear h1 e0
    go_enter Try.func25, Try.ntmps25
    go_wp2_with fail
    refine (i_IsValidNetwork N _ _ _ l _ (H.out.below (by go_grown)) (by omega)).mono ?_
    rintro e w1 ⟨rfl, hb1⟩
    rw [HG.out]
    obtain ⟨hc_w1, hf_w1⟩ := bcell hb1
    have hz_w1_0 : w.heap.size < w1.heap.size := by have := hb1.size; simp only [World.size_alloc] at this; omega
    have HB1 := hid (bstep (by go_grown) hb1 : Below w.heap.size w w1)
    go_wp2
    go_ret2
    exact ⟨rfl, HB1.out⟩
  · have hN := (goodNet_get h1).1
    obtain ⟨M, rfl⟩ : ∃ M : Nat, N = M := ⟨N.toNat, by omega⟩
    have HG := hid h1
    have e0 : ringR M l = (ringB M l, true) := by simp [ringR, h1]
    rw [e0] at hR
    cases hR
    clear h1 e0 hN
    obtain ⟨z, hz⟩ : ∃ z, ringB M l = z := ⟨_, rfl⟩
    rw [hz]
    have HZ := hid hz
    clear hz
    go_enter Try.func25, Try.ntmps25
    go_wp2_with fail
    refine (i_IsValidNetwork M _ _ _ l _ (H.out.below (by go_grown)) (by omega)).mono ?_
    rintro e w1 ⟨rfl, hb1⟩
    rw [HG.out]
    obtain ⟨hc_w1, hf_w1⟩ := bcell hb1
    have hz_w1_0 : w.heap.size < w1.heap.size := by have := hb1.size; simp only [World.size_alloc] at this; omega
    have HB1 := hid (bstep (by go_grown) hb1 : Below w.heap.size w w1)
    go_wp2_with fail
    refine (i_isRing M _ _ _ l _ (H.out.below HB1.out) HG.out).mono ?_
    rintro e w2 ⟨rfl, hb2⟩
    rw [HZ.out]
    go_wp2
    go_ret2
    exact ⟨rfl, bstep HB1.out hb2⟩
theorem i_IsTreeNetwork (N : Int) (a : Option Addr) (n c : Nat) (l : List Pip) (w : World) (h : QAt w a n l) (hn : n ≤ 1048576) (x y : Bool) (hR : treeR N l = (x, y)) :
    Calls Try.prog 27 #[.agg #[.int .i64 N, .slice a n c]] w fun e w' => e = .returned (.tuple #[.bool x, .bool y]) ∧ Below w.heap.size w w' := by
  have H := hid h
  clear h
  cases h1 : goodNet N l
  · have HG := hid h1
    have e0 : treeR N l = (false, false) := by simp [treeR, h1]
    rw [e0] at hR
    cases hR
    clear h1 e0
    go_enter Try.func27, Try.ntmps27
    go_wp2_with fail
    refine (i_IsValidNetwork N _ _ _ l _ (H.out.below (by go_grown)) (by omega)).mono ?_
    rintro e w1 ⟨rfl, hb1⟩
    rw [HG.out]
    obtain ⟨hc_w1, hf_w1⟩ := bcell hb1
    have hz_w1_0 : w.heap.size < w1.heap.size := by have := hb1.size; simp only [World.size_alloc] at this; omega
    have HB1 := hid (bstep (by go_grown) hb1 : Below w.heap.size w w1)
    go_wp2
    go_ret2
    exact ⟨rfl, HB1.out⟩
  · have hN := (goodNet_get h1).1
    obtain ⟨M, rfl⟩ : ∃ M : Nat, N = M := ⟨N.toNat, by omega⟩
    have HG := hid h1
    have e0 : treeR M l = (treeB M l, true) := by simp [treeR, h1]
    rw [e0] at hR
    cases hR
    clear h1 e0 hN
    obtain ⟨z, hz⟩ : ∃ z, treeB M l = z := ⟨_, rfl⟩
    rw [hz]
    have HZ := hid hz
    clear hz
    go_enter Try.func27, Try.ntmps27
    go_wp2_with fail
    refine (i_IsValidNetwork M _ _ _ l _ (H.out.below (by go_grown)) (by omega)).mono ?_
    rintro e w1 ⟨rfl, hb1⟩
    rw [HG.out]
    obtain ⟨hc_w1, hf_w1⟩ := bcell hb1
    have hz_w1_0 : w.heap.size < w1.heap.size := by have := hb1.size; simp only [World.size_alloc] at this; omega
    have HB1 := hid (bstep (by go_grown) hb1 : Below w.heap.size w w1)
    go_wp2_with fail
    refine (i_isTree M _ _ _ l _ (H.out.below HB1.out) HG.out).mono ?_
    rintro e w2 ⟨rfl, hb2⟩
    rw [HZ.out]
    go_wp2
    go_ret2
    exact ⟨rfl, bstep HB1.out hb2⟩

end Go.Proofs.Ytikjighlnpdgiaa

/-
  A region in any order whose last operation stores what the others have read: LastH, over what trees know.
-/

